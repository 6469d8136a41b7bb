/-
  Texts of this proof, one behind the other.
-/
import Derived.Test.YtglnelcmcimljaaYF5
/-
  Plain laws of the tables by which the program and the reference search for the greatest simulation.
-/
namespace Go.Proofs.Ytglnelcmcimljaa
open Go
set_option linter.all false
set_option linter.unusedVariables false
set_option linter.unusedSimpArgs false
set_option linter.defProp false
set_option maxRecDepth 1000000

/-- an edge from i to j that takes the letter l -/
def EdgeB (es : List Tr) (i l j : Nat) : Prop := ∃ e ∈ es, e.frm = i ∧ e.to = j ∧ e.on l = true
theorem ans_iff {a : Aut} (ha : a.Ok) {R : Rl} {i j : Nat} : Ans a R i j ↔ ∀ l < 8, ∀ t < a.acc.length, EdgeB a.edges i l t → ∃ k < a.acc.length, EdgeB a.edges j l k ∧ R t k = true := by
  constructor
  · rintro h l hl t ht ⟨e, he, h1, h2, h3⟩
    obtain ⟨f, hf, g1, g2, g3⟩ := h l hl e he h1 h3
    have hq := ha.2.2.2 f hf
    unfold Tr.Ok at hq
    refine ⟨f.to.toNat, by omega, ⟨f, hf, g1, by omega, g2⟩, ?_⟩
    rw [h2] at g3; simpa using g3
  · rintro h l hl e he h1 h3
    have hq := ha.2.2.2 e he
    unfold Tr.Ok at hq
    obtain ⟨k, hk, ⟨f, hf, g1, g2, g3⟩, g4⟩ := h l hl e.to.toNat (by omega) ⟨e, he, h1, by omega, h3⟩
    refine ⟨f, hf, g1, g3, ?_⟩
    rw [g2]; simpa using g4

/- bits -/
def bitR (B : List (BitVec 64)) : Rl := fun i j => (B.getD i 0).getLsbD j
theorem bitR_clr {B : List (BitVec 64)} {i j : Nat} (hi : i < B.length) (hj : j < 64) : bitR (B.set i (clrB B[i] j)) = (bitR B).rem i j := by
  funext x y
  simp only [bitR, Rl.rem, List.getD_eq_getElem?_getD, List.getElem?_set]
  by_cases hx : i = x
  · subst hx
    simp [hi, clrB_get hj]
  · have : ¬ x = i := fun h => hx h.symm
    simp [hx, this]
theorem bitR_set {B : List (BitVec 64)} {i j x y : Nat} (hi : i < B.length) (hj : j < 64) : bitR (B.set i (setB B[i] j)) x y = (bitR B x y || (decide (x = i) && decide (y = j))) := by
  simp only [bitR, List.getD_eq_getElem?_getD, List.getElem?_set]
  by_cases hx : i = x
  · subst hx
    simp [hi, setB_get hj]
  · have : ¬ x = i := fun h => hx h.symm
    simp [hx, this]
theorem bitR_get {B : List (BitVec 64)} {i j : Nat} (hi : i < B.length) : bitR B i j = B[i].getLsbD j := by
  simp [bitR, hi]

/-- rows of truth values -/
def matR (M : List (List Bool)) : Rl := fun i j => (M.getD i []).getD j false
theorem matR_get {M : List (List Bool)} {i j : Nat} (hi : i < M.length) (hj : j < M[i].length) : matR M i j = M[i][j] := by
  simp [matR, hi, hj]
theorem matR_clr {M : List (List Bool)} {i j : Nat} (hi : i < M.length) (hj : j < M[i].length) : matR (M.set i (M[i].set j false)) = (matR M).rem i j := by
  funext x y
  simp only [matR, Rl.rem, List.getD_eq_getElem?_getD, List.getElem?_set]
  by_cases hx : i = x
  · subst hx
    by_cases hy : j = y
    · subst hy; simp [hi, hj]
    · have : ¬ y = j := fun h => hy h.symm
      simp [hi, hy, this]
  · have : ¬ x = i := fun h => hx h.symm
    simp [hx, this]

/-- the table of edges, by letters -/
def Tab (es : List Tr) (n : Nat) (T : List W8) : Prop := T.length = n ∧ ∀ i l k, i < n → l < 8 → k < 64 → (((T.getD i W8.zero).at l).getLsbD k = true ↔ EdgeB es i l k)
/-- the same, while an edge is being entered -/
def Tab2 (es : List Tr) (e : Tr) (m : Nat) (n : Nat) (T : List W8) : Prop := T.length = n ∧ ∀ i l k, i < n → l < 8 → k < 64 → (((T.getD i W8.zero).at l).getLsbD k = true ↔ EdgeB es i l k ∨ (l < m ∧ e.frm = i ∧ e.to = k ∧ e.on l = true))
theorem Tab.zero (n : Nat) : Tab [] n (List.replicate n W8.zero) := by
  refine ⟨by simp, fun i l k hi hl hk => ?_⟩
  have h1 : (List.replicate n W8.zero).getD i W8.zero = W8.zero := by
    rw [List.getD_eq_getElem?_getD, List.getElem?_replicate]; split <;> rfl
  rw [h1]
  have h2 : W8.zero.at l = 0 := by
    simp only [W8.at, W8.zero, List.getD_eq_getElem?_getD, List.getElem?_replicate]; split <;> rfl
  rw [h2]
  simp [EdgeB]
theorem Tab.start {es : List Tr} {n : Nat} {T : List W8} (h : Tab es n T) (e : Tr) : Tab2 es e 0 n T :=
  ⟨h.1, fun i l k hi hl hk => by rw [h.2 i l k hi hl hk]; simp⟩
theorem Tab2.skip {es : List Tr} {n m : Nat} {T : List W8} {e : Tr} (h : Tab2 es e m n T) (ho : e.on m = false) : Tab2 es e (m + 1) n T := by
  refine ⟨h.1, fun i l k hi hl hk => ?_⟩
  rw [h.2 i l k hi hl hk]
  by_cases hm : l = m
  · subst hm; simp [ho]
  · have : l < m ↔ l < m + 1 := by omega
    rw [this]
theorem Tab2.put {es : List Tr} {n m : Nat} {T : List W8} {e : Tr} (h : Tab2 es e m n T) (ho : e.on m = true) (hm : m < 8) {f t : Nat} (hf : e.frm = f) (ht : e.to = t) (hfn : f < n) (htn : t < 64) :
    Tab2 es e (m + 1) n (T.set f ((T[f]'(h.1 ▸ hfn)).put m (setB ((T[f]'(h.1 ▸ hfn)).at m) t))) := by
  have hfl : f < T.length := h.1 ▸ hfn
  refine ⟨by simpa using h.1, fun i l k hi hl hk => ?_⟩
  have h1 := h.2 i l k hi hl hk
  rw [List.getD_eq_getElem?_getD, List.getElem?_set]
  rw [List.getD_eq_getElem?_getD] at h1
  by_cases hfi : f = i
  · subst hfi
    simp only [hfl, List.getElem?_eq_getElem, Option.getD_some, if_true] at h1 ⊢
    rw [W8.put_at _ hm]
    by_cases hlm : l = m
    · subst hlm
      rw [if_pos rfl, setB_get htn]
      simp only [Bool.or_eq_true, h1, decide_eq_true_eq]
      have : l < l + 1 := by omega
      constructor
      · rintro ((h2 | h2) | h2)
        · exact .inl h2
        · omega
        · exact .inr ⟨this, hf, by rw [ht, h2], ho⟩
      · rintro (h2 | ⟨_, _, h2, _⟩)
        · exact .inl (.inl h2)
        · exact .inr (by rw [ht] at h2; omega)
    · rw [if_neg hlm, h1]
      have : l < m ↔ l < m + 1 := by omega
      rw [this]
  · rw [if_neg hfi, h1]
    constructor
    · rintro (h2 | ⟨h3, h4, h5⟩)
      · exact .inl h2
      · exact .inr ⟨by omega, h4, h5⟩
    · rintro (h2 | ⟨h3, h4, h5⟩)
      · exact .inl h2
      · rw [hf] at h4; omega
theorem Tab2.done {es : List Tr} {n : Nat} {T : List W8} {k : Nat} (hk : k < es.length) (h : Tab2 (es.take k) es[k] 8 n T) : Tab (es.take (k + 1)) n T := by
  refine ⟨h.1, fun i l j hi hl hj => ?_⟩
  rw [h.2 i l j hi hl hj, List.take_add_one, List.getElem?_eq_getElem hk]
  simp only [EdgeB, List.mem_append, Option.toList_some, List.mem_singleton]
  constructor
  · rintro (⟨e, h1, h2⟩ | ⟨_, h2⟩)
    · exact ⟨e, .inl h1, h2⟩
    · exact ⟨_, .inr rfl, h2⟩
  · rintro ⟨e, h1 | rfl, h2⟩
    · exact .inl ⟨e, h1, h2⟩
    · exact .inr ⟨hl, h2⟩
end Go.Proofs.Ytglnelcmcimljaa

/-
  Plain laws: states that are the same get one number; what is left of an automaton then.
-/
namespace Go.Proofs.Ytglnelcmcimljaa
open Go
set_option linter.all false
set_option linter.unusedVariables false
set_option linter.unusedSimpArgs false
set_option linter.defProp false
set_option maxRecDepth 1000000

theorem map_take_succ {α β : Type} {f : α → β} {l : List α} {i : Nat} (hi : i < l.length) : (l.take (i + 1)).map f = (l.take i).map f ++ [f l[i]] := by
  rw [List.take_add_one, List.getElem?_eq_getElem hi, List.map_append]; rfl
/-- numbers of the first so many states, in the order of the first ones: a state that is the same as an earlier one has that one's number -/
def grpS (e : Nat → Nat → Bool) : Nat → List Nat × Nat
  | 0 => ([], 0)
  | i + 1 => match (List.range i).find? (fun k => e i k) with
    | some k => ((grpS e i).1 ++ [(grpS e i).1.getD k 0], (grpS e i).2)
    | none => ((grpS e i).1 ++ [(grpS e i).2], (grpS e i).2 + 1)
theorem grpS_old {e : Nat → Nat → Bool} {i k : Nat} (h : (List.range i).find? (fun k => e i k) = some k) : grpS e (i + 1) = ((grpS e i).1 ++ [(grpS e i).1.getD k 0], (grpS e i).2) := by simp [grpS, h]
theorem grpS_new {e : Nat → Nat → Bool} {i : Nat} (h : (List.range i).find? (fun k => e i k) = none) : grpS e (i + 1) = ((grpS e i).1 ++ [(grpS e i).2], (grpS e i).2 + 1) := by simp [grpS, h]
theorem find_range {p : Nat → Bool} {i k : Nat} (hk : k < i) (hp : p k = true) (hn : ∀ j, j < k → p j = false) : (List.range i).find? p = some k := by
  rw [List.find?_eq_some_iff_getElem]
  refine ⟨hp, k, by simpa using hk, by simp, fun j hj => ?_⟩
  simp [hn j hj]
theorem find_none {p : Nat → Bool} {i : Nat} (hn : ∀ j, j < i → p j = false) : (List.range i).find? p = none := by
  rw [List.find?_eq_none]
  intro x hx
  simp [hn x (by simpa using hx)]
theorem find_lt {p : Nat → Bool} {i k : Nat} (h : (List.range i).find? p = some k) : k < i := by
  have := List.mem_of_find?_eq_some h
  simpa using this
theorem grpS_len {e : Nat → Nat → Bool} : ∀ i, (grpS e i).1.length = i
  | 0 => rfl
  | i + 1 => by
    cases h : (List.range i).find? (fun k => e i k) with
    | some k => rw [grpS_old h]; simp [grpS_len i]
    | none => rw [grpS_new h]; simp [grpS_len i]
theorem grpS_le {e : Nat → Nat → Bool} : ∀ i, (grpS e i).2 ≤ i
  | 0 => Nat.le_refl _
  | i + 1 => by
    have := grpS_le (e := e) i
    cases h : (List.range i).find? (fun k => e i k) with
    | some k => rw [grpS_old h]; exact Nat.le_succ_of_le this
    | none => rw [grpS_new h]; exact Nat.succ_le_succ this
theorem grpS_pos {e : Nat → Nat → Bool} : ∀ i, 1 ≤ i → 1 ≤ (grpS e i).2
  | 0, h => by omega
  | i + 1, _ => by
    cases h : (List.range i).find? (fun k => e i k) with
    | some k =>
      rw [grpS_old h]
      exact grpS_pos i (by have := find_lt h; omega)
    | none => rw [grpS_new h]; exact Nat.succ_le_succ (Nat.zero_le _)
theorem grpS_lt {e : Nat → Nat → Bool} : ∀ i, ∀ x ∈ (grpS e i).1, x < (grpS e i).2
  | 0, x, hx => by simp [grpS] at hx
  | i + 1, x, hx => by
    cases h : (List.range i).find? (fun k => e i k) with
    | some k =>
      have hk := find_lt h
      rw [grpS_old h] at hx ⊢
      rcases List.mem_append.1 hx with hx | hx
      · exact grpS_lt i x hx
      · obtain rfl : x = (grpS e i).1.getD k 0 := by simpa using hx
        have hl := grpS_len (e := e) i
        rw [List.getD_eq_getElem?_getD, List.getElem?_eq_getElem (by omega)]
        exact grpS_lt i _ (List.getElem_mem (by omega))
    | none =>
      rw [grpS_new h] at hx ⊢
      rcases List.mem_append.1 hx with hx | hx
      · have := grpS_lt i x hx
        show x < (grpS e i).2 + 1
        omega
      · obtain rfl : x = (grpS e i).2 := by simpa using hx
        exact Nat.lt_succ_self _
theorem grpS_get {e : Nat → Nat → Bool} {n : Nat} : ∀ {i q : Nat}, q < i → i ≤ n → (grpS e n).1.getD q 0 = (grpS e i).1.getD q 0 := by
  have key : ∀ m i q, q < i → (grpS e (i + m)).1.getD q 0 = (grpS e i).1.getD q 0 := by
    intro m
    induction m with
    | zero => intros; rfl
    | succ m ih =>
      intro i q hq
      have hl := grpS_len (e := e) (i + m)
      rw [← ih i q hq, show i + (m + 1) = (i + m) + 1 by omega]
      cases h : (List.range (i + m)).find? (fun k => e (i + m) k) with
      | some k =>
        rw [grpS_old h]
        simp only [List.getD_eq_getElem?_getD]
        rw [List.getElem?_append_left (by omega)]
      | none =>
        rw [grpS_new h]
        simp only [List.getD_eq_getElem?_getD]
        rw [List.getElem?_append_left (by omega)]
  intro i q hq hi
  have := key (n - i) i q hq
  rwa [show i + (n - i) = n by omega] at this
theorem grpS_congr {e e' : Nat → Nat → Bool} : ∀ {i : Nat}, (∀ x y, x < i → y < x → e x y = e' x y) → grpS e i = grpS e' i
  | 0, _ => rfl
  | i + 1, h => by
    have ih := grpS_congr (e := e) (e' := e') (i := i) fun x y hx hy => h x y (by omega) hy
    have hf : (List.range i).find? (fun k => e i k) = (List.range i).find? (fun k => e' i k) := by
      have hall : ∀ l : List Nat, (∀ k ∈ l, k < i) → l.find? (fun k => e i k) = l.find? (fun k => e' i k) := by
        intro l
        induction l with
        | nil => intro _; rfl
        | cons x l ihl =>
          intro hl
          rw [List.find?_cons, List.find?_cons, h i x (by omega) (hl x (by simp)), ihl fun k hk => hl k (by simp [hk])]
      exact hall _ fun k hk => by simpa using hk
    cases hc : (List.range i).find? (fun k => e i k) with
    | some k => rw [grpS_old hc, grpS_old (hf ▸ hc), ih]
    | none => rw [grpS_new hc, grpS_new (hf ▸ hc), ih]

/-- the accepting marks of the first ones -/
def accG (a : Aut) (e : Nat → Nat → Bool) : Nat → List Bool
  | 0 => []
  | i + 1 => match (List.range i).find? (fun k => e i k) with
    | some _ => accG a e i
    | none => accG a e i ++ [a.acc.getD i false]
theorem accG_len {a : Aut} {e : Nat → Nat → Bool} : ∀ i, (accG a e i).length = (grpS e i).2
  | 0 => rfl
  | i + 1 => by
    cases h : (List.range i).find? (fun k => e i k) with
    | some k => rw [grpS_old h]; simp [accG, h, accG_len i]
    | none => rw [grpS_new h]; simp [accG, h, accG_len i]
theorem accG_congr {a : Aut} {e e' : Nat → Nat → Bool} : ∀ {i : Nat}, (∀ x y, x < i → y < x → e x y = e' x y) → accG a e i = accG a e' i
  | 0, _ => rfl
  | i + 1, h => by
    have ih := accG_congr (a := a) (e := e) (e' := e') (i := i) fun x y hx hy => h x y (by omega) hy
    have hf : (List.range i).find? (fun k => e i k) = (List.range i).find? (fun k => e' i k) := by
      have hall : ∀ l : List Nat, (∀ k ∈ l, k < i) → l.find? (fun k => e i k) = l.find? (fun k => e' i k) := by
        intro l
        induction l with
        | nil => intro _; rfl
        | cons x l ihl =>
          intro hl
          rw [List.find?_cons, List.find?_cons, h i x (by omega) (hl x (by simp)), ihl fun k hk => hl k (by simp [hk])]
      exact hall _ fun k hk => by simpa using hk
    simp only [accG, hf, ih]

/-- each kept once, at its first place -/
def ded (l : List Tr) : List Tr := l.foldl (fun o f => if f ∈ o then o else o ++ [f]) []
theorem ded_succ {l : List Tr} {i : Nat} (hi : i < l.length) : ded (l.take (i + 1)) = if l[i] ∈ ded (l.take i) then ded (l.take i) else ded (l.take i) ++ [l[i]] := by
  unfold ded
  rw [foldl_take hi]
theorem ded_mem {l : List Tr} {x : Tr} : x ∈ ded l ↔ x ∈ l := by
  have key : ∀ (l o : List Tr), x ∈ l.foldl (fun o f => if f ∈ o then o else o ++ [f]) o ↔ x ∈ o ∨ x ∈ l := by
    intro l
    induction l with
    | nil => simp
    | cons y l ih =>
      intro o
      rw [List.foldl_cons, ih]
      by_cases h : y ∈ o
      · rw [if_pos h]
        constructor
        · rintro (h1 | h1)
          · exact .inl h1
          · exact .inr (by simp [h1])
        · rintro (h1 | h1)
          · exact .inl h1
          · rcases List.mem_cons.1 h1 with rfl | h1
            · exact .inl h
            · exact .inr h1
      · rw [if_neg h]
        simp [or_assoc]
  have := key l []
  simpa [ded] using this
theorem ded_len {l : List Tr} : (ded l).length ≤ l.length := by
  have key : ∀ (l o : List Tr), (l.foldl (fun o f => if f ∈ o then o else o ++ [f]) o).length ≤ o.length + l.length := by
    intro l
    induction l with
    | nil => simp
    | cons y l ih =>
      intro o
      rw [List.foldl_cons]
      refine Nat.le_trans (ih _) ?_
      split <;> simp <;> omega
  have := key l []
  simpa [ded] using this

def gnm (e : Nat → Nat → Bool) (n : Nat) (x : Int) : Int := ((grpS e n).1.getD x.toNat 0 : Nat)
theorem gnm_lt {e : Nat → Nat → Bool} {n : Nat} {x : Int} (h0 : 0 ≤ x) (h1 : x < n) : 0 ≤ gnm e n x ∧ gnm e n x < (grpS e n).2 := by
  have hl := grpS_len (e := e) n
  have hx : x.toNat < (grpS e n).1.length := by omega
  have := grpS_lt (e := e) n _ (List.getElem_mem hx)
  unfold gnm
  rw [List.getD_eq_getElem?_getD, List.getElem?_eq_getElem hx]
  simp only [Option.getD_some]
  omega
/-- states that are the same become one -/
def Aut.mergeE (a : Aut) (e : Nat → Nat → Bool) : Aut :=
  ⟨memL (fun b => a.init.any fun q => decide (gnm e a.acc.length q = (b : Int))) (grpS e a.acc.length).2, accG a e a.acc.length, ded (a.edges.map (Tr.ren (gnm e a.acc.length)))⟩
theorem Aut.mergeE_ok {a : Aut} (ha : a.Ok) (e : Nat → Nat → Bool) : (a.mergeE e).Ok := by
  have hn := ha.n
  have h1 := grpS_le (e := e) a.acc.length
  have h2 := grpS_pos (e := e) a.acc.length hn.1
  have h3 := accG_len (a := a) (e := e) a.acc.length
  have h4 := ded_len (l := a.edges.map (Tr.ren (gnm e a.acc.length)))
  simp only [List.length_map] at h4
  have h5 := ha.e
  refine ⟨⟨by show 1 ≤ (accG a e a.acc.length).length; omega, by show (accG a e a.acc.length).length ≤ 64; omega⟩, Nat.le_trans h4 h5, ?_, ?_⟩
  · show incr ((accG a e a.acc.length).length : Nat) (-1) _
    rw [h3]
    exact memL_incr (Nat.le_refl _)
  · intro t ht
    show t.Ok ((accG a e a.acc.length).length : Nat)
    rw [h3]
    have ht : t ∈ ded (a.edges.map (Tr.ren (gnm e a.acc.length))) := ht
    rw [ded_mem] at ht
    obtain ⟨x, hx, rfl⟩ := List.mem_map.1 ht
    have hx2 := ha.2.2.2 x hx
    unfold Tr.Ok at hx2 ⊢
    have g1 := gnm_lt (e := e) hx2.1 hx2.2.1
    have g2 := gnm_lt (e := e) hx2.2.2.1 hx2.2.2.2.1
    simp only [Tr.ren]
    exact ⟨g1.1, g1.2, g2.1, g2.2, hx2.2.2.2.2⟩
theorem Aut.mergeE_congr {a : Aut} {e e' : Nat → Nat → Bool} (h : ∀ x y, x < a.acc.length → y < x → e x y = e' x y) : a.mergeE e = a.mergeE e' := by
  have h1 := grpS_congr h
  have h2 := accG_congr (a := a) h
  have h3 : gnm e a.acc.length = gnm e' a.acc.length := by funext x; simp only [gnm, h1]
  simp only [Aut.mergeE, h1, h2, h3]
/-- each simulates the other -/
def eqv (R : Rl) : Nat → Nat → Bool := fun i k => R i k && R k i
/-- merged: with regard to the greatest simulation -/
noncomputable def Aut.mrg (a : Aut) : Aut := a.mergeE (eqv (@Classical.epsilon Rl ⟨fun _ _ => true⟩ (Great a)))
theorem Aut.mrg_eq {a : Aut} {R : Rl} (h : Great a R) : a.mergeE (eqv R) = a.mrg := by
  have h2 : Great a (@Classical.epsilon Rl ⟨fun _ _ => true⟩ (Great a)) := Classical.epsilon_spec_aux ⟨fun _ _ => true⟩ (Great a) ⟨R, h⟩
  refine Aut.mergeE_congr fun x y hx hy => ?_
  simp only [eqv]
  rw [h.eq h2 hx (by omega), h.eq h2 (i := y) (j := x) (by omega) hx]
theorem Aut.mrg_ok {a : Aut} (ha : a.Ok) : a.mrg.Ok := Aut.mergeE_ok ha _
end Go.Proofs.Ytglnelcmcimljaa

/-
  Plain laws: trimming and merging, again and again, come to an end.
-/
namespace Go.Proofs.Ytglnelcmcimljaa
open Go
set_option linter.all false
set_option linter.unusedVariables false
set_option linter.unusedSimpArgs false
set_option linter.defProp false
set_option maxRecDepth 1000000

theorem kidx_all {K : Nat → Bool} : ∀ {n : Nat}, kidx K n = n → ∀ q, q < n → K q = true ∧ kidx K q = q
  | 0, _, q, hq => absurd hq (Nat.not_lt_zero q)
  | n + 1, h, q, hq => by
    rw [kidx_succ] at h
    have hl := kidx_le (K := K) (q := n)
    have hk : K n = true := by
      cases hk : K n with
      | true => rfl
      | false => rw [hk] at h; simp at h; omega
    rw [hk] at h
    simp only [if_true] at h
    have h1 : kidx K n = n := by omega
    by_cases e : q = n
    · subst e; exact ⟨hk, h1⟩
    · exact kidx_all h1 q (by omega)
theorem map_range_getD {l : List Bool} : ((List.range l.length).map fun q => l.getD q false) = l := by
  apply List.ext_getElem (by simp)
  intro i h1 h2
  simp [h2]
theorem Aut.ext3 {a b : Aut} (h1 : a.init = b.init) (h2 : a.acc = b.acc) (h3 : a.edges = b.edges) : a = b := by
  cases a; cases b; simp_all
theorem Aut.keep_full {a : Aut} (ha : a.Ok) {K : Nat → Bool} (h : kidx K a.acc.length = a.acc.length) : a.keep K = a := by
  have hn := ha.n
  have hall := kidx_all h
  unfold Aut.keep
  rw [if_neg (by omega)]
  refine Aut.ext3 ?_ ?_ ?_
  · show (a.init.filter _).map _ = _
    rw [List.filter_eq_self.2]
    · conv => rhs; rw [← List.map_id a.init]
      apply List.map_congr_left
      intro q hq
      have := incr_mem ha.i q hq
      have h1 := (hall q.toNat (by omega)).2
      simp only [kout, h1, id]
      omega
    · intro q hq
      have := incr_mem ha.i q hq
      exact (hall q.toNat (by omega)).1
  · show ((List.range a.acc.length).filter K).map _ = _
    rw [List.filter_eq_self.2]
    · exact map_range_getD
    · intro q hq
      exact (hall q (by simpa using hq)).1
  · show (a.edges.filter _).map _ = _
    rw [List.filter_eq_self.2]
    · conv => rhs; rw [← List.map_id a.edges]
      apply List.map_congr_left
      intro e he
      have hx := ha.2.2.2 e he
      unfold Tr.Ok at hx
      have h1 := (hall e.frm.toNat (by omega)).2
      have h2 := (hall e.to.toNat (by omega)).2
      have e1 : ((e.frm.toNat : Nat) : Int) = e.frm := by omega
      have e2 : ((e.to.toNat : Nat) : Int) = e.to := by omega
      simp only [Tr.ren, kout, h1, h2, id, e1, e2]
    · intro e he
      have hx := ha.2.2.2 e he
      unfold Tr.Ok at hx
      rw [(hall e.frm.toNat (by omega)).1, (hall e.to.toNat (by omega)).1]; rfl
theorem Aut.trim_len {a : Aut} (ha : a.Ok) : a.trim.acc.length ≤ a.acc.length ∧ (a.trim.acc.length = a.acc.length → a.trim = a ∨ (a.acc.length = 1 ∧ a.trim = ⟨[], [false], []⟩)) := by
  have hn := ha.n
  have hl := kidx_le (K := a.tkeep) (q := a.acc.length)
  by_cases h0 : kidx a.tkeep a.acc.length = 0
  · have ht : a.trim = ⟨[], [false], []⟩ := by unfold Aut.trim Aut.keep; rw [if_pos h0]
    rw [ht]
    exact ⟨hn.1, fun h => .inr ⟨h.symm, rfl⟩⟩
  · have hk : a.trim.acc.length = kidx a.tkeep a.acc.length := Aut.keep_len h0
    rw [hk]
    exact ⟨hl, fun h => .inl (Aut.keep_full ha h)⟩

theorem grpS_full {e : Nat → Nat → Bool} : ∀ {n : Nat}, (grpS e n).2 = n → (grpS e n).1 = List.range n ∧ ∀ i, i < n → (List.range i).find? (fun k => e i k) = none
  | 0, _ => ⟨rfl, fun i hi => absurd hi (Nat.not_lt_zero i)⟩
  | n + 1, h => by
    have hl := grpS_le (e := e) n
    cases hf : (List.range n).find? (fun k => e n k) with
    | some k =>
      rw [grpS_old hf] at h
      have h : (grpS e n).2 = n + 1 := h
      omega
    | none =>
      rw [grpS_new hf] at h ⊢
      have h : (grpS e n).2 + 1 = n + 1 := h
      have h1 : (grpS e n).2 = n := by omega
      obtain ⟨h2, h3⟩ := grpS_full h1
      refine ⟨by show (grpS e n).1 ++ [(grpS e n).2] = _; rw [h2, h1, List.range_succ], fun i hi => ?_⟩
      by_cases ei : i = n
      · subst ei; exact hf
      · exact h3 i (by omega)
theorem accG_full {a : Aut} {e : Nat → Nat → Bool} : ∀ {n : Nat}, (∀ i, i < n → (List.range i).find? (fun k => e i k) = none) → accG a e n = (List.range n).map fun q => a.acc.getD q false
  | 0, _ => rfl
  | n + 1, h => by
    have ih := accG_full (a := a) (e := e) (n := n) fun i hi => h i (by omega)
    simp only [accG, h n (by omega)]
    rw [ih, List.range_succ, List.map_append]
    rfl
theorem gnm_full {e : Nat → Nat → Bool} {n : Nat} (h : (grpS e n).1 = List.range n) {x : Int} (h0 : 0 ≤ x) (h1 : x < n) : gnm e n x = x := by
  unfold gnm
  rw [h]
  simp [show x.toNat < n by omega]
  omega
theorem memL_self {n : Nat} {l : List Int} (h : incr n (-1) l) {K : Nat → Bool} (hK : ∀ q, q < n → (K q = true ↔ (q : Int) ∈ l)) : memL K n = l := by
  refine incr_ext (memL_incr (Nat.le_refl _)) h fun x => ?_
  rw [memL_mem]
  constructor
  · rintro ⟨q, rfl, h1, h2⟩; exact (hK q h1).1 h2
  · intro hx
    have := incr_mem h x hx
    refine ⟨x.toNat, by omega, by omega, (hK _ (by omega)).2 ?_⟩
    rwa [Int.toNat_of_nonneg (by omega)]
theorem Aut.mergeE_full {a : Aut} (ha : a.Ok) {e : Nat → Nat → Bool} (h : (grpS e a.acc.length).2 = a.acc.length) : a.mergeE e = ⟨a.init, a.acc, ded a.edges⟩ := by
  obtain ⟨h1, h2⟩ := grpS_full h
  have hg : ∀ x : Int, 0 ≤ x → x < a.acc.length → gnm e a.acc.length x = x := fun x => gnm_full h1
  refine Aut.ext3 ?_ ?_ ?_
  · show memL _ (grpS e a.acc.length).2 = _
    rw [h]
    refine memL_self ha.i fun q hq => ?_
    simp only [List.any_eq_true, decide_eq_true_eq]
    constructor
    · rintro ⟨p, hp, h3⟩
      have := incr_mem ha.i p hp
      rw [hg p (by omega) (by omega)] at h3
      rw [← h3]; exact hp
    · intro hm
      exact ⟨q, hm, hg q (by omega) (by omega)⟩
  · show accG a e a.acc.length = _
    rw [accG_full h2, map_range_getD]
  · show ded (a.edges.map _) = ded a.edges
    congr 1
    conv => rhs; rw [← List.map_id a.edges]
    apply List.map_congr_left
    intro t ht
    have hx := ha.2.2.2 t ht
    unfold Tr.Ok at hx
    simp only [Tr.ren, hg t.frm hx.1 hx.2.1, hg t.to hx.2.2.1 hx.2.2.2.1, id]
theorem Aut.mrg_len {a : Aut} (ha : a.Ok) : a.mrg.acc.length ≤ a.acc.length ∧ (a.mrg.acc.length = a.acc.length → a.mrg = ⟨a.init, a.acc, ded a.edges⟩) := by
  have h1 : ∀ e, (a.mergeE e).acc.length = (grpS e a.acc.length).2 := fun e => accG_len a.acc.length
  unfold Aut.mrg
  rw [h1]
  exact ⟨grpS_le _, fun h => Aut.mergeE_full ha h⟩
theorem ded_same {l : List Tr} (h : l.length ≤ (ded l).length) : ded l = l := by
  have key : ∀ (l o : List Tr), (l.foldl (fun o f => if f ∈ o then o else o ++ [f]) o).length ≤ o.length + l.length ∧ (o.length + l.length ≤ (l.foldl (fun o f => if f ∈ o then o else o ++ [f]) o).length → l.foldl (fun o f => if f ∈ o then o else o ++ [f]) o = o ++ l) := by
    intro l
    induction l with
    | nil => simp
    | cons y l ih =>
      intro o
      rw [List.foldl_cons]
      by_cases hy : y ∈ o
      · rw [if_pos hy]
        obtain ⟨i1, i2⟩ := ih o
        refine ⟨by simp; omega, fun h => ?_⟩
        simp at h; omega
      · rw [if_neg hy]
        obtain ⟨i1, i2⟩ := ih (o ++ [y])
        simp only [List.length_append, List.length_cons, List.length_nil] at i1 i2
        refine ⟨by simp; omega, fun h => ?_⟩
        rw [i2 (by simp at h; omega)]
        simp
  have := (key l []).2 (by simpa [ded] using h)
  simpa [ded] using this

/-- one round -/
noncomputable def Aut.rnd (a : Aut) : Aut := a.trim.mrg
def Aut.mea (a : Aut) : Nat := a.acc.length * 4096 + a.acc.count true + a.init.length + a.edges.length
theorem Aut.trim_ok {a : Aut} (ha : a.Ok) : a.trim.Ok := Aut.keep_ok ha _
theorem Aut.rnd_ok {a : Aut} (ha : a.Ok) : a.rnd.Ok := Aut.mrg_ok (Aut.trim_ok ha)
theorem Aut.rnd_less {a : Aut} (ha : a.Ok) (hne : a.rnd ≠ a) : a.rnd.mea < a.mea := by
  have ht := Aut.trim_ok ha
  have hr := Aut.rnd_ok ha
  obtain ⟨t1, t2⟩ := Aut.trim_len ha
  obtain ⟨m1, m2⟩ := Aut.mrg_len ht
  have m1 : a.rnd.acc.length ≤ a.trim.acc.length := m1
  have b1 := hr.il
  have b2 := hr.e
  have b3 := List.count_le_length (a := true) (l := a.rnd.acc)
  have b4 := hr.n
  by_cases hlt : a.rnd.acc.length < a.acc.length
  · unfold Aut.mea
    omega
  · have e1 : a.trim.acc.length = a.acc.length := by omega
    have hm : a.rnd = ⟨a.trim.init, a.trim.acc, ded a.trim.edges⟩ := m2 (by show a.rnd.acc.length = _; omega)
    rcases t2 e1 with h | ⟨h1, h⟩
    · rw [h] at hm
      have hd := ded_len (l := a.edges)
      have hdl : (ded a.edges).length < a.edges.length := by
        rcases Nat.lt_or_ge (ded a.edges).length a.edges.length with h3 | h3
        · exact h3
        · exact absurd (by rw [hm, ded_same h3]) hne
      rw [hm]
      unfold Aut.mea
      show a.acc.length * 4096 + a.acc.count true + a.init.length + (ded a.edges).length < _
      omega
    · rw [h] at hm
      have hm : a.rnd = ⟨[], [false], []⟩ := hm
      rw [hm]
      have h3 : Aut.mea ⟨[], [false], []⟩ = 4096 := by rfl
      rw [h3]
      unfold Aut.mea
      rw [h1]
      have : a.acc.count true + a.init.length + a.edges.length ≠ 0 := by
        intro h4
        have g1 : a.init = [] := List.eq_nil_of_length_eq_zero (by omega)
        have g2 : a.edges = [] := List.eq_nil_of_length_eq_zero (by omega)
        have g3 : a.acc = [false] := by
          match hq : a.acc, h1 with
          | [x], _ =>
            rw [hq] at h4
            cases x with
            | false => rfl
            | true => simp at h4
        exact hne (by rw [hm]; exact (Aut.ext3 g1 g3 g2).symm)
      omega
/-- rounds until nothing changes -/
inductive SmpR : Aut → Aut → Prop
  | stop {a : Aut} (h : a.rnd = a) : SmpR a a
  | more {a r : Aut} (h : a.rnd ≠ a) (hr : SmpR a.rnd r) : SmpR a r
theorem SmpR.fn {a r s : Aut} (h : SmpR a r) : SmpR a s → r = s := by
  induction h with
  | stop h =>
    intro h'
    cases h' with
    | stop _ => rfl
    | more h2 _ => exact absurd h h2
  | more h _ ih =>
    intro h'
    cases h' with
    | stop h2 => exact absurd h2 h
    | more _ h3 => exact ih h3
theorem SmpR.ex : ∀ (m : Nat) (a : Aut), a.mea ≤ m → a.Ok → ∃ r, SmpR a r ∧ r.Ok
  | 0, a, hm, ha => by
    have := ha.n
    unfold Aut.mea at hm
    omega
  | m + 1, a, hm, ha => by
    by_cases h : a.rnd = a
    · exact ⟨a, .stop h, ha⟩
    · have := Aut.rnd_less ha h
      obtain ⟨r, h1, h2⟩ := SmpR.ex m a.rnd (by omega) (Aut.rnd_ok ha)
      exact ⟨r, .more h h1, h2⟩
noncomputable def Aut.smp (a : Aut) : Aut := @Classical.epsilon Aut ⟨Aut.empty⟩ (SmpR a)
end Go.Proofs.Ytglnelcmcimljaa

/-
  Helpers of the laws: lists that are equal, members, common atoms.
-/
namespace Go.Proofs.Ytglnelcmcimljaa
open Go
set_option linter.all false
set_option linter.unusedVariables false
set_option linter.unusedSimpArgs false
set_option linter.defProp false
set_option maxRecDepth 1000000

/-- the common atoms of two letters, from the first ones -/
def wA (a b : Nat) : Nat → Nat
  | 0 => 0
  | j + 1 => wA a b j + if a / 2 ^ j % 2 = 1 ∧ b / 2 ^ j % 2 = 1 then 2 ^ j else 0
end Go.Proofs.Ytglnelcmcimljaa

/-
  Bodies of functions in the small language, as a program printed them, and that each is what the translation gives.
-/
namespace Go.Proofs.Ytglnelcmcimljaa
open Go
set_option linter.all false
set_option linter.defProp false
set_option maxRecDepth 1000000

end Go.Proofs.Ytglnelcmcimljaa

/-
  Bodies of functions in the small language, as a program printed them, and that each is what the translation gives.
-/
namespace Go.Proofs.Ytglnelcmcimljaa
open Go
set_option linter.all false
set_option linter.defProp false
set_option maxRecDepth 1000000

end Go.Proofs.Ytglnelcmcimljaa

/-
  Bodies of functions in the small language, as a program printed them, and that each is what the translation gives.
-/
namespace Go.Proofs.Ytglnelcmcimljaa
open Go
set_option linter.all false
set_option linter.defProp false
set_option maxRecDepth 1000000

end Go.Proofs.Ytglnelcmcimljaa

/-
  Bodies of functions in the small language, as a program printed them, and that each is what the translation gives.
-/
namespace Go.Proofs.Ytglnelcmcimljaa
open Go
set_option linter.all false
set_option linter.defProp false
set_option maxRecDepth 1000000

def H_impl_AutomatonValid : Hint := ⟨[(0, false), (1, true), (2, false), (3, false), (4, false), (6, false), (11, false), (12, false), (13, false)], [[0, 2, 5]]⟩
def K46_1 : Pl := .st (.act (some (.v 17, true)) (.px (some 22) (.un .not (.v 21)))) <|
    .st (.act none (.px (some 23) (.pick (.v 17) (.v 22) (.c (.bool false))))) <|
    .st (.act none (.px (some 2) (.mv (.v 23)))) .done
@[simp] def W46_1 := @Pl.wpe _ _ K46_1.eq_1
def K46_2 : Pl := .st (.act none (.px (some 11) (.mv (.v 10)))) <|
    .st (.act (some (.v 11, true)) (.als 12 none 1)) <|
    .st (.act (some (.v 11, true)) (.pget (some 13) (some 12) 1 2 none)) <|
    .st (.act (some (.v 11, true)) (.px (some 14) (.lenV (.v 13)))) <|
    .st (.act (some (.v 11, true)) (.px (some 15) (.bin .leq (.v 14) (.c (.int .i64 2048))))) <|
    .st (.act none (.px (some 16) (.pick (.v 11) (.v 15) (.c (.bool false))))) <|
    .st (.act none (.px (some 17) (.mv (.v 16)))) <|
    .st (.act (some (.v 17, true)) (.als 18 none 1)) <|
    .st (.act (some (.v 17, true)) (.pget (some 19) (some 18) 1 2 none)) <|
    .st (.act (some (.v 17, true)) (.px (some 20) (.mkf (.func fn_impl_AutomatonValid_1) [] [.v 3]))) <|
    .st (.act (some (.v 17, true)) (.ex (some 21) (.call fn_slices_ContainsFunc_S_impl_Transition_impl_Transition [.v 19, .v 20]))) K46_1
@[simp] def W46_2 := @Pl.wpe _ _ K46_2.eq_1
def K46_3 : C := .seq (.pl <| .st (.ext 9 15) <|
    .st (.act none (.ld (some 9) (.v 3) none)) <|
    .st (.act none (.ex (some 10) (.call fn_impl_in [.v 9, .c (.int .i64 1), .c (.int .i64 64)]))) K46_2) (.ret)
@[simp] def W46_3 := @C.wpe _ _ K46_3.eq_1
def K46_4 : C := .pl <| .st (.ext 9 1) <|
    .st (.act none (.px (some 9) (.bin .add (.v 8) (.c (.int .i64 1))))) <|
    .st (.act none (.px (some 8) (.mv (.v 9)))) .done
@[simp] def W46_4 := @C.wpe _ _ K46_4.eq_1
def K46_5 : C := .pl <| .st (.ext 9 1) <|
    .st (.act none (.px (some 9) (.mv (.v 5)))) <|
    .st (.act none (.px (some 4) (.mv (.v 9)))) .done
@[simp] def W46_5 := @C.wpe _ _ K46_5.eq_1
def K46_6 : C := .seq (.pl <| .st (.ext 9 0) <|
    .st (.act none (.px (some 2) (.mv (.c (.bool false))))) .done) (.ret)
@[simp] def W46_6 := @C.wpe _ _ K46_6.eq_1
def K46_7 : C := .cond 9 (.v 15) K46_6 (.skip)
@[simp] def W46_7 := @C.wpe _ _ K46_7.eq_1
def K46_8 : Pl := .st (.act none (.px (some 15) (.un .not (.v 14)))) .done
@[simp] def W46_8 := @Pl.wpe _ _ K46_8.eq_1
def K46_9 : C := .seq (.seq (.pl <| .st (.ext 9 7) <|
    .st (.act none (.px (some 9) (.mv (.v 5)))) <|
    .st (.act none (.px (some 10) (.mv (.v 4)))) <|
    .st (.act none (.px (some 11) (.bin .add (.v 10) (.c (.int .i64 1))))) <|
    .st (.act none (.ld (some 12) (.v 3) none)) <|
    .st (.act none (.px (some 13) (.bin .sub (.v 12) (.c (.int .i64 1))))) <|
    .st (.act none (.ex (some 14) (.call fn_impl_in [.v 9, .v 11, .v 13]))) K46_8) K46_7) K46_5
@[simp] def W46_9 := @C.wpe _ _ K46_9.eq_1
def K46_10 : C := .seq (.block 1 (.seq (.pl <| .st (.ext 9 2) <|
    .st (.act none (.px (some 9) (.ia 1 (.v 6) (.v 8)))) <|
    .st (.act none (.ld (some 10) (.v 9) none)) <|
    .st (.act none (.px (some 5) (.mv (.v 10)))) .done) K46_9)) K46_4
@[simp] def W46_10 := @C.wpe _ _ K46_10.eq_1
def K46_11 : C := .seq (.cond 9 (.v 9) (.skip) (.exit 0)) K46_10
@[simp] def W46_11 := @C.wpe _ _ K46_11.eq_1
def K46_12 : C := .seq (.pl <| .st (.ext 9 1) <|
    .st (.act none (.px (some 9) (.bin .lss (.v 8) (.v 7)))) .done) K46_11
@[simp] def W46_12 := @C.wpe _ _ K46_12.eq_1
def K46_13 : C := .block 0 (.loop 9 [0, 2, 5] K46_12)
@[simp] def W46_13 := @C.wpe _ _ K46_13.eq_1
def K46_14 : C := .seq (.seq (.pl <| .st (.ext 9 1) <|
    .st (.act none (.als 9 none 1)) <|
    .st (.act none (.pget (some 6) (some 9) 1 0 none)) <|
    .st (.act none (.px (some 7) (.lenV (.v 6)))) <|
    .st (.act none (.px (some 8) (.mv (.c (.int .i64 0))))) .done) K46_13) K46_3
@[simp] def W46_14 := @C.wpe _ _ K46_14.eq_1
def K46_15 : C := .seq (.pl <| .st (.ext 9 0) <|
    .st (.act none (.px (some 4) (.mv (.c (.int .i64 (-1)))))) .done) K46_14
@[simp] def W46_15 := @C.wpe _ _ K46_15.eq_1
def K46_16 : Pl := .st (.act none (.ex none (.store 1 (.v 3) (.v 11)))) .done
@[simp] def W46_16 := @Pl.wpe _ _ K46_16.eq_1
def K46_17 : C := .seq (.pl <| .st (.ext 9 3) <|
    .st (.act none (.als 9 none 1)) <|
    .st (.act none (.pget (some 10) (some 9) 1 1 none)) <|
    .st (.act none (.px (some 11) (.lenV (.v 10)))) <|
    .st (.act none (.ex (some 3) (.alloc (.c (.int .i64 0))))) K46_16) K46_15
@[simp] def W46_17 := @C.wpe _ _ K46_17.eq_1
def B_impl_AutomatonValid : C := .seq (.pl <| .st (.ext 9 0) <|
    .st (.act none (.pnew 1 (.v 0) [])) <|
    .st (.act none (.px (some 2) (.mv (.c (.bool false))))) .done) K46_17
@[simp] def WB_impl_AutomatonValid := @C.wpe _ _ B_impl_AutomatonValid.eq_1
def R_impl_AutomatonValid : FIR := ⟨B_impl_AutomatonValid, 9, [(2, none)]⟩
theorem IR_impl_AutomatonValid : cfun Try.prog H_impl_AutomatonValid Try.f46 = some R_impl_AutomatonValid := by kernel_rfl
theorem EN_impl_AutomatonValid {args : List Value} {h : Heap} {k : Value → Heap → Prop} (hargs : args.length = 1) (hw : B_impl_AutomatonValid.wp Try.prog (retQ [(2, none)] k) (env0 args 9) h) : CallE Try.prog fn_impl_AutomatonValid args h k := enter Try.func46 rfl IR_impl_AutomatonValid hargs hw

def H_impl_AutomatonValid_1 : Hint := ⟨[(0, false), (1, false), (2, true), (3, false)], []⟩
def K94_1 : Pl := .st (.act (some (.v 18, false)) (.px (some 22) (.un .not (.v 21)))) <|
    .st (.act none (.px (some 23) (.pick (.v 18) (.c (.bool true)) (.v 22)))) <|
    .st (.act none (.px (some 24) (.mv (.v 23)))) <|
    .st (.act (some (.v 24, false)) (.als 25 none 2)) <|
    .st (.act (some (.v 24, false)) (.pget (some 26) (some 25) 2 2 none)) <|
    .st (.act (some (.v 24, false)) (.px (some 27) (.bin .lss (.v 26) (.c (.int .i64 0))))) <|
    .st (.act none (.px (some 28) (.pick (.v 24) (.c (.bool true)) (.v 27)))) <|
    .st (.act none (.px (some 29) (.mv (.v 28)))) <|
    .st (.act (some (.v 29, false)) (.als 30 none 2)) <|
    .st (.act (some (.v 29, false)) (.pget (some 31) (some 30) 2 2 none)) <|
    .st (.act (some (.v 29, false)) (.als 32 none 2)) <|
    .st (.act (some (.v 29, false)) (.pget (some 33) (some 32) 2 1 none)) <|
    .st (.act (some (.v 29, false)) (.px (some 34) (.bin .andNot (.v 31) (.v 33)))) <|
    .st (.act (some (.v 29, false)) (.px (some 35) (.bin .neq (.v 34) (.c (.int .i64 0))))) <|
    .st (.act none (.px (some 36) (.pick (.v 29) (.c (.bool true)) (.v 35)))) <|
    .st (.act none (.px (some 3) (.mv (.v 36)))) .done
@[simp] def W94_1 := @Pl.wpe _ _ K94_1.eq_1
def K94_2 : Pl := .st (.act (some (.v 10, false)) (.px (some 16) (.un .not (.v 15)))) <|
    .st (.act none (.px (some 17) (.pick (.v 10) (.c (.bool true)) (.v 16)))) <|
    .st (.act none (.px (some 18) (.mv (.v 17)))) <|
    .st (.act (some (.v 18, false)) (.als 19 none 2)) <|
    .st (.act (some (.v 18, false)) (.pget (some 20) (some 19) 2 1 none)) <|
    .st (.act (some (.v 18, false)) (.ex (some 21) (.call fn_impl_in [.v 20, .c (.int .i64 0), .c (.int .i64 7)]))) K94_1
@[simp] def W94_2 := @Pl.wpe _ _ K94_2.eq_1
def K94_3 : Pl := .st (.act none (.px (some 9) (.un .not (.v 8)))) <|
    .st (.act none (.px (some 10) (.mv (.v 9)))) <|
    .st (.act (some (.v 10, false)) (.als 11 none 2)) <|
    .st (.act (some (.v 10, false)) (.pget (some 12) (some 11) 2 3 none)) <|
    .st (.act (some (.v 10, false)) (.ld (some 13) (.v 1) none)) <|
    .st (.act (some (.v 10, false)) (.px (some 14) (.bin .sub (.v 13) (.c (.int .i64 1))))) <|
    .st (.act (some (.v 10, false)) (.ex (some 15) (.call fn_impl_in [.v 12, .c (.int .i64 0), .v 14]))) K94_2
@[simp] def W94_3 := @Pl.wpe _ _ K94_3.eq_1
def K94_4 : C := .seq (.pl <| .st (.ext 4 33) <|
    .st (.act none (.als 4 none 2)) <|
    .st (.act none (.pget (some 5) (some 4) 2 0 none)) <|
    .st (.act none (.ld (some 6) (.v 1) none)) <|
    .st (.act none (.px (some 7) (.bin .sub (.v 6) (.c (.int .i64 1))))) <|
    .st (.act none (.ex (some 8) (.call fn_impl_in [.v 5, .c (.int .i64 0), .v 7]))) K94_3) (.ret)
@[simp] def W94_4 := @C.wpe _ _ K94_4.eq_1
def B_impl_AutomatonValid_1 : C := .seq (.pl <| .st (.ext 4 0) <|
    .st (.act none (.pnew 2 (.v 0) [])) <|
    .st (.act none (.px (some 3) (.mv (.c (.bool false))))) .done) K94_4
@[simp] def WB_impl_AutomatonValid_1 := @C.wpe _ _ B_impl_AutomatonValid_1.eq_1
def R_impl_AutomatonValid_1 : FIR := ⟨B_impl_AutomatonValid_1, 4, [(3, none)]⟩
theorem IR_impl_AutomatonValid_1 : cfun Try.prog H_impl_AutomatonValid_1 Try.f94 = some R_impl_AutomatonValid_1 := by kernel_rfl
theorem EN_impl_AutomatonValid_1 {args : List Value} {h : Heap} {k : Value → Heap → Prop} (hargs : args.length = 2) (hw : B_impl_AutomatonValid_1.wp Try.prog (retQ [(3, none)] k) (env0 args 4) h) : CallE Try.prog fn_impl_AutomatonValid_1 args h k := enter Try.func94 rfl IR_impl_AutomatonValid_1 hargs hw

def H_impl_Transition_takes : Hint := ⟨[(0, false), (1, false), (2, true), (4, false)], []⟩
def K95_1 : C := .seq (.pl <| .st (.ext 4 7) <|
    .st (.act none (.px (some 4) (.mv (.v 1)))) <|
    .st (.act none (.als 5 none 2)) <|
    .st (.act none (.pget (some 6) (some 5) 2 1 none)) <|
    .st (.act none (.px (some 7) (.bin .and (.v 4) (.v 6)))) <|
    .st (.act none (.als 8 none 2)) <|
    .st (.act none (.pget (some 9) (some 8) 2 2 none)) <|
    .st (.act none (.px (some 10) (.bin .eql (.v 7) (.v 9)))) <|
    .st (.act none (.px (some 3) (.mv (.v 10)))) .done) (.ret)
@[simp] def W95_1 := @C.wpe _ _ K95_1.eq_1
def B_impl_Transition_takes : C := .seq (.pl <| .st (.ext 4 0) <|
    .st (.act none (.pnew 2 (.v 0) [])) <|
    .st (.act none (.px (some 3) (.mv (.c (.bool false))))) .done) K95_1
@[simp] def WB_impl_Transition_takes := @C.wpe _ _ B_impl_Transition_takes.eq_1
def R_impl_Transition_takes : FIR := ⟨B_impl_Transition_takes, 4, [(3, none)]⟩
theorem IR_impl_Transition_takes : cfun Try.prog H_impl_Transition_takes Try.f95 = some R_impl_Transition_takes := by kernel_rfl
theorem EN_impl_Transition_takes {args : List Value} {h : Heap} {k : Value → Heap → Prop} (hargs : args.length = 2) (hw : B_impl_Transition_takes.wp Try.prog (retQ [(3, none)] k) (env0 args 4) h) : CallE Try.prog fn_impl_Transition_takes args h k := enter Try.func95 rfl IR_impl_Transition_takes hargs hw

def H_impl_in : Hint := ⟨[(0, false), (1, false), (2, false), (6, false)], []⟩
def K92_1 : C := .seq (.pl <| .st (.ext 4 8) <|
    .st (.act none (.px (some 4) (.mv (.v 0)))) <|
    .st (.act none (.px (some 5) (.mv (.v 1)))) <|
    .st (.act none (.px (some 6) (.bin .geq (.v 4) (.v 5)))) <|
    .st (.act none (.px (some 7) (.mv (.v 6)))) <|
    .st (.act (some (.v 7, true)) (.px (some 8) (.mv (.v 0)))) <|
    .st (.act (some (.v 7, true)) (.px (some 9) (.mv (.v 2)))) <|
    .st (.act (some (.v 7, true)) (.px (some 10) (.bin .leq (.v 8) (.v 9)))) <|
    .st (.act none (.px (some 11) (.pick (.v 7) (.v 10) (.c (.bool false))))) <|
    .st (.act none (.px (some 3) (.mv (.v 11)))) .done) (.ret)
@[simp] def W92_1 := @C.wpe _ _ K92_1.eq_1
def B_impl_in : C := .seq (.pl <| .st (.ext 4 0) <|
    .st (.act none (.px (some 3) (.mv (.c (.bool false))))) .done) K92_1
@[simp] def WB_impl_in := @C.wpe _ _ B_impl_in.eq_1
def R_impl_in : FIR := ⟨B_impl_in, 4, [(3, none)]⟩
theorem IR_impl_in : cfun Try.prog H_impl_in Try.f92 = some R_impl_in := by kernel_rfl
theorem EN_impl_in {args : List Value} {h : Heap} {k : Value → Heap → Prop} (hargs : args.length = 3) (hw : B_impl_in.wp Try.prog (retQ [(3, none)] k) (env0 args 4) h) : CallE Try.prog fn_impl_in args h k := enter Try.func92 rfl IR_impl_in hargs hw

def H_slices_ContainsFunc_S_impl_Transition_impl_Transition : Hint := ⟨[(0, false), (1, false), (4, false)], []⟩
def K93_1 : Pl := .st (.act none (.px (some 6) (.bin .geq (.v 5) (.c (.int .i64 0))))) <|
    .st (.act none (.px (some 2) (.mv (.v 6)))) .done
@[simp] def W93_1 := @Pl.wpe _ _ K93_1.eq_1
def K93_2 : C := .seq (.pl <| .st (.ext 3 4) <|
    .st (.act none (.px (some 3) (.mv (.v 0)))) <|
    .st (.act none (.px (some 4) (.mv (.v 1)))) <|
    .st (.act none (.ex (some 5) (.call fn_slices_IndexFunc_S_impl_Transition_impl_Transition [.v 3, .v 4]))) K93_1) (.ret)
@[simp] def W93_2 := @C.wpe _ _ K93_2.eq_1
def B_slices_ContainsFunc_S_impl_Transition_impl_Transition : C := .seq (.pl <| .st (.ext 3 0) <|
    .st (.act none (.px (some 2) (.mv (.c (.bool false))))) .done) K93_2
@[simp] def WB_slices_ContainsFunc_S_impl_Transition_impl_Transition := @C.wpe _ _ B_slices_ContainsFunc_S_impl_Transition_impl_Transition.eq_1
def R_slices_ContainsFunc_S_impl_Transition_impl_Transition : FIR := ⟨B_slices_ContainsFunc_S_impl_Transition_impl_Transition, 3, [(2, none)]⟩
theorem IR_slices_ContainsFunc_S_impl_Transition_impl_Transition : cfun Try.prog H_slices_ContainsFunc_S_impl_Transition_impl_Transition Try.f93 = some R_slices_ContainsFunc_S_impl_Transition_impl_Transition := by kernel_rfl
theorem EN_slices_ContainsFunc_S_impl_Transition_impl_Transition {args : List Value} {h : Heap} {k : Value → Heap → Prop} (hargs : args.length = 2) (hw : B_slices_ContainsFunc_S_impl_Transition_impl_Transition.wp Try.prog (retQ [(2, none)] k) (env0 args 3) h) : CallE Try.prog fn_slices_ContainsFunc_S_impl_Transition_impl_Transition args h k := enter Try.func93 rfl IR_slices_ContainsFunc_S_impl_Transition_impl_Transition hargs hw

def H_slices_IndexFunc_S_impl_Transition_impl_Transition : Hint := ⟨[(0, false), (1, false), (4, false), (5, false), (7, false), (8, false)], [[2, 3]]⟩
def K138_1 : C := .seq (.pl <| .st (.ext 6 0) <|
    .st (.act none (.px (some 2) (.mv (.c (.int .i64 (-1)))))) .done) (.ret)
@[simp] def W138_1 := @C.wpe _ _ K138_1.eq_1
def K138_2 : C := .pl <| .st (.ext 6 1) <|
    .st (.act none (.px (some 6) (.bin .add (.v 5) (.c (.int .i64 1))))) <|
    .st (.act none (.px (some 5) (.mv (.v 6)))) .done
@[simp] def W138_2 := @C.wpe _ _ K138_2.eq_1
def K138_3 : C := .seq (.pl <| .st (.ext 6 1) <|
    .st (.act none (.px (some 6) (.mv (.v 3)))) <|
    .st (.act none (.px (some 2) (.mv (.v 6)))) .done) (.ret)
@[simp] def W138_3 := @C.wpe _ _ K138_3.eq_1
def K138_4 : C := .cond 6 (.v 11) K138_3 (.skip)
@[simp] def W138_4 := @C.wpe _ _ K138_4.eq_1
def K138_5 : C := .seq (.pl <| .st (.ext 6 6) <|
    .st (.act none (.px (some 6) (.mv (.v 1)))) <|
    .st (.act none (.px (some 7) (.mv (.v 0)))) <|
    .st (.act none (.px (some 8) (.mv (.v 3)))) <|
    .st (.act none (.px (some 9) (.ia 4 (.v 7) (.v 8)))) <|
    .st (.act none (.ld (some 10) (.v 9) (some 4))) <|
    .st (.act none (.ex (some 11) (.callv (.v 6) [.v 10]))) .done) K138_4
@[simp] def W138_5 := @C.wpe _ _ K138_5.eq_1
def K138_6 : C := .seq (.block 1 (.seq (.pl <| .st (.ext 6 1) <|
    .st (.act none (.px (some 6) (.mv (.v 5)))) <|
    .st (.act none (.px (some 3) (.mv (.v 6)))) .done) K138_5)) K138_2
@[simp] def W138_6 := @C.wpe _ _ K138_6.eq_1
def K138_7 : C := .seq (.cond 6 (.v 6) (.skip) (.exit 0)) K138_6
@[simp] def W138_7 := @C.wpe _ _ K138_7.eq_1
def K138_8 : C := .seq (.pl <| .st (.ext 6 1) <|
    .st (.act none (.px (some 6) (.bin .lss (.v 5) (.v 4)))) .done) K138_7
@[simp] def W138_8 := @C.wpe _ _ K138_8.eq_1
def K138_9 : C := .block 0 (.loop 6 [2, 3] K138_8)
@[simp] def W138_9 := @C.wpe _ _ K138_9.eq_1
def K138_10 : C := .seq (.seq (.pl <| .st (.ext 6 1) <|
    .st (.act none (.px (some 6) (.mv (.v 0)))) <|
    .st (.act none (.px (some 4) (.lenV (.v 6)))) <|
    .st (.act none (.px (some 5) (.mv (.c (.int .i64 0))))) .done) K138_9) K138_1
@[simp] def W138_10 := @C.wpe _ _ K138_10.eq_1
def B_slices_IndexFunc_S_impl_Transition_impl_Transition : C := .seq (.pl <| .st (.ext 6 0) <|
    .st (.act none (.px (some 2) (.mv (.c (.int .i64 0))))) .done) K138_10
@[simp] def WB_slices_IndexFunc_S_impl_Transition_impl_Transition := @C.wpe _ _ B_slices_IndexFunc_S_impl_Transition_impl_Transition.eq_1
def R_slices_IndexFunc_S_impl_Transition_impl_Transition : FIR := ⟨B_slices_IndexFunc_S_impl_Transition_impl_Transition, 6, [(2, none)]⟩
theorem IR_slices_IndexFunc_S_impl_Transition_impl_Transition : cfun Try.prog H_slices_IndexFunc_S_impl_Transition_impl_Transition Try.f138 = some R_slices_IndexFunc_S_impl_Transition_impl_Transition := by kernel_rfl
theorem EN_slices_IndexFunc_S_impl_Transition_impl_Transition {args : List Value} {h : Heap} {k : Value → Heap → Prop} (hargs : args.length = 2) (hw : B_slices_IndexFunc_S_impl_Transition_impl_Transition.wp Try.prog (retQ [(2, none)] k) (env0 args 6) h) : CallE Try.prog fn_slices_IndexFunc_S_impl_Transition_impl_Transition args h k := enter Try.func138 rfl IR_slices_IndexFunc_S_impl_Transition_impl_Transition hargs hw

def H_spec_AutomatonValid : Hint := ⟨[(0, false), (1, true), (2, false), (3, false), (4, false), (5, false)], [[0, 2, 5], [0, 2, 4]]⟩
def K48_1 : C := .seq (.pl <| .st (.ext 6 0) <|
    .st (.act none (.px (some 2) (.mv (.c (.bool true))))) .done) (.ret)
@[simp] def W48_1 := @C.wpe _ _ K48_1.eq_1
def K48_2 : C := .pl <| .st (.ext 6 2) <|
    .st (.act none (.px (some 6) (.mv (.v 5)))) <|
    .st (.act none (.px (some 7) (.bin .add (.v 6) (.c (.int .i64 1))))) <|
    .st (.act none (.px (some 5) (.mv (.v 7)))) .done
@[simp] def W48_2 := @C.wpe _ _ K48_2.eq_1
def K48_3 : C := .seq (.pl <| .st (.ext 6 0) <|
    .st (.act none (.px (some 2) (.mv (.c (.bool false))))) .done) (.ret)
@[simp] def W48_3 := @C.wpe _ _ K48_3.eq_1
def K48_4 : C := .cond 6 (.v 13) K48_3 (.skip)
@[simp] def W48_4 := @C.wpe _ _ K48_4.eq_1
def K48_5 : Pl := .st (.act none (.px (some 13) (.un .not (.v 12)))) .done
@[simp] def W48_5 := @Pl.wpe _ _ K48_5.eq_1
def K48_6 : C := .seq (.block 3 (.seq (.pl <| .st (.ext 6 8) <|
    .st (.act none (.als 6 none 1)) <|
    .st (.act none (.pget (some 7) (some 6) 1 2 none)) <|
    .st (.act none (.px (some 8) (.mv (.v 5)))) <|
    .st (.act none (.px (some 9) (.ia 4 (.v 7) (.v 8)))) <|
    .st (.act none (.ld (some 10) (.v 9) (some 4))) <|
    .st (.act none (.px (some 11) (.mv (.v 3)))) <|
    .st (.act none (.ex (some 12) (.call fn_spec_l7Edge [.v 10, .v 11]))) K48_5) K48_4)) K48_2
@[simp] def W48_6 := @C.wpe _ _ K48_6.eq_1
def K48_7 : C := .cond 6 (.v 10) (.skip) (.exit 2)
@[simp] def W48_7 := @C.wpe _ _ K48_7.eq_1
def K48_8 : C := .seq (.seq (.pl <| .st (.ext 6 5) <|
    .st (.act none (.px (some 6) (.mv (.v 5)))) <|
    .st (.act none (.als 7 none 1)) <|
    .st (.act none (.pget (some 8) (some 7) 1 2 none)) <|
    .st (.act none (.px (some 9) (.lenV (.v 8)))) <|
    .st (.act none (.px (some 10) (.bin .lss (.v 6) (.v 9)))) .done) K48_7) K48_6
@[simp] def W48_8 := @C.wpe _ _ K48_8.eq_1
def K48_9 : C := .block 2 (.loop 6 [0, 2, 4] K48_8)
@[simp] def W48_9 := @C.wpe _ _ K48_9.eq_1
def K48_10 : C := .seq (.seq (.pl <| .st (.ext 6 0) <|
    .st (.act none (.px (some 5) (.mv (.c (.int .i64 0))))) .done) K48_9) K48_1
@[simp] def W48_10 := @C.wpe _ _ K48_10.eq_1
def K48_11 : C := .pl <| .st (.ext 6 2) <|
    .st (.act none (.px (some 6) (.mv (.v 4)))) <|
    .st (.act none (.px (some 7) (.bin .add (.v 6) (.c (.int .i64 1))))) <|
    .st (.act none (.px (some 4) (.mv (.v 7)))) .done
@[simp] def W48_11 := @C.wpe _ _ K48_11.eq_1
def K48_12 : C := .seq (.pl <| .st (.ext 6 0) <|
    .st (.act none (.px (some 2) (.mv (.c (.bool false))))) .done) (.ret)
@[simp] def W48_12 := @C.wpe _ _ K48_12.eq_1
def K48_13 : C := .cond 6 (.v 38) K48_12 (.skip)
@[simp] def W48_13 := @C.wpe _ _ K48_13.eq_1
def K48_14 : C := .seq (.block 1 (.seq (.pl <| .st (.ext 6 33) <|
    .st (.act none (.als 6 none 1)) <|
    .st (.act none (.pget (some 7) (some 6) 1 0 none)) <|
    .st (.act none (.px (some 8) (.mv (.v 4)))) <|
    .st (.act none (.px (some 9) (.ia 1 (.v 7) (.v 8)))) <|
    .st (.act none (.ld (some 10) (.v 9) none)) <|
    .st (.act none (.px (some 11) (.bin .lss (.v 10) (.c (.int .i64 0))))) <|
    .st (.act none (.px (some 12) (.mv (.v 11)))) <|
    .st (.act (some (.v 12, false)) (.als 13 none 1)) <|
    .st (.act (some (.v 12, false)) (.pget (some 14) (some 13) 1 0 none)) <|
    .st (.act (some (.v 12, false)) (.px (some 15) (.mv (.v 4)))) <|
    .st (.act (some (.v 12, false)) (.px (some 16) (.ia 1 (.v 14) (.v 15)))) <|
    .st (.act (some (.v 12, false)) (.ld (some 17) (.v 16) none)) <|
    .st (.act (some (.v 12, false)) (.px (some 18) (.mv (.v 3)))) <|
    .st (.act (some (.v 12, false)) (.px (some 19) (.bin .geq (.v 17) (.v 18)))) <|
    .st (.act none (.px (some 20) (.pick (.v 12) (.c (.bool true)) (.v 19)))) <|
    .st (.act none (.px (some 21) (.mv (.v 20)))) <|
    .st (.act (some (.v 21, false)) (.px (some 22) (.mv (.v 4)))) <|
    .st (.act (some (.v 21, false)) (.px (some 23) (.bin .gtr (.v 22) (.c (.int .i64 0))))) <|
    .st (.act (some (.v 21, false)) (.px (some 24) (.mv (.v 23)))) <|
    .st (.act (some (.v 24, true)) (.als 25 none 1)) <|
    .st (.act (some (.v 24, true)) (.pget (some 26) (some 25) 1 0 none)) <|
    .st (.act (some (.v 24, true)) (.px (some 27) (.mv (.v 4)))) <|
    .st (.act (some (.v 24, true)) (.px (some 28) (.bin .sub (.v 27) (.c (.int .i64 1))))) <|
    .st (.act (some (.v 24, true)) (.px (some 29) (.ia 1 (.v 26) (.v 28)))) <|
    .st (.act (some (.v 24, true)) (.ld (some 30) (.v 29) none)) <|
    .st (.act (some (.v 24, true)) (.als 31 none 1)) <|
    .st (.act (some (.v 24, true)) (.pget (some 32) (some 31) 1 0 none)) <|
    .st (.act (some (.v 24, true)) (.px (some 33) (.mv (.v 4)))) <|
    .st (.act (some (.v 24, true)) (.px (some 34) (.ia 1 (.v 32) (.v 33)))) <|
    .st (.act (some (.v 24, true)) (.ld (some 35) (.v 34) none)) <|
    .st (.act (some (.v 24, true)) (.px (some 36) (.bin .geq (.v 30) (.v 35)))) <|
    .st (.act (some (.v 21, false)) (.px (some 37) (.pick (.v 24) (.v 36) (.c (.bool false))))) <|
    .st (.act none (.px (some 38) (.pick (.v 21) (.c (.bool true)) (.v 37)))) .done) K48_13)) K48_11
@[simp] def W48_14 := @C.wpe _ _ K48_14.eq_1
def K48_15 : C := .cond 6 (.v 10) (.skip) (.exit 0)
@[simp] def W48_15 := @C.wpe _ _ K48_15.eq_1
def K48_16 : C := .seq (.seq (.pl <| .st (.ext 6 5) <|
    .st (.act none (.px (some 6) (.mv (.v 4)))) <|
    .st (.act none (.als 7 none 1)) <|
    .st (.act none (.pget (some 8) (some 7) 1 0 none)) <|
    .st (.act none (.px (some 9) (.lenV (.v 8)))) <|
    .st (.act none (.px (some 10) (.bin .lss (.v 6) (.v 9)))) .done) K48_15) K48_14
@[simp] def W48_16 := @C.wpe _ _ K48_16.eq_1
def K48_17 : C := .block 0 (.loop 6 [0, 2, 5] K48_16)
@[simp] def W48_17 := @C.wpe _ _ K48_17.eq_1
def K48_18 : C := .seq (.seq (.pl <| .st (.ext 6 0) <|
    .st (.act none (.px (some 4) (.mv (.c (.int .i64 0))))) .done) K48_17) K48_10
@[simp] def W48_18 := @C.wpe _ _ K48_18.eq_1
def K48_19 : C := .seq (.pl <| .st (.ext 6 0) <|
    .st (.act none (.px (some 2) (.mv (.c (.bool false))))) .done) (.ret)
@[simp] def W48_19 := @C.wpe _ _ K48_19.eq_1
def K48_20 : C := .cond 6 (.v 24) K48_19 (.skip)
@[simp] def W48_20 := @C.wpe _ _ K48_20.eq_1
def K48_21 : C := .seq (.seq (.pl <| .st (.ext 6 19) <|
    .st (.act none (.px (some 6) (.mv (.v 3)))) <|
    .st (.act none (.px (some 7) (.bin .lss (.v 6) (.c (.int .i64 1))))) <|
    .st (.act none (.px (some 8) (.mv (.v 7)))) <|
    .st (.act (some (.v 8, false)) (.px (some 9) (.mv (.v 3)))) <|
    .st (.act (some (.v 8, false)) (.px (some 10) (.bin .gtr (.v 9) (.c (.int .i64 64))))) <|
    .st (.act none (.px (some 11) (.pick (.v 8) (.c (.bool true)) (.v 10)))) <|
    .st (.act none (.px (some 12) (.mv (.v 11)))) <|
    .st (.act (some (.v 12, false)) (.als 13 none 1)) <|
    .st (.act (some (.v 12, false)) (.pget (some 14) (some 13) 1 0 none)) <|
    .st (.act (some (.v 12, false)) (.px (some 15) (.lenV (.v 14)))) <|
    .st (.act (some (.v 12, false)) (.px (some 16) (.mv (.v 3)))) <|
    .st (.act (some (.v 12, false)) (.px (some 17) (.bin .gtr (.v 15) (.v 16)))) <|
    .st (.act none (.px (some 18) (.pick (.v 12) (.c (.bool true)) (.v 17)))) <|
    .st (.act none (.px (some 19) (.mv (.v 18)))) <|
    .st (.act (some (.v 19, false)) (.als 20 none 1)) <|
    .st (.act (some (.v 19, false)) (.pget (some 21) (some 20) 1 2 none)) <|
    .st (.act (some (.v 19, false)) (.px (some 22) (.lenV (.v 21)))) <|
    .st (.act (some (.v 19, false)) (.px (some 23) (.bin .gtr (.v 22) (.c (.int .i64 2048))))) <|
    .st (.act none (.px (some 24) (.pick (.v 19) (.c (.bool true)) (.v 23)))) .done) K48_20) K48_18
@[simp] def W48_21 := @C.wpe _ _ K48_21.eq_1
def K48_22 : C := .seq (.pl <| .st (.ext 6 3) <|
    .st (.act none (.als 6 none 1)) <|
    .st (.act none (.pget (some 7) (some 6) 1 1 none)) <|
    .st (.act none (.px (some 8) (.lenV (.v 7)))) <|
    .st (.act none (.px (some 3) (.mv (.v 8)))) .done) K48_21
@[simp] def W48_22 := @C.wpe _ _ K48_22.eq_1
def B_spec_AutomatonValid : C := .seq (.pl <| .st (.ext 6 0) <|
    .st (.act none (.pnew 1 (.v 0) [])) <|
    .st (.act none (.px (some 2) (.mv (.c (.bool false))))) .done) K48_22
@[simp] def WB_spec_AutomatonValid := @C.wpe _ _ B_spec_AutomatonValid.eq_1
def R_spec_AutomatonValid : FIR := ⟨B_spec_AutomatonValid, 6, [(2, none)]⟩
theorem IR_spec_AutomatonValid : cfun Try.prog H_spec_AutomatonValid Try.f48 = some R_spec_AutomatonValid := by kernel_rfl
theorem EN_spec_AutomatonValid {args : List Value} {h : Heap} {k : Value → Heap → Prop} (hargs : args.length = 1) (hw : B_spec_AutomatonValid.wp Try.prog (retQ [(2, none)] k) (env0 args 6) h) : CallE Try.prog fn_spec_AutomatonValid args h k := enter Try.func48 rfl IR_spec_AutomatonValid hargs hw

def H_spec_l7Edge : Hint := ⟨[(0, false), (1, false), (2, true), (4, false)], []⟩
def K97_1 : C := .seq (.pl <| .st (.ext 4 45) <|
    .st (.act none (.als 4 none 2)) <|
    .st (.act none (.pget (some 5) (some 4) 2 0 none)) <|
    .st (.act none (.px (some 6) (.bin .geq (.v 5) (.c (.int .i64 0))))) <|
    .st (.act none (.px (some 7) (.mv (.v 6)))) <|
    .st (.act (some (.v 7, true)) (.als 8 none 2)) <|
    .st (.act (some (.v 7, true)) (.pget (some 9) (some 8) 2 0 none)) <|
    .st (.act (some (.v 7, true)) (.px (some 10) (.mv (.v 1)))) <|
    .st (.act (some (.v 7, true)) (.px (some 11) (.bin .lss (.v 9) (.v 10)))) <|
    .st (.act none (.px (some 12) (.pick (.v 7) (.v 11) (.c (.bool false))))) <|
    .st (.act none (.px (some 13) (.mv (.v 12)))) <|
    .st (.act (some (.v 13, true)) (.als 14 none 2)) <|
    .st (.act (some (.v 13, true)) (.pget (some 15) (some 14) 2 3 none)) <|
    .st (.act (some (.v 13, true)) (.px (some 16) (.bin .geq (.v 15) (.c (.int .i64 0))))) <|
    .st (.act none (.px (some 17) (.pick (.v 13) (.v 16) (.c (.bool false))))) <|
    .st (.act none (.px (some 18) (.mv (.v 17)))) <|
    .st (.act (some (.v 18, true)) (.als 19 none 2)) <|
    .st (.act (some (.v 18, true)) (.pget (some 20) (some 19) 2 3 none)) <|
    .st (.act (some (.v 18, true)) (.px (some 21) (.mv (.v 1)))) <|
    .st (.act (some (.v 18, true)) (.px (some 22) (.bin .lss (.v 20) (.v 21)))) <|
    .st (.act none (.px (some 23) (.pick (.v 18) (.v 22) (.c (.bool false))))) <|
    .st (.act none (.px (some 24) (.mv (.v 23)))) <|
    .st (.act (some (.v 24, true)) (.als 25 none 2)) <|
    .st (.act (some (.v 24, true)) (.pget (some 26) (some 25) 2 1 none)) <|
    .st (.act (some (.v 24, true)) (.px (some 27) (.bin .geq (.v 26) (.c (.int .i64 0))))) <|
    .st (.act none (.px (some 28) (.pick (.v 24) (.v 27) (.c (.bool false))))) <|
    .st (.act none (.px (some 29) (.mv (.v 28)))) <|
    .st (.act (some (.v 29, true)) (.als 30 none 2)) <|
    .st (.act (some (.v 29, true)) (.pget (some 31) (some 30) 2 1 none)) <|
    .st (.act (some (.v 29, true)) (.px (some 32) (.bin .leq (.v 31) (.c (.int .i64 7))))) <|
    .st (.act none (.px (some 33) (.pick (.v 29) (.v 32) (.c (.bool false))))) <|
    .st (.act none (.px (some 34) (.mv (.v 33)))) <|
    .st (.act (some (.v 34, true)) (.als 35 none 2)) <|
    .st (.act (some (.v 34, true)) (.pget (some 36) (some 35) 2 2 none)) <|
    .st (.act (some (.v 34, true)) (.px (some 37) (.bin .geq (.v 36) (.c (.int .i64 0))))) <|
    .st (.act none (.px (some 38) (.pick (.v 34) (.v 37) (.c (.bool false))))) <|
    .st (.act none (.px (some 39) (.mv (.v 38)))) <|
    .st (.act (some (.v 39, true)) (.als 40 none 2)) <|
    .st (.act (some (.v 39, true)) (.pget (some 41) (some 40) 2 2 none)) <|
    .st (.act (some (.v 39, true)) (.als 42 none 2)) <|
    .st (.act (some (.v 39, true)) (.pget (some 43) (some 42) 2 1 none)) <|
    .st (.act (some (.v 39, true)) (.px (some 44) (.bin .and (.v 41) (.v 43)))) <|
    .st (.act (some (.v 39, true)) (.als 45 none 2)) <|
    .st (.act (some (.v 39, true)) (.pget (some 46) (some 45) 2 2 none)) <|
    .st (.act (some (.v 39, true)) (.px (some 47) (.bin .eql (.v 44) (.v 46)))) <|
    .st (.act none (.px (some 48) (.pick (.v 39) (.v 47) (.c (.bool false))))) <|
    .st (.act none (.px (some 3) (.mv (.v 48)))) .done) (.ret)
@[simp] def W97_1 := @C.wpe _ _ K97_1.eq_1
def B_spec_l7Edge : C := .seq (.pl <| .st (.ext 4 0) <|
    .st (.act none (.pnew 2 (.v 0) [])) <|
    .st (.act none (.px (some 3) (.mv (.c (.bool false))))) .done) K97_1
@[simp] def WB_spec_l7Edge := @C.wpe _ _ B_spec_l7Edge.eq_1
def R_spec_l7Edge : FIR := ⟨B_spec_l7Edge, 4, [(3, none)]⟩
theorem IR_spec_l7Edge : cfun Try.prog H_spec_l7Edge Try.f97 = some R_spec_l7Edge := by kernel_rfl
theorem EN_spec_l7Edge {args : List Value} {h : Heap} {k : Value → Heap → Prop} (hargs : args.length = 2) (hw : B_spec_l7Edge.wp Try.prog (retQ [(3, none)] k) (env0 args 4) h) : CallE Try.prog fn_spec_l7Edge args h k := enter Try.func97 rfl IR_spec_l7Edge hargs hw


end Go.Proofs.Ytglnelcmcimljaa

/-
  Bodies of functions in the small language, as a program printed them, and that each is what the translation gives.
-/
namespace Go.Proofs.Ytglnelcmcimljaa
open Go
set_option linter.all false
set_option linter.defProp false
set_option maxRecDepth 1000000

def H_impl_Automaton_copyOf : Hint := ⟨[(0, false), (1, true), (2, true)], []⟩
def K120_1 : Pl := .st (.act none (.px (some 12) (.build [.slice none 0 0, .slice none 0 0, .slice none 0 0] [(0, 1, .v 5), (1, 1, .v 8), (2, 1, .v 11)]))) <|
    .st (.act none (.pset none 2 0 3 (.v 12))) .done
@[simp] def W120_1 := @Pl.wpe _ _ K120_1.eq_1
def K120_2 : Pl := .st (.act none (.ex (some 11) (.call fn_impl_clone_impl_Transition [.v 10]))) K120_1
@[simp] def W120_2 := @Pl.wpe _ _ K120_2.eq_1
def K120_3 : Pl := .st (.act none (.ex (some 8) (.call fn_impl_clone_bool [.v 7]))) K120_2
@[simp] def W120_3 := @Pl.wpe _ _ K120_3.eq_1
def K120_4 : C := .seq (.pl <| .st (.ext 3 10) <|
    .st (.act none (.als 3 none 1)) <|
    .st (.act none (.pget (some 4) (some 3) 1 0 none)) <|
    .st (.act none (.als 6 none 1)) <|
    .st (.act none (.pget (some 7) (some 6) 1 1 none)) <|
    .st (.act none (.als 9 none 1)) <|
    .st (.act none (.pget (some 10) (some 9) 1 2 none)) <|
    .st (.act none (.ex (some 5) (.call fn_impl_clone_int [.v 4]))) K120_3) (.ret)
@[simp] def W120_4 := @C.wpe _ _ K120_4.eq_1
def B_impl_Automaton_copyOf : C := .seq (.pl <| .st (.ext 3 0) <|
    .st (.act none (.pnew 1 (.v 0) [])) <|
    .st (.act none (.pnew 2 (.c (.agg #[.slice none 0 0, .slice none 0 0, .slice none 0 0])) [])) .done) K120_4
@[simp] def WB_impl_Automaton_copyOf := @C.wpe _ _ B_impl_Automaton_copyOf.eq_1
def R_impl_Automaton_copyOf : FIR := ⟨B_impl_Automaton_copyOf, 3, [(2, some (some 3))]⟩
theorem IR_impl_Automaton_copyOf : cfun Try.prog H_impl_Automaton_copyOf Try.f120 = some R_impl_Automaton_copyOf := by kernel_rfl
theorem EN_impl_Automaton_copyOf {args : List Value} {h : Heap} {k : Value → Heap → Prop} (hargs : args.length = 1) (hw : B_impl_Automaton_copyOf.wp Try.prog (retQ [(2, some (some 3))] k) (env0 args 3) h) : CallE Try.prog fn_impl_Automaton_copyOf args h k := enter Try.func120 rfl IR_impl_Automaton_copyOf hargs hw

def H_impl_clone_bool : Hint := ⟨[(0, false), (2, false)], []⟩
def K157_1 : Pl := .st (.act none (.px (some 1) (.mv (.v 4)))) .done
@[simp] def W157_1 := @Pl.wpe _ _ K157_1.eq_1
def K157_2 : Pl := .st (.act none (.ex (some 4) (.call fn_slices_Clip_S_bool_bool [.v 3]))) K157_1
@[simp] def W157_2 := @Pl.wpe _ _ K157_2.eq_1
def K157_3 : C := .seq (.pl <| .st (.ext 2 3) <|
    .st (.act none (.px (some 2) (.mv (.v 0)))) <|
    .st (.act none (.ex (some 3) (.call fn_slices_Clone_S_bool_bool [.v 2]))) K157_2) (.ret)
@[simp] def W157_3 := @C.wpe _ _ K157_3.eq_1
def B_impl_clone_bool : C := .seq (.pl <| .st (.ext 2 0) <|
    .st (.act none (.px (some 1) (.mv (.c (.slice none 0 0))))) .done) K157_3
@[simp] def WB_impl_clone_bool := @C.wpe _ _ B_impl_clone_bool.eq_1
def R_impl_clone_bool : FIR := ⟨B_impl_clone_bool, 2, [(1, none)]⟩
theorem IR_impl_clone_bool : cfun Try.prog H_impl_clone_bool Try.f157 = some R_impl_clone_bool := by kernel_rfl
theorem EN_impl_clone_bool {args : List Value} {h : Heap} {k : Value → Heap → Prop} (hargs : args.length = 1) (hw : B_impl_clone_bool.wp Try.prog (retQ [(1, none)] k) (env0 args 2) h) : CallE Try.prog fn_impl_clone_bool args h k := enter Try.func157 rfl IR_impl_clone_bool hargs hw

def H_impl_clone_impl_Transition : Hint := ⟨[(0, false), (2, false)], []⟩
def K158_1 : Pl := .st (.act none (.px (some 1) (.mv (.v 4)))) .done
@[simp] def W158_1 := @Pl.wpe _ _ K158_1.eq_1
def K158_2 : Pl := .st (.act none (.ex (some 4) (.call fn_slices_Clip_S_impl_Transition_impl_Transition [.v 3]))) K158_1
@[simp] def W158_2 := @Pl.wpe _ _ K158_2.eq_1
def K158_3 : C := .seq (.pl <| .st (.ext 2 3) <|
    .st (.act none (.px (some 2) (.mv (.v 0)))) <|
    .st (.act none (.ex (some 3) (.call fn_slices_Clone_S_impl_Transition_impl_Transition [.v 2]))) K158_2) (.ret)
@[simp] def W158_3 := @C.wpe _ _ K158_3.eq_1
def B_impl_clone_impl_Transition : C := .seq (.pl <| .st (.ext 2 0) <|
    .st (.act none (.px (some 1) (.mv (.c (.slice none 0 0))))) .done) K158_3
@[simp] def WB_impl_clone_impl_Transition := @C.wpe _ _ B_impl_clone_impl_Transition.eq_1
def R_impl_clone_impl_Transition : FIR := ⟨B_impl_clone_impl_Transition, 2, [(1, none)]⟩
theorem IR_impl_clone_impl_Transition : cfun Try.prog H_impl_clone_impl_Transition Try.f158 = some R_impl_clone_impl_Transition := by kernel_rfl
theorem EN_impl_clone_impl_Transition {args : List Value} {h : Heap} {k : Value → Heap → Prop} (hargs : args.length = 1) (hw : B_impl_clone_impl_Transition.wp Try.prog (retQ [(1, none)] k) (env0 args 2) h) : CallE Try.prog fn_impl_clone_impl_Transition args h k := enter Try.func158 rfl IR_impl_clone_impl_Transition hargs hw

def H_slices_Clip_S_bool_bool : Hint := ⟨[(0, false), (2, false)], []⟩
def K189_1 : C := .seq (.pl <| .st (.ext 2 6) <|
    .st (.act none (.px (some 2) (.mv (.v 0)))) <|
    .st (.act none (.px (some 3) (.mv (.v 0)))) <|
    .st (.act none (.px (some 4) (.lenV (.v 3)))) <|
    .st (.act none (.px (some 5) (.mv (.v 0)))) <|
    .st (.act none (.px (some 6) (.lenV (.v 5)))) <|
    .st (.act none (.px (some 7) (.sliceV 1 (.v 2) none (some (.v 4)) (some (.v 6))))) <|
    .st (.act none (.px (some 1) (.mv (.v 7)))) .done) (.ret)
@[simp] def W189_1 := @C.wpe _ _ K189_1.eq_1
def B_slices_Clip_S_bool_bool : C := .seq (.pl <| .st (.ext 2 0) <|
    .st (.act none (.px (some 1) (.mv (.c (.slice none 0 0))))) .done) K189_1
@[simp] def WB_slices_Clip_S_bool_bool := @C.wpe _ _ B_slices_Clip_S_bool_bool.eq_1
def R_slices_Clip_S_bool_bool : FIR := ⟨B_slices_Clip_S_bool_bool, 2, [(1, none)]⟩
theorem IR_slices_Clip_S_bool_bool : cfun Try.prog H_slices_Clip_S_bool_bool Try.f189 = some R_slices_Clip_S_bool_bool := by kernel_rfl
theorem EN_slices_Clip_S_bool_bool {args : List Value} {h : Heap} {k : Value → Heap → Prop} (hargs : args.length = 1) (hw : B_slices_Clip_S_bool_bool.wp Try.prog (retQ [(1, none)] k) (env0 args 2) h) : CallE Try.prog fn_slices_Clip_S_bool_bool args h k := enter Try.func189 rfl IR_slices_Clip_S_bool_bool hargs hw

def H_slices_Clip_S_impl_Transition_impl_Transition : Hint := ⟨[(0, false), (2, false)], []⟩
def K191_1 : C := .seq (.pl <| .st (.ext 2 6) <|
    .st (.act none (.px (some 2) (.mv (.v 0)))) <|
    .st (.act none (.px (some 3) (.mv (.v 0)))) <|
    .st (.act none (.px (some 4) (.lenV (.v 3)))) <|
    .st (.act none (.px (some 5) (.mv (.v 0)))) <|
    .st (.act none (.px (some 6) (.lenV (.v 5)))) <|
    .st (.act none (.px (some 7) (.sliceV 4 (.v 2) none (some (.v 4)) (some (.v 6))))) <|
    .st (.act none (.px (some 1) (.mv (.v 7)))) .done) (.ret)
@[simp] def W191_1 := @C.wpe _ _ K191_1.eq_1
def B_slices_Clip_S_impl_Transition_impl_Transition : C := .seq (.pl <| .st (.ext 2 0) <|
    .st (.act none (.px (some 1) (.mv (.c (.slice none 0 0))))) .done) K191_1
@[simp] def WB_slices_Clip_S_impl_Transition_impl_Transition := @C.wpe _ _ B_slices_Clip_S_impl_Transition_impl_Transition.eq_1
def R_slices_Clip_S_impl_Transition_impl_Transition : FIR := ⟨B_slices_Clip_S_impl_Transition_impl_Transition, 2, [(1, none)]⟩
theorem IR_slices_Clip_S_impl_Transition_impl_Transition : cfun Try.prog H_slices_Clip_S_impl_Transition_impl_Transition Try.f191 = some R_slices_Clip_S_impl_Transition_impl_Transition := by kernel_rfl
theorem EN_slices_Clip_S_impl_Transition_impl_Transition {args : List Value} {h : Heap} {k : Value → Heap → Prop} (hargs : args.length = 1) (hw : B_slices_Clip_S_impl_Transition_impl_Transition.wp Try.prog (retQ [(1, none)] k) (env0 args 2) h) : CallE Try.prog fn_slices_Clip_S_impl_Transition_impl_Transition args h k := enter Try.func191 rfl IR_slices_Clip_S_impl_Transition_impl_Transition hargs hw

def H_slices_Clone_S_bool_bool : Hint := ⟨[(0, false), (2, false)], []⟩
def K190_1 : Pl := .st (.act none (.px (some 1) (.mv (.v 4)))) .done
@[simp] def W190_1 := @Pl.wpe _ _ K190_1.eq_1
def K190_2 : C := .seq (.pl <| .st (.ext 2 3) <|
    .st (.act none (.psl 2 [] [])) <|
    .st (.act none (.px (some 3) (.mv (.v 0)))) <|
    .st (.act none (.ex (some 4) (.app 1 1 [.bool false] (.p 0 2) (.o (.v 3))))) K190_1) (.ret)
@[simp] def W190_2 := @C.wpe _ _ K190_2.eq_1
def K190_3 : C := .seq (.pl <| .st (.ext 2 0) <|
    .st (.act none (.px (some 1) (.mv (.c (.slice none 0 0))))) .done) (.ret)
@[simp] def W190_3 := @C.wpe _ _ K190_3.eq_1
def K190_4 : C := .cond 2 (.v 3) K190_3 (.skip)
@[simp] def W190_4 := @C.wpe _ _ K190_4.eq_1
def K190_5 : C := .seq (.seq (.pl <| .st (.ext 2 2) <|
    .st (.act none (.px (some 2) (.mv (.v 0)))) <|
    .st (.act none (.px (some 3) (.isNil false (.v 2)))) .done) K190_4) K190_2
@[simp] def W190_5 := @C.wpe _ _ K190_5.eq_1
def B_slices_Clone_S_bool_bool : C := .seq (.pl <| .st (.ext 2 0) <|
    .st (.act none (.px (some 1) (.mv (.c (.slice none 0 0))))) .done) K190_5
@[simp] def WB_slices_Clone_S_bool_bool := @C.wpe _ _ B_slices_Clone_S_bool_bool.eq_1
def R_slices_Clone_S_bool_bool : FIR := ⟨B_slices_Clone_S_bool_bool, 2, [(1, none)]⟩
theorem IR_slices_Clone_S_bool_bool : cfun Try.prog H_slices_Clone_S_bool_bool Try.f190 = some R_slices_Clone_S_bool_bool := by kernel_rfl
theorem EN_slices_Clone_S_bool_bool {args : List Value} {h : Heap} {k : Value → Heap → Prop} (hargs : args.length = 1) (hw : B_slices_Clone_S_bool_bool.wp Try.prog (retQ [(1, none)] k) (env0 args 2) h) : CallE Try.prog fn_slices_Clone_S_bool_bool args h k := enter Try.func190 rfl IR_slices_Clone_S_bool_bool hargs hw

def H_slices_Clone_S_impl_Transition_impl_Transition : Hint := ⟨[(0, false), (2, false)], []⟩
def K192_1 : Pl := .st (.act none (.px (some 1) (.mv (.v 4)))) .done
@[simp] def W192_1 := @Pl.wpe _ _ K192_1.eq_1
def K192_2 : C := .seq (.pl <| .st (.ext 2 3) <|
    .st (.act none (.psl 2 [] [])) <|
    .st (.act none (.px (some 3) (.mv (.v 0)))) <|
    .st (.act none (.ex (some 4) (.app 32 4 [.int .i64 0, .int .i64 0, .int .i64 0, .int .i64 0] (.p 0 2) (.o (.v 3))))) K192_1) (.ret)
@[simp] def W192_2 := @C.wpe _ _ K192_2.eq_1
def K192_3 : C := .seq (.pl <| .st (.ext 2 0) <|
    .st (.act none (.px (some 1) (.mv (.c (.slice none 0 0))))) .done) (.ret)
@[simp] def W192_3 := @C.wpe _ _ K192_3.eq_1
def K192_4 : C := .cond 2 (.v 3) K192_3 (.skip)
@[simp] def W192_4 := @C.wpe _ _ K192_4.eq_1
def K192_5 : C := .seq (.seq (.pl <| .st (.ext 2 2) <|
    .st (.act none (.px (some 2) (.mv (.v 0)))) <|
    .st (.act none (.px (some 3) (.isNil false (.v 2)))) .done) K192_4) K192_2
@[simp] def W192_5 := @C.wpe _ _ K192_5.eq_1
def B_slices_Clone_S_impl_Transition_impl_Transition : C := .seq (.pl <| .st (.ext 2 0) <|
    .st (.act none (.px (some 1) (.mv (.c (.slice none 0 0))))) .done) K192_5
@[simp] def WB_slices_Clone_S_impl_Transition_impl_Transition := @C.wpe _ _ B_slices_Clone_S_impl_Transition_impl_Transition.eq_1
def R_slices_Clone_S_impl_Transition_impl_Transition : FIR := ⟨B_slices_Clone_S_impl_Transition_impl_Transition, 2, [(1, none)]⟩
theorem IR_slices_Clone_S_impl_Transition_impl_Transition : cfun Try.prog H_slices_Clone_S_impl_Transition_impl_Transition Try.f192 = some R_slices_Clone_S_impl_Transition_impl_Transition := by kernel_rfl
theorem EN_slices_Clone_S_impl_Transition_impl_Transition {args : List Value} {h : Heap} {k : Value → Heap → Prop} (hargs : args.length = 1) (hw : B_slices_Clone_S_impl_Transition_impl_Transition.wp Try.prog (retQ [(1, none)] k) (env0 args 2) h) : CallE Try.prog fn_slices_Clone_S_impl_Transition_impl_Transition args h k := enter Try.func192 rfl IR_slices_Clone_S_impl_Transition_impl_Transition hargs hw


end Go.Proofs.Ytglnelcmcimljaa

/-
  Bodies of functions in the small language, as a program printed them, and that each is what the translation gives.
-/
namespace Go.Proofs.Ytglnelcmcimljaa
open Go
set_option linter.all false
set_option linter.defProp false
set_option maxRecDepth 1000000

def H_impl_clone_int : Hint := ⟨[(0, false), (2, false)], []⟩
def K129_1 : Pl := .st (.act none (.px (some 1) (.mv (.v 4)))) .done
@[simp] def W129_1 := @Pl.wpe _ _ K129_1.eq_1
def K129_2 : Pl := .st (.act none (.ex (some 4) (.call fn_slices_Clip_S_int_int [.v 3]))) K129_1
@[simp] def W129_2 := @Pl.wpe _ _ K129_2.eq_1
def K129_3 : C := .seq (.pl <| .st (.ext 2 3) <|
    .st (.act none (.px (some 2) (.mv (.v 0)))) <|
    .st (.act none (.ex (some 3) (.call fn_slices_Clone_S_int_int [.v 2]))) K129_2) (.ret)
@[simp] def W129_3 := @C.wpe _ _ K129_3.eq_1
def B_impl_clone_int : C := .seq (.pl <| .st (.ext 2 0) <|
    .st (.act none (.px (some 1) (.mv (.c (.slice none 0 0))))) .done) K129_3
@[simp] def WB_impl_clone_int := @C.wpe _ _ B_impl_clone_int.eq_1
def R_impl_clone_int : FIR := ⟨B_impl_clone_int, 2, [(1, none)]⟩
theorem IR_impl_clone_int : cfun Try.prog H_impl_clone_int Try.f129 = some R_impl_clone_int := by kernel_rfl
theorem EN_impl_clone_int {args : List Value} {h : Heap} {k : Value → Heap → Prop} (hargs : args.length = 1) (hw : B_impl_clone_int.wp Try.prog (retQ [(1, none)] k) (env0 args 2) h) : CallE Try.prog fn_impl_clone_int args h k := enter Try.func129 rfl IR_impl_clone_int hargs hw

def H_slices_Clip_S_int_int : Hint := ⟨[(0, false), (2, false)], []⟩
def K72_1 : C := .seq (.pl <| .st (.ext 2 6) <|
    .st (.act none (.px (some 2) (.mv (.v 0)))) <|
    .st (.act none (.px (some 3) (.mv (.v 0)))) <|
    .st (.act none (.px (some 4) (.lenV (.v 3)))) <|
    .st (.act none (.px (some 5) (.mv (.v 0)))) <|
    .st (.act none (.px (some 6) (.lenV (.v 5)))) <|
    .st (.act none (.px (some 7) (.sliceV 1 (.v 2) none (some (.v 4)) (some (.v 6))))) <|
    .st (.act none (.px (some 1) (.mv (.v 7)))) .done) (.ret)
@[simp] def W72_1 := @C.wpe _ _ K72_1.eq_1
def B_slices_Clip_S_int_int : C := .seq (.pl <| .st (.ext 2 0) <|
    .st (.act none (.px (some 1) (.mv (.c (.slice none 0 0))))) .done) K72_1
@[simp] def WB_slices_Clip_S_int_int := @C.wpe _ _ B_slices_Clip_S_int_int.eq_1
def R_slices_Clip_S_int_int : FIR := ⟨B_slices_Clip_S_int_int, 2, [(1, none)]⟩
theorem IR_slices_Clip_S_int_int : cfun Try.prog H_slices_Clip_S_int_int Try.f72 = some R_slices_Clip_S_int_int := by kernel_rfl
theorem EN_slices_Clip_S_int_int {args : List Value} {h : Heap} {k : Value → Heap → Prop} (hargs : args.length = 1) (hw : B_slices_Clip_S_int_int.wp Try.prog (retQ [(1, none)] k) (env0 args 2) h) : CallE Try.prog fn_slices_Clip_S_int_int args h k := enter Try.func72 rfl IR_slices_Clip_S_int_int hargs hw

def H_slices_Clone_S_int_int : Hint := ⟨[(0, false), (2, false)], []⟩
def K164_1 : Pl := .st (.act none (.px (some 1) (.mv (.v 4)))) .done
@[simp] def W164_1 := @Pl.wpe _ _ K164_1.eq_1
def K164_2 : C := .seq (.pl <| .st (.ext 2 3) <|
    .st (.act none (.psl 2 [] [])) <|
    .st (.act none (.px (some 3) (.mv (.v 0)))) <|
    .st (.act none (.ex (some 4) (.app 8 1 [.int .i64 0] (.p 0 2) (.o (.v 3))))) K164_1) (.ret)
@[simp] def W164_2 := @C.wpe _ _ K164_2.eq_1
def K164_3 : C := .seq (.pl <| .st (.ext 2 0) <|
    .st (.act none (.px (some 1) (.mv (.c (.slice none 0 0))))) .done) (.ret)
@[simp] def W164_3 := @C.wpe _ _ K164_3.eq_1
def K164_4 : C := .cond 2 (.v 3) K164_3 (.skip)
@[simp] def W164_4 := @C.wpe _ _ K164_4.eq_1
def K164_5 : C := .seq (.seq (.pl <| .st (.ext 2 2) <|
    .st (.act none (.px (some 2) (.mv (.v 0)))) <|
    .st (.act none (.px (some 3) (.isNil false (.v 2)))) .done) K164_4) K164_2
@[simp] def W164_5 := @C.wpe _ _ K164_5.eq_1
def B_slices_Clone_S_int_int : C := .seq (.pl <| .st (.ext 2 0) <|
    .st (.act none (.px (some 1) (.mv (.c (.slice none 0 0))))) .done) K164_5
@[simp] def WB_slices_Clone_S_int_int := @C.wpe _ _ B_slices_Clone_S_int_int.eq_1
def R_slices_Clone_S_int_int : FIR := ⟨B_slices_Clone_S_int_int, 2, [(1, none)]⟩
theorem IR_slices_Clone_S_int_int : cfun Try.prog H_slices_Clone_S_int_int Try.f164 = some R_slices_Clone_S_int_int := by kernel_rfl
theorem EN_slices_Clone_S_int_int {args : List Value} {h : Heap} {k : Value → Heap → Prop} (hargs : args.length = 1) (hw : B_slices_Clone_S_int_int.wp Try.prog (retQ [(1, none)] k) (env0 args 2) h) : CallE Try.prog fn_slices_Clone_S_int_int args h k := enter Try.func164 rfl IR_slices_Clone_S_int_int hargs hw


end Go.Proofs.Ytglnelcmcimljaa

/-
  Bodies of functions in the small language, as a program printed them, and that each is what the translation gives.
-/
namespace Go.Proofs.Ytglnelcmcimljaa
open Go
set_option linter.all false
set_option linter.defProp false
set_option maxRecDepth 1000000

end Go.Proofs.Ytglnelcmcimljaa

/-
  Bodies of functions in the small language, as a program printed them, and that each is what the translation gives.
-/
namespace Go.Proofs.Ytglnelcmcimljaa
open Go
set_option linter.all false
set_option linter.defProp false
set_option maxRecDepth 1000000

end Go.Proofs.Ytglnelcmcimljaa

/-
  What the helpers of the laws do: copying, counting, comparing, marking. Printed by a program.
-/
namespace Go.Proofs.Ytglnelcmcimljaa
open Go
set_option linter.all false
set_option linter.unusedVariables false
set_option linter.unusedSimpArgs false
set_option linter.defProp false
set_option maxRecDepth 1000000

end Go.Proofs.Ytglnelcmcimljaa

/-
  Instances of functions over slices: copies, and whether some element meets a condition. Printed by a program.
-/
namespace Go.Proofs.Ytglnelcmcimljaa
open Go
set_option linter.all false
set_option linter.unusedVariables false
set_option linter.unusedSimpArgs false
set_option linter.defProp false
set_option maxRecDepth 1000000

theorem c_Clone_int {h : Heap} {a : Value} {x : List Int} (Ra : Rep h a x) (hs : x.length ≤ 1073741824) : CallE Try.prog fn_slices_Clone_S_int_int [a] h (fun v h' => HS h [ow v x] h') := by
  refine CallE.gen fun k hk => EN_slices_Clone_S_int_int rfl ?_
  obtain ⟨b, hb, hb2⟩ := Ra.isNil
  simp -implicitDefEqProofs (disch := first | omega | (simp only [List.length_set, List.length_replicate, List.length_append, List.length_map, List.length_take, List.length_cons, List.length_nil]; omega)) [wrap64, hb]
  refine IteW.mk (fun h1 => ?_) (fun h1 => ?_)
  · simp -implicitDefEqProofs (disch := first | omega | (simp only [List.length_set, List.length_replicate, List.length_append, List.length_map, List.length_take, List.length_cons, List.length_nil]; omega)) [wrap64]
    have h2 : x = [] := hb2 h1
    subst h2
    exact RetK.keep (hk _ _ HS.init.nil_ow)
  · simp -implicitDefEqProofs (disch := first | omega | (simp only [List.length_set, List.length_replicate, List.length_append, List.length_map, List.length_take, List.length_cons, List.length_nil]; omega)) [wrap64]
    refine HS.init.appPL (α := Int) (l2 := x) (u := a) rfl rfl Ra rfl rfl (by omega) fun v h1 H => ?_
    simp -implicitDefEqProofs (disch := first | omega | (simp only [List.length_set, List.length_replicate, List.length_append, List.length_map, List.length_take, List.length_cons, List.length_nil]; omega)) [wrap64]
    exact RetK.keep (hk _ _ H)

theorem c_Clip_int {g h : Heap} {Γ : List HP} {a : Value} {x : List Int} (H : HS g (ow a x :: Γ) h) : CallE Try.prog fn_slices_Clip_S_int_int [a] h (fun v h' => HS g (ow v x :: Γ) h') := by
  refine CallE.gen fun k hk => EN_slices_Clip_S_int_int rfl ?_
  obtain ⟨v', h1, h2⟩ := H.clip (esz := 1) (k := .i64)
  simp -implicitDefEqProofs (disch := first | omega | (simp only [List.length_set, List.length_replicate, List.length_append, List.length_map, List.length_take, List.length_cons, List.length_nil]; omega)) [wrap64, H.rep.I, h1]
  exact RetK.keep (hk _ _ h2)

theorem c_clone_int {h : Heap} {a : Value} {x : List Int} (Ra : Rep h a x) (hs : x.length ≤ 1073741824) : CallE Try.prog fn_impl_clone_int [a] h (fun v h' => HS h [ow v x] h') := by
  refine CallE.gen fun k hk => EN_impl_clone_int rfl ?_
  simp -implicitDefEqProofs (disch := first | omega | (simp only [List.length_set, List.length_replicate, List.length_append, List.length_map, List.length_take, List.length_cons, List.length_nil]; omega)) [wrap64]
  refine (c_Clone_int Ra hs).go ?_
  intro v h1 H
  simp -implicitDefEqProofs (disch := first | omega | (simp only [List.length_set, List.length_replicate, List.length_append, List.length_map, List.length_take, List.length_cons, List.length_nil]; omega)) [wrap64]
  refine (c_Clip_int H).go ?_
  intro v' h2 H
  simp -implicitDefEqProofs (disch := first | omega | (simp only [List.length_set, List.length_replicate, List.length_append, List.length_map, List.length_take, List.length_cons, List.length_nil]; omega)) [wrap64]
  exact RetK.keep (hk _ _ H)

theorem c_Clone_bool {h : Heap} {a : Value} {x : List Bool} (Ra : Rep h a x) (hs : x.length ≤ 1073741824) : CallE Try.prog fn_slices_Clone_S_bool_bool [a] h (fun v h' => HS h [ow v x] h') := by
  refine CallE.gen fun k hk => EN_slices_Clone_S_bool_bool rfl ?_
  obtain ⟨b, hb, hb2⟩ := Ra.isNil
  simp -implicitDefEqProofs (disch := first | omega | (simp only [List.length_set, List.length_replicate, List.length_append, List.length_map, List.length_take, List.length_cons, List.length_nil]; omega)) [wrap64, hb]
  refine IteW.mk (fun h1 => ?_) (fun h1 => ?_)
  · simp -implicitDefEqProofs (disch := first | omega | (simp only [List.length_set, List.length_replicate, List.length_append, List.length_map, List.length_take, List.length_cons, List.length_nil]; omega)) [wrap64]
    have h2 : x = [] := hb2 h1
    subst h2
    exact RetK.keep (hk _ _ HS.init.nil_ow)
  · simp -implicitDefEqProofs (disch := first | omega | (simp only [List.length_set, List.length_replicate, List.length_append, List.length_map, List.length_take, List.length_cons, List.length_nil]; omega)) [wrap64]
    refine HS.init.appPL (α := Bool) (l2 := x) (u := a) rfl rfl Ra rfl rfl (by omega) fun v h1 H => ?_
    simp -implicitDefEqProofs (disch := first | omega | (simp only [List.length_set, List.length_replicate, List.length_append, List.length_map, List.length_take, List.length_cons, List.length_nil]; omega)) [wrap64]
    exact RetK.keep (hk _ _ H)

theorem c_Clip_bool {g h : Heap} {Γ : List HP} {a : Value} {x : List Bool} (H : HS g (ow a x :: Γ) h) : CallE Try.prog fn_slices_Clip_S_bool_bool [a] h (fun v h' => HS g (ow v x :: Γ) h') := by
  refine CallE.gen fun k hk => EN_slices_Clip_S_bool_bool rfl ?_
  obtain ⟨v', h1, h2⟩ := H.clip (esz := 1) (k := .i64)
  simp -implicitDefEqProofs (disch := first | omega | (simp only [List.length_set, List.length_replicate, List.length_append, List.length_map, List.length_take, List.length_cons, List.length_nil]; omega)) [wrap64, H.rep.B, h1]
  exact RetK.keep (hk _ _ h2)

theorem c_clone_bool {h : Heap} {a : Value} {x : List Bool} (Ra : Rep h a x) (hs : x.length ≤ 1073741824) : CallE Try.prog fn_impl_clone_bool [a] h (fun v h' => HS h [ow v x] h') := by
  refine CallE.gen fun k hk => EN_impl_clone_bool rfl ?_
  simp -implicitDefEqProofs (disch := first | omega | (simp only [List.length_set, List.length_replicate, List.length_append, List.length_map, List.length_take, List.length_cons, List.length_nil]; omega)) [wrap64]
  refine (c_Clone_bool Ra hs).go ?_
  intro v h1 H
  simp -implicitDefEqProofs (disch := first | omega | (simp only [List.length_set, List.length_replicate, List.length_append, List.length_map, List.length_take, List.length_cons, List.length_nil]; omega)) [wrap64]
  refine (c_Clip_bool H).go ?_
  intro v' h2 H
  simp -implicitDefEqProofs (disch := first | omega | (simp only [List.length_set, List.length_replicate, List.length_append, List.length_map, List.length_take, List.length_cons, List.length_nil]; omega)) [wrap64]
  exact RetK.keep (hk _ _ H)

theorem c_Clone_impl_Transition {h : Heap} {a : Value} {x : List Tr} (Ra : Rep h a x) (hs : x.length ≤ 1073741824) : CallE Try.prog fn_slices_Clone_S_impl_Transition_impl_Transition [a] h (fun v h' => HS h [ow v x] h') := by
  refine CallE.gen fun k hk => EN_slices_Clone_S_impl_Transition_impl_Transition rfl ?_
  obtain ⟨b, hb, hb2⟩ := Ra.isNil
  simp -implicitDefEqProofs (disch := first | omega | (simp only [List.length_set, List.length_replicate, List.length_append, List.length_map, List.length_take, List.length_cons, List.length_nil]; omega)) [wrap64, hb]
  refine IteW.mk (fun h1 => ?_) (fun h1 => ?_)
  · simp -implicitDefEqProofs (disch := first | omega | (simp only [List.length_set, List.length_replicate, List.length_append, List.length_map, List.length_take, List.length_cons, List.length_nil]; omega)) [wrap64]
    have h2 : x = [] := hb2 h1
    subst h2
    exact RetK.keep (hk _ _ HS.init.nil_ow)
  · simp -implicitDefEqProofs (disch := first | omega | (simp only [List.length_set, List.length_replicate, List.length_append, List.length_map, List.length_take, List.length_cons, List.length_nil]; omega)) [wrap64]
    refine HS.init.appPL (α := Tr) (l2 := x) (u := a) rfl rfl Ra rfl rfl (by omega) fun v h1 H => ?_
    simp -implicitDefEqProofs (disch := first | omega | (simp only [List.length_set, List.length_replicate, List.length_append, List.length_map, List.length_take, List.length_cons, List.length_nil]; omega)) [wrap64]
    exact RetK.keep (hk _ _ H)

theorem c_Clip_impl_Transition {g h : Heap} {Γ : List HP} {a : Value} {x : List Tr} (H : HS g (ow a x :: Γ) h) : CallE Try.prog fn_slices_Clip_S_impl_Transition_impl_Transition [a] h (fun v h' => HS g (ow v x :: Γ) h') := by
  refine CallE.gen fun k hk => EN_slices_Clip_S_impl_Transition_impl_Transition rfl ?_
  obtain ⟨v', h1, h2⟩ := H.clip (esz := 4) (k := .i64)
  simp -implicitDefEqProofs (disch := first | omega | (simp only [List.length_set, List.length_replicate, List.length_append, List.length_map, List.length_take, List.length_cons, List.length_nil]; omega)) [wrap64, H.rep.xTr, h1]
  exact RetK.keep (hk _ _ h2)

theorem c_clone_impl_Transition {h : Heap} {a : Value} {x : List Tr} (Ra : Rep h a x) (hs : x.length ≤ 1073741824) : CallE Try.prog fn_impl_clone_impl_Transition [a] h (fun v h' => HS h [ow v x] h') := by
  refine CallE.gen fun k hk => EN_impl_clone_impl_Transition rfl ?_
  simp -implicitDefEqProofs (disch := first | omega | (simp only [List.length_set, List.length_replicate, List.length_append, List.length_map, List.length_take, List.length_cons, List.length_nil]; omega)) [wrap64]
  refine (c_Clone_impl_Transition Ra hs).go ?_
  intro v h1 H
  simp -implicitDefEqProofs (disch := first | omega | (simp only [List.length_set, List.length_replicate, List.length_append, List.length_map, List.length_take, List.length_cons, List.length_nil]; omega)) [wrap64]
  refine (c_Clip_impl_Transition H).go ?_
  intro v' h2 H
  simp -implicitDefEqProofs (disch := first | omega | (simp only [List.length_set, List.length_replicate, List.length_append, List.length_map, List.length_take, List.length_cons, List.length_nil]; omega)) [wrap64]
  exact RetK.keep (hk _ _ H)

theorem c_IndexFunc_impl_Transition {h : Heap} {a fv : Value} {x : List Tr} (Ra : Rep h a x) {f : FuncId} {c1 c2 : List Value} (hf : fnOf fv = some (f, c1, c2)) (p : Tr → Bool)
    (hp : ∀ h1, h.le h1 → ∀ (i : Nat) (hi : i < x.length) (u : Value), Rep h1 u x[i] → CallE Try.prog f (c1 ++ u :: c2) h1 (fun v h' => h1.le h' ∧ v = .bool (p x[i]))) :
    CallE Try.prog fn_slices_IndexFunc_S_impl_Transition_impl_Transition [a, fv] h (fun v h' => h.le h' ∧ v = .int .i64 (match x.findIdx? p with | some i => (i : Int) | none => -1)) := by
  refine CallE.gen fun k hk => EN_slices_IndexFunc_S_impl_Transition_impl_Transition rfl ?_
  have hL := Ra.lt
  simp -implicitDefEqProofs (disch := first | omega | (simp only [List.length_set, List.length_replicate, List.length_append, List.length_map, List.length_take, List.length_cons, List.length_nil]; omega)) [wrap64, Ra.len]
  refine wp_count x.length (fun i e h' => e = [some a, some fv, none, none, some (.int .i64 x.length), some (.int .i64 i)] ∧ h.le h' ∧ ∀ (j : Nat) (hj : j < x.length), j < i → p x[j] = false) ⟨rfl, Heap.le.refl h, fun j _ hj => absurd hj (Nat.not_lt_zero j)⟩ ?_
  rintro J i _ h1 hJ hi ⟨rfl, hl, hn⟩
  simp -implicitDefEqProofs (disch := first | omega | (simp only [List.length_set, List.length_replicate, List.length_append, List.length_map, List.length_take, List.length_cons, List.length_nil]; omega)) [wrap64]
  refine IteW.mk (fun hlt => ?_) (fun hge => ?_)
  · have hlx : i < x.length := by omega
    obtain ⟨u, hu, Ru⟩ := (Ra.le hl).ld hlx
    change hload _ (some (elp 4 a i)) (some 4) = some u at hu
    simp -implicitDefEqProofs (disch := first | omega | (simp only [List.length_set, List.length_replicate, List.length_append, List.length_map, List.length_take, List.length_cons, List.length_nil]; omega)) [wrap64, (Ra.le hl).X (n := 4) rfl, hu, hf]
    refine (hp h1 hl i hlx u Ru).go ?_
    rintro _ h2 ⟨hl2, rfl⟩
    simp -implicitDefEqProofs (disch := first | omega | (simp only [List.length_set, List.length_replicate, List.length_append, List.length_map, List.length_take, List.length_cons, List.length_nil]; omega)) [wrap64]
    refine IteW.mk (fun hq => ?_) (fun hq => ?_)
    · simp -implicitDefEqProofs (disch := first | omega | (simp only [List.length_set, List.length_replicate, List.length_append, List.length_map, List.length_take, List.length_cons, List.length_nil]; omega)) [wrap64]
      refine RetK.keep (hk _ _ ⟨hl.trans hl2, ?_⟩)
      have h3 : x.findIdx? p = some i := by
        rw [List.findIdx?_eq_some_iff_getElem]
        exact ⟨hlx, hq, fun j hj => by rw [hn j (by omega) hj]; simp⟩
      rw [h3]
    · simp -implicitDefEqProofs (disch := first | omega | (simp only [List.length_set, List.length_replicate, List.length_append, List.length_map, List.length_take, List.length_cons, List.length_nil]; omega)) [wrap64]
      refine hJ _ _ hlx ⟨rfl, hl.trans hl2, fun j hj hji => ?_⟩
      by_cases hji2 : j = i
      · subst hji2; simpa using hq
      · exact hn j hj (by omega)
  · simp -implicitDefEqProofs (disch := first | omega | (simp only [List.length_set, List.length_replicate, List.length_append, List.length_map, List.length_take, List.length_cons, List.length_nil]; omega)) [wrap64]
    refine RetK.keep (hk _ _ ⟨hl, ?_⟩)
    have h3 : x.findIdx? p = none := by
      rw [List.findIdx?_eq_none_iff]
      intro y hy
      obtain ⟨j, hj, rfl⟩ := List.mem_iff_getElem.1 hy
      exact hn j hj (by omega)
    rw [h3]

theorem c_ContainsFunc_impl_Transition {h : Heap} {a fv : Value} {x : List Tr} (Ra : Rep h a x) {f : FuncId} {c1 c2 : List Value} (hf : fnOf fv = some (f, c1, c2)) (p : Tr → Bool)
    (hp : ∀ h1, h.le h1 → ∀ (i : Nat) (hi : i < x.length) (u : Value), Rep h1 u x[i] → CallE Try.prog f (c1 ++ u :: c2) h1 (fun v h' => h1.le h' ∧ v = .bool (p x[i]))) :
    CallE Try.prog fn_slices_ContainsFunc_S_impl_Transition_impl_Transition [a, fv] h (fun v h' => h.le h' ∧ v = .bool (x.any p)) := by
  refine CallE.gen fun k hk => EN_slices_ContainsFunc_S_impl_Transition_impl_Transition rfl ?_
  simp -implicitDefEqProofs (disch := first | omega | (simp only [List.length_set, List.length_replicate, List.length_append, List.length_map, List.length_take, List.length_cons, List.length_nil]; omega)) [wrap64]
  refine (c_IndexFunc_impl_Transition Ra hf p hp).go ?_
  rintro _ h1 ⟨hl, rfl⟩
  simp -implicitDefEqProofs (disch := first | omega | (simp only [List.length_set, List.length_replicate, List.length_append, List.length_map, List.length_take, List.length_cons, List.length_nil]; omega)) [wrap64]
  refine RetK.keep (hk _ _ ⟨hl, ?_⟩)
  congr 1
  rw [← List.findIdx?_isSome]
  cases x.findIdx? p <;> simp

end Go.Proofs.Ytglnelcmcimljaa

/-
  Automata: copies, validity, unions, by the program and by the reference.
-/
namespace Go.Proofs.Ytglnelcmcimljaa
open Go
set_option linter.all false
set_option linter.unusedVariables false
set_option linter.unusedSimpArgs false
set_option linter.defProp false
set_option maxRecDepth 1000000

theorem empty_ow {g h : Heap} {Γ : List HP} (H : HS g Γ h) : HS g (ow (.agg #[.slice none 0 0, .slice none 0 0, .slice none 0 0]) Aut.empty :: Γ) h :=
  HS.mkAut (a := Aut.empty) H.nil_ow.nil_ow.nil_ow

theorem c_copyOf {h : Heap} {v : Value} {a : Aut} (Ra : Rep h v a) (h1 : a.init.length ≤ 1073741824) (h2 : a.acc.length ≤ 1073741824) (h3 : a.edges.length ≤ 1073741824) : CallE Try.prog fn_impl_Automaton_copyOf [v] h (fun v h' => HS h [ow v a] h') := by
  obtain ⟨v1, v2, v3, rfl, R1, R2, R3⟩ := Rep_Aut.1 Ra
  refine CallE.gen fun k hk => EN_impl_Automaton_copyOf rfl ?_
  simp -implicitDefEqProofs (disch := first | omega | (simp only [List.length_set, List.length_replicate, List.length_append, List.length_map, List.length_take, List.length_cons, List.length_nil]; omega)) [wrap64]
  refine (c_clone_int R1 h1).go ?_
  intro u1 m1 H
  simp -implicitDefEqProofs (disch := first | omega | (simp only [List.length_set, List.length_replicate, List.length_append, List.length_map, List.length_take, List.length_cons, List.length_nil]; omega)) [wrap64]
  refine (c_clone_bool (R2.on H) h2).go ?_
  intro u2 m2 H2
  have H := H2.app H
  simp -implicitDefEqProofs (disch := first | omega | (simp only [List.length_set, List.length_replicate, List.length_append, List.length_map, List.length_take, List.length_cons, List.length_nil]; omega)) [wrap64]
  refine (c_clone_impl_Transition (R3.on H) h3).go ?_
  intro u3 m3 H3
  have H := H3.app H
  simp -implicitDefEqProofs (disch := first | omega | (simp only [List.length_set, List.length_replicate, List.length_append, List.length_map, List.length_take, List.length_cons, List.length_nil]; omega)) [wrap64, H.rep.cells, H.rep.one, H.sw1.rep.cells, H.sw1.rep.one, H.sw2.rep.cells, H.sw2.rep.one, setC]
  exact RetK.keep (hk _ _ (HS.mkAut H.sw1.sw2))

theorem c_in {h : Heap} {n lo hi : Int} : CallE Try.prog fn_impl_in [.int .i64 n, .int .i64 lo, .int .i64 hi] h (fun u h' => h' = h ∧ u = .bool (decide (lo ≤ n ∧ n ≤ hi))) := by
  refine CallE.gen fun k hk => EN_impl_in rfl ?_
  by_cases h1 : lo ≤ n
  · simp -implicitDefEqProofs (disch := first | omega | (simp only [List.length_set, List.length_replicate, List.length_append, List.length_map, List.length_take, List.length_cons, List.length_nil]; omega)) [wrap64, h1]
    exact RetK.keep (hk _ _ ⟨rfl, by simp [h1]⟩)
  · simp -implicitDefEqProofs (disch := first | omega | (simp only [List.length_set, List.length_replicate, List.length_append, List.length_map, List.length_take, List.length_cons, List.length_nil]; omega)) [wrap64, h1]
    exact RetK.keep (hk _ _ ⟨rfl, by simp [h1]⟩)

theorem c_l7Edge {h : Heap} {v : Value} {t : Tr} (Rt : Rep h v t) {n : Int} : CallE Try.prog fn_spec_l7Edge [v, .int .i64 n] h (fun u h' => h' = h ∧ u = .bool (decide (t.Ok n))) := by
  rw [(Rep_Tr.1 Rt).1]
  refine CallE.gen fun k hk => EN_spec_l7Edge rfl ?_
  unfold Tr.Ok at hk
  by_cases h1 : 0 ≤ t.frm
  case neg => simp -implicitDefEqProofs (disch := first | omega | (simp only [List.length_set, List.length_replicate, List.length_append, List.length_map, List.length_take, List.length_cons, List.length_nil]; omega)) [wrap64, Tr.v, h1]; exact RetK.keep (hk _ _ ⟨rfl, by simp [h1]⟩)
  by_cases h2 : t.frm < n
  case neg => simp -implicitDefEqProofs (disch := first | omega | (simp only [List.length_set, List.length_replicate, List.length_append, List.length_map, List.length_take, List.length_cons, List.length_nil]; omega)) [wrap64, Tr.v, h1, h2]; exact RetK.keep (hk _ _ ⟨rfl, by simp [h2]⟩)
  by_cases h3 : 0 ≤ t.to
  case neg => simp -implicitDefEqProofs (disch := first | omega | (simp only [List.length_set, List.length_replicate, List.length_append, List.length_map, List.length_take, List.length_cons, List.length_nil]; omega)) [wrap64, Tr.v, h1, h2, h3]; exact RetK.keep (hk _ _ ⟨rfl, by simp [h3]⟩)
  by_cases h4 : t.to < n
  case neg => simp -implicitDefEqProofs (disch := first | omega | (simp only [List.length_set, List.length_replicate, List.length_append, List.length_map, List.length_take, List.length_cons, List.length_nil]; omega)) [wrap64, Tr.v, h1, h2, h3, h4]; exact RetK.keep (hk _ _ ⟨rfl, by simp [h4]⟩)
  by_cases h5 : 0 ≤ t.care
  case neg => simp -implicitDefEqProofs (disch := first | omega | (simp only [List.length_set, List.length_replicate, List.length_append, List.length_map, List.length_take, List.length_cons, List.length_nil]; omega)) [wrap64, Tr.v, h1, h2, h3, h4, h5]; exact RetK.keep (hk _ _ ⟨rfl, by simp [h5]⟩)
  by_cases h6 : t.care ≤ 7
  case neg => simp -implicitDefEqProofs (disch := first | omega | (simp only [List.length_set, List.length_replicate, List.length_append, List.length_map, List.length_take, List.length_cons, List.length_nil]; omega)) [wrap64, Tr.v, h1, h2, h3, h4, h5, h6]; exact RetK.keep (hk _ _ ⟨rfl, by simp [h6]⟩)
  by_cases h7 : 0 ≤ t.value
  case neg => simp -implicitDefEqProofs (disch := first | omega | (simp only [List.length_set, List.length_replicate, List.length_append, List.length_map, List.length_take, List.length_cons, List.length_nil]; omega)) [wrap64, Tr.v, h1, h2, h3, h4, h5, h6, h7]; exact RetK.keep (hk _ _ ⟨rfl, by simp [h7]⟩)
  simp -implicitDefEqProofs (disch := first | omega | (simp only [List.length_set, List.length_replicate, List.length_append, List.length_map, List.length_take, List.length_cons, List.length_nil]; omega)) [wrap64, Tr.v, h1, h2, h3, h4, h5, h6, h7]
  exact RetK.keep (hk _ _ ⟨rfl, by simp [h1, h2, h3, h4, h5, h6, h7]⟩)

end Go.Proofs.Ytglnelcmcimljaa

/-
  Which automata are valid, by the program and by the reference.
-/
namespace Go.Proofs.Ytglnelcmcimljaa
open Go
set_option linter.all false
set_option linter.unusedVariables false
set_option linter.unusedSimpArgs false
set_option linter.defProp false
set_option maxRecDepth 1000000

/-- the two ways to say that a number's bits are among another's -/
theorem i64_toInt (x : BitVec 64) : IntKind.i64.wrap (x.toNat : Int) = x.toInt := by
  rw [IntKind.wrap_i64, BitVec.toInt_eq_toNat_bmod, Int.bmod_def]
  have := x.isLt
  split <;> omega
theorem ofInt_toInt {v : Int} (h1 : -9223372036854775808 ≤ v) (h2 : v < 9223372036854775808) : (BitVec.ofInt 64 v).toInt = v := by
  rw [BitVec.toInt_ofInt, Int.bmod_def]; split <;> omega
theorem bits_in {v c : Int} (h1 : -9223372036854775808 ≤ v) (h2 : v < 9223372036854775808) : andNotI .i64 v c = 0 ↔ andI .i64 v c = v := by
  show IntKind.i64.wrap ((BitVec.ofInt 64 v &&& ~~~ BitVec.ofInt 64 c).toNat : Int) = 0 ↔ IntKind.i64.wrap ((BitVec.ofInt 64 v &&& BitVec.ofInt 64 c).toNat : Int) = v
  have hv := ofInt_toInt h1 h2
  rw [i64_toInt, i64_toInt]
  generalize BitVec.ofInt 64 v = x at *
  generalize BitVec.ofInt 64 c = y at *
  subst hv
  rw [BitVec.toInt_inj, show (0 : Int) = (0#64).toInt from rfl, BitVec.toInt_inj]
  constructor
  · intro h
    apply BitVec.eq_of_getLsbD_eq
    intro i hi
    have h3 := congrArg (fun z => z.getLsbD i) h
    simp only [BitVec.getLsbD_and, BitVec.getLsbD_not, hi, decide_true, Bool.true_and, BitVec.getLsbD_zero] at h3
    rw [BitVec.getLsbD_and]
    cases h4 : x.getLsbD i <;> cases h5 : y.getLsbD i <;> simp_all
  · intro h
    apply BitVec.eq_of_getLsbD_eq
    intro i hi
    have h3 := congrArg (fun z => z.getLsbD i) h
    simp only [BitVec.getLsbD_and] at h3
    rw [BitVec.getLsbD_and, BitVec.getLsbD_not, BitVec.getLsbD_zero]
    cases h4 : x.getLsbD i <;> cases h5 : y.getLsbD i <;> simp_all

theorem c_AutomatonValid_1 {h : Heap} {v : Value} {t : Tr} (Rt : Rep h v t) {b : Nat} {n : Int} (hn : 1 ≤ n ∧ n < 4611686018427387904) (hb : hload h (some (.pointer (some ⟨b, 0, none⟩))) none = some (.int .i64 n)) :
    CallE Try.prog fn_impl_AutomatonValid_1 [v, .pointer (some ⟨b, 0, none⟩)] h (fun u h' => h' = h ∧ u = .bool (!decide (t.Ok n))) := by
  have ht := (Rep_Tr.1 Rt).2
  rw [(Rep_Tr.1 Rt).1]
  have e0 := ht.value
  refine CallE.gen fun k hk => EN_impl_AutomatonValid_1 rfl ?_
  simp -implicitDefEqProofs (disch := first | omega | (simp only [List.length_set, List.length_replicate, List.length_append, List.length_map, List.length_take, List.length_cons, List.length_nil]; omega)) [wrap64, Tr.v, hb]
  refine c_in.go ?_
  rintro _ _ ⟨rfl, rfl⟩
  by_cases h1 : 0 ≤ t.frm ∧ t.frm ≤ n - 1
  case neg =>
    simp -implicitDefEqProofs (disch := first | omega | (simp only [List.length_set, List.length_replicate, List.length_append, List.length_map, List.length_take, List.length_cons, List.length_nil]; omega)) [wrap64, h1]
    have hno : ¬ t.Ok n := fun ho => h1 (by unfold Tr.Ok at ho; omega)
    exact RetK.keep (hk _ _ ⟨rfl, by simp [hno]⟩)
  simp -implicitDefEqProofs (disch := first | omega | (simp only [List.length_set, List.length_replicate, List.length_append, List.length_map, List.length_take, List.length_cons, List.length_nil]; omega)) [wrap64, h1, hb]
  refine c_in.go ?_
  rintro _ _ ⟨rfl, rfl⟩
  by_cases h2 : 0 ≤ t.to ∧ t.to ≤ n - 1
  case neg =>
    simp -implicitDefEqProofs (disch := first | omega | (simp only [List.length_set, List.length_replicate, List.length_append, List.length_map, List.length_take, List.length_cons, List.length_nil]; omega)) [wrap64, h2]
    have hno : ¬ t.Ok n := fun ho => h2 (by unfold Tr.Ok at ho; omega)
    exact RetK.keep (hk _ _ ⟨rfl, by simp [hno]⟩)
  simp -implicitDefEqProofs (disch := first | omega | (simp only [List.length_set, List.length_replicate, List.length_append, List.length_map, List.length_take, List.length_cons, List.length_nil]; omega)) [wrap64, h2]
  refine c_in.go ?_
  rintro _ _ ⟨rfl, rfl⟩
  by_cases h3 : 0 ≤ t.care ∧ t.care ≤ 7
  case neg =>
    simp -implicitDefEqProofs (disch := first | omega | (simp only [List.length_set, List.length_replicate, List.length_append, List.length_map, List.length_take, List.length_cons, List.length_nil]; omega)) [wrap64, h3]
    have hno : ¬ t.Ok n := fun ho => h3 (by unfold Tr.Ok at ho; omega)
    exact RetK.keep (hk _ _ ⟨rfl, by simp [hno]⟩)
  by_cases h4 : t.value < 0
  case pos =>
    simp -implicitDefEqProofs (disch := first | omega | (simp only [List.length_set, List.length_replicate, List.length_append, List.length_map, List.length_take, List.length_cons, List.length_nil]; omega)) [wrap64, h3, h4]
    have hno : ¬ t.Ok n := fun ho => by unfold Tr.Ok at ho; omega
    exact RetK.keep (hk _ _ ⟨rfl, by simp [hno]⟩)
  simp -implicitDefEqProofs (disch := first | omega | (simp only [List.length_set, List.length_replicate, List.length_append, List.length_map, List.length_take, List.length_cons, List.length_nil]; omega)) [wrap64, h3, h4]
  refine RetK.keep (hk _ _ ⟨rfl, ?_⟩)
  have h5 := bits_in (c := t.care) e0.1 e0.2
  by_cases h6 : andNotI .i64 t.value t.care = 0
  · have hyes : t.Ok n := ⟨by omega, by omega, by omega, by omega, by omega, by omega, by omega, h5.1 h6⟩
    simp [h6, hyes]
  · have hno : ¬ t.Ok n := fun h => h6 (h5.2 h.2.2.2.2.2.2.2)
    simp [h6, hno]

theorem drop_cons {α : Type} {l : List α} {i : Nat} (hi : i < l.length) : l.drop i = l[i] :: l.drop (i + 1) := List.drop_eq_getElem_cons hi

theorem incr_cons {n lo x : Int} {l : List Int} : incr n lo (x :: l) ↔ lo < x ∧ x < n ∧ incr n x l := Iff.rfl

theorem c_AutomatonValid {h : Heap} {v : Value} {a : Aut} (Ra : Rep h v a) : CallE Try.prog fn_impl_AutomatonValid [v] h (fun u h' => h.le h' ∧ u = .bool (decide a.Ok)) := by
  obtain ⟨v1, v2, v3, rfl, R1, R2, R3⟩ := Rep_Aut.1 Ra
  refine CallE.gen fun k hk => EN_impl_AutomatonValid rfl ?_
  have l1 := R1.lt
  have l2 := R2.lt
  simp -implicitDefEqProofs (disch := first | omega | (simp only [List.length_set, List.length_replicate, List.length_append, List.length_map, List.length_take, List.length_cons, List.length_nil]; omega)) [wrap64, R1.len, R2.len, R3.len]
  refine HS.init.alloc rfl fun b h1 H => ?_
  simp -implicitDefEqProofs (disch := first | omega | (simp only [List.length_set, List.length_replicate, List.length_append, List.length_map, List.length_take, List.length_cons, List.length_nil]; omega)) [wrap64]
  refine H.bxst (u := .int .i64 a.acc.length) rfl rfl rfl rfl (by simp) fun h2 H => ?_
  simp only [setC, cells_int, List.take_zero, List.nil_append] at H
  simp -implicitDefEqProofs (disch := first | omega | (simp only [List.length_set, List.length_replicate, List.length_append, List.length_map, List.length_take, List.length_cons, List.length_nil]; omega)) [wrap64, R1.len, R2.len, R3.len]
  have H : HS h [bx b [.int .i64 a.acc.length]] h2 := H
  refine wp_count a.init.length (fun i e h' => h' = h2 ∧ ∃ last : Int, e = [none, some (.agg #[v1, v2, v3]), none, some (.pointer (some ⟨b, 0, none⟩)), some (.int .i64 last), none, some v1, some (.int .i64 a.init.length), some (.int .i64 i)] ∧
      -1 ≤ last ∧ last < 4611686018427387904 ∧ (incr a.acc.length (-1) a.init ↔ incr a.acc.length last (a.init.drop i))) ⟨rfl, -1, rfl, by omega, by omega, by simp⟩ ?_
  rintro J i _ _ hJ hi ⟨rfl, last, rfl, hl1, hl2, hin⟩
  simp -implicitDefEqProofs (disch := first | omega | (simp only [List.length_set, List.length_replicate, List.length_append, List.length_map, List.length_take, List.length_cons, List.length_nil]; omega)) [wrap64]
  refine IteW.mk (fun hlt => ?_) (fun hge => ?_)
  · have hlx : i < a.init.length := by omega
    simp -implicitDefEqProofs (disch := first | omega | (simp only [List.length_set, List.length_replicate, List.length_append, List.length_map, List.length_take, List.length_cons, List.length_nil]; omega)) [wrap64, (R1.on H).I, H.bxld0]
    refine c_in.go ?_
    rintro _ _ ⟨rfl, rfl⟩
    simp -implicitDefEqProofs (disch := first | omega | (simp only [List.length_set, List.length_replicate, List.length_append, List.length_map, List.length_take, List.length_cons, List.length_nil]; omega)) [wrap64]
    rw [drop_cons hlx, incr_cons] at hin
    refine IteW.mk (fun hn => ?_) (fun hn => ?_)
    · simp -implicitDefEqProofs (disch := first | omega | (simp only [List.length_set, List.length_replicate, List.length_append, List.length_map, List.length_take, List.length_cons, List.length_nil]; omega)) [wrap64]
      refine RetK.keep (hk _ _ ⟨H.base, ?_⟩)
      have : ¬ a.Ok := by
        intro ho
        have := hin.1 ho.i
        omega
      simp [this]
    · simp -implicitDefEqProofs (disch := first | omega | (simp only [List.length_set, List.length_replicate, List.length_append, List.length_map, List.length_take, List.length_cons, List.length_nil]; omega)) [wrap64]
      exact hJ _ _ hlx ⟨rfl, _, rfl, by omega, by omega, hin.trans ⟨fun h => h.2.2, fun h => ⟨by omega, by omega, h⟩⟩⟩
  · simp -implicitDefEqProofs (disch := first | omega | (simp only [List.length_set, List.length_replicate, List.length_append, List.length_map, List.length_take, List.length_cons, List.length_nil]; omega)) [wrap64, H.bxld0]
    have hin : incr a.acc.length (-1) a.init := hin.2 (by rw [List.drop_eq_nil_of_le (by omega)]; trivial)
    refine c_in.go ?_
    rintro _ _ ⟨rfl, rfl⟩
    by_cases hn : 1 ≤ (a.acc.length : Int) ∧ (a.acc.length : Int) ≤ 64
    case neg =>
      simp -implicitDefEqProofs (disch := first | omega | (simp only [List.length_set, List.length_replicate, List.length_append, List.length_map, List.length_take, List.length_cons, List.length_nil]; omega)) [wrap64, hn]
      refine RetK.keep (hk _ _ ⟨H.base, ?_⟩)
      have : ¬ a.Ok := fun ho => hn (by have := ho.n; omega)
      simp [this]
    by_cases he : (a.edges.length : Int) ≤ 2048
    case neg =>
      simp -implicitDefEqProofs (disch := first | omega | (simp only [List.length_set, List.length_replicate, List.length_append, List.length_map, List.length_take, List.length_cons, List.length_nil]; omega)) [wrap64, hn, he, R3.len]
      refine RetK.keep (hk _ _ ⟨H.base, ?_⟩)
      have : ¬ a.Ok := fun ho => he (by have := ho.e; omega)
      simp [this]
    simp -implicitDefEqProofs (disch := first | omega | (simp only [List.length_set, List.length_replicate, List.length_append, List.length_map, List.length_take, List.length_cons, List.length_nil]; omega)) [wrap64, hn, he, R3.len]
    refine (c_ContainsFunc_impl_Transition (R3.on H) (c1 := []) (fnOf_func) (fun t => !decide (t.Ok a.acc.length)) ?_).go ?_
    · intro h3 hl j hj u Ru
      exact (c_AutomatonValid_1 Ru (by omega) (hload_le hl H.bxld0)).to fun _ _ ⟨h4, h5⟩ => ⟨h4 ▸ Heap.le.refl _, h5⟩
    · rintro _ h3 ⟨hl, rfl⟩
      simp -implicitDefEqProofs (disch := first | omega | (simp only [List.length_set, List.length_replicate, List.length_append, List.length_map, List.length_take, List.length_cons, List.length_nil]; omega)) [wrap64]
      refine RetK.keep (hk _ _ ⟨H.base.trans hl, ?_⟩)
      congr 1
      have hnn : 1 ≤ a.acc.length ∧ a.acc.length ≤ 64 := by omega
      have hee : a.edges.length ≤ 2048 := by omega
      simp only [Aut.Ok, hnn, hee, hin, true_and]
      rw [Bool.eq_iff_iff]
      simp

theorem c_spec_AutomatonValid {h : Heap} {v : Value} {a : Aut} (Ra : Rep h v a) : CallE Try.prog fn_spec_AutomatonValid [v] h (fun u h' => h' = h ∧ u = .bool (decide a.Ok)) := by
  obtain ⟨v1, v2, v3, rfl, R1, R2, R3⟩ := Rep_Aut.1 Ra
  refine CallE.gen fun k hk => EN_spec_AutomatonValid rfl ?_
  have l1 := R1.lt
  have l2 := R2.lt
  have l3 := R3.lt
  simp -implicitDefEqProofs (disch := first | omega | (simp only [List.length_set, List.length_replicate, List.length_append, List.length_map, List.length_take, List.length_cons, List.length_nil]; omega)) [wrap64, R1.len, R2.len, R3.len]
  by_cases h1 : (a.acc.length : Int) < 1
  case pos =>
    simp -implicitDefEqProofs (disch := first | omega | (simp only [List.length_set, List.length_replicate, List.length_append, List.length_map, List.length_take, List.length_cons, List.length_nil]; omega)) [wrap64, h1]
    have hno : ¬ a.Ok := fun ho => by have := ho.n; omega
    exact RetK.keep (hk _ _ ⟨rfl, by simp [hno]⟩)
  by_cases h2 : 64 < (a.acc.length : Int)
  case pos =>
    simp -implicitDefEqProofs (disch := first | omega | (simp only [List.length_set, List.length_replicate, List.length_append, List.length_map, List.length_take, List.length_cons, List.length_nil]; omega)) [wrap64, h1, h2]
    have hno : ¬ a.Ok := fun ho => by have := ho.n; omega
    exact RetK.keep (hk _ _ ⟨rfl, by simp [hno]⟩)
  by_cases h3 : (a.acc.length : Int) < a.init.length
  case pos =>
    simp -implicitDefEqProofs (disch := first | omega | (simp only [List.length_set, List.length_replicate, List.length_append, List.length_map, List.length_take, List.length_cons, List.length_nil]; omega)) [wrap64, h1, h2, R1.len, h3]
    have hno : ¬ a.Ok := fun ho => by
      have h1 := incr_len ho.i (by have := ho.n; omega)
      omega
    exact RetK.keep (hk _ _ ⟨rfl, by simp [hno]⟩)
  by_cases h4 : 2048 < (a.edges.length : Int)
  case pos =>
    simp -implicitDefEqProofs (disch := first | omega | (simp only [List.length_set, List.length_replicate, List.length_append, List.length_map, List.length_take, List.length_cons, List.length_nil]; omega)) [wrap64, h1, h2, R1.len, h3, R3.len, h4]
    have hno : ¬ a.Ok := fun ho => by have := ho.e; omega
    exact RetK.keep (hk _ _ ⟨rfl, by simp [hno]⟩)
  simp -implicitDefEqProofs (disch := first | omega | (simp only [List.length_set, List.length_replicate, List.length_append, List.length_map, List.length_take, List.length_cons, List.length_nil]; omega)) [wrap64, h1, h2, R1.len, h3, R3.len, h4]
  refine wp_count a.init.length (fun i e h' => h' = h ∧ e = [none, some (.agg #[v1, v2, v3]), none, some (.int .i64 a.acc.length), some (.int .i64 i), none] ∧
      (incr a.acc.length (-1) a.init ↔ incr a.acc.length (if i = 0 then -1 else a.init.getD (i - 1) 0) (a.init.drop i))) ⟨rfl, rfl, by simp⟩ ?_
  rintro J i _ _ hJ hi ⟨rfl, rfl, hin⟩
  simp -implicitDefEqProofs (disch := first | omega | (simp only [List.length_set, List.length_replicate, List.length_append, List.length_map, List.length_take, List.length_cons, List.length_nil]; omega)) [wrap64, R1.len]
  refine IteW.mk (fun hlt => ?_) (fun hge => ?_)
  · have hlx : i < a.init.length := by omega
    rw [drop_cons hlx, incr_cons] at hin
    have hgd : a.init.getD (i + 1 - 1) 0 = a.init[i] := by simp [hlx]
    by_cases h5 : a.init[i] < 0
    case pos =>
      simp -implicitDefEqProofs (disch := first | omega | (simp only [List.length_set, List.length_replicate, List.length_append, List.length_map, List.length_take, List.length_cons, List.length_nil]; omega)) [wrap64, R1.I, h5]
      have hno : ¬ a.Ok := fun ho => by have := ho.im hlx; omega
      exact RetK.keep (hk _ _ ⟨rfl, by simp [hno]⟩)
    by_cases h6 : (a.acc.length : Int) ≤ a.init[i]
    case pos =>
      simp -implicitDefEqProofs (disch := first | omega | (simp only [List.length_set, List.length_replicate, List.length_append, List.length_map, List.length_take, List.length_cons, List.length_nil]; omega)) [wrap64, R1.I, h5, h6]
      have hno : ¬ a.Ok := fun ho => by have := ho.im hlx; omega
      exact RetK.keep (hk _ _ ⟨rfl, by simp [hno]⟩)
    by_cases h7 : 0 < i
    · have hj : i - 1 < a.init.length := by omega
      have hii : (i : Int) - 1 = ((i - 1 : Nat) : Int) := by omega
      have hw : IntKind.i64.wrap ((i : Int) - 1) = ((i - 1 : Nat) : Int) := by rw [wrap64 (by omega) (by omega), hii]
      have hgd2 : a.init.getD (i - 1) 0 = a.init[i - 1] := by simp [hj]
      rw [if_neg (by omega), hgd2] at hin
      simp -implicitDefEqProofs (disch := first | omega | (simp only [List.length_set, List.length_replicate, List.length_append, List.length_map, List.length_take, List.length_cons, List.length_nil]; omega)) [wrap64, R1.I, h5, h6, h7, hw]
      refine IteW.mk (fun h8 => ?_) (fun h8 => ?_)
      · simp -implicitDefEqProofs (disch := first | omega | (simp only [List.length_set, List.length_replicate, List.length_append, List.length_map, List.length_take, List.length_cons, List.length_nil]; omega)) [wrap64]
        have hno : ¬ a.Ok := fun ho => by have := (hin.1 ho.i).1; omega
        exact RetK.keep (hk _ _ ⟨rfl, by simp [hno]⟩)
      · simp -implicitDefEqProofs (disch := first | omega | (simp only [List.length_set, List.length_replicate, List.length_append, List.length_map, List.length_take, List.length_cons, List.length_nil]; omega)) [wrap64]
        exact hJ _ _ hlx ⟨rfl, rfl, by rw [if_neg (by omega), hgd]; exact hin.trans ⟨fun h => h.2.2, fun h => ⟨by omega, by omega, h⟩⟩⟩
    · have h0 : i = 0 := by omega
      subst h0
      rw [if_pos rfl] at hin
      simp -implicitDefEqProofs (disch := first | omega | (simp only [List.length_set, List.length_replicate, List.length_append, List.length_map, List.length_take, List.length_cons, List.length_nil]; omega)) [wrap64, R1.I, h5, h6]
      exact hJ _ _ hlx ⟨rfl, rfl, by rw [if_neg (by omega), hgd]; exact hin.trans ⟨fun h => h.2.2, fun h => ⟨by omega, by omega, h⟩⟩⟩
  · have hin : incr a.acc.length (-1) a.init := hin.2 (by rw [List.drop_eq_nil_of_le (by omega)]; trivial)
    simp -implicitDefEqProofs (disch := first | omega | (simp only [List.length_set, List.length_replicate, List.length_append, List.length_map, List.length_take, List.length_cons, List.length_nil]; omega)) [wrap64]
    refine wp_count a.edges.length (fun i e h' => h' = _ ∧ e = [none, some (.agg #[v1, v2, v3]), none, some (.int .i64 a.acc.length), none, some (.int .i64 i)] ∧
      ∀ (j : Nat) (hj : j < a.edges.length), j < i → a.edges[j].Ok a.acc.length) ⟨rfl, rfl, fun j _ hj => absurd hj (Nat.not_lt_zero j)⟩ ?_
    rintro J i _ _ hJ hi ⟨rfl, rfl, hn⟩
    simp -implicitDefEqProofs (disch := first | omega | (simp only [List.length_set, List.length_replicate, List.length_append, List.length_map, List.length_take, List.length_cons, List.length_nil]; omega)) [wrap64, R3.len]
    refine IteW.mk (fun hlt => ?_) (fun hge => ?_)
    · have hlx : i < a.edges.length := by omega
      simp -implicitDefEqProofs (disch := first | omega | (simp only [List.length_set, List.length_replicate, List.length_append, List.length_map, List.length_take, List.length_cons, List.length_nil]; omega)) [wrap64, R3.xTr]
      refine (c_l7Edge (Rep_Tr.2 ⟨rfl, R3.okTr hlx⟩)).go ?_
      rintro _ _ ⟨rfl, rfl⟩
      simp -implicitDefEqProofs (disch := first | omega | (simp only [List.length_set, List.length_replicate, List.length_append, List.length_map, List.length_take, List.length_cons, List.length_nil]; omega)) [wrap64]
      refine IteW.mkr (fun h8 => ?_) (fun h8 => ?_)
      · simp -implicitDefEqProofs (disch := first | omega | (simp only [List.length_set, List.length_replicate, List.length_append, List.length_map, List.length_take, List.length_cons, List.length_nil]; omega)) [wrap64]
        have hno : ¬ a.Ok := fun ho => h8 (ho.t hlx)
        exact RetK.keep (hk _ _ ⟨rfl, by simp [hno]⟩)
      · simp -implicitDefEqProofs (disch := first | omega | (simp only [List.length_set, List.length_replicate, List.length_append, List.length_map, List.length_take, List.length_cons, List.length_nil]; omega)) [wrap64]
        refine hJ _ _ hlx ⟨rfl, rfl, fun j hj hji => ?_⟩
        by_cases hji2 : j = i
        · subst hji2; exact h8
        · exact hn j hj (by omega)
    · simp -implicitDefEqProofs (disch := first | omega | (simp only [List.length_set, List.length_replicate, List.length_append, List.length_map, List.length_take, List.length_cons, List.length_nil]; omega)) [wrap64]
      have hyes : a.Ok := ⟨by omega, by omega, hin, fun t ht => by
        obtain ⟨j, hj, rfl⟩ := List.mem_iff_getElem.1 ht
        exact hn j hj (by omega)⟩
      exact RetK.keep (hk _ _ ⟨rfl, by simp [hyes]⟩)
end Go.Proofs.Ytglnelcmcimljaa

/-
  Search in slices; lists of successors; what can be reached.
-/
namespace Go.Proofs.Ytglnelcmcimljaa
open Go
set_option linter.all false
set_option linter.unusedVariables false
set_option linter.unusedSimpArgs false
set_option linter.defProp false
set_option maxRecDepth 1000000

section
variable {α : Type} [Ty α] {g h : Heap} {Γ : List HP} {v u : Value} {l : List α}
/-- the elements behind a place are given up -/
theorem HS.cut (H : HS g (ow v l :: Γ) h) {n esz : Nat} {k : IntKind} (hn : n ≤ l.length) : ∃ v', sliceVV esz v none (some (some (.int k n))) none = some v' ∧ HS g (ow v' (l.take n) :: Γ) h := by
  obtain ⟨g', r, rfl, d, O, H⟩ := H
  rcases Own_list.1 O with ⟨p, rfl, rfl, rfl, hp⟩ | ⟨b, off, cap, cells, el, r', rfl, ⟨h1, hM⟩, h2, rfl, h4, h5⟩
  · have hn0 : n = 0 := by simpa using hn
    subst hn0
    exact ⟨.slice p 0 0, by simp [sliceVV, bndV], g', Heap.nil, rfl, d, Own_list.2 (.inl ⟨p, rfl, by simp, rfl, hp⟩), H⟩
  · rw [← List.take_append_drop n l] at h5
    obtain ⟨r1, r2, rfl, d2, h6, h7⟩ := ownL_split h5
    obtain ⟨d3, d4⟩ := Dj_add.1 d
    obtain ⟨d5, d6⟩ := Dj_add.1 d4
    obtain ⟨n1, n2⟩ : r1 b = none ∧ r2 b = none := by simpa [Heap.add] using h4
    refine ⟨.slice (some ⟨b, off, none⟩) n cap, ?_, g'.add r2, (Heap.one b (.cells cells.toArray el (0, 0))).add r1, by ac_rfl, ?_, ?_, H.le (le_add d6)⟩
    · have : n ≤ cap := by omega
      simp [sliceVV, bndV, add_none, this]
    · exact Dj_add.2 ⟨add_Dj.2 ⟨d3, (Dj_one.2 n2)⟩, add_Dj.2 ⟨d5, d2.symm⟩⟩
    · have hl : (l.take n).length = n := by simp; omega
      exact Own_list.2 (.inr ⟨b, off, cap, cells, el, r1, by rw [hl], ⟨by omega, by omega⟩, h2, rfl, n1, h6⟩)
end

end Go.Proofs.Ytglnelcmcimljaa

/-
  What can be reached, by the program and by the reference; which nodes lie on a cycle, by the reference.
-/
namespace Go.Proofs.Ytglnelcmcimljaa
open Go
set_option linter.all false
set_option linter.unusedVariables false
set_option linter.unusedSimpArgs false
set_option linter.defProp false
set_option maxRecDepth 1000000

theorem take_mem_succ {α : Type} {l : List α} {i : Nat} (hi : i < l.length) {x : α} : x ∈ l.take (i + 1) ↔ x ∈ l.take i ∨ x = l[i] := by
  rw [List.take_add_one, List.getElem?_eq_getElem hi]
  simp only [Option.toList_some, List.mem_append, List.mem_singleton]
end Go.Proofs.Ytglnelcmcimljaa

/-
  Which nodes lie on a cycle, by the reference; from which states a word is accepted, by the reference.
-/
namespace Go.Proofs.Ytglnelcmcimljaa
open Go
set_option linter.all false
set_option linter.unusedVariables false
set_option linter.unusedSimpArgs false
set_option linter.defProp false
set_option maxRecDepth 1000000

/-- where the reference's search for a cycle stands -/
structure LpI (E : Nat → Nat → Prop) (n q : Nat) (B : List Bool) (Q : List Int) (i : Nat) : Prop where
  len : B.length = n
  size : Q.length + 2048 * B.count false ≤ 2048 * (n + 1)
  le : i ≤ Q.length
  snd : ∀ z ∈ Q, ∃ p : Nat, z = p ∧ p < n ∧ ∃ y, E q y ∧ Rch E y p
  start : ∀ y, E q y → (y : Int) ∈ Q
  seen : ∀ x, tru B x → ∀ y, E x y → (y : Int) ∈ Q
  past : ∀ j (hj : j < Q.length), j < i → Q[j] ≠ q ∧ tru B Q[j].toNat
theorem LpI.done {E : Nat → Nat → Prop} {n q : Nat} {B : List Bool} {Q : List Int} {i : Nat} (h : LpI E n q B Q i) (hi : Q.length ≤ i) : ¬ Cyc E q := by
  rintro ⟨y, h1, h2⟩
  have hm : ((q : Nat) : Int) ∈ Q := by
    refine h2.closed (C := fun x => (x : Int) ∈ Q) (fun u v hu huv => ?_) (h.start y h1)
    obtain ⟨j, hj, h3⟩ := List.mem_iff_getElem.1 hu
    have h4 := (h.past j hj (by omega)).2
    rw [h3] at h4
    exact h.seen u h4 v huv
  obtain ⟨j, hj, h3⟩ := List.mem_iff_getElem.1 hm
  exact (h.past j hj (by omega)).1 h3

end Go.Proofs.Ytglnelcmcimljaa

/-
  The program's search for strongly connected components.
-/
namespace Go.Proofs.Ytglnelcmcimljaa
open Go
set_option linter.all false
set_option linter.unusedVariables false
set_option linter.unusedSimpArgs false
set_option linter.defProp false
set_option maxRecDepth 1000000

def gd (l : List Int) : Nat → Int := fun x => l.getD x 0
theorem gd_set {l : List Int} {i : Nat} {v : Int} (hi : i < l.length) : gd (l.set i v) = fput (gd l) i v := by
  funext x
  simp only [gd, fput, List.getD_eq_getElem?_getD, List.getElem?_set]
  by_cases h : i = x
  · subst h; simp [hi]
  · simp [h, Ne.symm h]
/-- so many have not been visited -/
def unv (n : Nat) (f : Nat → Int) : Nat := ((List.range n).filter fun x => decide (x < n ∧ f x = 0)).length
/-- the boxes that are only read -/
@[reducible] def FB (bN bL bQ bG bV : Nat) (vn vl vq w fv : Value) (h : Heap) : Prop := hload h (some (.pointer (some ⟨bN, 0, none⟩))) none = some vn ∧ hload h (some (.pointer (some ⟨bL, 0, none⟩))) none = some vl ∧ hload h (some (.pointer (some ⟨bQ, 0, none⟩))) none = some vq ∧
  hload h (some (.pointer (some ⟨bG, 0, none⟩))) none = some w ∧ hload h (some (.pointer (some ⟨bV, 0, none⟩))) none = some fv
theorem FB.on {bN bL bQ bG bV : Nat} {vn vl vq w fv : Value} {g h : Heap} {Γ : List HP} (F : FB bN bL bQ bG bV vn vl vq w fv g) (H : HS g Γ h) : FB bN bL bQ bG bV vn vl vq w fv h :=
  ⟨hload_le H.base F.1, hload_le H.base F.2.1, hload_le H.base F.2.2.1, hload_le H.base F.2.2.2.1, hload_le H.base F.2.2.2.2⟩

/-- the state of the search lies in the memory -/
@[reducible] def CHs (vn vl vq : Value) (bS bC bP : Nat) (vs : Value) (N L Q : List Int) (s : TS) : List HP :=
  [ow vn N, ow vl L, ow vq Q, ow vs (s.stk.map Int.ofNat), bx bS [vs], bx bC [.int .i64 s.cnt], bx bP [.int .i64 s.prt]]
structure CHl (n : Nat) (N L Q : List Int) (s : TS) : Prop where
  hN : N.length = n
  hL : L.length = n
  hQ : Q.length = n
  num : s.num = gd N
  low : s.low = gd L
  part : s.part = gd Q
  cnt : s.cnt + unv n s.num ≤ n
def CH (g : Heap) (vn vl vq : Value) (bS bC bP n : Nat) (s : TS) (h : Heap) : Prop := ∃ (N L Q : List Int) (vs : Value), CHl n N L Q s ∧ HS g (CHs vn vl vq bS bC bP vs N L Q s) h

theorem TL.mono {n : Nat} {E : Nat → Nat → Prop} {gr sc sc' : Nat → Prop} {s s1 : TS} {a : Nat} (h : TL n E gr s a sc s1) (hs : ∀ y, sc' y → sc y) : TL n E gr s a sc' s1 :=
  ⟨h.inv, h.num, h.part, h.stk, h.na, h.cnt, h.fresh, h.black, h.lowa, h.low, h.min, fun y hy => h.proc y (hs y hy)⟩

/-- the node that is taken off the stack next -/
def topv (C : List Nat) (m : Nat) : Int := if h : m < C.length then (C[m] : Int) else -1

end Go.Proofs.Ytglnelcmcimljaa

/-
  The program's components, which nodes lie on a cycle, and the states from which a word is accepted.
-/
namespace Go.Proofs.Ytglnelcmcimljaa
open Go
set_option linter.all false
set_option linter.unusedVariables false
set_option linter.unusedSimpArgs false
set_option linter.defProp false
set_option maxRecDepth 1000000

/-- one piece is kept -/
theorem HS.only {g h : Heap} {Γ : List HP} {p : HP} (H : HS g (p :: Γ) h) : HS g [p] h := by
  obtain ⟨g', r, e, d, hp, H⟩ := H
  exact ⟨g', r, e, d, hp, H.base⟩

/-- the names of parts, when so many nodes have been named -/
structure NmI (n : Nat) (f : Nat → Int) (i : Nat) (l : List (Int × Int)) (Q : List Int) : Prop where
  len : Q.length = n
  le : l.length ≤ i
  done : ∀ x, x < i → mlk l (f x) = some (gd Q x)
  rest : ∀ x, i ≤ x → x < n → gd Q x = f x
  bnd : ∀ a y, mlk l a = some y → 0 ≤ y ∧ y < l.length
  inj : ∀ a b y, mlk l a = some y → mlk l b = some y → a = b
theorem NmI.old {n : Nat} {f : Nat → Int} {i : Nat} {l : List (Int × Int)} {Q : List Int} {y : Int} (h : NmI n f i l Q) (hi : i < n) (hy : mlk l (f i) = some y) : NmI n f (i + 1) l (Q.set i y) := by
  have hl := h.len
  refine ⟨by simpa using hl, by have := h.le; omega, ?_, ?_, h.bnd, h.inj⟩
  · intro x hx
    rw [gd_set (by omega)]
    by_cases e : x = i
    · subst e; simp [hy]
    · rw [fput_ne e]; exact h.done x (by omega)
  · intro x hx hxn
    rw [gd_set (by omega), fput_ne (by omega)]
    exact h.rest x (by omega) hxn
theorem NmI.new {n : Nat} {f : Nat → Int} {i : Nat} {l : List (Int × Int)} {Q : List Int} (h : NmI n f i l Q) (hi : i < n) (hy : mlk l (f i) = none) : NmI n f (i + 1) (l ++ [(f i, (l.length : Int))]) (Q.set i (l.length : Int)) ∧ mlk (l ++ [(f i, (l.length : Int))]) (f i) = some (l.length : Int) := by
  have hl := h.len
  have hs := fun b => mlk_snoc (y := (l.length : Int)) (b := b) hy
  refine ⟨⟨by simpa using hl, by have := h.le; simp; omega, ?_, ?_, ?_, ?_⟩, by rw [hs, if_pos rfl]⟩
  · intro x hx
    rw [gd_set (by omega), hs]
    by_cases e : x = i
    · subst e; simp
    · rw [fput_ne e]
      have h1 := h.done x (by omega)
      rw [if_neg]
      · exact h1
      · intro e2; rw [← e2, hy] at h1; simp at h1
  · intro x hx hxn
    rw [gd_set (by omega), fput_ne (by omega)]
    exact h.rest x (by omega) hxn
  · intro a y ha
    rw [hs] at ha
    split at ha
    · simp at ha; subst ha; simp; omega
    · have := h.bnd a y ha; simp; omega
  · intro a b y ha hb
    rw [hs] at ha hb
    split at ha
    · simp at ha
      split at hb
      · rename_i e1 e2; rw [← e1, ← e2]
      · have := h.bnd b y hb; omega
    · split at hb
      · simp at hb
        have := h.bnd a y ha; omega
      · exact h.inj a b y ha hb
theorem NmI.result {n : Nat} {f : Nat → Int} {l : List (Int × Int)} {Q : List Int} (h : NmI n f n l Q) : (∀ x, x < n → 0 ≤ gd Q x ∧ gd Q x < n) ∧ ∀ x y, x < n → y < n → (gd Q x = gd Q y ↔ f x = f y) := by
  refine ⟨fun x hx => ?_, fun x y hx hy => ⟨fun e => ?_, fun e => ?_⟩⟩
  · have := h.bnd _ _ (h.done x hx)
    have := h.le
    omega
  · have h1 := h.done x hx
    have h2 := h.done y hy
    rw [e] at h1
    exact h.inj _ _ _ h1 h2
  · have h1 := h.done x hx
    have h2 := h.done y hy
    rw [e, h2] at h1
    simpa using h1.symm

end Go.Proofs.Ytglnelcmcimljaa

/-
  Which nodes lie on a cycle, and from which states a word is accepted, by the program.
-/
namespace Go.Proofs.Ytglnelcmcimljaa
open Go
set_option linter.all false
set_option linter.unusedVariables false
set_option linter.unusedSimpArgs false
set_option linter.defProp false
set_option maxRecDepth 1000000

def cntP (Q : List Int) (i : Nat) (p : Int) : Nat := ((List.range i).filter fun y => decide (gd Q y = p)).length
end Go.Proofs.Ytglnelcmcimljaa

/-
  Bodies of functions in the small language, as a program printed them, and that each is what the translation gives.
-/
namespace Go.Proofs.Ytglnelcmcimljaa
open Go
set_option linter.all false
set_option linter.defProp false
set_option maxRecDepth 1000000

end Go.Proofs.Ytglnelcmcimljaa

/-
  Bodies of functions in the small language, as a program printed them, and that each is what the translation gives.
-/
namespace Go.Proofs.Ytglnelcmcimljaa
open Go
set_option linter.all false
set_option linter.defProp false
set_option maxRecDepth 1000000

end Go.Proofs.Ytglnelcmcimljaa

/-
  Trimming, by the program.
-/
namespace Go.Proofs.Ytglnelcmcimljaa
open Go
set_option linter.all false
set_option linter.unusedVariables false
set_option linter.unusedSimpArgs false
set_option linter.defProp false
set_option maxRecDepth 1000000

/-- accepting marks of the states that are kept, of so many -/
def accK (a : Aut) (K : Nat → Bool) (i : Nat) : List Bool := ((List.range i).filter K).map fun q => a.acc.getD q false
/-- the new numbers: -1 for what is not kept -/
def knum (K : Nat → Bool) (q : Nat) : Int := if K q then (kidx K q : Int) else -1

end Go.Proofs.Ytglnelcmcimljaa

/-
  Trimming, by the reference; both as functions of the package.
-/
namespace Go.Proofs.Ytglnelcmcimljaa
open Go
set_option linter.all false
set_option linter.unusedVariables false
set_option linter.unusedSimpArgs false
set_option linter.defProp false
set_option maxRecDepth 1000000

/-- what a function of a valid automaton gives back -/
def okR (f : Aut → Aut) (h : Heap) (a : Aut) (u : Value) (h' : Heap) : Prop := ∃ v, u = .tuple #[v, .bool (decide a.Ok)] ∧ HS h [ow v (if a.Ok then f a else Aut.empty)] h'
theorem okR.no {f : Aut → Aut} {h h' : Heap} {a : Aut} (hn : ¬ a.Ok) (H : HS h [] h') : okR f h a (.tuple #[.agg #[.slice none 0 0, .slice none 0 0, .slice none 0 0], .bool false]) h' :=
  ⟨_, by rw [decide_eq_false hn], by rw [if_neg hn]; exact empty_ow H⟩
theorem okR.yes {f : Aut → Aut} {h h' : Heap} {a : Aut} {v : Value} (hn : a.Ok) (H : HS h [ow v (f a)] h') : okR f h a (.tuple #[v, .bool true]) h' :=
  ⟨_, by rw [decide_eq_true hn], by rw [if_pos hn]; exact H⟩

end Go.Proofs.Ytglnelcmcimljaa

/-
  How much the arguments and results of the laws hold.
-/
namespace Go.Proofs.Ytglnelcmcimljaa
open Go
set_option linter.all false
set_option linter.unusedVariables false
set_option linter.unusedSimpArgs false
set_option linter.defProp false
set_option maxRecDepth 1000000

end Go.Proofs.Ytglnelcmcimljaa

/-
  Instances of functions over slices: copies, and whether some element meets a condition. Printed by a program.
-/
namespace Go.Proofs.Ytglnelcmcimljaa
open Go
set_option linter.all false
set_option linter.unusedVariables false
set_option linter.unusedSimpArgs false
set_option linter.defProp false
set_option maxRecDepth 1000000

end Go.Proofs.Ytglnelcmcimljaa

/-
  Bodies of functions in the small language, as a program printed them, and that each is what the translation gives.
-/
namespace Go.Proofs.Ytglnelcmcimljaa
open Go
set_option linter.all false
set_option linter.defProp false
set_option maxRecDepth 1000000

def H_spec_l7On : Hint := ⟨[(0, false), (1, false), (2, true), (4, false)], []⟩
def K139_1 : C := .seq (.pl <| .st (.ext 4 7) <|
    .st (.act none (.px (some 4) (.mv (.v 1)))) <|
    .st (.act none (.als 5 none 2)) <|
    .st (.act none (.pget (some 6) (some 5) 2 1 none)) <|
    .st (.act none (.px (some 7) (.bin .and (.v 4) (.v 6)))) <|
    .st (.act none (.als 8 none 2)) <|
    .st (.act none (.pget (some 9) (some 8) 2 2 none)) <|
    .st (.act none (.px (some 10) (.bin .eql (.v 7) (.v 9)))) <|
    .st (.act none (.px (some 3) (.mv (.v 10)))) .done) (.ret)
@[simp] def W139_1 := @C.wpe _ _ K139_1.eq_1
def B_spec_l7On : C := .seq (.pl <| .st (.ext 4 0) <|
    .st (.act none (.pnew 2 (.v 0) [])) <|
    .st (.act none (.px (some 3) (.mv (.c (.bool false))))) .done) K139_1
@[simp] def WB_spec_l7On := @C.wpe _ _ B_spec_l7On.eq_1
def R_spec_l7On : FIR := ⟨B_spec_l7On, 4, [(3, none)]⟩
theorem IR_spec_l7On : cfun Try.prog H_spec_l7On Try.f139 = some R_spec_l7On := by kernel_rfl
theorem EN_spec_l7On {args : List Value} {h : Heap} {k : Value → Heap → Prop} (hargs : args.length = 2) (hw : B_spec_l7On.wp Try.prog (retQ [(3, none)] k) (env0 args 4) h) : CallE Try.prog fn_spec_l7On args h k := enter Try.func139 rfl IR_spec_l7On hargs hw


end Go.Proofs.Ytglnelcmcimljaa

/-
  Whether an edge takes a letter, by the program and by the reference.
-/
namespace Go.Proofs.Ytglnelcmcimljaa
open Go
set_option linter.all false
set_option linter.unusedVariables false
set_option linter.unusedSimpArgs false
set_option linter.defProp false
set_option maxRecDepth 1000000

theorem c_takes {h : Heap} {v : Value} {t : Tr} (Rt : Rep h v t) {n : Int} : CallE Try.prog fn_impl_Transition_takes [v, .int .i64 n] h (fun u h' => h' = h ∧ u = .bool (t.on n)) := by
  rw [(Rep_Tr.1 Rt).1]
  refine CallE.gen fun k hk => EN_impl_Transition_takes rfl ?_
  simp -implicitDefEqProofs (disch := first | omega | (simp only [List.length_set, List.length_replicate, List.length_append, List.length_map, List.length_take, List.length_cons, List.length_nil]; omega)) [wrap64, Tr.v]
  exact RetK.keep (hk _ _ ⟨rfl, rfl⟩)
theorem c_l7On {h : Heap} {v : Value} {t : Tr} (Rt : Rep h v t) {n : Int} : CallE Try.prog fn_spec_l7On [v, .int .i64 n] h (fun u h' => h' = h ∧ u = .bool (t.on n)) := by
  rw [(Rep_Tr.1 Rt).1]
  refine CallE.gen fun k hk => EN_spec_l7On rfl ?_
  simp -implicitDefEqProofs (disch := first | omega | (simp only [List.length_set, List.length_replicate, List.length_append, List.length_map, List.length_take, List.length_cons, List.length_nil]; omega)) [wrap64, Tr.v]
  exact RetK.keep (hk _ _ ⟨rfl, rfl⟩)

end Go.Proofs.Ytglnelcmcimljaa

/-
  The live states behind a word, by the program and by the reference.
-/
namespace Go.Proofs.Ytglnelcmcimljaa
open Go
set_option linter.all false
set_option linter.unusedVariables false
set_option linter.unusedSimpArgs false
set_option linter.defProp false
set_option maxRecDepth 1000000

end Go.Proofs.Ytglnelcmcimljaa

/-
  Appending zeros; a slice written out with two elements that are only read; concatenation of two lists of numbers.
-/
namespace Go.Proofs.Ytglnelcmcimljaa
open Go
set_option linter.all false
set_option linter.unusedVariables false
set_option linter.unusedSimpArgs false
set_option linter.defProp false
set_option maxRecDepth 1000000

section
variable {P : Program} {k : Env → Heap → Prop} {e : Env} {g h : Heap} {Γ : List HP} {v : Value} {α : Type}
end
end Go.Proofs.Ytglnelcmcimljaa

/-
  Plain laws of acceptance: lassos and their words, runs, and the search in the product.
-/
namespace Go.Proofs.Ytglnelcmcimljaa
open Go
set_option linter.all false
set_option linter.unusedVariables false
set_option linter.unusedSimpArgs false
set_option linter.defProp false
set_option maxRecDepth 1000000

/-- a valid lasso -/
def Las.Ok (l : Las) : Prop := ((∀ x ∈ l.stem, 0 ≤ x ∧ x ≤ 7) ∧ ∀ x ∈ l.loop, 0 ≤ x ∧ x ≤ 7) ∧ l.stem.length ≤ 80 ∧ 1 ≤ l.loop.length ∧ l.loop.length ≤ 80
instance instDecLasOk (l : Las) : Decidable l.Ok := by unfold Las.Ok; infer_instance
def Las.size (l : Las) : Nat := l.stem.length + l.loop.length
def Las.all (l : Las) : List Int := l.stem ++ l.loop
/-- the position behind a position -/
def Las.nx (l : Las) (i : Nat) : Nat := if i + 1 = l.size then l.stem.length else i + 1
/-- the position at a time -/
def Las.pos (l : Las) : Nat → Nat
  | 0 => 0
  | t + 1 => l.nx (l.pos t)
def Las.word (l : Las) (t : Nat) : Int := l.all.getD (l.pos t) 0
theorem Las.nx_lt {l : Las} (h : 1 ≤ l.loop.length) {i : Nat} (hi : i < l.size) : l.nx i < l.size := by
  unfold Las.nx Las.size at *
  split <;> omega
theorem Las.pos_lt {l : Las} (h : 1 ≤ l.loop.length) : ∀ t, l.pos t < l.size
  | 0 => by unfold Las.pos Las.size; omega
  | t + 1 => Las.nx_lt h (Las.pos_lt h t)
/-- a step at a time -/
def StE (E : List Tr) (w : Nat → Int) (t p q : Nat) : Prop := ∃ e ∈ E, e.frm = p ∧ e.to = q ∧ e.on (w t) = true
/-- a finite run, from a time and a state to a time and a state -/
inductive FR (E : List Tr) (w : Nat → Int) : Nat → Nat → Nat → Nat → Prop
  | refl (t p : Nat) : FR E w t p t p
  | step {t p q u r : Nat} (h : StE E w t p q) (k : FR E w (t + 1) q u r) : FR E w t p u r
section
variable {E : List Tr} {w : Nat → Int} {A : List Bool} {t p u q v r : Nat}
theorem FR.trans (h : FR E w t p u q) (k : FR E w u q v r) : FR E w t p v r := by
  induction h with
  | refl => exact k
  | step h _ ih => exact .step h (ih k)
theorem FR.le (h : FR E w t p u q) : t ≤ u := by
  induction h with
  | refl => exact Nat.le_refl _
  | step h _ ih => omega
theorem FR.one (h : StE E w t p q) : FR E w t p (t + 1) q := .step h (.refl _ _)
end
/-- from these one always comes, later, to an accepting one of them -/
def Goes (A : List Bool) (E : List Tr) (w : Nat → Int) (C : Nat → Nat → Prop) : Prop := ∀ t p, C t p → ∃ u q, t < u ∧ FR E w t p u q ∧ tru A q ∧ C u q
/-- there is an accepting run from a time and a state -/
def Run (A : List Bool) (E : List Tr) (w : Nat → Int) (t p : Nat) : Prop := ∃ C, C t p ∧ Goes A E w C
def Aut.Lang (a : Aut) (w : Nat → Int) : Prop := ∃ s : Nat, (s : Int) ∈ a.init ∧ Run a.acc a.edges w 0 s
theorem Run.before {A : List Bool} {E : List Tr} {w : Nat → Int} {t p u q : Nat} (h : FR E w t p u q) (k : Run A E w u q) : Run A E w t p := by
  obtain ⟨C, hC, hG⟩ := k
  refine ⟨fun t' p' => (t' = t ∧ p' = p) ∨ C t' p', .inl ⟨rfl, rfl⟩, ?_⟩
  rintro t' p' (⟨rfl, rfl⟩ | h1)
  · obtain ⟨v, r, h2, h3, h4, h5⟩ := hG u q hC
    have := h.le
    exact ⟨v, r, by omega, h.trans h3, h4, .inr h5⟩
  · obtain ⟨v, r, h2, h3, h4, h5⟩ := hG t' p' h1
    exact ⟨v, r, h2, h3, h4, .inr h5⟩
/-- runs are carried over by a relation of states -/
theorem Run.sim {A A' : List Bool} {E E' : List Tr} {w : Nat → Int} (M : Nat → Nat → Prop)
    (hs : ∀ t p q p', M p p' → StE E w t p q → Run A E w (t + 1) q → ∃ q', StE E' w t p' q' ∧ M q q') (ha : ∀ p p', M p p' → tru A p → tru A' p') {t p p' : Nat} (h : Run A E w t p) (hm : M p p') : Run A' E' w t p' := by
  have fr : ∀ {t p u r : Nat}, FR E w t p u r → Run A E w u r → ∀ p', M p p' → ∃ r', FR E' w t p' u r' ∧ M r r' := by
    intro t p u r h
    induction h with
    | refl => intro _ p' hm; exact ⟨p', .refl _ _, hm⟩
    | step h k ih =>
      intro hr p' hm
      obtain ⟨q', h1, h2⟩ := hs _ _ _ _ hm h (hr.before k)
      obtain ⟨r', h3, h4⟩ := ih hr q' h2
      exact ⟨r', .step h1 h3, h4⟩
  obtain ⟨C, hC, hG⟩ := h
  refine ⟨fun t p' => ∃ p, C t p ∧ M p p', ⟨p, hC, hm⟩, ?_⟩
  rintro t p' ⟨p, hC, hm⟩
  obtain ⟨u, q, h2, h3, h4, h5⟩ := hG t p hC
  obtain ⟨q', h6, h7⟩ := fr h3 ⟨C, h5, hG⟩ p' hm
  exact ⟨u, q', h2, h6, ha _ _ h7 h4, q, h5, h7⟩

/- in a finite graph one that can always go on comes back -/
theorem fin_cyc {T : Nat → Nat → Prop} (tr : ∀ x y z, T x y → T y z → T x z) (N : Nat) : ∀ (m : Nat) (D : Nat → Prop), (((List.range N).filter fun x => @decide (D x) (Classical.propDecidable _)).length ≤ m) → (∀ x, D x → x < N) → (∃ x, D x) → (∀ x, D x → ∃ y, D y ∧ T x y) → ∃ x, D x ∧ T x x := by
  intro m
  induction m with
  | zero =>
    rintro D hm hN ⟨x, hx⟩ _
    exfalso
    have : x ∈ (List.range N).filter fun x => @decide (D x) (Classical.propDecidable _) := by
      rw [List.mem_filter]
      exact ⟨List.mem_range.2 (hN x hx), by simpa using hx⟩
    have := List.length_pos_of_mem this
    omega
  | succ m ih =>
    rintro D hm hN ⟨x, hx⟩ hT
    by_cases hxx : T x x
    · exact ⟨x, hx, hxx⟩
    obtain ⟨y, hy, hxy⟩ := hT x hx
    obtain ⟨z, ⟨hz, _⟩, hzz⟩ := ih (fun y => D y ∧ T x y) (by
      have := filter_lt_of (p := fun y => @decide (D y ∧ T x y) (Classical.propDecidable _)) (q := fun y => @decide (D y) (Classical.propDecidable _)) (fun y hy => by
        simp only [decide_eq_true_eq] at hy ⊢
        exact hy.1) (l := List.range N) ⟨x, List.mem_range.2 (hN x hx), by simp [hxx], by simpa using hx⟩
      omega) (fun y hy => hN y hy.1) ⟨y, hy, hxy⟩ (fun z hz => by
        obtain ⟨v, h1, h2⟩ := hT z hz.1
        exact ⟨v, ⟨h1, tr _ _ _ hz.2 h2⟩, h2⟩)
    exact ⟨z, hz, hzz⟩
def Rch1 (E : Nat → Nat → Prop) (x y : Nat) : Prop := ∃ z, E x z ∧ Rch E z y
theorem Rch1.trans {E : Nat → Nat → Prop} {x y z : Nat} (h : Rch1 E x y) (k : Rch1 E y z) : Rch1 E x z := by
  obtain ⟨u, h1, h2⟩ := h
  obtain ⟨v, h3, h4⟩ := k
  exact ⟨u, h1, h2.trans (.step h3 h4)⟩
theorem Rch1.rch {E : Nat → Nat → Prop} {x y : Nat} (h : Rch1 E x y) : Rch E x y := by
  obtain ⟨u, h1, h2⟩ := h
  exact .step h1 h2
theorem fin_rch {E : Nat → Nat → Prop} {N : Nat} {D : Nat → Prop} (hN : ∀ x, D x → x < N) (h0 : ∃ x, D x) (hT : ∀ x, D x → ∃ y, D y ∧ Rch1 E x y) : ∃ x, D x ∧ Cyc E x :=
  fin_cyc (T := Rch1 E) (fun _ _ _ h k => Rch1.trans h k) N _ D (Nat.le_refl _) hN h0 hT

/- the product -/
/-- the edges of the product of an automaton and a lasso -/
def Aut.PE (a : Aut) (l : Las) (x y : Nat) : Prop := ∃ e ∈ a.edges, ∃ i, i < l.size ∧ x = i * a.acc.length + e.frm.toNat ∧ y = l.nx i * a.acc.length + e.to.toNat ∧ e.on (l.all.getD i 0) = true
/-- acceptance, by a search in the product -/
def Aut.Acc (a : Aut) (l : Las) : Prop := ∃ s : Nat, (s : Int) ∈ a.init ∧ ∃ x, Rch (a.PE l) s x ∧ Cyc (a.PE l) x ∧ tru a.acc (x % a.acc.length)
section
variable {a : Aut} {l : Las}
theorem Aut.Ok.tr (ha : a.Ok) {e : Tr} (he : e ∈ a.edges) : ∃ f g : Nat, e.frm = f ∧ e.to = g ∧ f < a.acc.length ∧ g < a.acc.length := by
  have := ha.2.2.2 e he
  unfold Tr.Ok at this
  exact ⟨e.frm.toNat, e.to.toNat, by omega, by omega, by omega, by omega⟩
theorem Aut.Ok.st (ha : a.Ok) {w : Nat → Int} {t p q : Nat} (h : StE a.edges w t p q) : p < a.acc.length ∧ q < a.acc.length := by
  obtain ⟨e, he, h1, h2, _⟩ := h
  obtain ⟨f, g, h3, h4, h5, h6⟩ := ha.tr he
  exact ⟨by omega, by omega⟩
theorem Aut.Ok.ini (ha : a.Ok) {s : Nat} (hs : (s : Int) ∈ a.init) : s < a.acc.length := by
  have := incr_mem ha.i _ hs
  omega
theorem PE.of (hl : 1 ≤ l.loop.length) {t p q : Nat} (h : StE a.edges l.word t p q) : a.PE l (l.pos t * a.acc.length + p) (l.pos (t + 1) * a.acc.length + q) := by
  obtain ⟨e, he, h1, h2, h3⟩ := h
  exact ⟨e, he, l.pos t, Las.pos_lt hl t, by rw [h1]; rfl, by rw [h2]; rfl, h3⟩
theorem PE.rch (hl : 1 ≤ l.loop.length) {t p u q : Nat} (h : FR a.edges l.word t p u q) : Rch (a.PE l) (l.pos t * a.acc.length + p) (l.pos u * a.acc.length + q) := by
  induction h with
  | refl => exact .refl _
  | step h _ ih => exact .step (PE.of hl h) ih
theorem PE.rch1 (hl : 1 ≤ l.loop.length) {t p u q : Nat} (h : FR a.edges l.word t p u q) (htu : t < u) : Rch1 (a.PE l) (l.pos t * a.acc.length + p) (l.pos u * a.acc.length + q) := by
  cases h with
  | refl => omega
  | step h k => exact ⟨_, PE.of hl h, PE.rch hl k⟩
theorem FR.lt (ha : a.Ok) {w : Nat → Int} {t p u q : Nat} (h : FR a.edges w t p u q) (hp : p < a.acc.length) : q < a.acc.length := by
  induction h with
  | refl => exact hp
  | step h _ ih => exact ih (ha.st h).2
end
/-- a state from which there is a run is live -/
theorem Run.live {a : Aut} (ha : a.Ok) {w : Nat → Int} {t p : Nat} (hp : p < a.acc.length) (h : Run a.acc a.edges w t p) : a.Live p := by
  have rch : ∀ {t p u q : Nat}, FR a.edges w t p u q → Rch a.E p q := by
    intro t p u q h
    induction h with
    | refl => exact .refl _
    | step h _ ih =>
      obtain ⟨e, he, h1, h2, _⟩ := h
      exact .step ⟨e, he, h1, h2⟩ ih
  have rch1 : ∀ {t p u q : Nat}, FR a.edges w t p u q → t < u → Rch1 a.E p q := by
    intro t p u q h hlt
    cases h with
    | refl => omega
    | step h k =>
      obtain ⟨e, he, h1, h2, _⟩ := h
      exact ⟨_, ⟨e, he, h1, h2⟩, rch k⟩
  obtain ⟨C, hC, hG⟩ := h
  obtain ⟨x, ⟨t, g1, g2, g3, g4⟩, hx⟩ := fin_rch (E := a.E) (N := a.acc.length) (D := fun x => ∃ t, C t x ∧ x < a.acc.length ∧ tru a.acc x ∧ Rch a.E p x)
    (by rintro x ⟨t, g1, g2, _⟩; exact g2)
    (by
      obtain ⟨u, q, h1, h2, h3, h4⟩ := hG t p hC
      exact ⟨q, u, h4, h2.lt ha hp, h3, rch h2⟩)
    (by
      rintro x ⟨t, g1, g2, g3, g4⟩
      obtain ⟨u, q, h1, h2, h3, h4⟩ := hG t x g1
      exact ⟨q, ⟨u, h4, h2.lt ha g2, h3, g4.trans (rch h2)⟩, rch1 h2 h1⟩)
  exact ⟨x, g4, hx, g3⟩
end Go.Proofs.Ytglnelcmcimljaa

/-
  Lassos and acceptance, by the program.
-/
namespace Go.Proofs.Ytglnelcmcimljaa
open Go
set_option linter.all false
set_option linter.unusedVariables false
set_option linter.unusedSimpArgs false
set_option linter.defProp false
set_option maxRecDepth 1000000

/-- rows of a graph, while edges are put in -/
structure GI (N B : Nat) (E : Nat → Nat → Prop) (G : List (List Int)) : Prop where
  len : G.length = N
  mem : ∀ x (hx : x < G.length) z, z ∈ G[x] ↔ ∃ y : Nat, z = y ∧ E x y
  row : ∀ x (hx : x < G.length), G[x].length ≤ B
theorem GI.zero {N : Nat} : GI N 0 (fun _ _ => False) (List.replicate N []) := ⟨by simp, by simp, by simp⟩
theorem GI.add {N B : Nat} {E : Nat → Nat → Prop} {G : List (List Int)} (h : GI N B E G) {f t : Nat} (hf : f < G.length) : GI N (B + 1) (fun x y => E x y ∨ (x = f ∧ y = t)) (G.set f (G[f] ++ [(t : Int)])) := by
  refine ⟨by simp [h.len], fun x hx z => ?_, fun x hx => ?_⟩
  · simp only [List.length_set] at hx
    rw [List.getElem_set]
    split
    · rename_i e
      subst e
      rw [List.mem_append, h.mem f hf z, List.mem_singleton]
      constructor
      · rintro (⟨y, h1, h2⟩ | h1)
        · exact ⟨y, h1, .inl h2⟩
        · exact ⟨t, h1, .inr ⟨rfl, rfl⟩⟩
      · rintro ⟨y, h1, h2 | ⟨_, h2⟩⟩
        · exact .inl ⟨y, h1, h2⟩
        · subst h2; exact .inr h1
    · rename_i e
      rw [h.mem x hx z]
      constructor
      · rintro ⟨y, h1, h2⟩; exact ⟨y, h1, .inl h2⟩
      · rintro ⟨y, h1, h2 | ⟨h2, _⟩⟩
        · exact ⟨y, h1, h2⟩
        · exact absurd h2.symm e
  · simp only [List.length_set] at hx
    rw [List.getElem_set]
    have h1 := h.row f hf
    have h2 := h.row x hx
    split
    · simp; omega
    · omega
theorem GI.congr {N B B' : Nat} {E E' : Nat → Nat → Prop} {G : List (List Int)} (h : GI N B E G) (hB : B ≤ B') (he : ∀ x y, E x y ↔ E' x y) : GI N B' E' G :=
  ⟨h.len, fun x hx z => by rw [h.mem x hx z]; exact ⟨fun ⟨y, h1, h2⟩ => ⟨y, h1, (he x y).1 h2⟩, fun ⟨y, h1, h2⟩ => ⟨y, h1, (he x y).2 h2⟩⟩, fun x hx => Nat.le_trans (h.row x hx) hB⟩
/-- the product, while edges are put in: all edges at the first positions, and the first edges at this one -/
def Aut.PK (a : Aut) (l : Las) (i k : Nat) (x y : Nat) : Prop := ∃ (m : Nat) (hm : m < a.edges.length) (j : Nat), j < l.size ∧ (j < i ∨ (j = i ∧ m < k)) ∧ x = j * a.acc.length + a.edges[m].frm.toNat ∧ y = l.nx j * a.acc.length + a.edges[m].to.toNat ∧ a.edges[m].on (l.all.getD j 0) = true
end Go.Proofs.Ytglnelcmcimljaa

/-
  Acceptance, by the program.
-/
namespace Go.Proofs.Ytglnelcmcimljaa
open Go
set_option linter.all false
set_option linter.unusedVariables false
set_option linter.unusedSimpArgs false
set_option linter.defProp false
set_option maxRecDepth 1000000

/-- what Accepts answers -/
noncomputable def Aut.accB (a : Aut) (l : Las) : Bool := @decide (a.Ok ∧ l.Ok ∧ a.Acc l) (Classical.propDecidable _)
end Go.Proofs.Ytglnelcmcimljaa

/-
  Plain laws: what simulations, unions, trimming and merging do to the language.
-/
namespace Go.Proofs.Ytglnelcmcimljaa
open Go
set_option linter.all false
set_option linter.unusedVariables false
set_option linter.unusedSimpArgs false
set_option linter.defProp false
set_option maxRecDepth 1000000

/- the greatest simulation is a preorder -/
theorem Great.refl {a : Aut} {R : Rl} (h : Great a R) {i : Nat} (hi : i < a.acc.length) : R i i = true := by
  refine h.upper (fun x y => decide (x = y)) ⟨?_, ?_⟩ i i hi hi (by simp)
  · intro x y _ _ hxy hx
    simp only [decide_eq_true_eq] at hxy
    subst hxy; exact hx
  · intro x y _ _ hxy l _ e he hx ho
    simp only [decide_eq_true_eq] at hxy
    subst hxy
    exact ⟨e, he, hx, ho, by simp⟩
theorem Great.trans {a : Aut} (ha : a.Ok) {R : Rl} (h : Great a R) {i j k : Nat} (hi : i < a.acc.length) (hj : j < a.acc.length) (hk : k < a.acc.length) (h1 : R i j = true) (h2 : R j k = true) : R i k = true := by
  refine h.upper (fun x z => @decide (∃ y, y < a.acc.length ∧ R x y = true ∧ R y z = true) (Classical.propDecidable _)) ⟨?_, ?_⟩ i k hi hk (by simpa using ⟨j, hj, h1, h2⟩)
  · intro x z hx hz hxz h3
    simp only [decide_eq_true_eq] at hxz
    obtain ⟨y, hy, h4, h5⟩ := hxz
    exact h.simu.1 y z hy hz h5 (h.simu.1 x y hx hy h4 h3)
  · intro x z hx hz hxz l hl e he h6 ho
    simp only [decide_eq_true_eq] at hxz
    obtain ⟨y, hy, h4, h5⟩ := hxz
    obtain ⟨f, hf, g1, g2, g3⟩ := h.simu.2 x y hx hy h4 l hl e he h6 ho
    obtain ⟨f', hf', k1, k2, k3⟩ := h.simu.2 y z hy hz h5 l hl f hf g1 g2
    obtain ⟨_, q, _, h8, _, h10⟩ := ha.tr hf
    refine ⟨f', hf', k1, k2, ?_⟩
    simp only [decide_eq_true_eq]
    exact ⟨f.to.toNat, by rw [h8]; simpa using h10, g3, k3⟩

def Letters (w : Nat → Int) : Prop := ∀ t, 0 ≤ w t ∧ w t ≤ 7
/-- a simulating state has all runs of a simulated one -/
theorem Simu.run {a : Aut} (ha : a.Ok) {R : Rl} (hR : Simu a R) {w : Nat → Int} (hw : Letters w) {t i j : Nat} (hi : i < a.acc.length) (hj : j < a.acc.length) (h : R i j = true) (k : Run a.acc a.edges w t i) : Run a.acc a.edges w t j := by
  refine Run.sim (fun x y => x < a.acc.length ∧ y < a.acc.length ∧ R x y = true) ?_ ?_ k ⟨hi, hj, h⟩
  · rintro t p q p' ⟨h1, h2, h3⟩ ⟨e, he, h4, h5, h6⟩ _
    have h7 := hw t
    obtain ⟨n, hn⟩ : ∃ n : Nat, w t = n := ⟨(w t).toNat, by omega⟩
    rw [hn] at h6 h7
    obtain ⟨f, hf, g1, g2, g3⟩ := hR.2 p p' h1 h2 h3 n (by omega) e he h4 h6
    obtain ⟨x, y, k1, k2, k3, k4⟩ := ha.tr he
    obtain ⟨x', y', k1', k2', k3', k4'⟩ := ha.tr hf
    refine ⟨y', ⟨f, hf, g1, k2', by rw [hn]; exact g2⟩, by omega, k4', ?_⟩
    rw [h5, k2'] at g3
    simpa using g3
  · rintro p p' ⟨h1, h2, h3⟩ h4
    exact hR.1 p p' h1 h2 h3 h4

/- unions -/
section
variable {a b : Aut}
end

/- trimming -/
theorem kidx_inj {K : Nat → Bool} {p q : Nat} (hp : K p = true) (hq : K q = true) (h : kidx K p = kidx K q) : p = q := by
  have lt : ∀ {p q : Nat}, K p = true → p < q → kidx K p < kidx K q := by
    intro p q hp hlt
    have h1 := kidx_succ (K := K) (q := p)
    rw [hp, if_pos rfl] at h1
    have h2 := kidx_mono (K := K) (show p + 1 ≤ q by omega)
    omega
  by_cases h1 : p < q
  · have := lt hp h1; omega
  by_cases h2 : q < p
  · have := lt hq h2; omega
  omega
theorem kept_at {K : Nat → Bool} {A : List Bool} : ∀ {n p : Nat}, p < n → K p = true → (((List.range n).filter K).map fun q => A.getD q false)[kidx K p]? = some (A.getD p false)
  | 0, p, h, _ => absurd h (Nat.not_lt_zero p)
  | n + 1, p, h, hK => by
    rw [List.range_succ, List.filter_append, List.map_append]
    by_cases hp : p = n
    · subst hp
      rw [List.getElem?_append_right (by simp [kidx])]
      simp [kidx, hK]
    · have h1 := kept_at (A := A) (show p < n by omega) hK
      rw [List.getElem?_append_left]
      · exact h1
      · obtain ⟨h2, _⟩ := List.getElem?_eq_some_iff.1 h1
        exact h2
section
variable {a : Aut} {K : Nat → Bool}
theorem kidx_pos {n p : Nat} (hp : p < n) (hK : K p = true) : kidx K n ≠ 0 := by
  have h1 := kidx_succ (K := K) (q := p)
  rw [hK, if_pos rfl] at h1
  have h2 := kidx_mono (K := K) (show p + 1 ≤ n by omega)
  omega
theorem keep_ini {s : Nat} (hs : s < a.acc.length) (hK : K s = true) (h : (s : Int) ∈ a.init) : ((kidx K s : Nat) : Int) ∈ (a.keep K).init := by
  rw [Aut.keep, if_neg (kidx_pos hs hK)]
  exact List.mem_map.2 ⟨s, List.mem_filter.2 ⟨h, by simpa using hK⟩, by simp [kout]⟩
theorem keep_ini' (ha : a.Ok) {x : Nat} (h : (x : Int) ∈ (a.keep K).init) : ∃ s : Nat, (s : Int) ∈ a.init ∧ K s = true ∧ x = kidx K s := by
  unfold Aut.keep at h
  split at h
  · simp at h
  · obtain ⟨i, hi, he⟩ := List.mem_map.1 h
    obtain ⟨h1, h2⟩ := List.mem_filter.1 hi
    have h3 := incr_mem ha.i _ h1
    exact ⟨i.toNat, by rw [Int.toNat_of_nonneg (by omega)]; exact h1, h2, by simp only [kout] at he; omega⟩
theorem keep_st {w : Nat → Int} {t p q : Nat} (hp : K p = true) (hq : K q = true) (hpn : p < a.acc.length) (h : StE a.edges w t p q) : StE (a.keep K).edges w t (kidx K p) (kidx K q) := by
  obtain ⟨e, he, h1, h2, h3⟩ := h
  rw [Aut.keep, if_neg (kidx_pos hpn hp)]
  exact ⟨_, List.mem_map.2 ⟨e, List.mem_filter.2 ⟨he, by simp [h1, h2, hp, hq]⟩, rfl⟩, by simp [Tr.ren, kout, h1], by simp [Tr.ren, kout, h2], h3⟩
theorem keep_st' (ha : a.Ok) {w : Nat → Int} {t p y : Nat} (hp : K p = true) (h : StE (a.keep K).edges w t (kidx K p) y) : ∃ q, K q = true ∧ q < a.acc.length ∧ y = kidx K q ∧ StE a.edges w t p q := by
  obtain ⟨e, he, h1, h2, h3⟩ := h
  unfold Aut.keep at he
  split at he
  · simp at he
  · obtain ⟨f, hf, rfl⟩ := List.mem_map.1 he
    obtain ⟨g1, g2⟩ := List.mem_filter.1 hf
    obtain ⟨x, z, k1, k2, k3, k4⟩ := ha.tr g1
    simp only [Tr.ren, kout, k1, k2, Int.toNat_natCast, Bool.and_eq_true] at h1 h2 g2
    have := kidx_inj g2.1 hp (by omega)
    subst this
    exact ⟨z, g2.2, k4, by omega, f, g1, k1, k2, h3⟩
theorem keep_tru {p : Nat} (hp : p < a.acc.length) (hK : K p = true) : tru (a.keep K).acc (kidx K p) ↔ tru a.acc p := by
  rw [Aut.keep, if_neg (kidx_pos hp hK)]
  unfold tru
  rw [List.getD_eq_getElem?_getD, kept_at hp hK]
  rfl
/-- trimming keeps the language -/
theorem trim_lang (ha : a.Ok) {w : Nat → Int} : a.trim.Lang w ↔ a.Lang w := by
  constructor
  · rintro ⟨x, hx, h⟩
    obtain ⟨s, h1, h2, rfl⟩ := keep_ini' ha hx
    refine ⟨s, h1, Run.sim (fun x p => a.tkeep p = true ∧ p < a.acc.length ∧ x = kidx a.tkeep p) ?_ ?_ h ⟨h2, ha.ini h1, rfl⟩⟩
    · rintro t x y p ⟨g1, g2, rfl⟩ g3 _
      obtain ⟨q, k1, k2, k3, k4⟩ := keep_st' ha g1 g3
      exact ⟨q, k4, k1, k2, k3⟩
    · rintro x p ⟨g1, g2, rfl⟩ g3
      exact (keep_tru g2 g1).1 g3
  · rintro ⟨s, hs, h⟩
    have hs' := ha.ini hs
    have hK : a.tkeep s = true := Aut.tkeep_iff.2 ⟨⟨s, hs, .refl _⟩, Run.live ha hs' h⟩
    refine ⟨_, keep_ini hs' hK hs, Run.sim (fun p x => a.tkeep p = true ∧ p < a.acc.length ∧ x = kidx a.tkeep p) ?_ ?_ h ⟨hK, hs', rfl⟩⟩
    · rintro t p q x ⟨g1, g2, rfl⟩ g3 g4
      have hq := (ha.st g3).2
      have hKq : a.tkeep q = true := by
        obtain ⟨⟨s', h1, h2⟩, _⟩ := Aut.tkeep_iff.1 g1
        obtain ⟨e, he, k1, k2, _⟩ := g3
        exact Aut.tkeep_iff.2 ⟨⟨s', h1, h2.snoc ⟨e, he, k1, k2⟩⟩, Run.live ha hq g4⟩
      exact ⟨_, keep_st g1 hKq g2 g3, hKq, hq, rfl⟩
    · rintro p x ⟨g1, g2, rfl⟩ g3
      exact (keep_tru g2 g1).2 g3
end
end Go.Proofs.Ytglnelcmcimljaa

/-
  Bodies of functions in the small language, as a program printed them, and that each is what the translation gives.
-/
namespace Go.Proofs.Ytglnelcmcimljaa
open Go
set_option linter.all false
set_option linter.defProp false
set_option maxRecDepth 1000000

def H_impl_SimulationRelation : Hint := ⟨[(0, false), (1, true), (2, false), (3, false), (4, false), (5, false), (6, false), (7, false), (16, false), (17, false), (18, false), (34, false), (35, false)], [[0, 2, 3, 5, 6, 7, 11, 12], [0, 2, 3, 7]]⟩
def K12_1 : C := .seq (.pl <| .st (.ext 13 1) <|
    .st (.act none (.px (some 13) (.mv (.v 4)))) <|
    .st (.act none (.px (some 2) (.mv (.v 13)))) <|
    .st (.act none (.px (some 3) (.mv (.c (.bool true))))) .done) (.ret)
@[simp] def W12_1 := @C.wpe _ _ K12_1.eq_1
def K12_2 : C := .pl <| .st (.ext 13 1) <|
    .st (.act none (.px (some 13) (.bin .add (.v 10) (.c (.int .i64 1))))) <|
    .st (.act none (.px (some 10) (.mv (.v 13)))) .done
@[simp] def W12_2 := @C.wpe _ _ K12_2.eq_1
def K12_3 : C := .pl <| .st (.ext 13 1) <|
    .st (.act none (.px (some 13) (.bin .add (.v 12) (.c (.int .i64 1))))) <|
    .st (.act none (.px (some 12) (.mv (.v 13)))) .done
@[simp] def W12_3 := @C.wpe _ _ K12_3.eq_1
def K12_4 : C := .pl <| .st (.ext 13 11) <|
    .st (.act none (.px (some 13) (.mv (.v 4)))) <|
    .st (.act none (.px (some 14) (.mv (.v 5)))) <|
    .st (.act none (.px (some 15) (.ia 1 (.v 13) (.v 14)))) <|
    .st (.act none (.ld (some 16) (.v 15) none)) <|
    .st (.act none (.px (some 17) (.mv (.v 7)))) <|
    .st (.act none (.px (some 18) (.mv (.v 6)))) <|
    .st (.act none (.px (some 19) (.mv (.v 7)))) <|
    .st (.act none (.px (some 20) (.bin .shr (.v 18) (.v 19)))) <|
    .st (.act none (.px (some 21) (.bin .and (.v 20) (.c (.int .u64 1))))) <|
    .st (.act none (.px (some 22) (.bin .eql (.v 21) (.c (.int .u64 1))))) <|
    .st (.act none (.px (some 23) (.ia 1 (.v 16) (.v 17)))) <|
    .st (.act none (.ex none (.store 1 (.v 23) (.v 22)))) .done
@[simp] def W12_4 := @C.wpe _ _ K12_4.eq_1
def K12_5 : C := .seq (.block 3 (.seq (.pl <| .st (.ext 13 1) <|
    .st (.act none (.px (some 13) (.mv (.v 12)))) <|
    .st (.act none (.px (some 7) (.mv (.v 13)))) .done) K12_4)) K12_3
@[simp] def W12_5 := @C.wpe _ _ K12_5.eq_1
def K12_6 : C := .seq (.cond 13 (.v 13) (.skip) (.exit 2)) K12_5
@[simp] def W12_6 := @C.wpe _ _ K12_6.eq_1
def K12_7 : C := .seq (.pl <| .st (.ext 13 1) <|
    .st (.act none (.px (some 13) (.bin .lss (.v 12) (.v 11)))) .done) K12_6
@[simp] def W12_7 := @C.wpe _ _ K12_7.eq_1
def K12_8 : C := .block 2 (.loop 13 [0, 2, 3, 7] K12_7)
@[simp] def W12_8 := @C.wpe _ _ K12_8.eq_1
def K12_9 : C := .seq (.pl <| .st (.ext 13 4) <|
    .st (.act none (.px (some 13) (.mv (.v 4)))) <|
    .st (.act none (.px (some 14) (.mv (.v 5)))) <|
    .st (.act none (.px (some 15) (.ia 1 (.v 13) (.v 14)))) <|
    .st (.act none (.ld (some 16) (.v 15) none)) <|
    .st (.act none (.px (some 11) (.lenV (.v 16)))) <|
    .st (.act none (.px (some 12) (.mv (.c (.int .i64 0))))) .done) K12_8
@[simp] def W12_9 := @C.wpe _ _ K12_9.eq_1
def K12_10 : Pl := .st (.act none (.px (some 19) (.ia 1 (.v 13) (.v 14)))) <|
    .st (.act none (.ex none (.store 1 (.v 19) (.v 18)))) .done
@[simp] def W12_10 := @Pl.wpe _ _ K12_10.eq_1
def K12_11 : C := .seq (.pl <| .st (.ext 13 7) <|
    .st (.act none (.px (some 13) (.mv (.v 4)))) <|
    .st (.act none (.px (some 14) (.mv (.v 5)))) <|
    .st (.act none (.als 15 none 1)) <|
    .st (.act none (.pget (some 16) (some 15) 1 1 none)) <|
    .st (.act none (.px (some 17) (.lenV (.v 16)))) <|
    .st (.act none (.ex (some 18) (.mks 1 1 [.bool false] (.v 17) (.v 17)))) K12_10) K12_9
@[simp] def W12_11 := @C.wpe _ _ K12_11.eq_1
def K12_12 : C := .seq (.block 1 (.seq (.pl <| .st (.ext 13 3) <|
    .st (.act none (.px (some 13) (.mv (.v 10)))) <|
    .st (.act none (.px (some 14) (.ia 1 (.v 8) (.v 10)))) <|
    .st (.act none (.ld (some 15) (.v 14) none)) <|
    .st (.act none (.px (some 5) (.mv (.v 13)))) <|
    .st (.act none (.px (some 6) (.mv (.v 15)))) .done) K12_11)) K12_2
@[simp] def W12_12 := @C.wpe _ _ K12_12.eq_1
def K12_13 : C := .seq (.cond 13 (.v 13) (.skip) (.exit 0)) K12_12
@[simp] def W12_13 := @C.wpe _ _ K12_13.eq_1
def K12_14 : C := .seq (.pl <| .st (.ext 13 1) <|
    .st (.act none (.px (some 13) (.bin .lss (.v 10) (.v 9)))) .done) K12_13
@[simp] def W12_14 := @C.wpe _ _ K12_14.eq_1
def K12_15 : C := .block 0 (.loop 13 [0, 2, 3, 5, 6, 7, 11, 12] K12_14)
@[simp] def W12_15 := @C.wpe _ _ K12_15.eq_1
def K12_16 : Pl := .st (.act none (.px (some 9) (.lenV (.v 8)))) <|
    .st (.act none (.px (some 10) (.mv (.c (.int .i64 0))))) .done
@[simp] def W12_16 := @Pl.wpe _ _ K12_16.eq_1
def K12_17 : C := .seq (.seq (.pl <| .st (.ext 13 1) <|
    .st (.act none (.pget (some 13) none 1 0 (some 3))) <|
    .st (.act none (.ex (some 8) (.call fn_impl_Automaton_simulation [.v 13]))) K12_16) K12_15) K12_1
@[simp] def W12_17 := @C.wpe _ _ K12_17.eq_1
def K12_18 : Pl := .st (.act none (.px (some 4) (.mv (.v 16)))) .done
@[simp] def W12_18 := @Pl.wpe _ _ K12_18.eq_1
def K12_19 : C := .seq (.pl <| .st (.ext 13 4) <|
    .st (.act none (.als 13 none 1)) <|
    .st (.act none (.pget (some 14) (some 13) 1 1 none)) <|
    .st (.act none (.px (some 15) (.lenV (.v 14)))) <|
    .st (.act none (.ex (some 16) (.mks 24 1 [.slice none 0 0] (.v 15) (.v 15)))) K12_18) K12_17
@[simp] def W12_19 := @C.wpe _ _ K12_19.eq_1
def K12_20 : C := .seq (.pl <| .st (.ext 13 0) <|
    .st (.act none (.px (some 2) (.mv (.c (.slice none 0 0))))) <|
    .st (.act none (.px (some 3) (.mv (.c (.bool false))))) .done) (.ret)
@[simp] def W12_20 := @C.wpe _ _ K12_20.eq_1
def K12_21 : C := .cond 13 (.v 15) K12_20 (.skip)
@[simp] def W12_21 := @C.wpe _ _ K12_21.eq_1
def K12_22 : Pl := .st (.act none (.px (some 15) (.un .not (.v 14)))) .done
@[simp] def W12_22 := @Pl.wpe _ _ K12_22.eq_1
def K12_23 : C := .seq (.seq (.pl <| .st (.ext 13 3) <|
    .st (.act none (.pget (some 13) none 1 0 (some 3))) <|
    .st (.act none (.ex (some 14) (.call fn_impl_AutomatonValid [.v 13]))) K12_22) K12_21) K12_19
@[simp] def W12_23 := @C.wpe _ _ K12_23.eq_1
def B_impl_SimulationRelation : C := .seq (.pl <| .st (.ext 13 0) <|
    .st (.act none (.pnew 1 (.v 0) [])) <|
    .st (.act none (.px (some 2) (.mv (.c (.slice none 0 0))))) <|
    .st (.act none (.px (some 3) (.mv (.c (.bool false))))) .done) K12_23
@[simp] def WB_impl_SimulationRelation := @C.wpe _ _ B_impl_SimulationRelation.eq_1
def R_impl_SimulationRelation : FIR := ⟨B_impl_SimulationRelation, 13, [(2, none), (3, none)]⟩
theorem IR_impl_SimulationRelation : cfun Try.prog H_impl_SimulationRelation Try.f12 = some R_impl_SimulationRelation := by kernel_rfl
theorem EN_impl_SimulationRelation {args : List Value} {h : Heap} {k : Value → Heap → Prop} (hargs : args.length = 1) (hw : B_impl_SimulationRelation.wp Try.prog (retQ [(2, none), (3, none)] k) (env0 args 13) h) : CallE Try.prog fn_impl_SimulationRelation args h k := enter Try.func12 rfl IR_impl_SimulationRelation hargs hw


end Go.Proofs.Ytglnelcmcimljaa

/-
  Bodies of functions in the small language, as a program printed them, and that each is what the translation gives.
-/
namespace Go.Proofs.Ytglnelcmcimljaa
open Go
set_option linter.all false
set_option linter.defProp false
set_option maxRecDepth 1000000

def H_impl_Automaton_simulation : Hint := ⟨[(0, false), (1, true), (2, false), (3, false), (4, false), (6, true), (7, false), (8, false), (9, false), (10, false), (11, false), (12, false), (13, false), (14, false), (21, false), (22, false), (23, false), (27, false), (51, false), (52, false), (55, false), (56, false), (84, false), (85, false), (88, false), (89, false)], [[0, 2, 5, 6, 7, 8, 9, 10, 11, 12, 13, 17, 18, 19, 20, 21, 22, 23, 24, 25], [0, 2, 6, 7, 8, 9, 10, 11, 12, 13, 18, 19, 20, 21, 22, 23, 24, 25], [0, 2, 5, 6, 8, 9, 10, 11, 12, 13, 14, 15, 16, 17, 20, 21, 22, 23, 24, 25], [0, 2, 5, 6, 9, 10, 11, 12, 13, 14, 15, 16, 17, 22, 23, 24, 25], [0, 1, 2, 4, 5, 6, 8, 9, 12, 13, 14, 15, 16, 17, 18, 19, 20, 21, 22, 23, 24, 25], [0, 1, 2, 4, 5, 6, 8, 9, 12, 13, 14, 15, 16, 17, 18, 19, 20, 21, 24, 25], [0, 1, 2, 4, 5, 6, 8, 9, 13, 14, 15, 16, 17, 18, 19, 20, 21]]⟩
def K47_1 : C := .seq (.pl <| .st (.ext 26 1) <|
    .st (.act none (.ld (some 26) (.v 7) none)) <|
    .st (.act none (.px (some 2) (.mv (.v 26)))) .done) (.ret)
@[simp] def W47_1 := @C.wpe _ _ K47_1.eq_1
def K47_2 : C := .pl <| .st (.ext 26 1) <|
    .st (.act none (.px (some 26) (.bin .add (.v 23) (.c (.int .i64 1))))) <|
    .st (.act none (.px (some 23) (.mv (.v 26)))) .done
@[simp] def W47_2 := @C.wpe _ _ K47_2.eq_1
def K47_3 : C := .pl <| .st (.ext 26 1) <|
    .st (.act none (.px (some 26) (.bin .add (.v 25) (.c (.int .i64 1))))) <|
    .st (.act none (.px (some 25) (.mv (.v 26)))) .done
@[simp] def W47_3 := @C.wpe _ _ K47_3.eq_1
def K47_4 : C := .pl <| .st (.ext 26 0) <|
    .st (.act none (.px (some 11) (.mv (.c (.bool true))))) .done
@[simp] def W47_4 := @C.wpe _ _ K47_4.eq_1
def K47_5 : C := .seq (.pl <| .st (.ext 26 8) <|
    .st (.act none (.ld (some 26) (.v 7) none)) <|
    .st (.act none (.px (some 27) (.mv (.v 12)))) <|
    .st (.act none (.px (some 28) (.ia 1 (.v 26) (.v 27)))) <|
    .st (.act none (.ld (some 29) (.v 28) none)) <|
    .st (.act none (.px (some 30) (.mv (.v 13)))) <|
    .st (.act none (.px (some 31) (.bin .shl (.c (.int .u64 1)) (.v 30)))) <|
    .st (.act none (.px (some 32) (.bin .andNot (.v 29) (.v 31)))) <|
    .st (.act none (.px (some 33) (.ia 1 (.v 26) (.v 27)))) <|
    .st (.act none (.ex none (.store 1 (.v 33) (.v 32)))) .done) K47_4
@[simp] def W47_5 := @C.wpe _ _ K47_5.eq_1
def K47_6 : C := .cond 26 (.v 40) K47_5 (.skip)
@[simp] def W47_6 := @C.wpe _ _ K47_6.eq_1
def K47_7 : Pl := .st (.act (some (.v 34, true)) (.px (some 39) (.un .not (.v 38)))) <|
    .st (.act none (.px (some 40) (.pick (.v 34) (.v 39) (.c (.bool false))))) .done
@[simp] def W47_7 := @Pl.wpe _ _ K47_7.eq_1
def K47_8 : C := .seq (.pl <| .st (.ext 26 15) <|
    .st (.act none (.ld (some 26) (.v 7) none)) <|
    .st (.act none (.px (some 27) (.mv (.v 12)))) <|
    .st (.act none (.px (some 28) (.ia 1 (.v 26) (.v 27)))) <|
    .st (.act none (.ld (some 29) (.v 28) none)) <|
    .st (.act none (.px (some 30) (.mv (.v 13)))) <|
    .st (.act none (.px (some 31) (.bin .shr (.v 29) (.v 30)))) <|
    .st (.act none (.px (some 32) (.bin .and (.v 31) (.c (.int .u64 1))))) <|
    .st (.act none (.px (some 33) (.bin .eql (.v 32) (.c (.int .u64 1))))) <|
    .st (.act none (.px (some 34) (.mv (.v 33)))) <|
    .st (.act (some (.v 34, true)) (.px (some 35) (.mv (.v 10)))) <|
    .st (.act (some (.v 34, true)) (.px (some 36) (.mv (.v 13)))) <|
    .st (.act (some (.v 34, true)) (.px (some 37) (.mv (.v 12)))) <|
    .st (.act (some (.v 34, true)) (.ex (some 38) (.callv (.v 35) [.v 36, .v 37]))) K47_7) K47_6
@[simp] def W47_8 := @C.wpe _ _ K47_8.eq_1
def K47_9 : C := .seq (.block 13 (.seq (.pl <| .st (.ext 26 1) <|
    .st (.act none (.px (some 26) (.mv (.v 25)))) <|
    .st (.act none (.px (some 13) (.mv (.v 26)))) .done) K47_8)) K47_3
@[simp] def W47_9 := @C.wpe _ _ K47_9.eq_1
def K47_10 : C := .seq (.cond 26 (.v 26) (.skip) (.exit 12)) K47_9
@[simp] def W47_10 := @C.wpe _ _ K47_10.eq_1
def K47_11 : C := .seq (.pl <| .st (.ext 26 1) <|
    .st (.act none (.px (some 26) (.bin .lss (.v 25) (.v 24)))) .done) K47_10
@[simp] def W47_11 := @C.wpe _ _ K47_11.eq_1
def K47_12 : C := .block 12 (.loop 26 [0, 1, 2, 4, 5, 6, 8, 9, 13, 14, 15, 16, 17, 18, 19, 20, 21] K47_11)
@[simp] def W47_12 := @C.wpe _ _ K47_12.eq_1
def K47_13 : C := .seq (.pl <| .st (.ext 26 0) <|
    .st (.act none (.ld (some 24) (.v 3) none)) <|
    .st (.act none (.px (some 25) (.mv (.c (.int .i64 0))))) .done) K47_12
@[simp] def W47_13 := @C.wpe _ _ K47_13.eq_1
def K47_14 : C := .seq (.block 11 (.seq (.pl <| .st (.ext 26 1) <|
    .st (.act none (.px (some 26) (.mv (.v 23)))) <|
    .st (.act none (.px (some 12) (.mv (.v 26)))) .done) K47_13)) K47_2
@[simp] def W47_14 := @C.wpe _ _ K47_14.eq_1
def K47_15 : C := .seq (.cond 26 (.v 26) (.skip) (.exit 10)) K47_14
@[simp] def W47_15 := @C.wpe _ _ K47_15.eq_1
def K47_16 : C := .seq (.pl <| .st (.ext 26 1) <|
    .st (.act none (.px (some 26) (.bin .lss (.v 23) (.v 22)))) .done) K47_15
@[simp] def W47_16 := @C.wpe _ _ K47_16.eq_1
def K47_17 : C := .block 10 (.loop 26 [0, 1, 2, 4, 5, 6, 8, 9, 12, 13, 14, 15, 16, 17, 18, 19, 20, 21, 24, 25] K47_16)
@[simp] def W47_17 := @C.wpe _ _ K47_17.eq_1
def K47_18 : C := .seq (.pl <| .st (.ext 26 0) <|
    .st (.act none (.ld (some 22) (.v 3) none)) <|
    .st (.act none (.px (some 23) (.mv (.c (.int .i64 0))))) .done) K47_17
@[simp] def W47_18 := @C.wpe _ _ K47_18.eq_1
def K47_19 : C := .block 9 (.seq (.pl <| .st (.ext 26 0) <|
    .st (.act none (.px (some 11) (.mv (.c (.bool false))))) .done) K47_18)
@[simp] def W47_19 := @C.wpe _ _ K47_19.eq_1
def K47_20 : C := .cond 26 (.v 26) (.skip) (.exit 8)
@[simp] def W47_20 := @C.wpe _ _ K47_20.eq_1
def K47_21 : C := .seq (.seq (.pl <| .st (.ext 26 1) <|
    .st (.act none (.px (some 26) (.mv (.v 11)))) .done) K47_20) K47_19
@[simp] def W47_21 := @C.wpe _ _ K47_21.eq_1
def K47_22 : C := .block 8 (.loop 26 [0, 1, 2, 4, 5, 6, 8, 9, 12, 13, 14, 15, 16, 17, 18, 19, 20, 21, 22, 23, 24, 25] K47_21)
@[simp] def W47_22 := @C.wpe _ _ K47_22.eq_1
def K47_23 : C := .seq (.seq (.pl <| .st (.ext 26 0) <|
    .st (.act none (.px (some 11) (.mv (.c (.bool true))))) .done) K47_22) K47_1
@[simp] def W47_23 := @C.wpe _ _ K47_23.eq_1
def K47_24 : C := .seq (.pl <| .st (.ext 26 1) <|
    .st (.act none (.px (some 26) (.mkf (.func fn_impl_Automaton_simulation_1) [] [.v 3, .v 4, .v 7]))) <|
    .st (.act none (.px (some 10) (.mv (.v 26)))) .done) K47_23
@[simp] def W47_24 := @C.wpe _ _ K47_24.eq_1
def K47_25 : C := .pl <| .st (.ext 26 1) <|
    .st (.act none (.px (some 26) (.bin .add (.v 19) (.c (.int .i64 1))))) <|
    .st (.act none (.px (some 19) (.mv (.v 26)))) .done
@[simp] def W47_25 := @C.wpe _ _ K47_25.eq_1
def K47_26 : C := .pl <| .st (.ext 26 1) <|
    .st (.act none (.px (some 26) (.bin .add (.v 21) (.c (.int .i64 1))))) <|
    .st (.act none (.px (some 21) (.mv (.v 26)))) .done
@[simp] def W47_26 := @C.wpe _ _ K47_26.eq_1
def K47_27 : C := .pl <| .st (.ext 26 8) <|
    .st (.act none (.ld (some 26) (.v 7) none)) <|
    .st (.act none (.px (some 27) (.mv (.v 8)))) <|
    .st (.act none (.px (some 28) (.ia 1 (.v 26) (.v 27)))) <|
    .st (.act none (.ld (some 29) (.v 28) none)) <|
    .st (.act none (.px (some 30) (.mv (.v 9)))) <|
    .st (.act none (.px (some 31) (.bin .shl (.c (.int .u64 1)) (.v 30)))) <|
    .st (.act none (.px (some 32) (.bin .or (.v 29) (.v 31)))) <|
    .st (.act none (.px (some 33) (.ia 1 (.v 26) (.v 27)))) <|
    .st (.act none (.ex none (.store 1 (.v 33) (.v 32)))) .done
@[simp] def W47_27 := @C.wpe _ _ K47_27.eq_1
def K47_28 : C := .cond 26 (.v 38) K47_27 (.skip)
@[simp] def W47_28 := @C.wpe _ _ K47_28.eq_1
def K47_29 : C := .seq (.pl <| .st (.ext 26 13) <|
    .st (.act none (.als 26 none 1)) <|
    .st (.act none (.pget (some 27) (some 26) 1 1 none)) <|
    .st (.act none (.px (some 28) (.mv (.v 9)))) <|
    .st (.act none (.px (some 29) (.ia 1 (.v 27) (.v 28)))) <|
    .st (.act none (.ld (some 30) (.v 29) none)) <|
    .st (.act none (.px (some 31) (.mv (.v 30)))) <|
    .st (.act (some (.v 31, false)) (.als 32 none 1)) <|
    .st (.act (some (.v 31, false)) (.pget (some 33) (some 32) 1 1 none)) <|
    .st (.act (some (.v 31, false)) (.px (some 34) (.mv (.v 8)))) <|
    .st (.act (some (.v 31, false)) (.px (some 35) (.ia 1 (.v 33) (.v 34)))) <|
    .st (.act (some (.v 31, false)) (.ld (some 36) (.v 35) none)) <|
    .st (.act (some (.v 31, false)) (.px (some 37) (.un .not (.v 36)))) <|
    .st (.act none (.px (some 38) (.pick (.v 31) (.c (.bool true)) (.v 37)))) .done) K47_28
@[simp] def W47_29 := @C.wpe _ _ K47_29.eq_1
def K47_30 : C := .seq (.block 7 (.seq (.pl <| .st (.ext 26 1) <|
    .st (.act none (.px (some 26) (.mv (.v 21)))) <|
    .st (.act none (.px (some 9) (.mv (.v 26)))) .done) K47_29)) K47_26
@[simp] def W47_30 := @C.wpe _ _ K47_30.eq_1
def K47_31 : C := .seq (.cond 26 (.v 26) (.skip) (.exit 6)) K47_30
@[simp] def W47_31 := @C.wpe _ _ K47_31.eq_1
def K47_32 : C := .seq (.pl <| .st (.ext 26 1) <|
    .st (.act none (.px (some 26) (.bin .lss (.v 21) (.v 20)))) .done) K47_31
@[simp] def W47_32 := @C.wpe _ _ K47_32.eq_1
def K47_33 : C := .block 6 (.loop 26 [0, 2, 5, 6, 9, 10, 11, 12, 13, 14, 15, 16, 17, 22, 23, 24, 25] K47_32)
@[simp] def W47_33 := @C.wpe _ _ K47_33.eq_1
def K47_34 : C := .seq (.pl <| .st (.ext 26 0) <|
    .st (.act none (.ld (some 20) (.v 3) none)) <|
    .st (.act none (.px (some 21) (.mv (.c (.int .i64 0))))) .done) K47_33
@[simp] def W47_34 := @C.wpe _ _ K47_34.eq_1
def K47_35 : C := .seq (.block 5 (.seq (.pl <| .st (.ext 26 1) <|
    .st (.act none (.px (some 26) (.mv (.v 19)))) <|
    .st (.act none (.px (some 8) (.mv (.v 26)))) .done) K47_34)) K47_25
@[simp] def W47_35 := @C.wpe _ _ K47_35.eq_1
def K47_36 : C := .seq (.cond 26 (.v 26) (.skip) (.exit 4)) K47_35
@[simp] def W47_36 := @C.wpe _ _ K47_36.eq_1
def K47_37 : C := .seq (.pl <| .st (.ext 26 1) <|
    .st (.act none (.px (some 26) (.bin .lss (.v 19) (.v 18)))) .done) K47_36
@[simp] def W47_37 := @C.wpe _ _ K47_37.eq_1
def K47_38 : C := .block 4 (.loop 26 [0, 2, 5, 6, 8, 9, 10, 11, 12, 13, 14, 15, 16, 17, 20, 21, 22, 23, 24, 25] K47_37)
@[simp] def W47_38 := @C.wpe _ _ K47_38.eq_1
def K47_39 : C := .seq (.seq (.pl <| .st (.ext 26 1) <|
    .st (.act none (.ld (some 26) (.v 7) none)) <|
    .st (.act none (.px (some 18) (.lenV (.v 26)))) <|
    .st (.act none (.px (some 19) (.mv (.c (.int .i64 0))))) .done) K47_38) K47_24
@[simp] def W47_39 := @C.wpe _ _ K47_39.eq_1
def K47_40 : Pl := .st (.act none (.ex none (.store 1 (.v 7) (.v 27)))) .done
@[simp] def W47_40 := @Pl.wpe _ _ K47_40.eq_1
def K47_41 : Pl := .st (.act none (.ex (some 7) (.alloc (.c (.slice none 0 0))))) K47_40
@[simp] def W47_41 := @Pl.wpe _ _ K47_41.eq_1
def K47_42 : C := .seq (.pl <| .st (.ext 26 2) <|
    .st (.act none (.ld (some 26) (.v 3) none)) <|
    .st (.act none (.ex (some 27) (.mks 8 1 [.int .u64 0] (.v 26) (.v 26)))) K47_41) K47_39
@[simp] def W47_42 := @C.wpe _ _ K47_42.eq_1
def K47_43 : C := .pl <| .st (.ext 26 1) <|
    .st (.act none (.px (some 26) (.bin .add (.v 16) (.c (.int .i64 1))))) <|
    .st (.act none (.px (some 16) (.mv (.v 26)))) .done
@[simp] def W47_43 := @C.wpe _ _ K47_43.eq_1
def K47_44 : C := .pl <| .st (.ext 26 1) <|
    .st (.act none (.px (some 26) (.bin .add (.v 17) (.c (.int .i64 1))))) <|
    .st (.act none (.px (some 17) (.mv (.v 26)))) .done
@[simp] def W47_44 := @C.wpe _ _ K47_44.eq_1
def K47_45 : C := .pl <| .st (.ext 26 13) <|
    .st (.act none (.ld (some 26) (.v 4) none)) <|
    .st (.act none (.als 27 none 5)) <|
    .st (.act none (.pget (some 28) (some 27) 5 0 none)) <|
    .st (.act none (.px (some 29) (.mv (.v 6)))) <|
    .st (.act none (.px (some 30) (.ia 8 (.v 26) (.v 28)))) <|
    .st (.act none (.px (some 31) (.iaA 8 1 (.v 30) (.v 29)))) <|
    .st (.act none (.ld (some 32) (.v 31) none)) <|
    .st (.act none (.als 33 none 5)) <|
    .st (.act none (.pget (some 34) (some 33) 5 3 none)) <|
    .st (.act none (.px (some 35) (.bin .shl (.c (.int .u64 1)) (.v 34)))) <|
    .st (.act none (.px (some 36) (.bin .or (.v 32) (.v 35)))) <|
    .st (.act none (.px (some 37) (.ia 8 (.v 26) (.v 28)))) <|
    .st (.act none (.px (some 38) (.iaA 8 1 (.v 37) (.v 29)))) <|
    .st (.act none (.ex none (.store 1 (.v 38) (.v 36)))) .done
@[simp] def W47_45 := @C.wpe _ _ K47_45.eq_1
def K47_46 : C := .cond 26 (.v 28) K47_45 (.skip)
@[simp] def W47_46 := @C.wpe _ _ K47_46.eq_1
def K47_47 : C := .seq (.pl <| .st (.ext 26 3) <|
    .st (.act none (.pget (some 26) none 5 0 (some 4))) <|
    .st (.act none (.px (some 27) (.mv (.v 6)))) <|
    .st (.act none (.ex (some 28) (.call fn_impl_Transition_takes [.v 26, .v 27]))) .done) K47_46
@[simp] def W47_47 := @C.wpe _ _ K47_47.eq_1
def K47_48 : C := .seq (.block 3 (.seq (.pl <| .st (.ext 26 1) <|
    .st (.act none (.px (some 26) (.mv (.v 17)))) <|
    .st (.act none (.px (some 6) (.mv (.v 26)))) .done) K47_47)) K47_44
@[simp] def W47_48 := @C.wpe _ _ K47_48.eq_1
def K47_49 : C := .seq (.cond 26 (.v 26) (.skip) (.exit 2)) K47_48
@[simp] def W47_49 := @C.wpe _ _ K47_49.eq_1
def K47_50 : C := .seq (.pl <| .st (.ext 26 1) <|
    .st (.act none (.px (some 26) (.bin .lss (.v 17) (.c (.int .i64 8))))) .done) K47_49
@[simp] def W47_50 := @C.wpe _ _ K47_50.eq_1
def K47_51 : C := .block 2 (.loop 26 [0, 2, 6, 7, 8, 9, 10, 11, 12, 13, 18, 19, 20, 21, 22, 23, 24, 25] K47_50)
@[simp] def W47_51 := @C.wpe _ _ K47_51.eq_1
def K47_52 : C := .seq (.pl <| .st (.ext 26 0) <|
    .st (.act none (.px (some 17) (.mv (.c (.int .i64 0))))) .done) K47_51
@[simp] def W47_52 := @C.wpe _ _ K47_52.eq_1
def K47_53 : C := .seq (.block 1 (.seq (.pl <| .st (.ext 26 2) <|
    .st (.act none (.px (some 26) (.ia 4 (.v 14) (.v 16)))) <|
    .st (.act none (.ld (some 27) (.v 26) (some 4))) <|
    .st (.act none (.pnew 5 (.c (.agg #[.int .i64 0, .int .i64 0, .int .i64 0, .int .i64 0])) [])) <|
    .st (.act none (.pset none 5 0 4 (.v 27))) .done) K47_52)) K47_43
@[simp] def W47_53 := @C.wpe _ _ K47_53.eq_1
def K47_54 : C := .seq (.cond 26 (.v 26) (.skip) (.exit 0)) K47_53
@[simp] def W47_54 := @C.wpe _ _ K47_54.eq_1
def K47_55 : C := .seq (.pl <| .st (.ext 26 1) <|
    .st (.act none (.px (some 26) (.bin .lss (.v 16) (.v 15)))) .done) K47_54
@[simp] def W47_55 := @C.wpe _ _ K47_55.eq_1
def K47_56 : C := .block 0 (.loop 26 [0, 2, 5, 6, 7, 8, 9, 10, 11, 12, 13, 17, 18, 19, 20, 21, 22, 23, 24, 25] K47_55)
@[simp] def W47_56 := @C.wpe _ _ K47_56.eq_1
def K47_57 : C := .seq (.seq (.pl <| .st (.ext 26 1) <|
    .st (.act none (.als 26 none 1)) <|
    .st (.act none (.pget (some 14) (some 26) 1 2 none)) <|
    .st (.act none (.px (some 15) (.lenV (.v 14)))) <|
    .st (.act none (.px (some 16) (.mv (.c (.int .i64 0))))) .done) K47_56) K47_42
@[simp] def W47_57 := @C.wpe _ _ K47_57.eq_1
def K47_58 : Pl := .st (.act none (.ex none (.store 1 (.v 4) (.v 27)))) .done
@[simp] def W47_58 := @Pl.wpe _ _ K47_58.eq_1
def K47_59 : Pl := .st (.act none (.ex (some 4) (.alloc (.c (.slice none 0 0))))) K47_58
@[simp] def W47_59 := @Pl.wpe _ _ K47_59.eq_1
def K47_60 : C := .seq (.pl <| .st (.ext 26 2) <|
    .st (.act none (.ld (some 26) (.v 3) none)) <|
    .st (.act none (.ex (some 27) (.mks 64 8 [.int .u64 0, .int .u64 0, .int .u64 0, .int .u64 0, .int .u64 0, .int .u64 0, .int .u64 0, .int .u64 0] (.v 26) (.v 26)))) K47_59) K47_57
@[simp] def W47_60 := @C.wpe _ _ K47_60.eq_1
def K47_61 : Pl := .st (.act none (.ex none (.store 1 (.v 3) (.v 28)))) .done
@[simp] def W47_61 := @Pl.wpe _ _ K47_61.eq_1
def K47_62 : C := .seq (.pl <| .st (.ext 26 3) <|
    .st (.act none (.als 26 none 1)) <|
    .st (.act none (.pget (some 27) (some 26) 1 1 none)) <|
    .st (.act none (.px (some 28) (.lenV (.v 27)))) <|
    .st (.act none (.ex (some 3) (.alloc (.c (.int .i64 0))))) K47_61) K47_60
@[simp] def W47_62 := @C.wpe _ _ K47_62.eq_1
def B_impl_Automaton_simulation : C := .seq (.pl <| .st (.ext 26 0) <|
    .st (.act none (.pnew 1 (.v 0) [])) <|
    .st (.act none (.px (some 2) (.mv (.c (.slice none 0 0))))) .done) K47_62
@[simp] def WB_impl_Automaton_simulation := @C.wpe _ _ B_impl_Automaton_simulation.eq_1
def R_impl_Automaton_simulation : FIR := ⟨B_impl_Automaton_simulation, 26, [(2, none)]⟩
theorem IR_impl_Automaton_simulation : cfun Try.prog H_impl_Automaton_simulation Try.f47 = some R_impl_Automaton_simulation := by kernel_rfl
theorem EN_impl_Automaton_simulation {args : List Value} {h : Heap} {k : Value → Heap → Prop} (hargs : args.length = 1) (hw : B_impl_Automaton_simulation.wp Try.prog (retQ [(2, none)] k) (env0 args 26) h) : CallE Try.prog fn_impl_Automaton_simulation args h k := enter Try.func47 rfl IR_impl_Automaton_simulation hargs hw

def H_impl_Automaton_simulation_1 : Hint := ⟨[(0, false), (1, false), (2, false), (3, false), (4, false), (7, false), (8, false), (9, false), (10, false), (13, false), (14, false)], [[5, 6, 7, 9, 10], [5, 7]]⟩
def K96_1 : C := .seq (.pl <| .st (.ext 11 0) <|
    .st (.act none (.px (some 5) (.mv (.c (.bool true))))) .done) (.ret)
@[simp] def W96_1 := @C.wpe _ _ K96_1.eq_1
def K96_2 : C := .pl <| .st (.ext 11 1) <|
    .st (.act none (.px (some 11) (.bin .add (.v 8) (.c (.int .i64 1))))) <|
    .st (.act none (.px (some 8) (.mv (.v 11)))) .done
@[simp] def W96_2 := @C.wpe _ _ K96_2.eq_1
def K96_3 : C := .pl <| .st (.ext 11 1) <|
    .st (.act none (.px (some 11) (.bin .add (.v 10) (.c (.int .i64 1))))) <|
    .st (.act none (.px (some 10) (.mv (.v 11)))) .done
@[simp] def W96_3 := @C.wpe _ _ K96_3.eq_1
def K96_4 : C := .seq (.pl <| .st (.ext 11 0) <|
    .st (.act none (.px (some 5) (.mv (.c (.bool false))))) .done) (.ret)
@[simp] def W96_4 := @C.wpe _ _ K96_4.eq_1
def K96_5 : C := .cond 11 (.v 34) K96_4 (.skip)
@[simp] def W96_5 := @C.wpe _ _ K96_5.eq_1
def K96_6 : C := .seq (.pl <| .st (.ext 11 24) <|
    .st (.act none (.ld (some 11) (.v 3) none)) <|
    .st (.act none (.px (some 12) (.mv (.v 1)))) <|
    .st (.act none (.px (some 13) (.mv (.v 6)))) <|
    .st (.act none (.px (some 14) (.ia 8 (.v 11) (.v 12)))) <|
    .st (.act none (.px (some 15) (.iaA 8 1 (.v 14) (.v 13)))) <|
    .st (.act none (.ld (some 16) (.v 15) none)) <|
    .st (.act none (.px (some 17) (.mv (.v 7)))) <|
    .st (.act none (.px (some 18) (.bin .shr (.v 16) (.v 17)))) <|
    .st (.act none (.px (some 19) (.bin .and (.v 18) (.c (.int .u64 1))))) <|
    .st (.act none (.px (some 20) (.bin .eql (.v 19) (.c (.int .u64 1))))) <|
    .st (.act none (.px (some 21) (.mv (.v 20)))) <|
    .st (.act (some (.v 21, true)) (.ld (some 22) (.v 3) none)) <|
    .st (.act (some (.v 21, true)) (.px (some 23) (.mv (.v 0)))) <|
    .st (.act (some (.v 21, true)) (.px (some 24) (.mv (.v 6)))) <|
    .st (.act (some (.v 21, true)) (.px (some 25) (.ia 8 (.v 22) (.v 23)))) <|
    .st (.act (some (.v 21, true)) (.px (some 26) (.iaA 8 1 (.v 25) (.v 24)))) <|
    .st (.act (some (.v 21, true)) (.ld (some 27) (.v 26) none)) <|
    .st (.act (some (.v 21, true)) (.ld (some 28) (.v 4) none)) <|
    .st (.act (some (.v 21, true)) (.px (some 29) (.mv (.v 7)))) <|
    .st (.act (some (.v 21, true)) (.px (some 30) (.ia 1 (.v 28) (.v 29)))) <|
    .st (.act (some (.v 21, true)) (.ld (some 31) (.v 30) none)) <|
    .st (.act (some (.v 21, true)) (.px (some 32) (.bin .and (.v 27) (.v 31)))) <|
    .st (.act (some (.v 21, true)) (.px (some 33) (.bin .eql (.v 32) (.c (.int .u64 0))))) <|
    .st (.act none (.px (some 34) (.pick (.v 21) (.v 33) (.c (.bool false))))) .done) K96_5
@[simp] def W96_6 := @C.wpe _ _ K96_6.eq_1
def K96_7 : C := .seq (.block 3 (.seq (.pl <| .st (.ext 11 1) <|
    .st (.act none (.px (some 11) (.mv (.v 10)))) <|
    .st (.act none (.px (some 7) (.mv (.v 11)))) .done) K96_6)) K96_3
@[simp] def W96_7 := @C.wpe _ _ K96_7.eq_1
def K96_8 : C := .seq (.cond 11 (.v 11) (.skip) (.exit 2)) K96_7
@[simp] def W96_8 := @C.wpe _ _ K96_8.eq_1
def K96_9 : C := .seq (.pl <| .st (.ext 11 1) <|
    .st (.act none (.px (some 11) (.bin .lss (.v 10) (.v 9)))) .done) K96_8
@[simp] def W96_9 := @C.wpe _ _ K96_9.eq_1
def K96_10 : C := .block 2 (.loop 11 [5, 7] K96_9)
@[simp] def W96_10 := @C.wpe _ _ K96_10.eq_1
def K96_11 : C := .seq (.pl <| .st (.ext 11 0) <|
    .st (.act none (.ld (some 9) (.v 2) none)) <|
    .st (.act none (.px (some 10) (.mv (.c (.int .i64 0))))) .done) K96_10
@[simp] def W96_11 := @C.wpe _ _ K96_11.eq_1
def K96_12 : C := .seq (.block 1 (.seq (.pl <| .st (.ext 11 1) <|
    .st (.act none (.px (some 11) (.mv (.v 8)))) <|
    .st (.act none (.px (some 6) (.mv (.v 11)))) .done) K96_11)) K96_2
@[simp] def W96_12 := @C.wpe _ _ K96_12.eq_1
def K96_13 : C := .seq (.cond 11 (.v 11) (.skip) (.exit 0)) K96_12
@[simp] def W96_13 := @C.wpe _ _ K96_13.eq_1
def K96_14 : C := .seq (.pl <| .st (.ext 11 1) <|
    .st (.act none (.px (some 11) (.bin .lss (.v 8) (.c (.int .i64 8))))) .done) K96_13
@[simp] def W96_14 := @C.wpe _ _ K96_14.eq_1
def K96_15 : C := .block 0 (.loop 11 [5, 6, 7, 9, 10] K96_14)
@[simp] def W96_15 := @C.wpe _ _ K96_15.eq_1
def K96_16 : C := .seq (.seq (.pl <| .st (.ext 11 0) <|
    .st (.act none (.px (some 8) (.mv (.c (.int .i64 0))))) .done) K96_15) K96_1
@[simp] def W96_16 := @C.wpe _ _ K96_16.eq_1
def B_impl_Automaton_simulation_1 : C := .seq (.pl <| .st (.ext 11 0) <|
    .st (.act none (.px (some 5) (.mv (.c (.bool false))))) .done) K96_16
@[simp] def WB_impl_Automaton_simulation_1 := @C.wpe _ _ B_impl_Automaton_simulation_1.eq_1
def R_impl_Automaton_simulation_1 : FIR := ⟨B_impl_Automaton_simulation_1, 11, [(5, none)]⟩
theorem IR_impl_Automaton_simulation_1 : cfun Try.prog H_impl_Automaton_simulation_1 Try.f96 = some R_impl_Automaton_simulation_1 := by kernel_rfl
theorem EN_impl_Automaton_simulation_1 {args : List Value} {h : Heap} {k : Value → Heap → Prop} (hargs : args.length = 5) (hw : B_impl_Automaton_simulation_1.wp Try.prog (retQ [(5, none)] k) (env0 args 11) h) : CallE Try.prog fn_impl_Automaton_simulation_1 args h k := enter Try.func96 rfl IR_impl_Automaton_simulation_1 hargs hw

def H_spec_l13Answers : Hint := ⟨[(0, false), (1, false), (2, false), (6, false), (7, false), (8, false), (9, false), (10, false)], [[3, 5, 6, 7], [3, 6, 7], [3]]⟩
def K99_1 : C := .seq (.pl <| .st (.ext 8 0) <|
    .st (.act none (.px (some 3) (.mv (.c (.bool true))))) .done) (.ret)
@[simp] def W99_1 := @C.wpe _ _ K99_1.eq_1
def K99_2 : C := .pl <| .st (.ext 8 2) <|
    .st (.act none (.px (some 8) (.mv (.v 4)))) <|
    .st (.act none (.px (some 9) (.bin .add (.v 8) (.c (.int .i64 1))))) <|
    .st (.act none (.px (some 4) (.mv (.v 9)))) .done
@[simp] def W99_2 := @C.wpe _ _ K99_2.eq_1
def K99_3 : C := .pl <| .st (.ext 8 2) <|
    .st (.act none (.px (some 8) (.mv (.v 5)))) <|
    .st (.act none (.px (some 9) (.bin .add (.v 8) (.c (.int .i64 1))))) <|
    .st (.act none (.px (some 5) (.mv (.v 9)))) .done
@[simp] def W99_3 := @C.wpe _ _ K99_3.eq_1
def K99_4 : C := .seq (.pl <| .st (.ext 8 0) <|
    .st (.act none (.px (some 3) (.mv (.c (.bool false))))) .done) (.ret)
@[simp] def W99_4 := @C.wpe _ _ K99_4.eq_1
def K99_5 : C := .cond 8 (.v 9) K99_4 (.skip)
@[simp] def W99_5 := @C.wpe _ _ K99_5.eq_1
def K99_6 : C := .seq (.pl <| .st (.ext 8 2) <|
    .st (.act none (.px (some 8) (.mv (.v 6)))) <|
    .st (.act none (.px (some 9) (.un .not (.v 8)))) .done) K99_5
@[simp] def W99_6 := @C.wpe _ _ K99_6.eq_1
def K99_7 : C := .pl <| .st (.ext 8 2) <|
    .st (.act none (.px (some 8) (.mv (.v 7)))) <|
    .st (.act none (.px (some 9) (.bin .add (.v 8) (.c (.int .i64 1))))) <|
    .st (.act none (.px (some 7) (.mv (.v 9)))) .done
@[simp] def W99_7 := @C.wpe _ _ K99_7.eq_1
def K99_8 : Pl := .st (.act none (.px (some 14) (.mv (.v 13)))) <|
    .st (.act (some (.v 14, true)) (.px (some 15) (.mv (.v 2)))) <|
    .st (.act (some (.v 14, true)) (.px (some 16) (.mv (.v 0)))) <|
    .st (.act (some (.v 14, true)) (.px (some 17) (.mv (.v 5)))) <|
    .st (.act (some (.v 14, true)) (.px (some 18) (.ia 4 (.v 16) (.v 17)))) <|
    .st (.act (some (.v 14, true)) (.px (some 19) (.fa 3 (.v 18)))) <|
    .st (.act (some (.v 14, true)) (.ld (some 20) (.v 19) none)) <|
    .st (.act (some (.v 14, true)) (.px (some 21) (.ia 1 (.v 15) (.v 20)))) <|
    .st (.act (some (.v 14, true)) (.ld (some 22) (.v 21) none)) <|
    .st (.act (some (.v 14, true)) (.px (some 23) (.mv (.v 1)))) <|
    .st (.act (some (.v 14, true)) (.px (some 24) (.mv (.v 7)))) <|
    .st (.act (some (.v 14, true)) (.px (some 25) (.ia 4 (.v 23) (.v 24)))) <|
    .st (.act (some (.v 14, true)) (.px (some 26) (.fa 3 (.v 25)))) <|
    .st (.act (some (.v 14, true)) (.ld (some 27) (.v 26) none)) <|
    .st (.act (some (.v 14, true)) (.px (some 28) (.ia 1 (.v 22) (.v 27)))) <|
    .st (.act (some (.v 14, true)) (.ld (some 29) (.v 28) none)) <|
    .st (.act none (.px (some 30) (.pick (.v 14) (.v 29) (.c (.bool false))))) <|
    .st (.act none (.px (some 6) (.mv (.v 30)))) .done
@[simp] def W99_8 := @Pl.wpe _ _ K99_8.eq_1
def K99_9 : C := .seq (.block 5 (.pl <| .st (.ext 8 23) <|
    .st (.act none (.px (some 8) (.mv (.v 1)))) <|
    .st (.act none (.px (some 9) (.mv (.v 7)))) <|
    .st (.act none (.px (some 10) (.ia 4 (.v 8) (.v 9)))) <|
    .st (.act none (.ld (some 11) (.v 10) (some 4))) <|
    .st (.act none (.px (some 12) (.mv (.v 4)))) <|
    .st (.act none (.ex (some 13) (.call fn_spec_l7On [.v 11, .v 12]))) K99_8)) K99_7
@[simp] def W99_9 := @C.wpe _ _ K99_9.eq_1
def K99_10 : C := .cond 8 (.v 15) (.skip) (.exit 4)
@[simp] def W99_10 := @C.wpe _ _ K99_10.eq_1
def K99_11 : C := .seq (.seq (.pl <| .st (.ext 8 8) <|
    .st (.act none (.px (some 8) (.mv (.v 7)))) <|
    .st (.act none (.px (some 9) (.mv (.v 1)))) <|
    .st (.act none (.px (some 10) (.lenV (.v 9)))) <|
    .st (.act none (.px (some 11) (.bin .lss (.v 8) (.v 10)))) <|
    .st (.act none (.px (some 12) (.mv (.v 11)))) <|
    .st (.act (some (.v 12, true)) (.px (some 13) (.mv (.v 6)))) <|
    .st (.act (some (.v 12, true)) (.px (some 14) (.un .not (.v 13)))) <|
    .st (.act none (.px (some 15) (.pick (.v 12) (.v 14) (.c (.bool false))))) .done) K99_10) K99_9
@[simp] def W99_11 := @C.wpe _ _ K99_11.eq_1
def K99_12 : C := .block 4 (.loop 8 [3] K99_11)
@[simp] def W99_12 := @C.wpe _ _ K99_12.eq_1
def K99_13 : C := .seq (.seq (.pl <| .st (.ext 8 0) <|
    .st (.act none (.px (some 7) (.mv (.c (.int .i64 0))))) .done) K99_12) K99_6
@[simp] def W99_13 := @C.wpe _ _ K99_13.eq_1
def K99_14 : C := .seq (.pl <| .st (.ext 8 0) <|
    .st (.act none (.px (some 6) (.mv (.c (.bool false))))) .done) K99_13
@[simp] def W99_14 := @C.wpe _ _ K99_14.eq_1
def K99_15 : C := .cond 8 (.v 14) (.exit 3) (.skip)
@[simp] def W99_15 := @C.wpe _ _ K99_15.eq_1
def K99_16 : Pl := .st (.act none (.px (some 14) (.un .not (.v 13)))) .done
@[simp] def W99_16 := @Pl.wpe _ _ K99_16.eq_1
def K99_17 : C := .seq (.block 3 (.seq (.seq (.pl <| .st (.ext 8 7) <|
    .st (.act none (.px (some 8) (.mv (.v 0)))) <|
    .st (.act none (.px (some 9) (.mv (.v 5)))) <|
    .st (.act none (.px (some 10) (.ia 4 (.v 8) (.v 9)))) <|
    .st (.act none (.ld (some 11) (.v 10) (some 4))) <|
    .st (.act none (.px (some 12) (.mv (.v 4)))) <|
    .st (.act none (.ex (some 13) (.call fn_spec_l7On [.v 11, .v 12]))) K99_16) K99_15) K99_14)) K99_3
@[simp] def W99_17 := @C.wpe _ _ K99_17.eq_1
def K99_18 : C := .cond 8 (.v 11) (.skip) (.exit 2)
@[simp] def W99_18 := @C.wpe _ _ K99_18.eq_1
def K99_19 : C := .seq (.seq (.pl <| .st (.ext 8 4) <|
    .st (.act none (.px (some 8) (.mv (.v 5)))) <|
    .st (.act none (.px (some 9) (.mv (.v 0)))) <|
    .st (.act none (.px (some 10) (.lenV (.v 9)))) <|
    .st (.act none (.px (some 11) (.bin .lss (.v 8) (.v 10)))) .done) K99_18) K99_17
@[simp] def W99_19 := @C.wpe _ _ K99_19.eq_1
def K99_20 : C := .block 2 (.loop 8 [3, 6, 7] K99_19)
@[simp] def W99_20 := @C.wpe _ _ K99_20.eq_1
def K99_21 : C := .seq (.block 1 (.seq (.pl <| .st (.ext 8 0) <|
    .st (.act none (.px (some 5) (.mv (.c (.int .i64 0))))) .done) K99_20)) K99_2
@[simp] def W99_21 := @C.wpe _ _ K99_21.eq_1
def K99_22 : C := .cond 8 (.v 9) (.skip) (.exit 0)
@[simp] def W99_22 := @C.wpe _ _ K99_22.eq_1
def K99_23 : C := .seq (.seq (.pl <| .st (.ext 8 2) <|
    .st (.act none (.px (some 8) (.mv (.v 4)))) <|
    .st (.act none (.px (some 9) (.bin .leq (.v 8) (.c (.int .i64 7))))) .done) K99_22) K99_21
@[simp] def W99_23 := @C.wpe _ _ K99_23.eq_1
def K99_24 : C := .block 0 (.loop 8 [3, 5, 6, 7] K99_23)
@[simp] def W99_24 := @C.wpe _ _ K99_24.eq_1
def K99_25 : C := .seq (.seq (.pl <| .st (.ext 8 0) <|
    .st (.act none (.px (some 4) (.mv (.c (.int .i64 0))))) .done) K99_24) K99_1
@[simp] def W99_25 := @C.wpe _ _ K99_25.eq_1
def B_spec_l13Answers : C := .seq (.pl <| .st (.ext 8 0) <|
    .st (.act none (.px (some 3) (.mv (.c (.bool false))))) .done) K99_25
@[simp] def WB_spec_l13Answers := @C.wpe _ _ B_spec_l13Answers.eq_1
def R_spec_l13Answers : FIR := ⟨B_spec_l13Answers, 8, [(3, none)]⟩
theorem IR_spec_l13Answers : cfun Try.prog H_spec_l13Answers Try.f99 = some R_spec_l13Answers := by kernel_rfl
theorem EN_spec_l13Answers {args : List Value} {h : Heap} {k : Value → Heap → Prop} (hargs : args.length = 3) (hw : B_spec_l13Answers.wp Try.prog (retQ [(3, none)] k) (env0 args 8) h) : CallE Try.prog fn_spec_l13Answers args h k := enter Try.func99 rfl IR_spec_l13Answers hargs hw

def H_spec_l13Leaving : Hint := ⟨[(0, false), (1, true), (2, false), (3, false), (4, false)], [[0, 2]]⟩
def K98_1 : C := .seq (.pl <| .st (.ext 5 1) <|
    .st (.act none (.px (some 5) (.mv (.v 3)))) <|
    .st (.act none (.px (some 2) (.mv (.v 5)))) .done) (.ret)
@[simp] def W98_1 := @C.wpe _ _ K98_1.eq_1
def K98_2 : C := .pl <| .st (.ext 5 2) <|
    .st (.act none (.px (some 5) (.mv (.v 4)))) <|
    .st (.act none (.px (some 6) (.bin .add (.v 5) (.c (.int .i64 1))))) <|
    .st (.act none (.px (some 4) (.mv (.v 6)))) .done
@[simp] def W98_2 := @C.wpe _ _ K98_2.eq_1
def K98_3 : Pl := .st (.re 11 (.v 10) none none) <|
    .st (.act none (.px (some 28) (.ia 1 (.v 5) (.v 11)))) <|
    .st (.act none (.ex none (.store 1 (.v 28) (.v 27)))) .done
@[simp] def W98_3 := @Pl.wpe _ _ K98_3.eq_1
def K98_4 : C := .seq (.block 1 (.pl <| .st (.ext 5 24) <|
    .st (.act none (.px (some 5) (.mv (.v 3)))) <|
    .st (.act none (.als 6 none 1)) <|
    .st (.act none (.pget (some 7) (some 6) 1 2 none)) <|
    .st (.act none (.px (some 8) (.mv (.v 4)))) <|
    .st (.act none (.px (some 9) (.ia 4 (.v 7) (.v 8)))) <|
    .st (.act none (.px (some 10) (.fa 0 (.v 9)))) <|
    .st (.act none (.ld (some 11) (.v 10) none)) <|
    .st (.act none (.px (some 12) (.mv (.v 3)))) <|
    .st (.act none (.als 13 none 1)) <|
    .st (.act none (.pget (some 14) (some 13) 1 2 none)) <|
    .st (.act none (.px (some 15) (.mv (.v 4)))) <|
    .st (.act none (.px (some 16) (.ia 4 (.v 14) (.v 15)))) <|
    .st (.act none (.px (some 17) (.fa 0 (.v 16)))) <|
    .st (.act none (.ld (some 18) (.v 17) none)) <|
    .st (.act none (.px (some 19) (.ia 1 (.v 12) (.v 18)))) <|
    .st (.act none (.ld (some 20) (.v 19) none)) <|
    .st (.act none (.als 21 none 1)) <|
    .st (.act none (.pget (some 22) (some 21) 1 2 none)) <|
    .st (.act none (.px (some 23) (.mv (.v 4)))) <|
    .st (.act none (.px (some 24) (.ia 4 (.v 22) (.v 23)))) <|
    .st (.act none (.ld (some 25) (.v 24) (some 4))) <|
    .st (.act none (.psl 26 [.int .i64 0, .int .i64 0, .int .i64 0, .int .i64 0] [(0, 4, .v 25)])) <|
    .st (.act none (.ex (some 27) (.app 32 4 [.int .i64 0, .int .i64 0, .int .i64 0, .int .i64 0] (.o (.v 20)) (.p 1 26)))) K98_3)) K98_2
@[simp] def W98_4 := @C.wpe _ _ K98_4.eq_1
def K98_5 : C := .cond 5 (.v 9) (.skip) (.exit 0)
@[simp] def W98_5 := @C.wpe _ _ K98_5.eq_1
def K98_6 : C := .seq (.seq (.pl <| .st (.ext 5 5) <|
    .st (.act none (.px (some 5) (.mv (.v 4)))) <|
    .st (.act none (.als 6 none 1)) <|
    .st (.act none (.pget (some 7) (some 6) 1 2 none)) <|
    .st (.act none (.px (some 8) (.lenV (.v 7)))) <|
    .st (.act none (.px (some 9) (.bin .lss (.v 5) (.v 8)))) .done) K98_5) K98_4
@[simp] def W98_6 := @C.wpe _ _ K98_6.eq_1
def K98_7 : C := .block 0 (.loop 5 [0, 2] K98_6)
@[simp] def W98_7 := @C.wpe _ _ K98_7.eq_1
def K98_8 : C := .seq (.seq (.pl <| .st (.ext 5 0) <|
    .st (.act none (.px (some 4) (.mv (.c (.int .i64 0))))) .done) K98_7) K98_1
@[simp] def W98_8 := @C.wpe _ _ K98_8.eq_1
def K98_9 : Pl := .st (.act none (.px (some 3) (.mv (.v 8)))) .done
@[simp] def W98_9 := @Pl.wpe _ _ K98_9.eq_1
def K98_10 : C := .seq (.pl <| .st (.ext 5 4) <|
    .st (.act none (.als 5 none 1)) <|
    .st (.act none (.pget (some 6) (some 5) 1 1 none)) <|
    .st (.act none (.px (some 7) (.lenV (.v 6)))) <|
    .st (.act none (.ex (some 8) (.mks 24 1 [.slice none 0 0] (.v 7) (.v 7)))) K98_9) K98_8
@[simp] def W98_10 := @C.wpe _ _ K98_10.eq_1
def B_spec_l13Leaving : C := .seq (.pl <| .st (.ext 5 0) <|
    .st (.act none (.pnew 1 (.v 0) [])) <|
    .st (.act none (.px (some 2) (.mv (.c (.slice none 0 0))))) .done) K98_10
@[simp] def WB_spec_l13Leaving := @C.wpe _ _ B_spec_l13Leaving.eq_1
def R_spec_l13Leaving : FIR := ⟨B_spec_l13Leaving, 5, [(2, none)]⟩
theorem IR_spec_l13Leaving : cfun Try.prog H_spec_l13Leaving Try.f98 = some R_spec_l13Leaving := by kernel_rfl
theorem EN_spec_l13Leaving {args : List Value} {h : Heap} {k : Value → Heap → Prop} (hargs : args.length = 1) (hw : B_spec_l13Leaving.wp Try.prog (retQ [(2, none)] k) (env0 args 5) h) : CallE Try.prog fn_spec_l13Leaving args h k := enter Try.func98 rfl IR_spec_l13Leaving hargs hw

def H_spec_l13Relation : Hint := ⟨[(0, false), (1, true), (2, false), (3, false), (4, false), (5, false), (6, false), (7, false), (8, false), (9, false), (10, false), (11, false)], [[0, 2, 6, 7, 8, 9, 10, 11], [0, 2, 8, 9, 10, 11], [0, 1, 2, 5, 6, 7, 10, 11], [0, 1, 2, 5, 6, 7, 11], [0, 1, 2, 5, 6, 7]]⟩
def K49_1 : C := .seq (.pl <| .st (.ext 12 1) <|
    .st (.act none (.px (some 12) (.mv (.v 4)))) <|
    .st (.act none (.px (some 2) (.mv (.v 12)))) .done) (.ret)
@[simp] def W49_1 := @C.wpe _ _ K49_1.eq_1
def K49_2 : C := .pl <| .st (.ext 12 2) <|
    .st (.act none (.px (some 12) (.mv (.v 10)))) <|
    .st (.act none (.px (some 13) (.bin .add (.v 12) (.c (.int .i64 1))))) <|
    .st (.act none (.px (some 10) (.mv (.v 13)))) .done
@[simp] def W49_2 := @C.wpe _ _ K49_2.eq_1
def K49_3 : C := .pl <| .st (.ext 12 2) <|
    .st (.act none (.px (some 12) (.mv (.v 11)))) <|
    .st (.act none (.px (some 13) (.bin .add (.v 12) (.c (.int .i64 1))))) <|
    .st (.act none (.px (some 11) (.mv (.v 13)))) .done
@[simp] def W49_3 := @C.wpe _ _ K49_3.eq_1
def K49_4 : C := .pl <| .st (.ext 12 0) <|
    .st (.act none (.px (some 9) (.mv (.c (.bool true))))) .done
@[simp] def W49_4 := @C.wpe _ _ K49_4.eq_1
def K49_5 : C := .seq (.pl <| .st (.ext 12 6) <|
    .st (.act none (.px (some 12) (.mv (.v 4)))) <|
    .st (.act none (.px (some 13) (.mv (.v 10)))) <|
    .st (.act none (.px (some 14) (.ia 1 (.v 12) (.v 13)))) <|
    .st (.act none (.ld (some 15) (.v 14) none)) <|
    .st (.act none (.px (some 16) (.mv (.v 11)))) <|
    .st (.act none (.px (some 17) (.ia 1 (.v 15) (.v 16)))) <|
    .st (.act none (.ex none (.store 1 (.v 17) (.c (.bool false))))) .done) K49_4
@[simp] def W49_5 := @C.wpe _ _ K49_5.eq_1
def K49_6 : C := .cond 12 (.v 31) K49_5 (.skip)
@[simp] def W49_6 := @C.wpe _ _ K49_6.eq_1
def K49_7 : Pl := .st (.act (some (.v 19, true)) (.px (some 30) (.un .not (.v 29)))) <|
    .st (.act none (.px (some 31) (.pick (.v 19) (.v 30) (.c (.bool false))))) .done
@[simp] def W49_7 := @Pl.wpe _ _ K49_7.eq_1
def K49_8 : C := .seq (.block 9 (.seq (.pl <| .st (.ext 12 20) <|
    .st (.act none (.px (some 12) (.mv (.v 4)))) <|
    .st (.act none (.px (some 13) (.mv (.v 10)))) <|
    .st (.act none (.px (some 14) (.ia 1 (.v 12) (.v 13)))) <|
    .st (.act none (.ld (some 15) (.v 14) none)) <|
    .st (.act none (.px (some 16) (.mv (.v 11)))) <|
    .st (.act none (.px (some 17) (.ia 1 (.v 15) (.v 16)))) <|
    .st (.act none (.ld (some 18) (.v 17) none)) <|
    .st (.act none (.px (some 19) (.mv (.v 18)))) <|
    .st (.act (some (.v 19, true)) (.px (some 20) (.mv (.v 8)))) <|
    .st (.act (some (.v 19, true)) (.px (some 21) (.mv (.v 10)))) <|
    .st (.act (some (.v 19, true)) (.px (some 22) (.ia 1 (.v 20) (.v 21)))) <|
    .st (.act (some (.v 19, true)) (.ld (some 23) (.v 22) none)) <|
    .st (.act (some (.v 19, true)) (.px (some 24) (.mv (.v 8)))) <|
    .st (.act (some (.v 19, true)) (.px (some 25) (.mv (.v 11)))) <|
    .st (.act (some (.v 19, true)) (.px (some 26) (.ia 1 (.v 24) (.v 25)))) <|
    .st (.act (some (.v 19, true)) (.ld (some 27) (.v 26) none)) <|
    .st (.act (some (.v 19, true)) (.px (some 28) (.mv (.v 4)))) <|
    .st (.act (some (.v 19, true)) (.ex (some 29) (.call fn_spec_l13Answers [.v 23, .v 27, .v 28]))) K49_7) K49_6)) K49_3
@[simp] def W49_8 := @C.wpe _ _ K49_8.eq_1
def K49_9 : C := .cond 12 (.v 14) (.skip) (.exit 8)
@[simp] def W49_9 := @C.wpe _ _ K49_9.eq_1
def K49_10 : C := .seq (.seq (.pl <| .st (.ext 12 3) <|
    .st (.act none (.px (some 12) (.mv (.v 11)))) <|
    .st (.act none (.px (some 13) (.mv (.v 3)))) <|
    .st (.act none (.px (some 14) (.bin .lss (.v 12) (.v 13)))) .done) K49_9) K49_8
@[simp] def W49_10 := @C.wpe _ _ K49_10.eq_1
def K49_11 : C := .block 8 (.loop 12 [0, 1, 2, 5, 6, 7] K49_10)
@[simp] def W49_11 := @C.wpe _ _ K49_11.eq_1
def K49_12 : C := .seq (.block 7 (.seq (.pl <| .st (.ext 12 0) <|
    .st (.act none (.px (some 11) (.mv (.c (.int .i64 0))))) .done) K49_11)) K49_2
@[simp] def W49_12 := @C.wpe _ _ K49_12.eq_1
def K49_13 : C := .cond 12 (.v 14) (.skip) (.exit 6)
@[simp] def W49_13 := @C.wpe _ _ K49_13.eq_1
def K49_14 : C := .seq (.seq (.pl <| .st (.ext 12 3) <|
    .st (.act none (.px (some 12) (.mv (.v 10)))) <|
    .st (.act none (.px (some 13) (.mv (.v 3)))) <|
    .st (.act none (.px (some 14) (.bin .lss (.v 12) (.v 13)))) .done) K49_13) K49_12
@[simp] def W49_14 := @C.wpe _ _ K49_14.eq_1
def K49_15 : C := .block 6 (.loop 12 [0, 1, 2, 5, 6, 7, 11] K49_14)
@[simp] def W49_15 := @C.wpe _ _ K49_15.eq_1
def K49_16 : C := .seq (.pl <| .st (.ext 12 0) <|
    .st (.act none (.px (some 10) (.mv (.c (.int .i64 0))))) .done) K49_15
@[simp] def W49_16 := @C.wpe _ _ K49_16.eq_1
def K49_17 : C := .block 5 (.seq (.pl <| .st (.ext 12 0) <|
    .st (.act none (.px (some 9) (.mv (.c (.bool false))))) .done) K49_16)
@[simp] def W49_17 := @C.wpe _ _ K49_17.eq_1
def K49_18 : C := .cond 12 (.v 12) (.skip) (.exit 4)
@[simp] def W49_18 := @C.wpe _ _ K49_18.eq_1
def K49_19 : C := .seq (.seq (.pl <| .st (.ext 12 1) <|
    .st (.act none (.px (some 12) (.mv (.v 9)))) .done) K49_18) K49_17
@[simp] def W49_19 := @C.wpe _ _ K49_19.eq_1
def K49_20 : C := .block 4 (.loop 12 [0, 1, 2, 5, 6, 7, 10, 11] K49_19)
@[simp] def W49_20 := @C.wpe _ _ K49_20.eq_1
def K49_21 : C := .seq (.seq (.pl <| .st (.ext 12 0) <|
    .st (.act none (.px (some 9) (.mv (.c (.bool true))))) .done) K49_20) K49_1
@[simp] def W49_21 := @C.wpe _ _ K49_21.eq_1
def K49_22 : Pl := .st (.act none (.px (some 8) (.mv (.v 13)))) .done
@[simp] def W49_22 := @Pl.wpe _ _ K49_22.eq_1
def K49_23 : C := .seq (.pl <| .st (.ext 12 2) <|
    .st (.act none (.pget (some 12) none 1 0 (some 3))) <|
    .st (.act none (.ex (some 13) (.call fn_spec_l13Leaving [.v 12]))) K49_22) K49_21
@[simp] def W49_23 := @C.wpe _ _ K49_23.eq_1
def K49_24 : C := .pl <| .st (.ext 12 2) <|
    .st (.act none (.px (some 12) (.mv (.v 5)))) <|
    .st (.act none (.px (some 13) (.bin .add (.v 12) (.c (.int .i64 1))))) <|
    .st (.act none (.px (some 5) (.mv (.v 13)))) .done
@[simp] def W49_24 := @C.wpe _ _ K49_24.eq_1
def K49_25 : Pl := .st (.act none (.px (some 4) (.mv (.v 15)))) .done
@[simp] def W49_25 := @Pl.wpe _ _ K49_25.eq_1
def K49_26 : C := .pl <| .st (.ext 12 4) <|
    .st (.act none (.px (some 12) (.mv (.v 4)))) <|
    .st (.act none (.px (some 13) (.mv (.v 6)))) <|
    .st (.act none (.psl 14 [.slice none 0 0] [(0, 1, .v 13)])) <|
    .st (.act none (.ex (some 15) (.app 24 1 [.slice none 0 0] (.o (.v 12)) (.p 1 14)))) K49_25
@[simp] def W49_26 := @C.wpe _ _ K49_26.eq_1
def K49_27 : C := .pl <| .st (.ext 12 2) <|
    .st (.act none (.px (some 12) (.mv (.v 7)))) <|
    .st (.act none (.px (some 13) (.bin .add (.v 12) (.c (.int .i64 1))))) <|
    .st (.act none (.px (some 7) (.mv (.v 13)))) .done
@[simp] def W49_27 := @C.wpe _ _ K49_27.eq_1
def K49_28 : Pl := .st (.act none (.px (some 6) (.mv (.v 27)))) .done
@[simp] def W49_28 := @Pl.wpe _ _ K49_28.eq_1
def K49_29 : C := .seq (.block 3 (.pl <| .st (.ext 12 16) <|
    .st (.act none (.px (some 12) (.mv (.v 6)))) <|
    .st (.act none (.als 13 none 1)) <|
    .st (.act none (.pget (some 14) (some 13) 1 1 none)) <|
    .st (.act none (.px (some 15) (.mv (.v 5)))) <|
    .st (.act none (.px (some 16) (.ia 1 (.v 14) (.v 15)))) <|
    .st (.act none (.ld (some 17) (.v 16) none)) <|
    .st (.act none (.px (some 18) (.un .not (.v 17)))) <|
    .st (.act none (.px (some 19) (.mv (.v 18)))) <|
    .st (.act (some (.v 19, false)) (.als 20 none 1)) <|
    .st (.act (some (.v 19, false)) (.pget (some 21) (some 20) 1 1 none)) <|
    .st (.act (some (.v 19, false)) (.px (some 22) (.mv (.v 7)))) <|
    .st (.act (some (.v 19, false)) (.px (some 23) (.ia 1 (.v 21) (.v 22)))) <|
    .st (.act (some (.v 19, false)) (.ld (some 24) (.v 23) none)) <|
    .st (.act none (.px (some 25) (.pick (.v 19) (.c (.bool true)) (.v 24)))) <|
    .st (.act none (.psl 26 [.bool false] [(0, 1, .v 25)])) <|
    .st (.act none (.ex (some 27) (.app 1 1 [.bool false] (.o (.v 12)) (.p 1 26)))) K49_28)) K49_27
@[simp] def W49_29 := @C.wpe _ _ K49_29.eq_1
def K49_30 : C := .cond 12 (.v 14) (.skip) (.exit 2)
@[simp] def W49_30 := @C.wpe _ _ K49_30.eq_1
def K49_31 : C := .seq (.seq (.pl <| .st (.ext 12 3) <|
    .st (.act none (.px (some 12) (.mv (.v 7)))) <|
    .st (.act none (.px (some 13) (.mv (.v 3)))) <|
    .st (.act none (.px (some 14) (.bin .lss (.v 12) (.v 13)))) .done) K49_30) K49_29
@[simp] def W49_31 := @C.wpe _ _ K49_31.eq_1
def K49_32 : C := .block 2 (.loop 12 [0, 2, 8, 9, 10, 11] K49_31)
@[simp] def W49_32 := @C.wpe _ _ K49_32.eq_1
def K49_33 : C := .seq (.seq (.pl <| .st (.ext 12 0) <|
    .st (.act none (.px (some 7) (.mv (.c (.int .i64 0))))) .done) K49_32) K49_26
@[simp] def W49_33 := @C.wpe _ _ K49_33.eq_1
def K49_34 : Pl := .st (.act none (.px (some 6) (.mv (.v 12)))) .done
@[simp] def W49_34 := @Pl.wpe _ _ K49_34.eq_1
def K49_35 : C := .seq (.block 1 (.seq (.pl <| .st (.ext 12 1) <|
    .st (.act none (.ex (some 12) (.bls 1 0 [.bool false] []))) K49_34) K49_33)) K49_24
@[simp] def W49_35 := @C.wpe _ _ K49_35.eq_1
def K49_36 : C := .cond 12 (.v 14) (.skip) (.exit 0)
@[simp] def W49_36 := @C.wpe _ _ K49_36.eq_1
def K49_37 : C := .seq (.seq (.pl <| .st (.ext 12 3) <|
    .st (.act none (.px (some 12) (.mv (.v 5)))) <|
    .st (.act none (.px (some 13) (.mv (.v 3)))) <|
    .st (.act none (.px (some 14) (.bin .lss (.v 12) (.v 13)))) .done) K49_36) K49_35
@[simp] def W49_37 := @C.wpe _ _ K49_37.eq_1
def K49_38 : C := .block 0 (.loop 12 [0, 2, 6, 7, 8, 9, 10, 11] K49_37)
@[simp] def W49_38 := @C.wpe _ _ K49_38.eq_1
def K49_39 : C := .seq (.seq (.pl <| .st (.ext 12 0) <|
    .st (.act none (.px (some 5) (.mv (.c (.int .i64 0))))) .done) K49_38) K49_23
@[simp] def W49_39 := @C.wpe _ _ K49_39.eq_1
def K49_40 : Pl := .st (.act none (.px (some 4) (.mv (.v 12)))) .done
@[simp] def W49_40 := @Pl.wpe _ _ K49_40.eq_1
def K49_41 : C := .seq (.pl <| .st (.ext 12 1) <|
    .st (.act none (.ex (some 12) (.bls 1 0 [.slice none 0 0] []))) K49_40) K49_39
@[simp] def W49_41 := @C.wpe _ _ K49_41.eq_1
def K49_42 : C := .seq (.pl <| .st (.ext 12 3) <|
    .st (.act none (.als 12 none 1)) <|
    .st (.act none (.pget (some 13) (some 12) 1 1 none)) <|
    .st (.act none (.px (some 14) (.lenV (.v 13)))) <|
    .st (.act none (.px (some 3) (.mv (.v 14)))) .done) K49_41
@[simp] def W49_42 := @C.wpe _ _ K49_42.eq_1
def B_spec_l13Relation : C := .seq (.pl <| .st (.ext 12 0) <|
    .st (.act none (.pnew 1 (.v 0) [])) <|
    .st (.act none (.px (some 2) (.mv (.c (.slice none 0 0))))) .done) K49_42
@[simp] def WB_spec_l13Relation := @C.wpe _ _ B_spec_l13Relation.eq_1
def R_spec_l13Relation : FIR := ⟨B_spec_l13Relation, 12, [(2, none)]⟩
theorem IR_spec_l13Relation : cfun Try.prog H_spec_l13Relation Try.f49 = some R_spec_l13Relation := by kernel_rfl
theorem EN_spec_l13Relation {args : List Value} {h : Heap} {k : Value → Heap → Prop} (hargs : args.length = 1) (hw : B_spec_l13Relation.wp Try.prog (retQ [(2, none)] k) (env0 args 12) h) : CallE Try.prog fn_spec_l13Relation args h k := enter Try.func49 rfl IR_spec_l13Relation hargs hw


end Go.Proofs.Ytglnelcmcimljaa
