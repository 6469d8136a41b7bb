/-
  Plain laws: states that are the same get one number; what is left of an automaton then.
-/
import Derived.Test.YtknkjplnngeebaaL5
import Derived.Test.YtknkjplnngeebaaL2
namespace Go.Proofs.Ytknkjplnngeebaa
open Go
set_option linter.all false
set_option linter.unusedVariables false
set_option linter.unusedSimpArgs false
set_option linter.defProp false
set_option maxRecDepth 1000000

theorem map_take_succ {α β : Type} {f : α → β} {l : List α} {i : Nat} (hi : i < l.length) : (l.take (i + 1)).map f = (l.take i).map f ++ [f l[i]] := by
  rw [List.take_add_one, List.getElem?_eq_getElem hi, List.map_append]; rfl
/-- numbers of the first so many states, in the order of the first ones: a state that is the same as an earlier one has that one's number -/
def grpS (e : Nat → Nat → Bool) : Nat → List Nat × Nat
  | 0 => ([], 0)
  | i + 1 => match (List.range i).find? (fun k => e i k) with
    | some k => ((grpS e i).1 ++ [(grpS e i).1.getD k 0], (grpS e i).2)
    | none => ((grpS e i).1 ++ [(grpS e i).2], (grpS e i).2 + 1)
theorem grpS_old {e : Nat → Nat → Bool} {i k : Nat} (h : (List.range i).find? (fun k => e i k) = some k) : grpS e (i + 1) = ((grpS e i).1 ++ [(grpS e i).1.getD k 0], (grpS e i).2) := by simp [grpS, h]
theorem grpS_new {e : Nat → Nat → Bool} {i : Nat} (h : (List.range i).find? (fun k => e i k) = none) : grpS e (i + 1) = ((grpS e i).1 ++ [(grpS e i).2], (grpS e i).2 + 1) := by simp [grpS, h]
theorem find_range {p : Nat → Bool} {i k : Nat} (hk : k < i) (hp : p k = true) (hn : ∀ j, j < k → p j = false) : (List.range i).find? p = some k := by
  rw [List.find?_eq_some_iff_getElem]
  refine ⟨hp, k, by simpa using hk, by simp, fun j hj => ?_⟩
  simp [hn j hj]
theorem find_none {p : Nat → Bool} {i : Nat} (hn : ∀ j, j < i → p j = false) : (List.range i).find? p = none := by
  rw [List.find?_eq_none]
  intro x hx
  simp [hn x (by simpa using hx)]
theorem find_lt {p : Nat → Bool} {i k : Nat} (h : (List.range i).find? p = some k) : k < i := by
  have := List.mem_of_find?_eq_some h
  simpa using this
theorem grpS_len {e : Nat → Nat → Bool} : ∀ i, (grpS e i).1.length = i
  | 0 => rfl
  | i + 1 => by
    cases h : (List.range i).find? (fun k => e i k) with
    | some k => rw [grpS_old h]; simp [grpS_len i]
    | none => rw [grpS_new h]; simp [grpS_len i]
theorem grpS_le {e : Nat → Nat → Bool} : ∀ i, (grpS e i).2 ≤ i
  | 0 => Nat.le_refl _
  | i + 1 => by
    have := grpS_le (e := e) i
    cases h : (List.range i).find? (fun k => e i k) with
    | some k => rw [grpS_old h]; exact Nat.le_succ_of_le this
    | none => rw [grpS_new h]; exact Nat.succ_le_succ this
theorem grpS_pos {e : Nat → Nat → Bool} : ∀ i, 1 ≤ i → 1 ≤ (grpS e i).2
  | 0, h => by omega
  | i + 1, _ => by
    cases h : (List.range i).find? (fun k => e i k) with
    | some k =>
      rw [grpS_old h]
      exact grpS_pos i (by have := find_lt h; omega)
    | none => rw [grpS_new h]; exact Nat.succ_le_succ (Nat.zero_le _)
theorem grpS_lt {e : Nat → Nat → Bool} : ∀ i, ∀ x ∈ (grpS e i).1, x < (grpS e i).2
  | 0, x, hx => by simp [grpS] at hx
  | i + 1, x, hx => by
    cases h : (List.range i).find? (fun k => e i k) with
    | some k =>
      have hk := find_lt h
      rw [grpS_old h] at hx ⊢
      rcases List.mem_append.1 hx with hx | hx
      · exact grpS_lt i x hx
      · obtain rfl : x = (grpS e i).1.getD k 0 := by simpa using hx
        have hl := grpS_len (e := e) i
        rw [List.getD_eq_getElem?_getD, List.getElem?_eq_getElem (by omega)]
        exact grpS_lt i _ (List.getElem_mem (by omega))
    | none =>
      rw [grpS_new h] at hx ⊢
      rcases List.mem_append.1 hx with hx | hx
      · have := grpS_lt i x hx
        show x < (grpS e i).2 + 1
        omega
      · obtain rfl : x = (grpS e i).2 := by simpa using hx
        exact Nat.lt_succ_self _
theorem grpS_get {e : Nat → Nat → Bool} {n : Nat} : ∀ {i q : Nat}, q < i → i ≤ n → (grpS e n).1.getD q 0 = (grpS e i).1.getD q 0 := by
  have key : ∀ m i q, q < i → (grpS e (i + m)).1.getD q 0 = (grpS e i).1.getD q 0 := by
    intro m
    induction m with
    | zero => intros; rfl
    | succ m ih =>
      intro i q hq
      have hl := grpS_len (e := e) (i + m)
      rw [← ih i q hq, show i + (m + 1) = (i + m) + 1 by omega]
      cases h : (List.range (i + m)).find? (fun k => e (i + m) k) with
      | some k =>
        rw [grpS_old h]
        simp only [List.getD_eq_getElem?_getD]
        rw [List.getElem?_append_left (by omega)]
      | none =>
        rw [grpS_new h]
        simp only [List.getD_eq_getElem?_getD]
        rw [List.getElem?_append_left (by omega)]
  intro i q hq hi
  have := key (n - i) i q hq
  rwa [show i + (n - i) = n by omega] at this
theorem grpS_congr {e e' : Nat → Nat → Bool} : ∀ {i : Nat}, (∀ x y, x < i → y < x → e x y = e' x y) → grpS e i = grpS e' i
  | 0, _ => rfl
  | i + 1, h => by
    have ih := grpS_congr (e := e) (e' := e') (i := i) fun x y hx hy => h x y (by omega) hy
    have hf : (List.range i).find? (fun k => e i k) = (List.range i).find? (fun k => e' i k) := by
      have hall : ∀ l : List Nat, (∀ k ∈ l, k < i) → l.find? (fun k => e i k) = l.find? (fun k => e' i k) := by
        intro l
        induction l with
        | nil => intro _; rfl
        | cons x l ihl =>
          intro hl
          rw [List.find?_cons, List.find?_cons, h i x (by omega) (hl x (by simp)), ihl fun k hk => hl k (by simp [hk])]
      exact hall _ fun k hk => by simpa using hk
    cases hc : (List.range i).find? (fun k => e i k) with
    | some k => rw [grpS_old hc, grpS_old (hf ▸ hc), ih]
    | none => rw [grpS_new hc, grpS_new (hf ▸ hc), ih]

/-- the accepting marks of the first ones -/
def accG (a : Aut) (e : Nat → Nat → Bool) : Nat → List Bool
  | 0 => []
  | i + 1 => match (List.range i).find? (fun k => e i k) with
    | some _ => accG a e i
    | none => accG a e i ++ [a.acc.getD i false]
theorem accG_len {a : Aut} {e : Nat → Nat → Bool} : ∀ i, (accG a e i).length = (grpS e i).2
  | 0 => rfl
  | i + 1 => by
    cases h : (List.range i).find? (fun k => e i k) with
    | some k => rw [grpS_old h]; simp [accG, h, accG_len i]
    | none => rw [grpS_new h]; simp [accG, h, accG_len i]
theorem accG_congr {a : Aut} {e e' : Nat → Nat → Bool} : ∀ {i : Nat}, (∀ x y, x < i → y < x → e x y = e' x y) → accG a e i = accG a e' i
  | 0, _ => rfl
  | i + 1, h => by
    have ih := accG_congr (a := a) (e := e) (e' := e') (i := i) fun x y hx hy => h x y (by omega) hy
    have hf : (List.range i).find? (fun k => e i k) = (List.range i).find? (fun k => e' i k) := by
      have hall : ∀ l : List Nat, (∀ k ∈ l, k < i) → l.find? (fun k => e i k) = l.find? (fun k => e' i k) := by
        intro l
        induction l with
        | nil => intro _; rfl
        | cons x l ihl =>
          intro hl
          rw [List.find?_cons, List.find?_cons, h i x (by omega) (hl x (by simp)), ihl fun k hk => hl k (by simp [hk])]
      exact hall _ fun k hk => by simpa using hk
    simp only [accG, hf, ih]

/-- each kept once, at its first place -/
def ded (l : List Tr) : List Tr := l.foldl (fun o f => if f ∈ o then o else o ++ [f]) []
theorem ded_succ {l : List Tr} {i : Nat} (hi : i < l.length) : ded (l.take (i + 1)) = if l[i] ∈ ded (l.take i) then ded (l.take i) else ded (l.take i) ++ [l[i]] := by
  unfold ded
  rw [foldl_take hi]
theorem ded_mem {l : List Tr} {x : Tr} : x ∈ ded l ↔ x ∈ l := by
  have key : ∀ (l o : List Tr), x ∈ l.foldl (fun o f => if f ∈ o then o else o ++ [f]) o ↔ x ∈ o ∨ x ∈ l := by
    intro l
    induction l with
    | nil => simp
    | cons y l ih =>
      intro o
      rw [List.foldl_cons, ih]
      by_cases h : y ∈ o
      · rw [if_pos h]
        constructor
        · rintro (h1 | h1)
          · exact .inl h1
          · exact .inr (by simp [h1])
        · rintro (h1 | h1)
          · exact .inl h1
          · rcases List.mem_cons.1 h1 with rfl | h1
            · exact .inl h
            · exact .inr h1
      · rw [if_neg h]
        simp [or_assoc]
  have := key l []
  simpa [ded] using this
theorem ded_len {l : List Tr} : (ded l).length ≤ l.length := by
  have key : ∀ (l o : List Tr), (l.foldl (fun o f => if f ∈ o then o else o ++ [f]) o).length ≤ o.length + l.length := by
    intro l
    induction l with
    | nil => simp
    | cons y l ih =>
      intro o
      rw [List.foldl_cons]
      refine Nat.le_trans (ih _) ?_
      split <;> simp <;> omega
  have := key l []
  simpa [ded] using this

def gnm (e : Nat → Nat → Bool) (n : Nat) (x : Int) : Int := ((grpS e n).1.getD x.toNat 0 : Nat)
theorem gnm_lt {e : Nat → Nat → Bool} {n : Nat} {x : Int} (h0 : 0 ≤ x) (h1 : x < n) : 0 ≤ gnm e n x ∧ gnm e n x < (grpS e n).2 := by
  have hl := grpS_len (e := e) n
  have hx : x.toNat < (grpS e n).1.length := by omega
  have := grpS_lt (e := e) n _ (List.getElem_mem hx)
  unfold gnm
  rw [List.getD_eq_getElem?_getD, List.getElem?_eq_getElem hx]
  simp only [Option.getD_some]
  omega
/-- states that are the same become one -/
def Aut.mergeE (a : Aut) (e : Nat → Nat → Bool) : Aut :=
  ⟨memL (fun b => a.init.any fun q => decide (gnm e a.acc.length q = (b : Int))) (grpS e a.acc.length).2, accG a e a.acc.length, ded (a.edges.map (Tr.ren (gnm e a.acc.length)))⟩
theorem Aut.mergeE_ok {a : Aut} (ha : a.Ok) (e : Nat → Nat → Bool) : (a.mergeE e).Ok := by
  have hn := ha.n
  have h1 := grpS_le (e := e) a.acc.length
  have h2 := grpS_pos (e := e) a.acc.length hn.1
  have h3 := accG_len (a := a) (e := e) a.acc.length
  have h4 := ded_len (l := a.edges.map (Tr.ren (gnm e a.acc.length)))
  simp only [List.length_map] at h4
  have h5 := ha.e
  refine ⟨⟨by show 1 ≤ (accG a e a.acc.length).length; omega, by show (accG a e a.acc.length).length ≤ 64; omega⟩, Nat.le_trans h4 h5, ?_, ?_⟩
  · show incr ((accG a e a.acc.length).length : Nat) (-1) _
    rw [h3]
    exact memL_incr (Nat.le_refl _)
  · intro t ht
    show t.Ok ((accG a e a.acc.length).length : Nat)
    rw [h3]
    have ht : t ∈ ded (a.edges.map (Tr.ren (gnm e a.acc.length))) := ht
    rw [ded_mem] at ht
    obtain ⟨x, hx, rfl⟩ := List.mem_map.1 ht
    have hx2 := ha.2.2.2 x hx
    unfold Tr.Ok at hx2 ⊢
    have g1 := gnm_lt (e := e) hx2.1 hx2.2.1
    have g2 := gnm_lt (e := e) hx2.2.2.1 hx2.2.2.2.1
    simp only [Tr.ren]
    exact ⟨g1.1, g1.2, g2.1, g2.2, hx2.2.2.2.2⟩
theorem Aut.mergeE_congr {a : Aut} {e e' : Nat → Nat → Bool} (h : ∀ x y, x < a.acc.length → y < x → e x y = e' x y) : a.mergeE e = a.mergeE e' := by
  have h1 := grpS_congr h
  have h2 := accG_congr (a := a) h
  have h3 : gnm e a.acc.length = gnm e' a.acc.length := by funext x; simp only [gnm, h1]
  simp only [Aut.mergeE, h1, h2, h3]
/-- each simulates the other -/
def eqv (R : Rl) : Nat → Nat → Bool := fun i k => R i k && R k i
/-- merged: with regard to the greatest simulation -/
noncomputable def Aut.mrg (a : Aut) : Aut := a.mergeE (eqv (@Classical.epsilon Rl ⟨fun _ _ => true⟩ (Great a)))
theorem Aut.mrg_eq {a : Aut} {R : Rl} (h : Great a R) : a.mergeE (eqv R) = a.mrg := by
  have h2 : Great a (@Classical.epsilon Rl ⟨fun _ _ => true⟩ (Great a)) := Classical.epsilon_spec_aux ⟨fun _ _ => true⟩ (Great a) ⟨R, h⟩
  refine Aut.mergeE_congr fun x y hx hy => ?_
  simp only [eqv]
  rw [h.eq h2 hx (by omega), h.eq h2 (i := y) (j := x) (by omega) hx]
theorem Aut.mrg_ok {a : Aut} (ha : a.Ok) : a.mrg.Ok := Aut.mergeE_ok ha _
end Go.Proofs.Ytknkjplnngeebaa
