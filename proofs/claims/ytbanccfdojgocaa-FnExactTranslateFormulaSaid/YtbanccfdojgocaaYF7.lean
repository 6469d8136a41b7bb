/-
  Texts of this proof, one behind the other.
-/
import Derived.Test.YtbanccfdojgocaaYF6
set_option linter.all false
set_option linter.unusedVariables false
set_option linter.unusedSimpArgs false
set_option linter.defProp false
set_option maxRecDepth 1000000
namespace Go.Proofs.Ytbanccfdojgocaa
open Go
structure Tgt (A : List Bool) (E : List Tr) (w : Nat → Int) (C : Nat → Nat → Prop) where
  t : Nat
  p : Nat
  u : Nat
  q : Nat
  lt : t < u
  fr : FR E w t p u q
  acc : tru A q
  mem : C u q
section
variable {A : List Bool} {E : List Tr} {w : Nat → Int} {C : Nat → Nat → Prop}
theorem Tgt.step (hG : Goes A E w C) (x : Tgt A E w C) : ∃ y : Tgt A E w C, y.t = x.t + 1 ∧ StE E w x.t x.p y.p ∧ (x.t + 1 < x.u → y.u = x.u ∧ y.q = x.q) ∧ (x.t + 1 = x.u → y.p = x.q) := by
  obtain ⟨t, p, u, q, h1, h2, h3, h4⟩ := x
  cases h2 with
  | refl => omega
  | step h k =>
    rename_i p'
    by_cases e : t + 1 = u
    · subst e
      have hq : p' = q := by
        cases k with
        | refl => rfl
        | step h k => have := k.le; omega
      subst hq
      obtain ⟨u', q', g1, g2, g3, g4⟩ := hG _ _ h4
      exact ⟨⟨t + 1, p', u', q', g1, g2, g3, g4⟩, rfl, h, fun hh => absurd hh (Nat.lt_irrefl _), fun _ => rfl⟩
    · exact ⟨⟨t + 1, p', u, q, by omega, k, h3, h4⟩, rfl, h, fun _ => ⟨rfl, rfl⟩, fun hh => absurd hh e⟩
noncomputable def Tgt.seq (hG : Goes A E w C) (x : Tgt A E w C) : Nat → Tgt A E w C
  | 0 => x
  | n + 1 => Classical.choose (Tgt.step hG (Tgt.seq hG x n))
theorem Run.seq {t p : Nat} (h : Run A E w t p) : ∃ ρ : Nat → Nat, ρ 0 = p ∧ (∀ n, StE E w (t + n) (ρ n) (ρ (n + 1))) ∧ ∀ n, ∃ m, n ≤ m ∧ tru A (ρ m) := by
  obtain ⟨C, hC, hG⟩ := h
  obtain ⟨u, q, h1, h2, h3, h4⟩ := hG t p hC
  obtain ⟨x0, hx0⟩ : ∃ x0 : Tgt A E w C, x0 = ⟨t, p, u, q, h1, h2, h3, h4⟩ := ⟨_, rfl⟩
  have hs : ∀ n, (Tgt.seq hG x0 (n + 1)).t = (Tgt.seq hG x0 n).t + 1 ∧ StE E w (Tgt.seq hG x0 n).t (Tgt.seq hG x0 n).p (Tgt.seq hG x0 (n + 1)).p ∧ ((Tgt.seq hG x0 n).t + 1 < (Tgt.seq hG x0 n).u → (Tgt.seq hG x0 (n + 1)).u = (Tgt.seq hG x0 n).u ∧ (Tgt.seq hG x0 (n + 1)).q = (Tgt.seq hG x0 n).q) ∧ ((Tgt.seq hG x0 n).t + 1 = (Tgt.seq hG x0 n).u → (Tgt.seq hG x0 (n + 1)).p = (Tgt.seq hG x0 n).q) :=
    fun n => Classical.choose_spec (Tgt.step hG (Tgt.seq hG x0 n))
  have ht : ∀ n, (Tgt.seq hG x0 n).t = t + n := by
    intro n
    induction n with
    | zero => show x0.t = t + 0; rw [hx0]; rfl
    | succ n ih => have := (hs n).1; omega
  refine ⟨fun n => (Tgt.seq hG x0 n).p, by show x0.p = p; rw [hx0], fun n => by rw [← ht n]; exact (hs n).2.1, fun n => ?_⟩
  have key : ∀ d n, (Tgt.seq hG x0 n).u = (Tgt.seq hG x0 n).t + 1 + d → ∃ m, n ≤ m ∧ tru A (Tgt.seq hG x0 m).p := by
    intro d
    induction d with
    | zero =>
      intro n hn
      refine ⟨n + 1, by omega, ?_⟩
      have := (hs n).2.2.2 (by omega)
      rw [this]
      exact (Tgt.seq hG x0 n).acc
    | succ d ih =>
      intro n hn
      obtain ⟨e1, e2⟩ := (hs n).2.2.1 (by omega)
      have e3 := (hs n).1
      obtain ⟨m, g1, g2⟩ := ih (n + 1) (by rw [e1, e3]; omega)
      exact ⟨m, by omega, g2⟩
  have := (Tgt.seq hG x0 n).lt
  exact key ((Tgt.seq hG x0 n).u - ((Tgt.seq hG x0 n).t + 1)) n (by omega)
end
namespace Fm
theorem atL_mem {L : List (List Int)} {p : List Int} : ∃ j : Nat, atL L p = j ∧ (adL L p)[j]? = some p := by
  by_cases h : p ∈ L
  · rw [adL, if_pos h]
    unfold atL
    rcases hf : L.findIdx? (fun y => decide (y = p)) with _ | i
    · rw [List.findIdx?_eq_none_iff] at hf
      have := hf p h
      simp at this
    · have h2 := hf
      rw [List.findIdx?_eq_some_iff_getElem] at h2
      obtain ⟨h3, h4, _⟩ := h2
      exact ⟨i, rfl, by rw [List.getElem?_eq_getElem h3]; simpa using h4⟩
  · exact ⟨L.length, atL_not h, by rw [adL, if_neg h]; simp⟩
theorem adL_get {L : List (List Int)} {p x : List Int} {j : Nat} (h : L[j]? = some x) : (adL L p)[j]? = some x := by
  obtain ⟨t, ht⟩ := adL_pre (L := L) (p := p)
  rw [ht, List.getElem?_append_left (List.getElem?_eq_some_iff.1 h).1]
  exact h
def eg (B : List Exq) (i s j : Nat) : Tr := ⟨(i : Int), (ltc B B.length : Nat), (ltv B s B.length : Nat), (j : Int)⟩
theorem tN_mono {B : List Exq} {U : List Int} {L0 : List (List Int)} (h0 : LOk2 (2 ^ B.length) U L0) (hl : L0.length ≤ 2 ^ B.length) (n : Nat) : (tN B U L0 n).1.length ≤ (tN B U L0 (n + 1)).1.length := by
  by_cases hc : n < (tN B U L0 n).1.length ∧ (tN B U L0 n).1.length ≤ 64
  · have inv := tN_inv h0 hl n
    obtain ⟨s, p, e, hs, hp⟩ := inv.ok _ (List.getElem_mem hc.1)
    rw [tN_succ hc.1 hc.2 e]
    exact (trow_inv (B := B) (U := U) (c := 2 ^ B.length) (s := s) (i := n) (p := (phs B U s p).1) (q := ((tN B U L0 n).1, (tN B U L0 n).2.2)) inv.ok (phs_ok hp) (2 ^ B.length) (Nat.le_refl _)).ge
  · rw [tN_stop hc (n + 1) (by omega)]
    exact Nat.le_refl _
theorem tN_mono2 {B : List Exq} {U : List Int} {L0 : List (List Int)} (h0 : LOk2 (2 ^ B.length) U L0) (hl : L0.length ≤ 2 ^ B.length) {n m : Nat} (h : n ≤ m) : (tN B U L0 n).1.length ≤ (tN B U L0 m).1.length := by
  obtain ⟨k, rfl⟩ := Nat.exists_eq_add_of_le h
  induction k with
  | zero => exact Nat.le_refl _
  | succ k ih => exact Nat.le_trans (ih (by omega)) (tN_mono h0 hl _)
theorem ini0_mem {B : List Exq} {g : Exq} : ∀ {n : Nat} {x : List Int}, x ∈ ini0 B g n ↔ ∃ s : Nat, s < n ∧ x = [(s : Int), 0] ∧ val B s g = true
  | 0, x => by simp [ini0]
  | n + 1, x => by
    rw [ini0]
    split
    · rename_i hv
      rw [List.mem_append, ini0_mem (n := n), List.mem_singleton]
      constructor
      · rintro (⟨s, h1, h2, h3⟩ | rfl)
        · exact ⟨s, by omega, h2, h3⟩
        · exact ⟨n, by omega, rfl, hv⟩
      · rintro ⟨s, h1, h2, h3⟩
        by_cases e : s = n
        · subst e; exact .inr h2
        · exact .inl ⟨s, by omega, h2, h3⟩
    · rename_i hv
      rw [ini0_mem (n := n)]
      constructor
      · rintro ⟨s, h1, h2, h3⟩; exact ⟨s, by omega, h2, h3⟩
      · rintro ⟨s, h1, h2, h3⟩
        by_cases e : s = n
        · subst e; exact absurd h3 hv
        · exact ⟨s, by omega, h2, h3⟩
theorem upto_mem {n : Nat} {x : Int} : x ∈ upto n ↔ ∃ i : Nat, i < n ∧ x = i := by
  simp only [upto, List.mem_map, List.mem_range]
  constructor
  · rintro ⟨i, h, rfl⟩; exact ⟨i, h, rfl⟩
  · rintro ⟨i, h, rfl⟩; exact ⟨i, h, rfl⟩
end Fm
end Go.Proofs.Ytbanccfdojgocaa

namespace Go.Proofs.Ytbanccfdojgocaa
open Go
namespace Fm
structure Mv where
  care : Int
  value : Int
  to : List Int
def exRow (i : Nat) (M : List Mv) (q : List (List Int) × List Tr) : List (List Int) × List Tr :=
  M.foldl (fun q m => (adL q.1 m.to, q.2 ++ [⟨(i : Int), m.care, m.value, atL q.1 m.to⟩])) q
section
variable (mv : List Int → List Mv) (ac : List Int → Bool) (L0 : List (List Int))
def exN : Nat → List (List Int) × List Bool × List Tr
  | 0 => (L0, [], [])
  | n + 1 => let r := exN n
    if n < r.1.length then
      let q := exRow n (mv (r.1.getD n [])) (r.1, r.2.2)
      (q.1, r.2.1 ++ [ac (r.1.getD n [])], q.2)
    else r
def exA : Aut := ⟨upto L0.length, if L0 = [] then [false] else (exN mv ac L0 64).2.1, (exN mv ac L0 64).2.2⟩
end
section
variable {mv : List Int → List Mv} {ac : List Int → Bool} {L0 : List (List Int)}
structure ER (i : Nat) (M : List Mv) (q r : List (List Int) × List Tr) : Prop where
  pre : ∀ (j : Nat) x, q.1[j]? = some x → r.1[j]? = some x
  old : ∀ e ∈ q.2, e ∈ r.2
  new : ∀ e ∈ r.2, e ∈ q.2 ∨ ∃ m ∈ M, ∃ j : Nat, e = ⟨(i : Int), m.care, m.value, (j : Int)⟩ ∧ r.1[j]? = some m.to
  all : ∀ m ∈ M, ∃ j : Nat, r.1[j]? = some m.to ∧ ⟨(i : Int), m.care, m.value, (j : Int)⟩ ∈ r.2
  ge : q.1.length ≤ r.1.length
  el : r.2.length = q.2.length + M.length
  mem : ∀ x ∈ r.1, x ∈ q.1 ∨ ∃ m ∈ M, x = m.to
theorem exRow_er {i : Nat} : ∀ (M : List Mv) (q : List (List Int) × List Tr), ER i M q (exRow i M q)
  | [], q => ⟨fun _ _ h => h, fun _ h => h, fun _ h => .inl h, fun _ h => by simp at h, Nat.le_refl _, by simp [exRow], fun _ h => .inl h⟩
  | m :: M, q => by
    have ih := exRow_er (i := i) M (adL q.1 m.to, q.2 ++ [⟨(i : Int), m.care, m.value, atL q.1 m.to⟩])
    have he : exRow i (m :: M) q = exRow i M (adL q.1 m.to, q.2 ++ [⟨(i : Int), m.care, m.value, atL q.1 m.to⟩]) := rfl
    obtain ⟨j, e1, e2⟩ := atL_mem (L := q.1) (p := m.to)
    rw [e1] at ih he
    rw [he]
    have hl := adL_len (L := q.1) (p := m.to)
    refine ⟨fun j x h => ih.pre j x (adL_get h), fun e h => ih.old e (List.mem_append_left _ h), fun e h => ?_, fun m' h => ?_, by have := ih.ge; simp only at this; omega, by rw [ih.el]; simp only [List.length_append, List.length_cons, List.length_nil]; omega, fun x h => ?_⟩
    · rcases ih.new e h with h | ⟨m', hm', j', h1, h2⟩
      · rcases List.mem_append.1 h with h | h
        · exact .inl h
        · rw [List.mem_singleton] at h
          exact .inr ⟨m, by simp, j, h, ih.pre j _ e2⟩
      · exact .inr ⟨m', by simp [hm'], j', h1, h2⟩
    · rcases List.mem_cons.1 h with rfl | h
      · exact ⟨j, ih.pre j _ e2, ih.old _ (by simp)⟩
      · exact ih.all m' h
    · rcases ih.mem x h with h | ⟨m', hm', h⟩
      · simp only at h
        unfold adL at h
        split at h
        · exact .inl h
        · rcases List.mem_append.1 h with h | h
          · exact .inl h
          · rw [List.mem_singleton] at h
            exact .inr ⟨m, by simp, h⟩
      · exact .inr ⟨m', by simp [hm'], h⟩
theorem exN_succ {n : Nat} {s : List Int} (h : (exN mv ac L0 n).1[n]? = some s) : exN mv ac L0 (n + 1) = ((exRow n (mv s) ((exN mv ac L0 n).1, (exN mv ac L0 n).2.2)).1, (exN mv ac L0 n).2.1 ++ [ac s], (exRow n (mv s) ((exN mv ac L0 n).1, (exN mv ac L0 n).2.2)).2) := by
  obtain ⟨hl, he⟩ := List.getElem?_eq_some_iff.1 h
  have eg : (exN mv ac L0 n).1.getD n [] = s := by rw [List.getD_eq_getElem?_getD, h]; rfl
  rw [exN]
  simp only
  rw [if_pos hl, eg]
theorem exN_stop {n : Nat} (h : (exN mv ac L0 n).1.length ≤ n) : ∀ m, n ≤ m → exN mv ac L0 m = exN mv ac L0 n
  | m, hm => by
    induction m with
    | zero => obtain rfl : n = 0 := by omega
              rfl
    | succ m ih =>
      by_cases e : n = m + 1
      · rw [e]
      · have h1 := ih (by omega)
        rw [exN]
        simp only
        rw [h1, if_neg (by omega)]
theorem exN_mono (n : Nat) : (exN mv ac L0 n).1.length ≤ (exN mv ac L0 (n + 1)).1.length ∧ (exN mv ac L0 n).2.2.length ≤ (exN mv ac L0 (n + 1)).2.2.length := by
  by_cases h : n < (exN mv ac L0 n).1.length
  · rw [exN_succ (List.getElem?_eq_getElem h)]
    have I := exRow_er (i := n) (mv ((exN mv ac L0 n).1[n])) ((exN mv ac L0 n).1, (exN mv ac L0 n).2.2)
    have h1 := I.ge
    have h2 := I.el
    simp only at h1 h2 ⊢
    omega
  · rw [exN_stop (n := n) (by omega) (n + 1) (by omega)]
    omega
theorem exN_mono2 {n m : Nat} (h : n ≤ m) : (exN mv ac L0 n).1.length ≤ (exN mv ac L0 m).1.length ∧ (exN mv ac L0 n).2.2.length ≤ (exN mv ac L0 m).2.2.length := by
  obtain ⟨k, rfl⟩ := Nat.exists_eq_add_of_le h
  induction k with
  | zero => exact ⟨Nat.le_refl _, Nat.le_refl _⟩
  | succ k ih =>
    have h1 := ih (by omega)
    have h2 := exN_mono (mv := mv) (ac := ac) (L0 := L0) (n + k)
    rw [← Nat.add_assoc]
    omega
theorem exN_al : ∀ n, (∀ m, m < n → m < (exN mv ac L0 m).1.length) → (exN mv ac L0 n).2.1.length = n
  | 0, _ => rfl
  | n + 1, h => by
    have ih := exN_al n fun m hm => h m (by omega)
    rw [exN_succ (List.getElem?_eq_getElem (h n (by omega)))]
    simp [ih]
theorem exN_all {P : List Int → Prop} (h0 : ∀ x ∈ L0, P x) (hs : ∀ x, P x → ∀ m ∈ mv x, P m.to) : ∀ n, ∀ x ∈ (exN mv ac L0 n).1, P x
  | 0 => h0
  | n + 1 => by
    have ih := exN_all h0 hs n
    by_cases h : n < (exN mv ac L0 n).1.length
    · rw [exN_succ (List.getElem?_eq_getElem h)]
      have I := exRow_er (i := n) (mv ((exN mv ac L0 n).1[n])) ((exN mv ac L0 n).1, (exN mv ac L0 n).2.2)
      intro x hx
      rcases I.mem x hx with hx | ⟨m, hm, rfl⟩
      · exact ih x hx
      · exact hs _ (ih _ (List.getElem_mem h)) m hm
    · rw [exN_stop (n := n) (by omega) (n + 1) (by omega)]
      exact ih
structure ET (mv : List Int → List Mv) (ac : List Int → Bool) (L0 : List (List Int)) (n : Nat) (r : List (List Int) × List Bool × List Tr) : Prop where
  pre : ∀ (j : Nat) x, L0[j]? = some x → r.1[j]? = some x
  new : ∀ e ∈ r.2.2, ∃ (i : Nat) (s : List Int), i < n ∧ r.1[i]? = some s ∧ ∃ m ∈ mv s, ∃ j : Nat, e = ⟨(i : Int), m.care, m.value, (j : Int)⟩ ∧ r.1[j]? = some m.to
  all : ∀ (i : Nat) (s : List Int), i < n → r.1[i]? = some s → ∀ m ∈ mv s, ∃ j : Nat, r.1[j]? = some m.to ∧ ⟨(i : Int), m.care, m.value, (j : Int)⟩ ∈ r.2.2
  acc : ∀ (i : Nat) (s : List Int), i < n → r.1[i]? = some s → r.2.1[i]? = some (ac s)
theorem exN_et : ∀ n, (∀ m, m < n → m < (exN mv ac L0 m).1.length) → ET mv ac L0 n (exN mv ac L0 n)
  | 0, _ => ⟨fun _ _ h => h, fun e h => by simp [exN] at h, fun _ _ h => absurd h (Nat.not_lt_zero _), fun _ _ h => absurd h (Nat.not_lt_zero _)⟩
  | n + 1, hgo => by
    have ih := exN_et n fun m hm => hgo m (by omega)
    have h1 := hgo n (by omega)
    have hal := exN_al (mv := mv) (ac := ac) (L0 := L0) n fun m hm => hgo m (by omega)
    have hnn := List.getElem?_eq_getElem h1
    generalize hs : (exN mv ac L0 n).1[n] = s at hnn
    rw [exN_succ hnn]
    have I := exRow_er (i := n) (mv s) ((exN mv ac L0 n).1, (exN mv ac L0 n).2.2)
    have back : ∀ (i : Nat) x, i < (exN mv ac L0 n).1.length → (exRow n (mv s) ((exN mv ac L0 n).1, (exN mv ac L0 n).2.2)).1[i]? = some x → (exN mv ac L0 n).1[i]? = some x := by
      intro i x hi hx
      have := I.pre i _ (List.getElem?_eq_getElem hi)
      rw [this] at hx
      rw [List.getElem?_eq_getElem hi]; exact hx
    refine ⟨fun j x h => I.pre j x (ih.pre j x h), fun e he => ?_, fun i t hi hx m hm => ?_, fun i t hi hx => ?_⟩
    · rcases I.new e he with h | ⟨m, hm, j, h2, h3⟩
      · obtain ⟨i, t, g1, g2, m, hm, j, g3, g4⟩ := ih.new e h
        exact ⟨i, t, by omega, I.pre _ _ g2, m, hm, j, g3, I.pre _ _ g4⟩
      · exact ⟨n, s, by omega, I.pre _ _ hnn, m, hm, j, h2, h3⟩
    · simp only at hx
      by_cases e : i = n
      · subst e
        rw [I.pre _ _ hnn] at hx
        obtain rfl := Option.some.inj hx
        exact I.all m hm
      · obtain ⟨j, g1, g2⟩ := ih.all i t (by omega) (back i _ (by omega) hx) m hm
        exact ⟨j, I.pre _ _ g1, I.old _ g2⟩
    · simp only at hx ⊢
      by_cases e : i = n
      · subst e
        rw [I.pre _ _ hnn] at hx
        obtain rfl := Option.some.inj hx
        rw [List.getElem?_append_right (by omega), hal]
        simp
      · rw [List.getElem?_append_left (by omega)]
        exact ih.acc i t (by omega) (back i _ (by omega) hx)
structure EF (mv : List Int → List Mv) (ac : List Int → Bool) (L0 : List (List Int)) (r : List (List Int) × List Bool × List Tr) : Prop where
  pre : ∀ (j : Nat) x, L0[j]? = some x → r.1[j]? = some x
  new : ∀ e ∈ r.2.2, ∃ (i : Nat) (s : List Int), r.1[i]? = some s ∧ ∃ m ∈ mv s, ∃ j : Nat, e = ⟨(i : Int), m.care, m.value, (j : Int)⟩ ∧ r.1[j]? = some m.to
  all : ∀ (i : Nat) (s : List Int), r.1[i]? = some s → ∀ m ∈ mv s, ∃ j : Nat, r.1[j]? = some m.to ∧ ⟨(i : Int), m.care, m.value, (j : Int)⟩ ∈ r.2.2
  acc : ∀ (i : Nat) (s : List Int), r.1[i]? = some s → r.2.1[i]? = some (ac s)
  len : r.2.1.length = r.1.length
theorem exN_go {K : Nat} (hK : (exN mv ac L0 K).1.length ≤ K) : ∃ n, n ≤ K ∧ n = (exN mv ac L0 K).1.length ∧ exN mv ac L0 K = exN mv ac L0 n ∧ ∀ m, m < n → m < (exN mv ac L0 m).1.length := by
  refine ⟨_, hK, rfl, ?_, fun m hm => ?_⟩
  · obtain ⟨n, hn⟩ : ∃ n, n = (exN mv ac L0 K).1.length := ⟨_, rfl⟩
    rw [← hn] at hK ⊢
    exact exN_stop (by have := (exN_mono2 (mv := mv) (ac := ac) (L0 := L0) hK).1; omega) K hK
  · apply Classical.byContradiction
    intro hno
    have := exN_stop (mv := mv) (ac := ac) (L0 := L0) (n := m) (by omega) K (by omega)
    rw [this] at hm
    omega
theorem exN_ef {K : Nat} (hK : (exN mv ac L0 K).1.length ≤ K) : EF mv ac L0 (exN mv ac L0 K) := by
  obtain ⟨n, h1, h2, h3, h4⟩ := exN_go hK
  have T := exN_et n h4
  have hal := exN_al (mv := mv) (ac := ac) (L0 := L0) n h4
  rw [h3] at h2 ⊢
  have lt : ∀ {i : Nat} {x : List Int}, (exN mv ac L0 n).1[i]? = some x → i < n := fun h => by have := (List.getElem?_eq_some_iff.1 h).1; omega
  exact ⟨T.pre, fun e h => by
    obtain ⟨i, s, _, g⟩ := T.new e h
    exact ⟨i, s, g⟩, fun i s h => T.all i s (lt h) h, fun i s h => T.acc i s (lt h) h, by omega⟩
theorem upto_incr {n k : Nat} (h : k ≤ n) : incr n (-1) (upto k) := by
  rw [incr_iff]
  constructor
  · unfold upto
    rw [List.pairwise_map]
    exact List.pairwise_lt_range.imp fun h => by omega
  · intro x hx
    obtain ⟨i, h1, rfl⟩ := upto_mem.1 hx
    omega
theorem exA_acc (hK : (exN mv ac L0 64).1.length ≤ 64) : (exA mv ac L0).acc.length = if L0 = [] then 1 else (exN mv ac L0 64).1.length := by
  unfold exA
  simp only
  split
  · rfl
  · exact (exN_ef hK).len
theorem exN_nil : ∀ n, (exN mv ac [] n) = ([], [], [])
  | 0 => rfl
  | n + 1 => by rw [exN, exN_nil n]; rfl
theorem exN_pre {K : Nat} : L0.length ≤ (exN mv ac L0 K).1.length := (exN_mono2 (mv := mv) (ac := ac) (L0 := L0) (Nat.zero_le K)).1
theorem exA_ok (hK : (exN mv ac L0 64).1.length ≤ 64) (hE : (exN mv ac L0 64).2.2.length ≤ 2048) (hm : ∀ x ∈ (exN mv ac L0 64).1, ∀ m ∈ mv x, ∃ c v : Nat, m.care = c ∧ m.value = v ∧ c < 8 ∧ v &&& c = v) : (exA mv ac L0).Ok := by
  have hacc := exA_acc hK
  by_cases h0 : L0 = []
  · subst h0
    rw [if_pos rfl] at hacc
    have he : (exA mv ac []).edges = [] := by unfold exA; rw [exN_nil]
    have hi : (exA mv ac []).init = [] := by unfold exA; rfl
    refine ⟨by omega, by rw [he]; simp, by rw [hi]; trivial, fun t ht => by rw [he] at ht; simp at ht⟩
  · rw [if_neg h0] at hacc
    have T := exN_ef hK
    have hpre := exN_pre (mv := mv) (ac := ac) (L0 := L0) (K := 64)
    have h1 : 1 ≤ L0.length := by
      have := List.length_pos_iff.2 h0
      omega
    have hed : (exA mv ac L0).edges = (exN mv ac L0 64).2.2 := by unfold exA; simp only
    have hin : (exA mv ac L0).init = upto L0.length := by unfold exA; simp only
    refine ⟨by omega, by rw [hed]; exact hE, by rw [hin, hacc]; exact upto_incr hpre, fun t ht => ?_⟩
    rw [hed] at ht
    obtain ⟨i, s, h2, m, h3, j, rfl, h4⟩ := T.new t ht
    obtain ⟨g1, _⟩ := List.getElem?_eq_some_iff.1 h2
    obtain ⟨g2, _⟩ := List.getElem?_eq_some_iff.1 h4
    obtain ⟨c, v, e1, e2, e3, e4⟩ := hm s (List.mem_of_getElem? h2) m h3
    have hv : v ≤ c := by rw [← e4]; exact Nat.and_le_right
    rw [hacc]
    refine ⟨by simp only; omega, by simp only; omega, by simp only; omega, by simp only; omega, by simp only; omega, by simp only; omega, by simp only; omega, ?_⟩
    simp only
    rw [e1, e2, i64_and (by omega) (by omega), e4]
end
end Fm
end Go.Proofs.Ytbanccfdojgocaa

namespace Go.Proofs.Ytbanccfdojgocaa
open Go
namespace Fm
section
variable (B : List Exq) (U : List Int)
noncomputable def mvS (s : Nat) (p : Int) (m : Nat) : List Mv := ((List.range m).filter fun t => decide (Fol B s t)).map fun (t : Nat) => ⟨((ltc B B.length : Nat) : Int), ((ltv B s B.length : Nat) : Int), [(t : Int), p]⟩
noncomputable def mvT (x : List Int) : List Mv := mvS B (x.getD 0 0).toNat (phs B U (x.getD 0 0).toNat (x.getD 1 0)).1 (2 ^ B.length)
noncomputable def acT (x : List Int) : Bool := (phs B U (x.getD 0 0).toNat (x.getD 1 0)).2
end
section
variable {B : List Exq} {U : List Int} {L0 : List (List Int)}
theorem mvS_succ {s : Nat} {p : Int} {m : Nat} : mvS B s p (m + 1) = mvS B s p m ++ if Fol B s m then [⟨((ltc B B.length : Nat) : Int), ((ltv B s B.length : Nat) : Int), [(m : Int), p]⟩] else [] := by
  unfold mvS
  rw [List.range_succ, List.filter_append, List.map_append]
  congr 1
  by_cases h : Fol B s m
  · simp [h]
  · simp [h]
theorem trow_ex {i s : Nat} {p : Int} {q : List (List Int) × List Tr} : ∀ m, trow B i s p m q = exRow i (mvS B s p m) q
  | 0 => rfl
  | m + 1 => by
    have ih := trow_ex (i := i) (s := s) (p := p) (q := q) m
    rw [mvS_succ]
    unfold trow
    simp only
    rw [ih]
    unfold exRow
    split
    · rw [List.foldl_append]; rfl
    · rw [List.append_nil]
theorem tN_ex : ∀ n, (∀ m, m < n → (tN B U L0 m).1.length ≤ 64) → tN B U L0 n = exN (mvT B U) (acT B U) L0 n
  | 0, _ => rfl
  | n + 1, h => by
    have ih := tN_ex n fun m hm => h m (by omega)
    have h1 := h n (by omega)
    rw [tN, exN]
    simp only
    rw [← ih]
    by_cases hc : n < (tN B U L0 n).1.length
    · rw [if_pos ⟨hc, h1⟩, if_pos hc, trow_ex]; rfl
    · rw [if_neg (fun hh => hc hh.1), if_neg hc]
theorem tN_small (h0 : LOk2 (2 ^ B.length) U L0) (hl : L0.length ≤ 2 ^ B.length) : (tN B U L0 64).1.length ≤ 64 ↔ (exN (mvT B U) (acT B U) L0 64).1.length ≤ 64 := by
  constructor
  · intro h
    rw [← tN_ex 64 fun m hm => by have := tN_mono2 h0 hl (n := m) (m := 64) (by omega); omega]
    exact h
  · intro h
    have key : ∀ n, n ≤ 64 → tN B U L0 n = exN (mvT B U) (acT B U) L0 n := by
      intro n
      induction n with
      | zero => intro _; rfl
      | succ n ih =>
        intro hn
        refine tN_ex (n + 1) fun m hm => ?_
        by_cases e : m = n
        · subst e
          rw [ih (by omega)]
          have := (exN_mono2 (mv := mvT B U) (ac := acT B U) (L0 := L0) (show m ≤ 64 by omega)).1
          omega
        · have h1 := tN_mono2 h0 hl (n := m) (m := n) (by omega)
          rw [ih (by omega)] at h1
          have := (exN_mono2 (mv := mvT B U) (ac := acT B U) (L0 := L0) (show n ≤ 64 by omega)).1
          omega
    rw [key 64 (Nat.le_refl _)]
    exact h
theorem tN_is (h0 : LOk2 (2 ^ B.length) U L0) (hl : L0.length ≤ 2 ^ B.length) (h : (tN B U L0 64).1.length ≤ 64) : tN B U L0 64 = exN (mvT B U) (acT B U) L0 64 :=
  tN_ex 64 fun m hm => by have := tN_mono2 h0 hl (n := m) (m := 64) (by omega); omega
end
theorem trA_ex {x : Exq} (h : trOk x) : trA x = exA (mvT (basics x) (unt (basics x) (basics x).length)) (acT (basics x) (unt (basics x) (basics x).length)) (ini0 (basics x) (push x false) (2 ^ (basics x).length)) := by
  have h64 := h.2
  have hi : (ini0 (basics x) (push x false) (2 ^ (basics x).length)).length ≤ (trT x).1.length := by
    unfold trT
    exact tN_mono2 (n := 0) (m := 64) (ini0_ok (Nat.le_refl _)) (ini0_len _) (by omega)
  have ht : trT x = exN (mvT (basics x) (unt (basics x) (basics x).length)) (acT (basics x) (unt (basics x) (basics x).length)) (ini0 (basics x) (push x false) (2 ^ (basics x).length)) 64 := by
    unfold trT at h64 ⊢
    exact tN_is (ini0_ok (Nat.le_refl _)) (ini0_len _) h64
  have hn : (trT x).1 = [] ↔ ini0 (basics x) (push x false) (2 ^ (basics x).length) = [] := by
    constructor
    · intro h1
      rw [h1] at hi
      exact List.length_eq_zero_iff.1 (by simp only [List.length_nil] at hi; omega)
    · intro h1
      rw [ht, h1, exN_nil]
  unfold trA exA
  rw [← ht]
  by_cases e : (trT x).1 = []
  · rw [if_pos e, if_pos (hn.1 e)]
  · rw [if_neg e, if_neg (fun hh => e (hn.2 hh))]
theorem trOk_ex {x : Exq} : trOk x ↔ bOk x ∧ (exN (mvT (basics x) (unt (basics x) (basics x).length)) (acT (basics x) (unt (basics x) (basics x).length)) (ini0 (basics x) (push x false) (2 ^ (basics x).length)) 64).1.length ≤ 64 := by
  unfold trOk trT
  rw [tN_small (ini0_ok (Nat.le_refl _)) (ini0_len _)]
theorem mvT_len {B : List Exq} {U : List Int} {x : List Int} : (mvT B U x).length ≤ 2 ^ B.length := by
  unfold mvT mvS
  rw [List.length_map]
  have := List.length_filter_le (fun t => decide (Fol B (x.getD 0 0).toNat t)) (List.range (2 ^ B.length))
  rw [List.length_range] at this
  exact this
theorem exN_edges {mv : List Int → List Mv} {ac : List Int → Bool} {L0 : List (List Int)} {k : Nat} (h : ∀ x, (mv x).length ≤ k) : ∀ n, (exN mv ac L0 n).2.2.length ≤ n * k
  | 0 => by simp [exN]
  | n + 1 => by
    have ih := exN_edges h n (ac := ac) (L0 := L0)
    by_cases hc : n < (exN mv ac L0 n).1.length
    · rw [exN_succ (List.getElem?_eq_getElem hc)]
      have I := (exRow_er (i := n) (mv ((exN mv ac L0 n).1[n])) ((exN mv ac L0 n).1, (exN mv ac L0 n).2.2)).el
      have := h ((exN mv ac L0 n).1[n])
      simp only at I ⊢
      rw [I, Nat.add_mul]
      omega
    · rw [exN_stop (n := n) (by omega) (n + 1) (by omega), Nat.add_mul]
      omega
end Fm
end Go.Proofs.Ytbanccfdojgocaa

namespace Go.Proofs.Ytbanccfdojgocaa
open Go
theorem has_v {s i : Nat} (hs : s < 4611686018427387904) (hi : i < 64) : andI .i64 (shrI .i64 (s : Int) (i : Int)) 1 = if s.testBit i then 1 else 0 := by
  have h1 := has_p hs hi
  have h2 := has_z hs hi
  cases e : s.testBit i with
  | true => rw [e] at h1; simpa using h1
  | false => rw [e] at h2; simpa using h2
namespace Fm
noncomputable def tmv (B : List Exq) (s : Nat) (p : Int) (n : Nat) : List (Int × Int × Int × Int) := ((List.range n).filter fun t => decide (Fol B s t)).map fun (t : Nat) => (((ltc B B.length : Nat) : Int), ((ltv B s B.length : Nat) : Int), (t : Int), p)
theorem tmv_succ {B : List Exq} {s : Nat} {p : Int} {m : Nat} : tmv B s p (m + 1) = tmv B s p m ++ if Fol B s m then [(((ltc B B.length : Nat) : Int), ((ltv B s B.length : Nat) : Int), (m : Int), p)] else [] := by
  unfold tmv
  rw [List.range_succ, List.filter_append, List.map_append]
  congr 1
  by_cases h : Fol B s m
  · simp [h]
  · simp [h]
theorem tmv_len {B : List Exq} {s : Nat} {p : Int} {m : Nat} : (tmv B s p m).length ≤ m := by
  unfold tmv
  rw [List.length_map]
  have := List.length_filter_le (fun t => decide (Fol B s t)) (List.range m)
  rw [List.length_range] at this
  exact this
theorem tmv_mvS {B : List Exq} {s : Nat} {p : Int} {m : Nat} : (tmv B s p m).map (fun q => (⟨q.1, q.2.1, [q.2.2.1, q.2.2.2]⟩ : Mv)) = mvS B s p m := by
  unfold tmv mvS
  rw [List.map_map]
  rfl
end Fm
theorem c_moves {h : Heap} {w uv : Value} {B : List Exq} {bt s : Nat} {p : Int} (hB : Fm.Bc B) (hn5 : B.length ≤ 5) (hs : s < 4611686018427387904) (hp : Fm.POk (Fm.unt B B.length) p) (R : Rep h w B) (RU : Rep h uv (Fm.unt B B.length))
    (hbt : hload h (some (.pointer (some ⟨bt, 0, none⟩))) none = some w) (hbu : hload h (some (.pointer (some ⟨bt, 1, none⟩))) none = some uv) :
    CallE Try.prog fn_impl_translator_moves [.pointer (some ⟨bt, 0, none⟩), .agg #[.int .i64 s, .int .i64 p]] h (fun u h' => HS h [ow u (Fm.tmv B s (Fm.phs B (Fm.unt B B.length) s p).1 (2 ^ B.length))] h') := by
  have hL := R.lt
  have hall : ∀ y ∈ B, Fm.Shp 6 y := fun y hy => (hB.2 y hy).1
  have hul := Fm.unt_len (B := B) B.length
  have hum : ∀ {u : Int}, u ∈ Fm.unt B B.length → _ := fun h => Fm.unt_mem h
  have hpo := Fm.phs_ok (B := B) (s := s) hp
  obtain ⟨p', hp'⟩ : ∃ p', p' = (Fm.phs B (Fm.unt B B.length) s p).1 := ⟨_, rfl⟩
  rw [← hp'] at hpo ⊢
  unfold Fm.phs at hp'
  generalize Fm.unt B B.length = U at *
  have hc32 : 2 ^ B.length ≤ 32 := Nat.pow_le_pow_right (n := 2) (by omega) hn5
  refine CallE.gen fun k hk => EN_impl_translator_moves rfl ?_
  simp -implicitDefEqProofs (disch:=first|omega|(simp only[LnZ];omega))[wrap64, setC, hbt, R.len]
  refine wp_count B.length (fun i e h' => e = [some (.pointer (some ⟨bt, 0, none⟩)), none, some (.agg #[.int .i64 s, .int .i64 p]), none, some (.int .i64 ((Fm.ltc B i : Nat) : Int)), some (.int .i64 ((Fm.ltv B s i : Nat) : Int)), some (.int .i64 p), none, none, none, none, none, some w, some (.int .i64 B.length), some (.int .i64 i), none, none] ∧ h' = h) ⟨by simp [Fm.ltc, Fm.ltv], rfl⟩ ?_
  rintro J i _ h hJ hi ⟨rfl, rfl⟩
  simp -implicitDefEqProofs (disch:=first|omega|(simp only[LnZ];omega))[wrap64]
  refine IteW.mk (fun hlt => ?_) (fun hge => ?_)
  · have hlx : i < B.length := by omega
    have hc := Fm.ltc_lt hall i (by omega)
    have hv := Fm.ltv_lt (s := s) hall i (by omega)
    have e : B.getD i Exq.zero = B[i] := by simp [hlx]
    have hc1 : Fm.ltc B (i + 1) = if B[i].kind = 2 then Fm.ltc B i ||| 1 <<< B[i].val.toNat else Fm.ltc B i := by rw [Fm.ltc, e]
    have hv1 : Fm.ltv B s (i + 1) = if B[i].kind = 2 ∧ s.testBit i = true then Fm.ltv B s i ||| 1 <<< B[i].val.toNat else Fm.ltv B s i := by rw [Fm.ltv, e]
    have hsp := hall _ (List.getElem_mem hlx)
    obtain ⟨u, hu, Ru⟩ := R.ld hlx
    change hload _ (some (elp 3 w i)) (some 3) = some u at hu
    obtain ⟨wk, rfl, k1, k2, R1⟩ := Rep_Exq.1 Ru
    have kO := R1.one
    have hX := R.X (n := 3) rfl
    have hlo := hsp.nd.lo
    have hhi := hsp.nd.hi
    obtain ⟨q, hq⟩ : ∃ q : Nat, B[i].val = q := ⟨_, (Int.toNat_of_nonneg hlo).symm⟩
    have hq3 : q < 3 := by omega
    have hsl : shlI .i64 1 (q : Int) = ((1 <<< q : Nat) : Int) := i64_shl1 (by omega)
    have hsz : shlI .i64 0 (q : Int) = 0 := by
      obtain rfl | rfl | rfl : q = 0 ∨ q = 1 ∨ q = 2 := by omega
      all_goals decide
    have hs8 := Fm.sh3 hq3
    have huq : IntKind.u64.wrap (q : Int) = q := u64_pos (by omega) (by omega)
    have hq0 : ¬ (q : Int) < 0 := by omega
    have hw : IntKind.u64.wrap (i : Int) = i := u64_pos (by omega) (by omega)
    have hi0 : ¬ (i : Int) < 0 := by omega
    have hbv := has_v (i := i) hs (by omega)
    have ho1 : orI .i64 ((Fm.ltc B i : Nat) : Int) ((1 <<< q : Nat) : Int) = ((Fm.ltc B i ||| 1 <<< q : Nat) : Int) := i64_or (by omega) (by omega)
    have ho2 : orI .i64 ((Fm.ltv B s i : Nat) : Int) ((1 <<< q : Nat) : Int) = ((Fm.ltv B s i ||| 1 <<< q : Nat) : Int) := i64_or (by omega) (by omega)
    have ho3 : orI .i64 ((Fm.ltv B s i : Nat) : Int) 0 = ((Fm.ltv B s i : Nat) : Int) := by
      have := i64_or (a := Fm.ltv B s i) (b := 0) (by omega) (by omega)
      simpa using this
    rw [hq, Int.toNat_natCast] at hc1 hv1
    by_cases c2 : B[i].kind = 2
    case neg =>
      rw [if_neg c2] at hc1
      rw [if_neg (fun hh => c2 hh.1)] at hv1
      simp -implicitDefEqProofs (disch:=first|omega|(simp only[LnZ];omega))[wrap64, hX, hu, setC, kO, c2]
      exact hJ _ _ hlx ⟨by simp [hc1, hv1], rfl⟩
    rw [if_pos c2] at hc1
    generalize hA : 1 <<< q = A at *
    cases hb : s.testBit i with
    | false =>
      rw [if_neg (fun hh => by rw [hb] at hh; exact absurd hh.2 (by decide))] at hv1
      rw [hb, if_neg (by decide)] at hbv
      simp -implicitDefEqProofs (disch:=first|omega|(simp only[LnZ];omega))[wrap64, hX, hu, setC, kO, c2, hq, huq, hq0, hsl, ho1, hw, hi0, hbv, hsz, ho3]
      exact hJ _ _ hlx ⟨by simp [hc1, hv1], rfl⟩
    | true =>
      rw [if_pos ⟨c2, hb⟩] at hv1
      rw [hb, if_pos rfl] at hbv
      simp -implicitDefEqProofs (disch:=first|omega|(simp only[LnZ];omega))[wrap64, hX, hu, setC, kO, c2, hq, huq, hq0, hsl, ho1, hw, hi0, hbv, ho2]
      exact hJ _ _ hlx ⟨by simp [hc1, hv1], rfl⟩
  obtain rfl : i = B.length := by omega
  have hc8 := Fm.ltc_lt hall B.length (Nat.le_refl _)
  have hv8 := Fm.ltv_lt (s := s) hall B.length (Nat.le_refl _)
  have hcnt : shlI .i64 1 (B.length : Int) = ((2 ^ B.length : Nat) : Int) := by rw [i64_shl1 (by omega), Nat.shiftLeft_eq, Nat.one_mul]
  have hcw : IntKind.u64.wrap (B.length : Int) = B.length := u64_pos (by omega) (by omega)
  have hcw0 : ¬ (B.length : Int) < 0 := by omega
  have hp64 : I64 p' := by
    have h1 := hpo.1
    have h2 := hpo.2
    exact ⟨by omega, by omega⟩
  have main : ∀ {h2 : Heap} {q7 q8 q9 q10 q11 q12 q13 q14 q15 q16 : Option Value}, h.le h2 → K29_12.wp Try.prog (retQ [(3, none)] k) [some (.pointer (some ⟨bt, 0, none⟩)), none, some (.agg #[.int .i64 s, .int .i64 p]), none, some (.int .i64 ((Fm.ltc B B.length : Nat) : Int)), some (.int .i64 ((Fm.ltv B s B.length : Nat) : Int)), some (.int .i64 p'), q7, q8, q9, q10, q11, q12, q13, q14, q15, q16] h2 := by
    intro h2 q7 q8 q9 q10 q11 q12 q13 q14 q15 q16 l2
    have ht2 := hload_le l2 hbt
    obtain ⟨c, hc⟩ : ∃ c, c = 2 ^ B.length := ⟨_, rfl⟩
    rw [← hc] at hcnt hk hc32
    simp -implicitDefEqProofs (disch:=first|omega|(simp only[LnZ];omega))[wrap64, ht2, R.len, hcnt, hcw, hcw0]
    refine wp_count c (fun n e h' => ∃ o, e = [some (.pointer (some ⟨bt, 0, none⟩)), none, some (.agg #[.int .i64 s, .int .i64 p]), none, some (.int .i64 ((Fm.ltc B B.length : Nat) : Int)), some (.int .i64 ((Fm.ltv B s B.length : Nat) : Int)), some (.int .i64 p'), none, none, none, some o, none, none, none, none, some (.int .i64 c), some (.int .i64 n)] ∧ HS h [ow o (Fm.tmv B s p' n)] h') ⟨.slice none 0 0, by simp, (HS.nil_ow (Γ := []) l2)⟩ ?_
    rintro J n _ h3 hJ hn ⟨o, rfl, H⟩
    have hsu := Fm.tmv_succ (B := B) (s := s) (p := p') (m := n)
    have hml := Fm.tmv_len (B := B) (s := s) (p := p') (m := n)
    simp -implicitDefEqProofs (disch:=first|omega|(simp only[LnZ];omega))[wrap64]
    refine IteW.mk (fun hlt => ?_) (fun hge => ?_)
    · have hnc : n < c := by omega
      generalize Fm.tmv B s p' n = T at *
      simp -implicitDefEqProofs (disch:=first|omega|(simp only[LnZ];omega))[wrap64]
      refine (c_follows (s := s) (t := n) hB hn5 hs (by omega) (R.on H) (hload_le H.base hbt)).go ?_
      rintro _ h4 ⟨l4, rfl⟩
      have H := H.le l4
      by_cases hf : Fm.Fol B s n
      case neg =>
        rw [if_neg hf, List.append_nil] at hsu
        simp -implicitDefEqProofs (disch:=first|omega|(simp only[LnZ];omega))[wrap64, hf]
        exact hJ _ _ hnc ⟨o, by simp, by rw [hsu]; exact H⟩
      rw [if_pos hf] at hsu
      have hok : I64 ((Fm.ltc B B.length : Nat) : Int) ∧ I64 ((Fm.ltv B s B.length : Nat) : Int) ∧ I64 (n : Int) ∧ I64 p' := ⟨⟨by omega, by omega⟩, ⟨by omega, by omega⟩, ⟨by omega, by omega⟩, hp64⟩
      simp -implicitDefEqProofs (disch:=first|omega|(simp only[LnZ];omega))[wrap64, hf, setC]
      refine HS.app1 (bytes := 32) H (((Fm.ltc B B.length : Nat) : Int), ((Fm.ltv B s B.length : Nat) : Int), (n : Int), p') rfl rfl rfl hok rfl rfl (by omega) (by omega) fun o' h5 H => ?_
      simp -implicitDefEqProofs (disch:=first|omega|(simp only[LnZ];omega))[wrap64]
      exact hJ _ _ hnc ⟨o', by simp, by rw [hsu]; exact H⟩
    · obtain rfl : n = c := by omega
      simp -implicitDefEqProofs (disch:=first|omega|(simp only[LnZ];omega))[wrap64]
      exact RetK.keep (hk _ _ H)
  clear hJ
  by_cases q0 : U.length = 0
  · rw [if_pos q0] at hp'
    have hpp : p = p' := by have := hp.1; have := hp.2; have : p = 0 := by omega
                            rw [this, hp']
    have q0' : U = [] := List.length_eq_zero_iff.1 q0
    rw [hpp] at main ⊢
    have M := fun q7 q8 q9 q10 q11 q12 q13 q14 q15 q16 => main (q7 := q7) (q8 := q8) (q9 := q9) (q10 := q10) (q11 := q11) (q12 := q12) (q13 := q13) (q14 := q14) (q15 := q15) (q16 := q16) (Heap.le.refl _)
    simp -implicitDefEqProofs (disch:=first|omega|(simp only[LnZ];omega))[wrap64] at M
    simp -implicitDefEqProofs (disch:=first|omega|(simp only[LnZ];omega))[wrap64, hbu, RU.len, q0, q0']
    exact M _ _ _ _ _ _ _ _ _
  rw [if_neg q0] at hp'
  have q0' : ¬ U = [] := fun e => q0 (by rw [e]; rfl)
  have q0i : ¬ (U.length : Int) = 0 := by omega
  have q0p : 0 < U.length := by omega
  obtain ⟨n, rfl⟩ : ∃ n : Nat, p = n := ⟨p.toNat, (Int.toNat_of_nonneg hp.1).symm⟩
  have hnU : n < U.length := by have := hp.2; omega
  obtain ⟨m, hm1, hm2, hm3⟩ := hum (List.getElem_mem hnU)
  have e1 : U.getD (n : Int).toNat 0 = (m : Int) := by rw [Int.toNat_natCast, List.getD_eq_getElem?_getD, List.getElem?_eq_getElem hnU, ← hm1]; rfl
  have hm3' : B[m].kind = 7 := by rw [← hm3]; simp [hm2]
  rw [e1] at hp'
  simp -implicitDefEqProofs (disch:=first|omega|(simp only[LnZ];omega))[wrap64, hbu, RU.len, q0, q0', q0i, q0p]
  refine (c_fulfils hB hn5 hs hnU hm1 hm2 hm3' R RU hbt hbu).go ?_
  rintro _ h2 ⟨l2, rfl⟩
  cases hf : Fm.ful B s m with
  | true =>
    rw [hf, if_pos rfl] at hp'
    simp only at hp'
    rw [hp'] at main
    have M := fun q7 q8 q9 q10 q11 q12 q13 q14 q15 q16 => main (q7 := q7) (q8 := q8) (q9 := q9) (q10 := q10) (q11 := q11) (q12 := q12) (q13 := q13) (q14 := q14) (q15 := q15) (q16 := q16) l2
    simp -implicitDefEqProofs (disch:=first|omega|(simp only[LnZ];omega))[wrap64] at M
    simp -implicitDefEqProofs (disch:=first|omega|(simp only[LnZ];omega))[wrap64, hf, RU.len, q0i, q0']
    exact M _ _ _ _ _ _ _ _ _
  | false =>
    rw [hf, if_neg (by decide)] at hp'
    simp only at hp'
    rw [hp'] at main
    have M := fun q7 q8 q9 q10 q11 q12 q13 q14 q15 q16 => main (q7 := q7) (q8 := q8) (q9 := q9) (q10 := q10) (q11 := q11) (q12 := q12) (q13 := q13) (q14 := q14) (q15 := q15) (q16 := q16) l2
    simp -implicitDefEqProofs (disch:=first|omega|(simp only[LnZ];omega))[wrap64] at M
    simp -implicitDefEqProofs (disch:=first|omega|(simp only[LnZ];omega))[wrap64, hf]
    exact M _ _ _ _ _ _ _ _ _
end Go.Proofs.Ytbanccfdojgocaa

namespace Go.Proofs.Ytbanccfdojgocaa
open Go
section
variable {κ : Type} [DecidableEq κ]
def atK (F : List κ) (a : κ) : Int := match F.findIdx? (fun y => decide (y = a)) with | some i => (i : Int) | none => (F.length : Int)
def adK (F : List κ) (a : κ) : List κ := if a ∈ F then F else F ++ [a]
theorem atK_not {F : List κ} {a : κ} (h : a ∉ F) : atK F a = F.length := by
  have : F.findIdx? (fun y => decide (y = a)) = none := by
    rw [List.findIdx?_eq_none_iff]
    intro y hy
    simp only [decide_eq_false_iff_not]
    rintro rfl
    exact h hy
  rw [atK, this]
theorem atK_map {lf : κ → List Int} (hl : ∀ a b, lf a = lf b → a = b) (F : List κ) (a : κ) : atK F a = Fm.atL (F.map lf) (lf a) ∧ (adK F a).map lf = Fm.adL (F.map lf) (lf a) := by
  have hm : lf a ∈ F.map lf ↔ a ∈ F := by
    rw [List.mem_map]
    exact ⟨fun ⟨b, h1, h2⟩ => hl _ _ h2 ▸ h1, fun h => ⟨a, h, rfl⟩⟩
  constructor
  · unfold atK Fm.atL
    rw [List.findIdx?_map, List.length_map]
    have : ((fun y => decide (y = lf a)) ∘ lf) = fun y => decide (y = a) := by
      funext y
      exact decide_eq_decide.2 ⟨fun h => hl _ _ h, fun h => by rw [h]⟩
    rw [this]
    cases F.findIdx? (fun y => decide (y = a)) <;> rfl
  · unfold adK Fm.adL
    by_cases h : a ∈ F
    · rw [if_pos h, if_pos (hm.2 h)]
    · rw [if_neg h, if_neg (fun hh => h (hm.1 hh))]; simp
theorem atK_bnd {F : List κ} {a : κ} : 0 ≤ atK F a ∧ atK F a ≤ F.length := by
  unfold atK
  split
  · rename_i i h
    rw [List.findIdx?_eq_some_iff_getElem] at h
    obtain ⟨h1, _⟩ := h
    omega
  · omega
theorem adK_all {F : List κ} {a : κ} {P : κ → Prop} (h : ∀ x ∈ F, P x) (ha : P a) : ∀ x ∈ adK F a, P x := by
  unfold adK
  split
  · exact h
  · intro x hx
    rcases List.mem_append.1 hx with hx | hx
    · exact h x hx
    · rw [List.mem_singleton] at hx; subst hx; exact ha
def MI (F : List κ) (m : List (κ × Int)) : Prop := ∀ a, mlk m a = if a ∈ F then some (atK F a) else none
theorem MI.nil : MI ([] : List κ) [] := fun a => by simp [mlk_nil]
theorem MI.get {F : List κ} {m : List (κ × Int)} (h : MI F m) {a : κ} (ha : a ∈ F) : mlk m a = some (atK F a) := by rw [h, if_pos ha]
theorem MI.no {F : List κ} {m : List (κ × Int)} (h : MI F m) {a : κ} (ha : a ∉ F) : mlk m a = none := by rw [h, if_neg ha]
theorem MI.add {F : List κ} {m : List (κ × Int)} (h : MI F m) {a : κ} (ha : a ∉ F) : MI (F ++ [a]) (m ++ [(a, (F.length : Int))]) := by
  intro b
  rw [mlk_snoc (h.no ha)]
  by_cases e : a = b
  · subst e
    rw [if_pos rfl, if_pos (by simp)]
    congr 1
    have : (F ++ [a]).findIdx? (fun y => decide (y = a)) = some F.length := by
      rw [List.findIdx?_eq_some_iff_getElem]
      refine ⟨by simp, by simp, fun j hj => ?_⟩
      rw [List.getElem_append_left hj]
      simp only [decide_eq_true_eq]
      rintro rfl
      exact ha (List.getElem_mem hj)
    rw [atK, this]
  · rw [if_neg e, h]
    by_cases hb : b ∈ F
    · rw [if_pos hb, if_pos (List.mem_append_left _ hb)]
      congr 1
      unfold atK
      rw [List.findIdx?_append]
      have : ∃ i, F.findIdx? (fun y => decide (y = b)) = some i := by
        rcases hf : F.findIdx? (fun y => decide (y = b)) with _ | i
        · rw [List.findIdx?_eq_none_iff] at hf
          have := hf b hb
          simp at this
        · exact ⟨i, rfl⟩
      obtain ⟨i, hi⟩ := this
      rw [hi]
      rfl
    · rw [if_neg hb, if_neg]
      intro hh
      rcases List.mem_append.1 hh with hh | hh
      · exact hb hh
      · rw [List.mem_singleton] at hh; exact e hh.symm
end
namespace Fm
section
variable (mv : List Int → List Mv) (ac : List Int → Bool) (L0 : List (List Int))
def exOk : Prop := (exN mv ac L0 64).1.length ≤ 64 ∧ (exN mv ac L0 64).2.2.length ≤ 2048
instance : Decidable (exOk mv ac L0) := by unfold exOk; infer_instance
def exR : Aut := if exOk mv ac L0 then exA mv ac L0 else ⟨[], [], []⟩
end
section
variable {mv : List Int → List Mv} {ac : List Int → Bool} {L0 : List (List Int)}
theorem exRow_take {i j : Nat} {M : List Mv} {q : List (List Int) × List Tr} (hj : j < M.length) : exRow i (M.take (j + 1)) q = (adL (exRow i (M.take j) q).1 M[j].to, (exRow i (M.take j) q).2 ++ [⟨(i : Int), M[j].care, M[j].value, atL (exRow i (M.take j) q).1 M[j].to⟩]) := by
  unfold exRow
  rw [List.take_add_one, List.getElem?_eq_getElem hj, List.foldl_append]
  rfl
theorem exRow_len {i : Nat} (M : List Mv) (q : List (List Int) × List Tr) : (exRow i M q).1.length ≤ q.1.length + M.length := by
  induction M generalizing q with
  | nil => exact Nat.le_refl _
  | cons m M ih =>
    have h := ih (adL q.1 m.to, q.2 ++ [⟨(i : Int), m.care, m.value, atL q.1 m.to⟩])
    have h1 := adL_len (L := q.1) (p := m.to)
    have h2 : exRow i (m :: M) q = exRow i M (adL q.1 m.to, q.2 ++ [⟨(i : Int), m.care, m.value, atL q.1 m.to⟩]) := rfl
    rw [h2]
    simp only [List.length_cons] at h ⊢
    omega
theorem exN_len {K : Nat} {Q : List Int → Prop} (h0 : ∀ x ∈ L0, Q x) (hs : ∀ x, Q x → ∀ m ∈ mv x, Q m.to) (h : ∀ x, Q x → (mv x).length ≤ K) : ∀ n, (exN mv ac L0 n).1.length ≤ L0.length + n * K
  | 0 => by simp [exN]
  | n + 1 => by
    have ih := exN_len h0 hs h n
    by_cases hc : n < (exN mv ac L0 n).1.length
    · rw [exN_succ (List.getElem?_eq_getElem hc), Nat.add_mul]
      have h1 := exRow_len (i := n) (mv ((exN mv ac L0 n).1[n])) ((exN mv ac L0 n).1, (exN mv ac L0 n).2.2)
      have h2 := h _ (exN_all (ac := ac) h0 hs n _ (List.getElem_mem hc))
      simp only at h1 ⊢
      omega
    · rw [exN_stop (n := n) (by omega) (n + 1) (by omega), Nat.add_mul]
      omega
theorem exOk_end {n : Nat} (hn : n ≤ 64) (hl : (exN mv ac L0 n).1.length ≤ n) : exN mv ac L0 64 = exN mv ac L0 n := exN_stop hl 64 hn
theorem exOk_big {n : Nat} (hn : n ≤ 64) (h : n = 64 ∧ n < (exN mv ac L0 n).1.length ∨ 2048 < (exN mv ac L0 n).2.2.length) : ¬ exOk mv ac L0 := by
  rintro ⟨h1, h2⟩
  have := exN_mono2 (mv := mv) (ac := ac) (L0 := L0) hn
  rcases h with ⟨rfl, h⟩ | h <;> omega
end
end Fm
end Go.Proofs.Ytbanccfdojgocaa

namespace Go.Proofs.Ytbanccfdojgocaa
open Go
def pv2 (p : Int × Int) : Value := .agg #[.int .i64 p.1, .int .i64 p.2]
def lf2 (p : Int × Int) : List Int := [p.1, p.2]
theorem lf2_inj (a b : Int × Int) (h : lf2 a = lf2 b) : a = b := by
  obtain ⟨a1, a2⟩ := a
  obtain ⟨b1, b2⟩ := b
  simpa [lf2] using h
theorem keyEq_2 : ∀ a b : Int × Int, keyEq (.many [.i, .i]) (pv2 a) (pv2 b) = some (decide (a = b)) := by
  rintro ⟨a1, a2⟩ ⟨b1, b2⟩
  simp [keyEq, eqB, pv2]
def vi (n : Int) : Value := .int .i64 n
@[reducible] def Tbs2 (b6 b7 bm : Nat) (fv : Value) (F : List (Int × Int)) (m : List ((Int × Int) × Int)) : List HP := [bx b6 [.map (some bm)], bx b7 [fv], mpo pv2 vi bm m, ow fv F]
theorem c_find2 {g h : Heap} {Γ : List HP} {b6 b7 bm : Nat} {fv : Value} {F : List (Int × Int)} {m : List ((Int × Int) × Int)} {a : Int × Int} (H : HS g (Tbs2 b6 b7 bm fv F m ++ Γ) h) (hm : MI F m) (hF : F.length ≤ 1073741824) (ha : I64 a.1 ∧ I64 a.2) :
    CallE Try.prog fn_impl_explore_impl_phased_1 [pv2 a, .pointer (some ⟨b6, 0, none⟩), .pointer (some ⟨b7, 0, none⟩)] h (fun u h' => ∃ fv' m', u = .int .i64 (atK F a) ∧ HS g (Tbs2 b6 b7 bm fv' (adK F a) m' ++ Γ) h' ∧ MI (adK F a) m') := by
  have H : HS g (bx b6 [.map (some bm)] :: bx b7 [fv] :: mpo pv2 vi bm m :: ow fv F :: Γ) h := H
  refine CallE.gen fun k hk => EN_impl_explore_impl_phased_1 rfl ?_
  simp -implicitDefEqProofs (disch:=first|omega|(simp only[LnZ];omega))[wrap64, pv2, H.bxld0, setC]
  refine HS.mget (kf := pv2) (vf := vi) (a := a) H.sw2 rfl rfl keyEq_2 ?_
  by_cases hf : a ∈ F
  · rw [hm.get hf]
    simp -implicitDefEqProofs (disch:=first|omega|(simp only[LnZ];omega))[wrap64, vi]
    refine RetK.keep (hk _ _ ⟨fv, m, rfl, ?_, ?_⟩)
    · rw [adK, if_pos hf]; exact H
    · rw [adK, if_pos hf]; exact hm
  · rw [hm.no hf]
    have hF2 := H.sw3.rep.lt
    simp -implicitDefEqProofs (disch:=first|omega|(simp only[LnZ];omega))[wrap64, vi, H.sw1.bxld0, H.sw3.rep.len, H.bxld0]
    refine HS.mput (kf := pv2) (vf := vi) (a := a) (v := (F.length : Int)) H.sw2 rfl rfl rfl keyEq_2 (hm.no hf) fun h1 H => ?_
    simp -implicitDefEqProofs (disch:=first|omega|(simp only[LnZ];omega))[wrap64, setC, H.sw2.bxld0]
    refine HS.app1 (bytes := 16) H.sw3 a rfl rfl rfl ha rfl rfl (by omega) (by omega) fun fv' h2 H => ?_
    simp -implicitDefEqProofs (disch:=first|omega|(simp only[LnZ];omega))[wrap64]
    refine H.sw3.bxst (u := fv') rfl rfl (by rw [H.rep.cells]; rfl) (by rw [H.rep.cells]; simp [H.rep.one]) (by simp [H.rep.cells]) fun h3 H => ?_
    have H : HS g (bx b7 [fv'] :: ow fv' (F ++ [a]) :: mpo pv2 vi bm (m ++ [(a, (F.length : Int))]) :: bx b6 [.map (some bm)] :: Γ) h3 := by simpa [setC, H.sw1.rep.cells] using H
    simp -implicitDefEqProofs (disch:=first|omega|(simp only[LnZ];omega))[wrap64]
    refine RetK.keep (hk _ _ ⟨fv', _, by rw [atK_not hf], ?_, by rw [adK, if_neg hf]; exact hm.add hf⟩)
    rw [adK, if_neg hf]
    exact H.sw3.under fun _ H => H.under fun _ H => H.sw1
def toMv2 (m : Int × Int × Int × Int) : Fm.Mv := ⟨m.1, m.2.1, lf2 m.2.2⟩
set_option maxHeartbeats 4000000 in
theorem c_explore2 {g : Heap} {iv fa fm : Value} {I : List (Int × Int)} {mv : List Int → List Fm.Mv} {ac : List Int → Bool} {P : Int × Int → Prop} {K : Nat} {Mf : Int × Int → List (Int × Int × Int × Int)}
    (hK : K ≤ 8388608) (hI : I.Nodup) (hIl : I.length ≤ 8388608) (hP0 : ∀ p ∈ I, P p) (hPok : ∀ p, P p → I64 p.1 ∧ I64 p.2)
    (hMf : ∀ p, P p → (Mf p).map toMv2 = mv (lf2 p) ∧ (Mf p).length ≤ K ∧ ∀ m ∈ Mf p, P m.2.2)
    (hmo : ∀ p, P p → ∀ m ∈ mv (lf2 p), ∃ c v : Nat, m.care = c ∧ m.value = v ∧ c < 8 ∧ v &&& c = v)
    {fA fM : FuncId} {a1 a2 m1 m2 : List Value} (hfa : fnOf fa = some (fA, a1, a2)) (hfm : fnOf fm = some (fM, m1, m2))
    (hA : ∀ p h, P p → g.le h → CallE Try.prog fA (a1 ++ pv2 p :: a2) h (fun u h' => h.le h' ∧ u = .bool (ac (lf2 p))))
    (hM : ∀ p h, P p → g.le h → CallE Try.prog fM (m1 ++ pv2 p :: m2) h (fun u h' => HS h [ow u (Mf p)] h'))
    (R : Rep g iv I) :
    CallE Try.prog fn_impl_explore_impl_phased [iv, fa, fm] g (fun u h' => ∃ w, u = .tuple #[w, .bool (decide (Fm.exOk mv ac (I.map lf2)))] ∧ HS g [ow w (Fm.exR mv ac (I.map lf2))] h') := by
  refine CallE.gen fun k hk => EN_impl_explore_impl_phased rfl ?_
  by_cases q0 : I = []
  · subst q0
    have hex : Fm.exN mv ac ([].map lf2) 64 = ([], [], []) := Fm.exN_nil 64
    have hok : Fm.exOk mv ac (([] : List (Int × Int)).map lf2) := by unfold Fm.exOk; rw [hex]; simp
    simp -implicitDefEqProofs (disch:=first|omega|(simp only[LnZ];omega))[wrap64, R.len]
    refine HS.init.mks (α := Bool) (z := false) rfl rfl ⟨rfl, rfl⟩ (by omega) (by decide) (by decide) fun w h1 H => ?_
    simp -implicitDefEqProofs (disch:=first|omega|(simp only[LnZ];omega))[wrap64, setC, H.rep.cells, H.rep.one]
    refine RetK.keep (hk _ _ ⟨_, by rw [decide_eq_true hok], ?_⟩)
    rw [Fm.exR, if_pos hok, Fm.exA, hex]
    exact HS.mkAut (a := ⟨[], [false], []⟩) ((H.nil_ow (α := Tr)).sw1.nil_ow (α := Int))
  have q0i : ¬ (I.length : Int) = 0 := fun e => q0 (List.length_eq_zero_iff.1 (by omega))
  have q0n : ¬ I.length = 0 := by omega
  simp -implicitDefEqProofs (disch:=first|omega|(simp only[LnZ];omega))[wrap64, R.len, q0i, q0n, q0]
  refine HS.init.mkm pv2 vi fun bm h1 H => ?_
  simp -implicitDefEqProofs (disch:=first|omega|(simp only[LnZ];omega))[wrap64]
  refine H.alloc rfl fun b6 h2 H => ?_
  simp -implicitDefEqProofs (disch:=first|omega|(simp only[LnZ];omega))[wrap64]
  refine H.bxst (u := .map (some bm)) rfl rfl rfl rfl (by simp) fun h3 H => ?_
  have H : HS g [bx b6 [.map (some bm)], mpo pv2 vi bm []] h3 := by simpa [setC] using H
  simp -implicitDefEqProofs (disch:=first|omega|(simp only[LnZ];omega))[wrap64]
  refine H.alloc rfl fun b7 h4 H => ?_
  have H : HS g (Tbs2 b6 b7 bm (.slice none 0 0) [] [] ++ []) h4 := H.nil_ow.bk3.sw1
  obtain ⟨fv, hfv⟩ : ∃ fv, fv = Value.func (.func fn_impl_explore_impl_phased_1) #[] #[.pointer (some ⟨b6, 0, none⟩), .pointer (some ⟨b7, 0, none⟩)] := ⟨_, rfl⟩
  have hfn : fnOf fv = some (fn_impl_explore_impl_phased_1, [], [.pointer (some ⟨b6, 0, none⟩), .pointer (some ⟨b7, 0, none⟩)]) := by subst hfv; rfl
  have hfc : fv.cells = #[fv] := by subst hfv; rfl
  have hf1 : fv.oneCell' = true := by subst hfv; rfl
  simp -implicitDefEqProofs (disch:=first|omega|(simp only[LnZ];omega))[wrap64, R.len]
  rw [← hfv]
  have hLd : ∀ F : List (Int × Int), F.length = (F.map lf2).length := fun F => by simp
  refine wp_count I.length (fun i e h' => ∃ (iw fw : Value) (m : List ((Int × Int) × Int)), e = [none, some fa, some fm, some (.agg #[.slice none 0 0, .slice none 0 0, .slice none 0 0]), none, some (.agg #[iw, .slice none 0 0, .slice none 0 0]), none, some (.pointer (some ⟨b7, 0, none⟩)), some fv, none, none, none, some iv, some (.int .i64 I.length), some (.int .i64 i), none, none, none] ∧
    HS g (Tbs2 b6 b7 bm fw (I.take i) m ++ [ow iw (Fm.upto i)]) h' ∧ MI (I.take i) m) ⟨.slice none 0 0, .slice none 0 0, [], by simp, ?_, by simpa using MI.nil⟩ ?_
  · have := H.nil_ow (α := Int)
    exact this.bk4
  clear H
  rintro J i _ h5 hJ hi ⟨iw, fw, m, rfl, H, hm⟩
  simp -implicitDefEqProofs (disch:=first|omega|(simp only[LnZ];omega))[wrap64]
  refine IteW.mk (fun hlt => ?_) (fun hge => ?_)
  · have hlx : i < I.length := by omega
    have hpk := hPok _ (hP0 _ (List.getElem_mem hlx))
    have hu := hload_le H.base (R.ldF hlx)
    change hload _ (some (elp 2 iv i)) (some 2) = some (pv2 I[i]) at hu
    have hX := R.X (n := 2) rfl
    have hnot : I[i] ∉ I.take i := fun hh => by
      obtain ⟨j, hj, e⟩ := List.mem_iff_getElem.1 hh
      simp only [List.length_take] at hj
      rw [List.getElem_take] at e
      have := (List.getElem_inj hI).1 e
      omega
    have hat : atK (I.take i) I[i] = i := by rw [atK_not hnot, List.length_take, Nat.min_eq_left (by omega)]
    have had : adK (I.take i) I[i] = I.take (i + 1) := by rw [adK, if_neg hnot, List.take_add_one, List.getElem?_eq_getElem hlx]; rfl
    simp -implicitDefEqProofs (disch:=first|omega|(simp only[LnZ];omega))[wrap64, hX, hu, pv2, setC, hfn]
    refine (c_find2 (a := I[i]) H hm (by simp only [List.length_take]; omega) hpk).go ?_
    clear H hm
    rintro _ h6 ⟨fw', m', rfl, H, hm⟩
    rw [had] at H hm
    rw [hat]
    have H : HS g (bx b6 [.map (some bm)] :: bx b7 [fw'] :: mpo pv2 vi bm m' :: ow fw' (I.take (i + 1)) :: [ow iw (Fm.upto i)]) h6 := H
    simp -implicitDefEqProofs (disch:=first|omega|(simp only[LnZ];omega))[wrap64, setC]
    refine HS.app1 (bytes := 8) H.sw4 (i : Int) rfl rfl rfl ⟨by omega, by omega⟩ rfl rfl (by simp [Fm.upto]; omega) (by simp [Fm.upto]; omega) fun iw' h7 H => ?_
    simp -implicitDefEqProofs (disch:=first|omega|(simp only[LnZ];omega))[wrap64, setC, H.rep.cells, H.rep.one]
    refine hJ _ _ hlx ⟨iw', fw', m', by simp, ?_, hm⟩
    rw [Fm.upto_succ]
    exact H.bk4
  obtain rfl : i = I.length := by omega
  rw [List.take_length] at H hm
  simp -implicitDefEqProofs (disch:=first|omega|(simp only[LnZ];omega))[wrap64]
  clear hJ J
  obtain ⟨L0, hL0⟩ : ∃ L0, L0 = I.map lf2 := ⟨_, rfl⟩
  have hLI : L0.length = I.length := by rw [hL0]; simp
  rw [← hL0] at hk
  have hQ0 : ∀ x ∈ L0, ∃ p, P p ∧ x = lf2 p := fun x hx => by
    rw [hL0] at hx
    obtain ⟨p, hp, rfl⟩ := List.mem_map.1 hx
    exact ⟨p, hP0 p hp, rfl⟩
  have hQs : ∀ x, (∃ p, P p ∧ x = lf2 p) → ∀ m ∈ mv x, ∃ p, P p ∧ m.to = lf2 p := by
    rintro _ ⟨p, hp, rfl⟩ m hm
    rw [← (hMf p hp).1] at hm
    obtain ⟨q, hq, rfl⟩ := List.mem_map.1 hm
    exact ⟨q.2.2, (hMf p hp).2.2 q hq, rfl⟩
  have hQl : ∀ x, (∃ p, P p ∧ x = lf2 p) → (mv x).length ≤ K := by
    rintro _ ⟨p, hp, rfl⟩
    rw [← (hMf p hp).1, List.length_map]
    exact (hMf p hp).2.1
  have hbd := Fm.exN_len (ac := ac) hQ0 hQs hQl
  have hbad : ∀ {h' : Heap}, g.le h' → ¬ Fm.exOk mv ac L0 → k (.tuple #[.agg #[.slice none 0 0, .slice none 0 0, .slice none 0 0], .bool false]) h' := fun hl hn => hk _ _ ⟨_, by rw [decide_eq_false hn], by
    rw [Fm.exR, if_neg hn]
    exact HS.mkAut (a := ⟨[], [], []⟩) (HS.nil_ow (Γ := []) hl).nil_ow.nil_ow⟩
  have hL0n : ¬ L0 = [] := fun e => q0 (List.length_eq_zero_iff.1 (by rw [← hLI, e]; rfl))
  refine wp_count 65 (fun i e h' => ∃ (iw aw ew fw : Value) (m : List ((Int × Int) × Int)) (F : List (Int × Int)), e = [none, some fa, some fm, some (.agg #[.slice none 0 0, .slice none 0 0, .slice none 0 0]), none, some (.agg #[iw, aw, ew]), none, some (.pointer (some ⟨b7, 0, none⟩)), some fv, none, some (.int .i64 i), none, none, none, none, none, none, none] ∧
    HS g (Tbs2 b6 b7 bm fw F m ++ [ow iw (Fm.upto I.length), ow aw (Fm.exN mv ac L0 i).2.1, ow ew (Fm.exN mv ac L0 i).2.2]) h' ∧ MI F m ∧ F.map lf2 = (Fm.exN mv ac L0 i).1 ∧ (∀ x ∈ F, P x) ∧ i ≤ 64 ∧ ∀ m, m < i → m < (Fm.exN mv ac L0 m).1.length)
    ⟨iw, .slice none 0 0, .slice none 0 0, fw, m, I, by simp, ?_, hm, hL0.symm, hP0, by omega, fun m hm => absurd hm (Nat.not_lt_zero m)⟩ ?_
  · exact ((H.nil_ow (α := Tr)).bk5.nil_ow (α := Bool)).bk5
  clear H hm m fw iw
  rintro J i _ h6 hJ hi1 ⟨iw, aw, ew, fw, m, F, rfl, H, hm, hF, hPF, hi64, hall⟩
  have hFl : F.length = (Fm.exN mv ac L0 i).1.length := by rw [← hF]; simp
  have hb1 := hbd i
  have hb2 : i * K ≤ 64 * 8388608 := Nat.mul_le_mul hi64 hK
  have hal := Fm.exN_al (mv := mv) (ac := ac) (L0 := L0) i hall
  have H : HS g (bx b6 [.map (some bm)] :: bx b7 [fw] :: mpo pv2 vi bm m :: ow fw F :: [ow iw (Fm.upto I.length), ow aw (Fm.exN mv ac L0 i).2.1, ow ew (Fm.exN mv ac L0 i).2.2]) h6 := H
  have hew := H.sw6.rep.lt
  by_cases q2 : i < F.length
  case neg =>
    have hend : Fm.exN mv ac L0 64 = Fm.exN mv ac L0 i := Fm.exOk_end hi64 (by omega)
    have hA : Fm.exA mv ac L0 = ⟨Fm.upto I.length, (Fm.exN mv ac L0 i).2.1, (Fm.exN mv ac L0 i).2.2⟩ := by rw [Fm.exA, if_neg hL0n, hend, hLI]
    have hOk : (Fm.exA mv ac L0).Ok ↔ Fm.exOk mv ac L0 := by
      constructor
      · intro h
        have := h.2.1
        rw [hA] at this
        exact ⟨by rw [hend]; omega, by rw [hend]; exact this⟩
      · rintro ⟨h1, h2⟩
        refine Fm.exA_ok h1 h2 fun x hx m hm => ?_
        obtain ⟨p, hp, rfl⟩ := Fm.exN_all hQ0 hQs 64 x hx
        exact hmo p hp m hm
    have hexR : Fm.exOk mv ac L0 → Fm.exR mv ac L0 = Fm.exA mv ac L0 := fun h => by rw [Fm.exR, if_pos h]
    have O1 := H.sw4.rep.one
    have O2 := H.sw5.rep.one
    have O3 := H.sw6.rep.one
    have hbf := H.sw1.bxld0
    have hfl := H.sw3.rep.len
    have H := HS.mkAut (a := ⟨Fm.upto I.length, (Fm.exN mv ac L0 i).2.1, (Fm.exN mv ac L0 i).2.2⟩) H.drop.drop.drop.drop
    rw [← hA] at H
    have FA := H.rep.aAut
    simp -implicitDefEqProofs (disch:=first|omega|(simp only[LnZ];omega))[wrap64, hbf, hfl, q2, O1, O2, O3, setC]
    refine (c_AutomatonValid H.rep).go ?_
    rintro _ h7 ⟨l7, rfl⟩
    have H := H.le l7
    by_cases q5 : Fm.exOk mv ac L0
    · have q6 := hOk.2 q5
      have hOk3 := q6.2.1
      have hOk4 := q6.1
      simp -implicitDefEqProofs (disch:=first|omega|(simp only[LnZ];omega))[wrap64, q6, FA]
      refine (c_copyOf H.rep (by rw [hA]; simp [Fm.upto]; omega) (by omega) (by omega)).go ?_
      intro w h8 G
      have FW := G.rep.aAut
      simp -implicitDefEqProofs (disch:=first|omega|(simp only[LnZ];omega))[wrap64, FW, setC]
      refine RetK.keep (hk _ _ ⟨w, by rw [decide_eq_true q5], ?_⟩)
      rw [hexR q5]
      exact (G.app H).sw1.drop
    · have q6 : ¬ _ := fun hh => q5 (hOk.1 hh)
      simp -implicitDefEqProofs (disch:=first|omega|(simp only[LnZ];omega))[wrap64, q6, setC]
      exact RetK.keep (hbad H.base q5)
  have hnn : (Fm.exN mv ac L0 i).1[i]? = some (lf2 F[i]) := by rw [← hF]; simp [q2]
  have hsu := Fm.exN_succ hnn
  have hPi := hPF _ (List.getElem_mem q2)
  by_cases q3 : i = 64
  · have hok := Fm.exOk_big (mv := mv) (ac := ac) (L0 := L0) hi64 (.inl ⟨q3, by omega⟩)
    have q3i : (i : Int) = 64 := by omega
    simp -implicitDefEqProofs (disch:=first|omega|(simp only[LnZ];omega))[wrap64, H.sw1.bxld0, H.sw3.rep.len, q2, q3i, show (64 : Int) < F.length by omega, H.sw4.rep.one, H.sw5.rep.one, H.sw6.rep.one, setC]
    exact RetK.keep (hbad H.base hok)
  by_cases q4 : 2048 < (Fm.exN mv ac L0 i).2.2.length
  · have hok := Fm.exOk_big (mv := mv) (ac := ac) (L0 := L0) hi64 (.inr q4)
    have q3i : ¬ (i : Int) = 64 := by omega
    have q4i : (2048 : Int) < (Fm.exN mv ac L0 i).2.2.length := by omega
    simp -implicitDefEqProofs (disch:=first|omega|(simp only[LnZ];omega))[wrap64, H.sw1.bxld0, H.sw3.rep.len, q2, q3i, q4i, H.sw4.rep.one, H.sw5.rep.one, H.sw6.rep.one, H.sw6.rep.len, setC]
    exact RetK.keep (hbad H.base hok)
  have q3i : ¬ (i : Int) = 64 := by omega
  have q4i : ¬ (2048 : Int) < (Fm.exN mv ac L0 i).2.2.length := by omega
  obtain ⟨L, hL⟩ : ∃ L, L = (Fm.exN mv ac L0 i).1 := ⟨_, rfl⟩
  obtain ⟨A, hAA⟩ : ∃ A, A = (Fm.exN mv ac L0 i).2.1 := ⟨_, rfl⟩
  obtain ⟨E, hE⟩ : ∃ E, E = (Fm.exN mv ac L0 i).2.2 := ⟨_, rfl⟩
  rw [← hL] at hF hFl hb1 hsu hnn
  rw [← hAA] at H hal hsu
  rw [← hE] at H hew hsu q4 q4i
  obtain ⟨p, hp⟩ : ∃ p, p = F[i] := ⟨_, rfl⟩
  rw [← hp] at hPi hsu hnn
  have hu : hload h6 (some (elp 2 fw i)) (some 2) = some (pv2 p) := by rw [hp]; exact H.sw3.rep.ldF q2
  simp -implicitDefEqProofs (disch:=first|omega|(simp only[LnZ];omega))[wrap64, H.sw1.bxld0, H.sw3.rep.len, q2, q3i, q4i, H.sw4.rep.one, H.sw5.rep.one, H.sw6.rep.one, H.sw6.rep.len, H.sw3.rep.X (n := 2) rfl, hu, hfa, setC]
  refine (hA p h6 hPi H.base).go ?_
  rintro _ h7 ⟨l7, rfl⟩
  have H := H.le l7
  have hu := hload_le l7 hu
  simp -implicitDefEqProofs (disch:=first|omega|(simp only[LnZ];omega))[wrap64, setC]
  refine HS.app1 (bytes := 1) H.sw5 (ac (lf2 p)) rfl rfl rfl trivial rfl rfl (by omega) (by omega) fun aw' h8 H => ?_
  have hu : hload h8 (some (elp 2 fw i)) (some 2) = some (pv2 p) := by rw [hp]; exact H.sw4.rep.ldF q2
  simp -implicitDefEqProofs (disch:=first|omega|(simp only[LnZ];omega))[wrap64, setC, H.rep.cells, H.rep.one, H.sw2.bxld0, H.sw4.rep.X (n := 2) rfl, hu, hfm]
  refine (hM p h8 hPi H.base).go ?_
  intro mw h9 G
  have H := (G.app H.bk5).bk6
  obtain ⟨hM1, hM2, hM3⟩ := hMf p hPi
  obtain ⟨M, hMd⟩ : ∃ M, M = mv (lf2 p) := ⟨_, rfl⟩
  rw [← hMd] at hsu hM1
  have hMl : M.length = (Mf p).length := by rw [← hM1]; simp
  have H : HS g (Tbs2 b6 b7 bm fw F m ++ [ow iw (Fm.upto I.length), ow aw' (A ++ [ac (lf2 p)]), ow mw (Mf p), ow ew E]) h9 := H
  simp -implicitDefEqProofs (disch:=first|omega|(simp only[LnZ];omega))[wrap64, G.rep.len]
  refine wp_count (Mf p).length (fun j e h' => ∃ (ew fw : Value) (m : List ((Int × Int) × Int)) (F : List (Int × Int)), e = [none, some fa, some fm, some (.agg #[.slice none 0 0, .slice none 0 0, .slice none 0 0]), none, some (.agg #[iw, aw', ew]), none, some (.pointer (some ⟨b7, 0, none⟩)), some fv, none, some (.int .i64 i), none, none, none, none, some mw, some (.int .i64 (Mf p).length), some (.int .i64 j)] ∧
    HS g (Tbs2 b6 b7 bm fw F m ++ [ow iw (Fm.upto I.length), ow aw' (A ++ [ac (lf2 p)]), ow mw (Mf p), ow ew (Fm.exRow i (M.take j) (L, E)).2]) h' ∧ MI F m ∧ F.map lf2 = (Fm.exRow i (M.take j) (L, E)).1 ∧ ∀ x ∈ F, P x)
    ⟨ew, fw, m, F, by simp, H, hm, hF, hPF⟩ ?_
  clear H hm hF hPF hu hFl hew G
  rintro J2 j _ h10 hJ2 hj ⟨ew, fw, m, F, rfl, H, hm, hF, hPF⟩
  simp -implicitDefEqProofs (disch:=first|omega|(simp only[LnZ];omega))[wrap64]
  refine IteW.mk (fun hlt => ?_) (fun hge => ?_)
  · have hjx : j < (Mf p).length := by omega
    have hjM : j < M.length := by omega
    have hst := Fm.exRow_take (i := i) (q := (L, E)) hjM
    have hel := (Fm.exRow_er (i := i) (M.take j) (L, E)).el
    have hll := Fm.exRow_len (i := i) (M.take j) (L, E)
    simp only [List.length_take] at hel hll
    have hFl : F.length = (Fm.exRow i (M.take j) (L, E)).1.length := by rw [← hF]; simp
    have hPq := hM3 _ (List.getElem_mem hjx)
    have hMj : M[j] = toMv2 (Mf p)[j] := by simp only [← hM1, List.getElem_map]
    have H : HS g (bx b6 [.map (some bm)] :: bx b7 [fw] :: mpo pv2 vi bm m :: ow fw F :: [ow iw (Fm.upto I.length), ow aw' (A ++ [ac (lf2 p)]), ow mw (Mf p), ow ew (Fm.exRow i (M.take j) (L, E)).2]) h10 := H
    have hok := H.sw6.rep.okF hjx
    have hu := H.sw6.rep.ldF hjx
    have hX := H.sw6.rep.X (n := 4) rfl
    rw [hMj] at hst
    obtain ⟨q, hq⟩ : ∃ q, q = (Mf p)[j] := ⟨_, rfl⟩
    rw [← hq] at hst hPq hok hu
    change hload _ (some (elp 4 mw j)) (some 4) = some (.agg #[.int .i64 q.1, .int .i64 q.2.1, .int .i64 q.2.2.1, .int .i64 q.2.2.2]) at hu
    have hok : I64 q.1 ∧ I64 q.2.1 ∧ I64 q.2.2.1 ∧ I64 q.2.2.2 := hok
    have hat := atK_map lf2_inj F q.2.2
    rw [hF] at hat
    have hbn := atK_bnd (F := F) (a := q.2.2)
    generalize Fm.exRow i (M.take j) (L, E) = Q at *
    simp -implicitDefEqProofs (disch:=first|omega|(simp only[LnZ];omega))[wrap64, hX, hu, setC, hfn]
    refine (c_find2 (a := q.2.2) (Γ := [ow iw (Fm.upto I.length), ow aw' (A ++ [ac (lf2 p)]), ow mw (Mf p), ow ew Q.2]) H hm (by omega) (hPok _ hPq)).go ?_
    rintro _ h11 ⟨fw', m', rfl, H, hm⟩
    have H : HS g (bx b6 [.map (some bm)] :: bx b7 [fw'] :: mpo pv2 vi bm m' :: ow fw' (adK F q.2.2) :: [ow iw (Fm.upto I.length), ow aw' (A ++ [ac (lf2 p)]), ow mw (Mf p), ow ew Q.2]) h11 := H
    simp -implicitDefEqProofs (disch:=first|omega|(simp only[LnZ];omega))[wrap64, setC]
    refine HS.app1 (bytes := 32) H.sw7 (⟨(i : Int), q.1, q.2.1, atK F q.2.2⟩ : Tr) rfl rfl rfl (Tr.ok_iff.2 ⟨⟨by simp only; omega, by simp only; omega⟩, hok.1, hok.2.1, ⟨by simp only; omega, by simp only; omega⟩⟩) rfl rfl (by omega) (by omega) fun ew' h12 H => ?_
    simp -implicitDefEqProofs (disch:=first|omega|(simp only[LnZ];omega))[wrap64, setC, H.rep.cells, H.rep.one]
    refine hJ2 _ _ hjx ⟨ew', fw', m', adK F q.2.2, by simp, ?_, hm, by rw [hst, hat.2]; rfl, adK_all hPF hPq⟩
    rw [hst]
    have : Q.2 ++ [(⟨(i : Int), q.1, q.2.1, atK F q.2.2⟩ : Tr)] = (Fm.adL Q.1 (toMv2 q).to, Q.2 ++ [⟨(i : Int), (toMv2 q).care, (toMv2 q).value, Fm.atL Q.1 (toMv2 q).to⟩]).2 := by rw [hat.1]; rfl
    rw [← this]
    exact H.sw7.sw7.sw7.sw7.sw7.sw7.sw7
  simp -implicitDefEqProofs (disch:=first|omega|(simp only[LnZ];omega))[wrap64]
  have hsuL : (Fm.exN mv ac L0 (i + 1)).2.1 = A ++ [ac (lf2 p)] := by rw [hsu]
  rw [List.take_of_length_le (by omega)] at H hF
  refine hJ _ _ (by omega) ⟨iw, aw', ew, fw, m, F, by simp, ?_, hm, by rw [hF, hsu], hPF, by omega, fun n hn => ?_⟩
  · rw [hsu]
    have H : HS g (bx b6 [.map (some bm)] :: bx b7 [fw] :: mpo pv2 vi bm m :: ow fw F :: [ow iw (Fm.upto I.length), ow aw' (A ++ [ac (lf2 p)]), ow mw (Mf p), ow ew (Fm.exRow i M (L, E)).2]) h10 := H
    exact H.under fun _ H => H.under fun _ H => H.under fun _ H => H.under fun _ H => H.under fun _ H => H.under fun _ H => H.drop
  · by_cases e : n = i
    · subst e
      have := (List.getElem?_eq_some_iff.1 hnn).1
      rw [hL] at this
      exact this
    · exact hall n (by omega)
end Go.Proofs.Ytbanccfdojgocaa

namespace Go.Proofs.Ytbanccfdojgocaa
open Go
namespace Fm
noncomputable def ini2 (B : List Exq) (g : Exq) : Nat → List (Int × Int)
  | 0 => []
  | n + 1 => if val B n g then ini2 B g n ++ [((n : Int), 0)] else ini2 B g n
theorem ini2_map {B : List Exq} {g : Exq} : ∀ n, (ini2 B g n).map lf2 = ini0 B g n
  | 0 => rfl
  | n + 1 => by
    have ih := ini2_map (B := B) (g := g) n
    rw [ini2, ini0]
    split
    · rw [List.map_append, ih]; rfl
    · exact ih
theorem ini2_len {B : List Exq} {g : Exq} (n : Nat) : (ini2 B g n).length ≤ n := by
  have := ini0_len (B := B) (g := g) n
  rw [← ini2_map, List.length_map] at this
  exact this
theorem ini2_mem {B : List Exq} {g : Exq} {n : Nat} {p : Int × Int} (h : p ∈ ini2 B g n) : ∃ s : Nat, s < n ∧ p = ((s : Int), 0) := by
  have h1 : lf2 p ∈ ini0 B g n := by rw [← ini2_map]; exact List.mem_map.2 ⟨p, h, rfl⟩
  obtain ⟨s, h2, h3, _⟩ := ini0_mem.1 h1
  exact ⟨s, h2, lf2_inj _ _ h3⟩
theorem ini2_nodup {B : List Exq} {g : Exq} : ∀ n, (ini2 B g n).Nodup
  | 0 => by simp [ini2]
  | n + 1 => by
    have ih := ini2_nodup (B := B) (g := g) n
    rw [ini2]
    split
    · rw [List.nodup_append]
      refine ⟨ih, by simp, fun x hx y hy => ?_⟩
      rw [List.mem_singleton] at hy
      subst hy
      rintro rfl
      obtain ⟨s, h1, h2⟩ := ini2_mem hx
      simp only [Prod.mk.injEq] at h2
      omega
    · exact ih
theorem ltv_sub' {B : List Exq} {s : Nat} : ltv B s B.length &&& ltc B B.length = ltv B s B.length := by
  refine Nat.eq_of_testBit_eq fun a => ?_
  rw [Nat.testBit_and]
  cases h : (ltv B s B.length).testBit a with
  | false => rfl
  | true =>
    obtain ⟨i, hi, h1, h2, _, h4⟩ := (ltv_bit _ (Nat.le_refl _)).1 h
    rw [(ltc_bit _ (Nat.le_refl _)).2 ⟨i, hi, h1, h2, h4⟩]
    rfl
theorem exOk_tr {x : Exq} : trOk x ↔ bOk x ∧ exOk (mvT (basics x) (unt (basics x) (basics x).length)) (acT (basics x) (unt (basics x) (basics x).length)) (ini0 (basics x) (push x false) (2 ^ (basics x).length)) := by
  rw [trOk_ex]
  constructor
  · rintro ⟨h1, h2⟩
    refine ⟨h1, h2, ?_⟩
    have hp : 2 ^ (basics x).length ≤ 2 ^ 5 := Nat.pow_le_pow_right (by omega) h1.2
    have := exN_edges (mv := mvT (basics x) (unt (basics x) (basics x).length)) (ac := acT (basics x) (unt (basics x) (basics x).length)) (L0 := ini0 (basics x) (push x false) (2 ^ (basics x).length)) (fun _ => mvT_len) 64
    omega
  · rintro ⟨h1, h2, _⟩
    exact ⟨h1, h2⟩
end Fm
theorem c_accT {h : Heap} {w uv : Value} {B : List Exq} {bT bt s : Nat} {p : Int} (hB : Fm.Bc B) (hn5 : B.length ≤ 5) (hs : s < 4611686018427387904) (hp : Fm.POk (Fm.unt B B.length) p) (R : Rep h w B) (RU : Rep h uv (Fm.unt B B.length))
    (hbT : hload h (some (.pointer (some ⟨bT, 0, none⟩))) none = some (.pointer (some ⟨bt, 0, none⟩)))
    (hbt : hload h (some (.pointer (some ⟨bt, 0, none⟩))) none = some w) (hbu : hload h (some (.pointer (some ⟨bt, 1, none⟩))) none = some uv) :
    CallE Try.prog fn_impl_TranslateFormula_1 [.agg #[.int .i64 s, .int .i64 p], .pointer (some ⟨bT, 0, none⟩)] h (fun u h' => h.le h' ∧ u = .bool (Fm.phs B (Fm.unt B B.length) s p).2) := by
  have hum : ∀ {u : Int}, u ∈ Fm.unt B B.length → _ := fun h => Fm.unt_mem h
  refine CallE.gen fun k hk => EN_impl_TranslateFormula_1 rfl ?_
  unfold Fm.phs at hk
  generalize Fm.unt B B.length = U at *
  by_cases q0 : U.length = 0
  · rw [if_pos q0] at hk
    have q0' : U = [] := List.length_eq_zero_iff.1 q0
    simp -implicitDefEqProofs (disch:=first|omega|(simp only[LnZ];omega))[wrap64, setC, hbT, hbu, RU.len, q0, q0']
    exact RetK.keep (hk _ _ ⟨Heap.le.refl _, rfl⟩)
  rw [if_neg q0] at hk
  have q0' : ¬ U = [] := fun e => q0 (by rw [e]; rfl)
  have q0i : ¬ (U.length : Int) = 0 := by omega
  by_cases qp : p = 0
  case neg =>
    simp -implicitDefEqProofs (disch:=first|omega|(simp only[LnZ];omega))[wrap64, setC, hbT, hbu, RU.len, q0, q0', q0i, qp]
    refine RetK.keep (hk _ _ ⟨Heap.le.refl _, ?_⟩)
    split
    · simp [qp]
    · rfl
  subst qp
  have hnU : 0 < U.length := by omega
  obtain ⟨m, hm1, hm2, hm3⟩ := hum (List.getElem_mem hnU)
  have e1 : U.getD (0 : Int).toNat 0 = (m : Int) := by rw [Int.toNat_zero, List.getD_eq_getElem?_getD, List.getElem?_eq_getElem hnU, ← hm1]; rfl
  have hm3' : B[m].kind = 7 := by rw [← hm3]; simp [hm2]
  rw [e1] at hk
  simp -implicitDefEqProofs (disch:=first|omega|(simp only[LnZ];omega))[wrap64, setC, hbT, hbu, RU.len, q0, q0', q0i]
  refine (c_fulfils (p := 0) hB hn5 hs hnU hm1 hm2 hm3' R RU hbt hbu).go ?_
  rintro _ h2 ⟨l2, rfl⟩
  cases hf : Fm.ful B s m with
  | true =>
    rw [hf] at hk
    simp -implicitDefEqProofs (disch:=first|omega|(simp only[LnZ];omega))[wrap64, hf]
    exact RetK.keep (hk _ _ ⟨l2, by simp⟩)
  | false =>
    rw [hf] at hk
    simp -implicitDefEqProofs (disch:=first|omega|(simp only[LnZ];omega))[wrap64, hf]
    exact RetK.keep (hk _ _ ⟨l2, by simp⟩)
theorem c_TranslateFormula {h : Heap} {v : Value} {x : Exq} (R : Rep h v x) : CallE Try.prog fn_impl_TranslateFormula [v] h (fun u h' => ∃ w, u = .tuple #[w, .bool (decide (Fm.trOk x))] ∧ HS h [ow w (Fm.trR x)] h') := by
  have FX := R.aExq
  refine CallE.gen fun k hk => EN_impl_TranslateFormula rfl ?_
  simp -implicitDefEqProofs (disch:=first|omega|(simp only[LnZ];omega))[wrap64, FX]
  refine (c_BasicFormulas R).go ?_
  rintro _ h1 ⟨w, rfl, l1, RB⟩
  by_cases q1 : Fm.bOk x
  case neg =>
    simp -implicitDefEqProofs (disch:=first|omega|(simp only[LnZ];omega))[wrap64, q1, setC]
    refine RetK.keep (hk _ _ ⟨_, by rw [decide_eq_false (fun hh => q1 hh.1)], ?_⟩)
    rw [Fm.trR, if_neg (fun hh => q1 hh.1)]
    exact HS.mkAut (a := ⟨[], [], []⟩) (HS.nil_ow (Γ := []) l1).nil_ow.nil_ow
  rw [Fm.basR, if_pos q1] at RB
  simp -implicitDefEqProofs (disch:=first|omega|(simp only[LnZ];omega))[wrap64, q1, FX]
  refine (c_Formula_normalForm (R.le l1) q1.1.1).go ?_
  rintro _ h2 ⟨gu, rfl, l2, RG⟩
  rw [Fm.nfR, if_pos q1.1] at RG
  have FG := RG.aExq
  have RB := RB.le l2
  have hB := Fm.basics_bc q1
  have hn5 := q1.2
  have hcl := Fm.basics_cl q1.1
  have htO := Fm.exOk_tr (x := x)
  have htR : Fm.trOk x → Fm.trA x = _ := fun h => Fm.trA_ex h
  have hl12 := l1.trans l2
  generalize Fm.basics x = B at *
  generalize Fm.push x false = G at *
  simp -implicitDefEqProofs (disch:=first|omega|(simp only[LnZ];omega))[wrap64, FG, setC, RB.one, RB.cells]
  refine (HS.init (h := h2)).alloc rfl fun bt h3 H => ?_
  simp -implicitDefEqProofs (disch:=first|omega|(simp only[LnZ];omega))[wrap64]
  refine H.alloc rfl fun bT h4 H => ?_
  simp -implicitDefEqProofs (disch:=first|omega|(simp only[LnZ];omega))[wrap64]
  refine H.bxst (u := .pointer (some ⟨bt, 0, none⟩)) rfl rfl rfl rfl (by simp) fun h5 H => ?_
  have H : HS h2 [bx bT [.pointer (some ⟨bt, 0, none⟩)], bx bt [w, .slice none 0 0]] h5 := by simpa [setC] using H
  simp -implicitDefEqProofs (disch:=first|omega|(simp only[LnZ];omega))[wrap64, RB.len]
  refine wp_count B.length (fun i e h' => ∃ uv, e = [none, none, some (.agg #[.slice none 0 0, .slice none 0 0, .slice none 0 0]), none, some w, none, some gu, some (.pointer (some ⟨bT, 0, none⟩)), none, none, none, none, none, some w, some (.int .i64 B.length), some (.int .i64 i), none, none] ∧
    HS h2 [bx bT [.pointer (some ⟨bt, 0, none⟩)], bx bt [w, uv], ow uv (Fm.unt B i)] h') ⟨.slice none 0 0, by simp, by simpa [Fm.unt] using (H.nil_ow (α := Int)).bk2⟩ ?_
  clear H
  rintro J i _ h6 hJ hi ⟨uv, rfl, H⟩
  simp -implicitDefEqProofs (disch:=first|omega|(simp only[LnZ];omega))[wrap64]
  refine IteW.mk (fun hlt => ?_) (fun hge => ?_)
  · have hlx : i < B.length := by omega
    have e : B.getD i Exq.zero = B[i] := by simp [hlx]
    have hu1 : Fm.unt B (i + 1) = if B[i].kind = 7 then Fm.unt B i ++ [(i : Int)] else Fm.unt B i := by rw [Fm.unt, e]
    have hul := Fm.unt_len (B := B) i
    obtain ⟨u, hu, Ru⟩ := RB.ld hlx
    have hu' := hload_le H.base hu
    change hload _ (some (elp 3 w i)) (some 3) = some u at hu'
    obtain ⟨wk, rfl, k1, k2, R1⟩ := Rep_Exq.1 Ru
    have hX := RB.X (n := 3) rfl
    have kO := R1.one
    have hbu : hload h6 (some (.pointer (some ⟨bt, 1, none⟩))) none = some uv := H.sw1.bxld (o := 1) rfl
    by_cases c7 : B[i].kind = 7
    · rw [if_pos c7] at hu1
      simp -implicitDefEqProofs (disch:=first|omega|(simp only[LnZ];omega))[wrap64, hX, hu', setC, kO, c7, H.bxld0, hbu]
      refine HS.app1 (bytes := 8) H.sw2 (i : Int) rfl rfl rfl ⟨by omega, by omega⟩ rfl rfl (by omega) (by omega) fun uv' h7 H => ?_
      simp -implicitDefEqProofs (disch:=first|omega|(simp only[LnZ];omega))[wrap64, H.sw1.bxld0]
      refine H.sw2.bxst (o := 1) (u := uv') rfl rfl (by rw [H.rep.cells]; rfl) (by rw [H.rep.cells]; simp [H.rep.one]) (by simp [H.rep.cells]) fun h8 H => ?_
      have H : HS h2 [bx bt [w, uv'], ow uv' (Fm.unt B i ++ [(i : Int)]), bx bT [.pointer (some ⟨bt, 0, none⟩)]] h8 := by simpa [setC, H.sw1.rep.cells] using H
      simp -implicitDefEqProofs (disch:=first|omega|(simp only[LnZ];omega))[wrap64]
      exact hJ _ _ hlx ⟨uv', by simp, by rw [hu1]; exact H.sw2⟩
    · rw [if_neg c7] at hu1
      simp -implicitDefEqProofs (disch:=first|omega|(simp only[LnZ];omega))[wrap64, hX, hu', setC, kO, c7]
      exact hJ _ _ hlx ⟨uv, by simp, by rw [hu1]; exact H⟩
  obtain rfl : i = B.length := by omega
  have hc32 : 2 ^ B.length ≤ 32 := Nat.pow_le_pow_right (n := 2) (by omega) hn5
  have hcnt : shlI .i64 1 (B.length : Int) = ((2 ^ B.length : Nat) : Int) := by rw [i64_shl1 (by omega), Nat.shiftLeft_eq, Nat.one_mul]
  have hcw : IntKind.u64.wrap (B.length : Int) = B.length := u64_pos (by omega) (by omega)
  have hcw0 : ¬ (B.length : Int) < 0 := by omega
  obtain ⟨c, hc⟩ : ∃ c, c = 2 ^ B.length := ⟨_, rfl⟩
  rw [← hc] at hcnt hc32 htO htR
  have hb0 := H.bxld0
  have hbt : hload h6 (some (.pointer (some ⟨bt, 0, none⟩))) none = some w := H.sw1.bxld (o := 0) rfl
  have hbu : hload h6 (some (.pointer (some ⟨bt, 1, none⟩))) none = some uv := H.sw1.bxld (o := 1) rfl
  have RU := H.sw2.rep
  have lb := H.base
  have RB := RB.le lb
  have RG := RG.le lb
  clear H hJ
  simp -implicitDefEqProofs (disch:=first|omega|(simp only[LnZ];omega))[wrap64, RB.len, hcnt, hcw, hcw0]
  clear J
  refine wp_count c (fun n e h' => ∃ iv, e = [none, none, some (.agg #[.slice none 0 0, .slice none 0 0, .slice none 0 0]), none, none, none, some gu, some (.pointer (some ⟨bT, 0, none⟩)), none, none, some iv, none, none, none, none, none, some (.int .i64 c), some (.int .i64 n)] ∧
    HS h6 [ow iv (Fm.ini2 B G n)] h') ⟨.slice none 0 0, by simp, HS.init.nil_ow⟩ ?_
  rintro J n _ h7 hJ hn ⟨iv, rfl, H⟩
  simp -implicitDefEqProofs (disch:=first|omega|(simp only[LnZ];omega))[wrap64]
  refine IteW.mk (fun hlt => ?_) (fun hge => ?_)
  · have hnc : n < c := by omega
    have hin : Fm.ini2 B G (n + 1) = if Fm.val B n G then Fm.ini2 B G n ++ [((n : Int), 0)] else Fm.ini2 B G n := rfl
    have hil := Fm.ini2_len (B := B) (g := G) n
    simp -implicitDefEqProofs (disch:=first|omega|(simp only[LnZ];omega))[wrap64, hload_le H.base hb0, RG.aExq]
    refine (c_holds (s := n) (Bc_bas hB) (by omega) G hcl (RG.on H) (RB.on H) (hload_le H.base hbt)).go ?_
    rintro _ h8 ⟨l8, rfl⟩
    have H := H.le l8
    cases hv : Fm.val B n G with
    | false =>
      rw [hv, if_neg (by decide)] at hin
      simp -implicitDefEqProofs (disch:=first|omega|(simp only[LnZ];omega))[wrap64, hv]
      exact hJ _ _ hnc ⟨iv, by simp, by rw [hin]; exact H⟩
    | true =>
      rw [hv, if_pos rfl] at hin
      have hok : I64 (n : Int) ∧ I64 0 := ⟨⟨by omega, by omega⟩, ⟨by omega, by omega⟩⟩
      simp -implicitDefEqProofs (disch:=first|omega|(simp only[LnZ];omega))[wrap64, hv, setC]
      refine HS.app1 (bytes := 16) H ((n : Int), (0 : Int)) rfl rfl rfl hok rfl rfl (by omega) (by omega) fun iv' h9 H => ?_
      simp -implicitDefEqProofs (disch:=first|omega|(simp only[LnZ];omega))[wrap64]
      exact hJ _ _ hnc ⟨iv', by simp, by rw [hin]; exact H⟩
  obtain rfl : n = c := by omega
  have lb2 := H.base
  have RI := H.rep
  have RB := RB.le lb2
  have RU := RU.le lb2
  have hb0 := hload_le lb2 hb0
  have hbt := hload_le lb2 hbt
  have hbu := hload_le lb2 hbu
  have lf := hl12.trans (lb.trans lb2)
  have hpo : ∀ {s : Nat} {q : Int}, Fm.POk (Fm.unt B B.length) q → Fm.POk (Fm.unt B B.length) (Fm.phs B (Fm.unt B B.length) s q).1 := fun h => Fm.phs_ok h
  have hul := Fm.unt_len (B := B) B.length
  have hsh : ∀ y ∈ B, Fm.Shp 6 y := fun y hy => (hB.2 y hy).1
  simp -implicitDefEqProofs (disch:=first|omega|(simp only[LnZ];omega))[wrap64, hb0]
  refine (c_explore2 (g := h7) (I := Fm.ini2 B G n) (mv := Fm.mvT B (Fm.unt B B.length)) (ac := Fm.acT B (Fm.unt B B.length)) (P := fun p => ∃ s : Nat, p.1 = s ∧ s < n ∧ Fm.POk (Fm.unt B B.length) p.2) (K := n) (Mf := fun p => Fm.tmv B p.1.toNat (Fm.phs B (Fm.unt B B.length) p.1.toNat p.2).1 n)
    (by omega) (Fm.ini2_nodup n) (by have := Fm.ini2_len (B := B) (g := G) n; omega) ?_ ?_ ?_ ?_
    (fA := fn_impl_TranslateFormula_1) (a1 := []) (a2 := [.pointer (some ⟨bT, 0, none⟩)]) (fM := fn_impl_translator_moves) (m1 := [.pointer (some ⟨bt, 0, none⟩)]) (m2 := []) rfl rfl ?_ ?_ RI).go ?_
  · intro p hp
    obtain ⟨s, h1, rfl⟩ := Fm.ini2_mem hp
    exact ⟨s, rfl, h1, by simp, .inr rfl⟩
  · rintro ⟨p1, p2⟩ ⟨s, rfl, h1, h2, h3⟩
    simp only at h2 h3
    exact ⟨⟨by simp only; omega, by simp only; omega⟩, ⟨by simp only; omega, by simp only; omega⟩⟩
  · rintro ⟨p1, p2⟩ ⟨s, rfl, h1, h2⟩
    refine ⟨?_, Fm.tmv_len, fun m hm => ?_⟩
    · have := Fm.tmv_mvS (B := B) (s := s) (p := (Fm.phs B (Fm.unt B B.length) s p2).1) (m := n)
      rw [hc] at this ⊢
      exact this
    · unfold Fm.tmv at hm
      obtain ⟨t, ht, rfl⟩ := List.mem_map.1 hm
      have h3 := List.mem_range.1 (List.mem_filter.1 ht).1
      exact ⟨t, rfl, h3, hpo h2⟩
  · rintro ⟨p1, p2⟩ ⟨s, rfl, h1, h2⟩ m hm
    unfold Fm.mvT Fm.mvS at hm
    obtain ⟨t, _, rfl⟩ := List.mem_map.1 hm
    exact ⟨_, _, rfl, rfl, Fm.ltc_lt hsh _ (Nat.le_refl _), Fm.ltv_sub'⟩
  · rintro ⟨p1, p2⟩ h8 ⟨s, rfl, h1, h2⟩ l8
    exact c_accT (s := s) hB hn5 (by omega) h2 (RB.le l8) (RU.le l8) (hload_le l8 hb0) (hload_le l8 hbt) (hload_le l8 hbu)
  · rintro ⟨p1, p2⟩ h8 ⟨s, rfl, h1, h2⟩ l8
    have := c_moves (s := s) (p := p2) hB hn5 (by omega) h2 (RB.le l8) (RU.le l8) (hload_le l8 hbt) (hload_le l8 hbu)
    rw [← hc] at this
    exact this
  rintro _ h8 ⟨w2, rfl, H⟩
  rw [Fm.ini2_map] at H ⊢
  simp -implicitDefEqProofs (disch:=first|omega|(simp only[LnZ];omega))[wrap64, H.rep.aAut, setC]
  have hiff : Fm.trOk x ↔ Fm.exOk (Fm.mvT B (Fm.unt B B.length)) (Fm.acT B (Fm.unt B B.length)) (Fm.ini0 B G n) := ⟨fun h => (htO.1 h).2, fun h => htO.2 ⟨q1, h⟩⟩
  refine RetK.keep (hk _ _ ⟨w2, by rw [decide_eq_decide.2 hiff], ?_⟩)
  have hR : Fm.trR x = Fm.exR (Fm.mvT B (Fm.unt B B.length)) (Fm.acT B (Fm.unt B B.length)) (Fm.ini0 B G n) := by
    by_cases q : Fm.trOk x
    · rw [Fm.trR, if_pos q, htR q, Fm.exR, if_pos (hiff.1 q)]
    · rw [Fm.trR, if_neg q, Fm.exR, if_neg (fun hh => q (hiff.2 hh))]
  rw [hR]
  exact HS.app (Γ := []) H lf
end Go.Proofs.Ytbanccfdojgocaa

namespace Go.Proofs.Ytbanccfdojgocaa
open Go
theorem zero_Aut {g h : Heap} {Γ : List HP} (H : HS g Γ h) : HS g (ow (.agg #[.slice none 0 0, .slice none 0 0, .slice none 0 0]) (⟨[], [], []⟩ : Aut) :: Γ) h := HS.mkAut (a := ⟨[], [], []⟩) H.nil_ow.nil_ow.nil_ow
theorem p2le {n : Nat} (h : n ≤ 5) : 2 ^ n ≤ 32 := Nat.pow_le_pow_right (n := 2) (by omega) h
set_option maxHeartbeats 2000000 in
theorem c_spec_TranslateFormula {h : Heap} {v : Value} {x : Exq} (R : Rep h v x) : CallE Try.prog fn_spec_TranslateFormula [v] h (fun u h' => ∃ w, u = .tuple #[w, .bool (decide (Fm.trOk x))] ∧ HS h [ow w (Fm.trR x)] h') := by
  have FX := R.aExq
  have hno : ∀ {h'}, h.le h' → ¬ Fm.trOk x → HS h [ow (.agg #[.slice none 0 0, .slice none 0 0, .slice none 0 0]) (Fm.trR x)] h' := fun hl hn => by
    rw [Fm.trR, if_neg hn]
    exact zero_Aut (Γ := []) hl
  refine CallE.gen fun k hk => EN_spec_TranslateFormula rfl ?_
  simp -implicitDefEqProofs (disch:=first|omega|(simp only[LnZ];omega))[wrap64, FX]
  refine (c_spec_BasicFormulas R).go ?_
  rintro _ h1 ⟨w, rfl, l1, RB⟩
  by_cases q1 : Fm.bOk x
  case neg =>
    simp -implicitDefEqProofs (disch:=first|omega|(simp only[LnZ];omega))[wrap64, q1, setC]
    exact RetK.keep (hk _ _ ⟨_, by rw [decide_eq_false (fun hh => q1 hh.1)], hno l1 (fun hh => q1 hh.1)⟩)
  rw [Fm.basR, if_pos q1] at RB
  simp -implicitDefEqProofs (disch:=first|omega|(simp only[LnZ];omega))[wrap64, q1, FX]
  refine (c_spec_NormalForm (R.le l1)).go ?_
  rintro _ h2 ⟨gu, rfl, H⟩
  rw [Fm.nfR, if_pos q1.1] at H
  have hB : Bas (Fm.basics x) := ⟨q1.2, Fm.basics_ok q1⟩
  have hgs := q1.1.2.1
  have FG := H.rep.aExq
  have hTA : Fm.trT x = Fm.tN (Fm.basics x) (Fm.unt (Fm.basics x) (Fm.basics x).length) (Fm.ini0 (Fm.basics x) (Fm.push x false) (2 ^ (Fm.basics x).length)) 64 := rfl
  have hTr : Fm.trA x = ⟨Fm.upto (Fm.ini0 (Fm.basics x) (Fm.push x false) (2 ^ (Fm.basics x).length)).length, if (Fm.trT x).1 = [] then [false] else (Fm.trT x).2.1, (Fm.trT x).2.2⟩ := rfl
  have hTO : Fm.trOk x ↔ (Fm.trT x).1.length ≤ 64 := ⟨fun hh => hh.2, fun hh => ⟨q1, hh⟩⟩
  have RB := RB.on H
  have RG := H.rep
  have l2 := l1.trans H.base
  clear H
  generalize Fm.basics x = B at *
  generalize Fm.push x false = G at *
  have hn5 := hB.n5
  have hc32 := p2le hn5
  have hc1 : 0 < 2 ^ B.length := Nat.two_pow_pos _
  have hcnt : shlI .i64 1 (B.length : Int) = ((2 ^ B.length : Nat) : Int) := by rw [i64_shl1 (by omega), Nat.shiftLeft_eq, Nat.one_mul]
  have hcw : IntKind.u64.wrap (B.length : Int) = B.length := u64_pos (by omega) (by omega)
  have hcw0 : ¬ (B.length : Int) < 0 := by omega
  obtain ⟨c, hcd⟩ : ∃ c : Nat, c = 2 ^ B.length := ⟨_, rfl⟩
  simp -implicitDefEqProofs (disch:=first|omega|(simp only[LnZ];omega))[wrap64, FG, setC, RB.len, hcw, hcw0, hcnt]
  refine (c_l7Untils hB RB).go ?_
  intro un h3 H
  have RB := RB.on H
  have RG := RG.on H
  have RU := H.rep
  have l3 := l2.trans H.base
  clear H
  simp -implicitDefEqProofs (disch:=first|omega|(simp only[LnZ];omega))[wrap64, setC]
  refine (HS.init (h := h3)).bls0 (List Int) fun o h4 H => ?_
  simp -implicitDefEqProofs (disch:=first|omega|(simp only[LnZ];omega))[wrap64]
  rw [← hcd] at hc32 hc1 hTA hTr
  refine wp_count c (fun s e h' => ∃ (li ls : Value), e = [none, none, some (.agg #[.slice none 0 0, .slice none 0 0, .slice none 0 0]), none, some w, none, some gu, some (.int .i64 c), some un, some (.agg #[li, .slice none 0 0, .slice none 0 0]), some ls, some (.int .i64 s), none, none, none, none, none, none, none, none] ∧ HS h3 [ow li (Fm.upto (Fm.ini0 B G s).length), ow ls (Fm.ini0 B G s)] h') ⟨.slice none 0 0, o, by simp [hcd], by simpa [Fm.ini0, Fm.upto] using H.nil_ow (α := Int)⟩ ?_
  clear H
  rintro J s _ h5 hJ hs ⟨li, ls, rfl, H⟩
  simp -implicitDefEqProofs (disch:=first|omega|(simp only[LnZ];omega))[wrap64]
  refine IteW.mk (fun hlt0 => ?_) (fun hge0 => ?_)
  · have hsc : s < c := by omega
    have hil := Fm.ini0_len (B := B) (g := G) s
    have hi1 : Fm.ini0 B G (s + 1) = if Fm.val B s G then Fm.ini0 B G s ++ [[(s : Int), 0]] else Fm.ini0 B G s := rfl
    simp -implicitDefEqProofs (disch:=first|omega|(simp only[LnZ];omega))[wrap64, FG]
    refine (c_l7Value 6 (by omega) hgs (RB.on H) (RG.on H)).go ?_
    rintro _ _ ⟨rfl, rfl⟩
    generalize Fm.ini0 B G s = L at *
    cases hv : Fm.val B s G with
    | false =>
      rw [hv, if_neg (by decide)] at hi1
      simp -implicitDefEqProofs (disch:=first|omega|(simp only[LnZ];omega))[wrap64, hv]
      exact hJ _ _ hsc ⟨li, ls, by simp, by rw [hi1]; exact H⟩
    | true =>
      rw [hv, if_pos rfl] at hi1
      simp -implicitDefEqProofs (disch:=first|omega|(simp only[LnZ];omega))[wrap64, hv, H.sw1.rep.len, setC]
      refine HS.app1 (bytes := 8) H (L.length : Int) rfl rfl rfl ⟨by omega, by omega⟩ rfl rfl (by simp [Fm.upto]; omega) (by simp [Fm.upto]; omega) fun li' h6 H => ?_
      simp -implicitDefEqProofs (disch:=first|omega|(simp only[LnZ];omega))[wrap64, setC, H.rep.cells, H.rep.one]
      refine H.bls [(s : Int), 0] rfl rfl (by intro y hy; simp at hy; rcases hy with rfl | rfl <;> exact ⟨by omega, by omega⟩) (by decide) fun p h7 H => ?_
      simp -implicitDefEqProofs (disch:=first|omega|(simp only[LnZ];omega))[wrap64, setC, H.rep.cells, H.rep.one]
      have hcl := H.rep.cells
      refine HS.appO (bytes := 24) H.sw2.sw1 rfl rfl (by rw [hcl]) rfl rfl (by omega) (by omega) fun ls' h8 H => ?_
      simp -implicitDefEqProofs (disch:=first|omega|(simp only[LnZ];omega))[wrap64]
      refine hJ _ _ hsc ⟨li', ls', by simp, ?_⟩
      rw [hi1, List.length_append, List.length_singleton, Fm.upto_succ]
      exact H.sw1
  obtain rfl : s = c := by omega
  obtain ⟨L0, hL0⟩ : ∃ L0, L0 = Fm.ini0 B G s := ⟨_, rfl⟩
  obtain ⟨U, hU⟩ : ∃ U, U = Fm.unt B B.length := ⟨_, rfl⟩
  have hl0 := Fm.ini0_len (B := B) (g := G) s
  have hk0 : Fm.LOk2 s U (Fm.ini0 B G s) := Fm.ini0_ok (Nat.le_refl _)
  have RU' := RU
  rw [← hL0] at H hTA hTr hl0 hk0
  rw [← hU] at hTA RU'
  have INV := fun n => Fm.tN_inv (U := U) (hcd ▸ hk0) (hcd ▸ hl0) n
  simp -implicitDefEqProofs (disch:=first|omega|(simp only[LnZ];omega))[wrap64]
  refine wp_count 65 (fun i e h' => ∃ (ac ed ls : Value), e = [none, none, some (.agg #[.slice none 0 0, .slice none 0 0, .slice none 0 0]), none, some w, none, none, some (.int .i64 s), some un, some (.agg #[li, ac, ed]), some ls, none, some (.int .i64 i), none, none, none, none, none, none, none] ∧
    HS h3 [ow ls (Fm.tN B U L0 i).1, ow ac (Fm.tN B U L0 i).2.1, ow ed (Fm.tN B U L0 i).2.2, ow li (Fm.upto L0.length)] h' ∧ i ≤ 64 ∧ ∀ m, m < i → m < (Fm.tN B U L0 m).1.length ∧ (Fm.tN B U L0 m).1.length ≤ 64) ⟨.slice none 0 0, .slice none 0 0, ls, by simp, by simpa [Fm.tN] using (H.nil_ow (α := Tr)).nil_ow.sw3, by omega, fun m hm => absurd hm (Nat.not_lt_zero m)⟩ ?_
  clear H
  rintro J1 i _ h6 hJ1 hi1 ⟨ac, ed, ls, rfl, H, hi64, hall⟩
  have inv := INV i
  have hal := Fm.tN_al i hall
  by_cases q2 : i < (Fm.tN B U L0 i).1.length
  case neg =>
    have hT : Fm.trT x = Fm.tN B U L0 i := by rw [hTA]; exact Fm.tN_stop (fun hh => q2 hh.1) 64 hi64
    have hok : Fm.trOk x := hTO.2 (by rw [hT]; omega)
    have hge := inv.al.2
    rw [hT] at hTr
    have hTR : Fm.trR x = Fm.trA x := by rw [Fm.trR, if_pos hok]
    by_cases q3 : (Fm.tN B U L0 i).1 = []
    · rw [if_pos q3] at hTr
      simp -implicitDefEqProofs (disch:=first|omega|(simp only[LnZ];omega))[wrap64, H.rep.len, q2, q3, show ¬ ((i : Int) < 0) by omega]
      refine H.bls [false] rfl rfl (by intro _ _; trivial) (by decide) fun fc h7 H => ?_
      simp -implicitDefEqProofs (disch:=first|omega|(simp only[LnZ];omega))[wrap64, setC, H.rep.cells, H.rep.one, H.sw3.rep.one, H.sw4.rep.one, H.sw3.rep.cells, H.sw4.rep.cells]
      refine RetK.keep (hk _ _ ⟨_, by rw [decide_eq_true hok], ?_⟩)
      rw [hTR, hTr]
      have H2 : HS h3 [ow li (Fm.upto L0.length), ow fc [false], ow ed (Fm.tN B U L0 i).2.2] h7 := ((H.sw4.under fun _ H => H.under fun _ H => H.drop.drop))
      exact HS.app (Γ := []) (HS.mkAut (a := ⟨_, _, _⟩) H2) l3
    · rw [if_neg q3] at hTr
      have q3' : ¬ ((Fm.tN B U L0 i).1.length : Int) = 0 := fun e => q3 (List.length_eq_zero_iff.1 (by omega))
      simp -implicitDefEqProofs (disch:=first|omega|(simp only[LnZ];omega))[wrap64, H.rep.len, q2, q3, q3', setC, H.sw1.rep.one, H.sw2.rep.one, H.sw3.rep.one]
      refine RetK.keep (hk _ _ ⟨_, by rw [decide_eq_true hok], ?_⟩)
      rw [hTR, hTr]
      have H2 : HS h3 [ow li (Fm.upto L0.length), ow ac (Fm.tN B U L0 i).2.1, ow ed (Fm.tN B U L0 i).2.2] h6 := ((H.drop.sw2))
      exact HS.app (Γ := []) (HS.mkAut (a := ⟨_, _, _⟩) H2) l3
  by_cases q3 : 64 < (Fm.tN B U L0 i).1.length
  · have hok : ¬ Fm.trOk x := fun hh => by
      have := hTO.1 hh
      have h2 := Fm.tN_big q3 64 hi64
      rw [hTA] at this
      omega
    have q3i : (64 : Int) < (Fm.tN B U L0 i).1.length := by omega
    simp -implicitDefEqProofs (disch:=first|omega|(simp only[LnZ];omega))[wrap64, H.rep.len, q2, q3i, setC]
    exact RetK.keep (hk _ _ ⟨_, by rw [decide_eq_false hok], hno (l3.trans H.base) hok⟩)
  have q3i : ¬ (64 : Int) < (Fm.tN B U L0 i).1.length := by omega
  obtain ⟨s', p, he, hs', hp⟩ := inv.ok _ (List.getElem_mem q2)
  rw [← hcd] at hs'
  have hsucc := Fm.tN_succ q2 (by omega) he
  have hinv1 := inv.al
  have hinv2 := inv.el
  have hinv3 := inv.ok
  have hinv4 := inv.ll
  rw [← hcd] at hsucc hinv2 hinv3 hinv4
  have hpo := Fm.phs_ok (B := B) (s := s') hp
  have hpR := fun n hn => Fm.trow_inv (B := B) (U := U) (c := s) (i := i) (s := s') (q := ((Fm.tN B U L0 i).1, (Fm.tN B U L0 i).2.2)) hinv3 hpo n hn
  have hl65 : (Fm.tN B U L0 i).1.length ≤ 64 := by omega
  generalize hT : Fm.tN B U L0 i = T at *
  obtain ⟨row, hrow, Rrow⟩ := H.rep.ldL q2
  rw [he] at Rrow
  have hRI := Rrow.I
  simp only [List.length_cons, List.length_nil] at hRI
  have hr0 := hRI.2 0 (by omega)
  have hr1 := hRI.2 1 (by omega)
  simp only [List.getElem_cons_zero, List.getElem_cons_succ] at hr0 hr1
  have hX := H.rep.X (n := 1) rfl
  simp -implicitDefEqProofs (disch:=first|omega|(simp only[LnZ];omega))[wrap64, H.rep.len, q2, q3i, hX, hrow, hRI.1, hr0, hr1]
  refine (c_l7Phase hB (by omega) (RB.on H) (RU.on H) (hU ▸ hp)).go ?_
  rintro _ h6 ⟨rfl, rfl⟩
  rw [← hU]
  obtain ⟨p', a', hph⟩ : ∃ p' a', Fm.phs B U s' p = (p', a') := ⟨_, _, rfl⟩
  rw [hph] at hsucc hpo hpR ⊢
  simp only at hsucc hpo hpR
  have hp64 : I64 p' := by
    have h1 := hpo.1
    have h2 := hpo.2
    have h3 : U.length ≤ B.length := hU ▸ Fm.unt_len B.length
    exact ⟨by omega, by omega⟩
  simp -implicitDefEqProofs (disch:=first|omega|(simp only[LnZ];omega))[wrap64, setC]
  refine HS.app1 (bytes := 1) H.sw1 a' rfl rfl rfl trivial rfl rfl (by omega) (by omega) fun ac' h7 H => ?_
  simp -implicitDefEqProofs (disch:=first|omega|(simp only[LnZ];omega))[wrap64, setC, H.rep.cells, H.rep.one]
  refine (c_l7Letter hB (by omega) (RB.on H)).go ?_
  rintro _ h7 ⟨rfl, rfl⟩
  have hall6 : ∀ y ∈ B, Fm.Shp 6 y := fun y hy => (hB.ok y hy).1
  have hcl8 := Fm.ltc_lt hall6 B.length (Nat.le_refl _)
  have hvl8 := Fm.ltv_lt (s := s') hall6 B.length (Nat.le_refl _)
  simp -implicitDefEqProofs (disch:=first|omega|(simp only[LnZ];omega))[wrap64]
  refine wp_count s (fun t e h' => ∃ (ed ls : Value), e = [none, none, some (.agg #[.slice none 0 0, .slice none 0 0, .slice none 0 0]), none, some w, none, none, some (.int .i64 s), some un, some (.agg #[li, ac', ed]), some ls, none, some (.int .i64 i), some (.int .i64 s'), some (.int .i64 p'), none, some (.int .i64 ((Fm.ltc B B.length : Nat) : Int)), some (.int .i64 ((Fm.ltv B s' B.length : Nat) : Int)), some (.int .i64 t), none] ∧
    HS h3 [ow ls (Fm.trow B i s' p' t (T.1, T.2.2)).1, ow ed (Fm.trow B i s' p' t (T.1, T.2.2)).2, ow ac' (T.2.1 ++ [a']), ow li (Fm.upto L0.length)] h') ⟨ed, ls, by simp, by simpa [Fm.trow] using H.sw1.sw2.sw1⟩ ?_
  clear H
  rintro J2 t _ h8 hJ2 ht ⟨ed, ls, rfl, H⟩
  simp -implicitDefEqProofs (disch:=first|omega|(simp only[LnZ];omega))[wrap64]
  refine IteW.mk (fun hlt2 => ?_) (fun hge2 => ?_)
  · have hts : t < s := by omega
    have hrow1 : Fm.trow B i s' p' (t + 1) (T.1, T.2.2) = if Fm.Fol B s' t then (Fm.adL (Fm.trow B i s' p' t (T.1, T.2.2)).1 [(t : Int), p'], (Fm.trow B i s' p' t (T.1, T.2.2)).2 ++ [⟨(i : Int), (Fm.ltc B B.length : Nat), (Fm.ltv B s' B.length : Nat), Fm.atL (Fm.trow B i s' p' t (T.1, T.2.2)).1 [(t : Int), p']⟩]) else Fm.trow B i s' p' t (T.1, T.2.2) := rfl
    have I := hpR t (by omega)
    have i1 := I.le
    have i2 := I.el
    simp only at i1 i2
    have hmul : i * s ≤ 64 * 32 := Nat.mul_le_mul hi64 hc32
    have hat := Fm.atL_lt (L := (Fm.trow B i s' p' t (T.1, T.2.2)).1) (p := [(t : Int), p'])
    have had := Fm.adL_len (L := (Fm.trow B i s' p' t (T.1, T.2.2)).1) (p := [(t : Int), p'])
    generalize Fm.trow B i s' p' t (T.1, T.2.2) = Q at *
    simp -implicitDefEqProofs (disch:=first|omega|(simp only[LnZ];omega))[wrap64]
    refine (c_l7Follows (s := s') (t := t) hB (by omega) (by omega) (RB.on H)).go ?_
    rintro _ h8 ⟨rfl, rfl⟩
    by_cases hf : Fm.Fol B s' t
    case neg =>
      rw [if_neg hf] at hrow1
      simp -implicitDefEqProofs (disch:=first|omega|(simp only[LnZ];omega))[wrap64, hf]
      exact hJ2 _ _ hts ⟨ed, ls, by simp, by rw [hrow1]; exact H⟩
    rw [if_pos hf] at hrow1
    simp -implicitDefEqProofs (disch:=first|omega|(simp only[LnZ];omega))[wrap64, hf]
    refine H.bls [(t : Int), p'] rfl rfl (by intro y hy; simp at hy; rcases hy with rfl | rfl; exact ⟨by omega, by omega⟩; exact hp64) (by decide) fun q h9 H => ?_
    simp -implicitDefEqProofs (disch:=first|omega|(simp only[LnZ];omega))[wrap64]
    refine (c_l7Pair H (by omega)).go ?_
    rintro _ h10 ⟨ls', rfl, H⟩
    simp -implicitDefEqProofs (disch:=first|omega|(simp only[LnZ];omega))[wrap64, setC]
    refine HS.app1 (bytes := 32) H.sw1 (⟨(i : Int), (Fm.ltc B B.length : Nat), (Fm.ltv B s' B.length : Nat), Fm.atL Q.1 [(t : Int), p']⟩ : Tr) rfl rfl rfl ?_ rfl rfl (by omega) (by omega) fun ed' h11 H => ?_
    · exact Tr.ok_iff.2 ⟨⟨by simp only; omega, by simp only; omega⟩, ⟨by simp only; omega, by simp only; omega⟩, ⟨by simp only; omega, by simp only; omega⟩, ⟨by simp only; omega, by simp only; omega⟩⟩
    simp -implicitDefEqProofs (disch:=first|omega|(simp only[LnZ];omega))[wrap64, setC, H.rep.cells, H.rep.one]
    exact hJ2 _ _ hts ⟨ed', ls', by simp, by rw [hrow1]; exact H.sw1⟩
  obtain rfl : t = s := by omega
  simp -implicitDefEqProofs (disch:=first|omega|(simp only[LnZ];omega))[wrap64]
  refine hJ1 _ _ (by omega) ⟨ac', ed, ls, by simp, ?_, by omega, fun m hm => ?_⟩
  · rw [hsucc]
    exact H.under fun _ H => H.sw1
  · by_cases e : m = i
    · subst e; rw [hT]; exact ⟨q2, hl65⟩
    · exact hall m (by omega)
end Go.Proofs.Ytbanccfdojgocaa

namespace Go.Proofs.Ytbanccfdojgocaa
open Go
namespace Bf
abbrev SP := List Int × List Int
def s1 (a : Int) (p : SP) (to : Int) : SP := if p.1.getD to.toNat 0 = -2 then (p.1.set to.toNat a, p.2 ++ [to]) else p
def sF (l : List Int) (a : Int) (p : SP) : SP := l.foldl (s1 a) p
def s0 (N : Nat) (S : List Int) : SP := (S.foldl (fun f s => f.set s.toNat (-1)) (List.replicate N (-2)), S)
def sN (next : List (List Int)) (S : List Int) : Nat → SP
  | 0 => s0 next.length S
  | n + 1 => if n < (sN next S n).2.length then sF (next.getD ((sN next S n).2.getD n 0).toNat []) ((sN next S n).2.getD n 0) (sN next S n) else sN next S n
theorem set_getD {l : List Int} {k j : Nat} {a : Int} (hk : k < l.length) : (l.set k a).getD j 0 = if k = j then a else l.getD j 0 := by
  rw [List.getD_eq_getElem?_getD, List.getElem?_set]
  split
  · rename_i e; subst e; simp [hk]
  · rw [List.getD_eq_getElem?_getD]
theorem set_count {l : List Int} : ∀ {k : Nat} (hk : k < l.length) {a b : Int}, l[k] = a → a ≠ b → (l.set k b).count a + 1 = l.count a := by
  induction l with
  | nil => intro k hk; exact absurd hk (Nat.not_lt_zero k)
  | cons x l ih =>
    intro k hk a b h1 h2
    cases k with
    | zero =>
      simp only [List.getElem_cons_zero] at h1
      subst h1
      simp only [List.set_cons_zero, List.count_cons_self]
      rw [List.count_cons_of_ne (Ne.symm h2)]
    | succ k =>
      simp only [List.getElem_cons_succ] at h1
      have := ih (k := k) (by simpa using hk) h1 h2
      simp only [List.set_cons_succ, List.count_cons]
      omega
structure Le (p p' : SP) : Prop where
  keep : ∀ j : Nat, p.1.getD j 0 ≠ -2 → p'.1.getD j 0 = p.1.getD j 0
  pre : ∃ t, p'.2 = p.2 ++ t
theorem Le.refl {p : SP} : Le p p := ⟨fun _ _ => rfl, ⟨[], by simp⟩⟩
theorem Le.trans {p q r : SP} (h : Le p q) (h' : Le q r) : Le p r := by
  refine ⟨fun j hj => ?_, ?_⟩
  · have e := h.keep j hj
    rw [h'.keep j (by rw [e]; exact hj), e]
  · obtain ⟨t, e⟩ := h.pre
    obtain ⟨t', e'⟩ := h'.pre
    exact ⟨t ++ t', by rw [e', e, List.append_assoc]⟩
theorem Le.len {p q : SP} (h : Le p q) : p.2.length ≤ q.2.length := by
  obtain ⟨t, e⟩ := h.pre
  rw [e]; simp
theorem Le.at {p q : SP} (h : Le p q) {i : Nat} (hi : i < p.2.length) : q.2.getD i 0 = p.2.getD i 0 := by
  obtain ⟨t, e⟩ := h.pre
  rw [e, List.getD_eq_getElem?_getD, List.getD_eq_getElem?_getD, List.getElem?_append_left hi]
structure SI (N : Nat) (S : List Int) (Ed : Int → Int → Prop) (p : SP) : Prop where
  fl : p.1.length = N
  pre : ∃ t, p.2 = S ++ t
  inq : ∀ x ∈ p.2, 0 ≤ x ∧ x < N ∧ p.1.getD x.toNat 0 ≠ -2
  vis : ∀ j : Nat, j < N → p.1.getD j 0 ≠ -2 → (j : Int) ∈ p.2
  st : ∀ s ∈ S, p.1.getD s.toNat 0 = -1
  val : ∀ j : Nat, j < N → p.1.getD j 0 = -2 ∨ p.1.getD j 0 = -1 ∨ 0 ≤ p.1.getD j 0 ∧ p.1.getD j 0 < N
  par : ∀ q : Nat, S.length ≤ q → q < p.2.length → ∃ r : Nat, r < q ∧ p.1.getD (p.2.getD q 0).toNat 0 = p.2.getD r 0 ∧ Ed (p.2.getD r 0) (p.2.getD q 0)
  cnt : p.2.length + p.1.count (-2) = N
section
variable {N : Nat} {S : List Int} {Ed : Int → Int → Prop} {p : SP}
theorem SI.le (h : SI N S Ed p) : p.2.length ≤ N := by have := h.cnt; omega
theorem SI.at (h : SI N S Ed p) {i : Nat} (hi : i < p.2.length) : 0 ≤ p.2.getD i 0 ∧ p.2.getD i 0 < N ∧ p.1.getD (p.2.getD i 0).toNat 0 ≠ -2 := by
  have e : p.2.getD i 0 = p.2[i] := by simp [hi]
  rw [e]
  exact h.inq _ (List.getElem_mem hi)
theorem SI.start {n : Nat} (hS : incr n (-1) S) : SI n S Ed (s0 n S) := by
  have key : ∀ (T : List Int), (∀ x ∈ T, 0 ≤ x ∧ x < (n : Int)) → T.Pairwise (· < ·) → ∀ f : List Int, f.length = n → (∀ x ∈ T, f.getD x.toNat 0 = -2) →
      (T.foldl (fun f s => f.set s.toNat (-1)) f).length = n ∧ (∀ j : Nat, (T.foldl (fun f s => f.set s.toNat (-1)) f).getD j 0 = if (j : Int) ∈ T then -1 else f.getD j 0) ∧ T.length + (T.foldl (fun f s => f.set s.toNat (-1)) f).count (-2) = f.count (-2) := by
    intro T
    induction T with
    | nil => intro _ _ f hf _; exact ⟨hf, fun j => by simp, by simp⟩
    | cons x T ih =>
      intro h1 h2 f hf h3
      obtain ⟨h4, h5⟩ := List.pairwise_cons.1 h2
      have hx := h1 x (by simp)
      obtain ⟨k, rfl⟩ : ∃ k : Nat, x = k := ⟨x.toNat, by omega⟩
      have hk : k < f.length := by omega
      have hfk := h3 k (by simp)
      rw [Int.toNat_natCast] at hfk
      have hge : f[k] = -2 := by rw [← hfk]; simp [hk]
      obtain ⟨g1, g2, g3⟩ := ih (fun y hy => h1 y (by simp [hy])) h5 (f.set k (-1)) (by simpa using hf) (fun y hy => by
        have := h4 y hy
        rw [set_getD hk, if_neg (by omega)]
        exact h3 y (by simp [hy]))
      have hc := set_count hk hge (b := (-1 : Int)) (by decide)
      refine ⟨g1, fun j => ?_, ?_⟩
      · show (T.foldl _ (f.set ((k : Int)).toNat (-1))).getD j 0 = _
        rw [Int.toNat_natCast, g2 j, set_getD hk]
        by_cases e1 : (j : Int) ∈ T
        · simp [e1]
        · by_cases e2 : k = j
          · subst e2; simp
          · rw [if_neg e1, if_neg e2, if_neg]
            intro hm
            rcases List.mem_cons.1 hm with hm | hm
            · omega
            · exact e1 hm
      · show (T.length + 1) + (T.foldl _ (f.set ((k : Int)).toNat (-1))).count (-2) = _
        rw [Int.toNat_natCast]
        omega
  have hb : ∀ x ∈ S, 0 ≤ x ∧ x < (n : Int) := fun x hx => by have := incr_mem hS x hx; omega
  have hp := (incr_iff.1 hS).1
  obtain ⟨g1, g2, g3⟩ := key S hb hp (List.replicate n (-2)) (by simp) (fun x hx => by
    have := hb x hx
    simp [show x.toNat < n by omega])
  have hrep : ∀ j, j < n → (List.replicate n (-2 : Int)).getD j 0 = -2 := fun j hj => by simp [hj]
  refine ⟨g1, ⟨[], by simp [s0]⟩, ?_, ?_, ?_, ?_, ?_, ?_⟩
  · intro x hx
    have h1 := hb x hx
    refine ⟨h1.1, h1.2, ?_⟩
    show (S.foldl (fun f s => f.set s.toNat (-1)) (List.replicate n (-2))).getD x.toNat 0 ≠ -2
    rw [g2, if_pos (by rw [Int.toNat_of_nonneg h1.1]; exact hx)]
    decide
  · intro j hj h1
    show (j : Int) ∈ S
    have h2 : (S.foldl (fun f s => f.set s.toNat (-1)) (List.replicate n (-2))).getD j 0 ≠ -2 := h1
    rw [g2] at h2
    by_cases e : (j : Int) ∈ S
    · exact e
    · rw [if_neg e, hrep j hj] at h2
      exact absurd rfl h2
  · intro s hs
    have h1 := hb s hs
    show (S.foldl (fun f s => f.set s.toNat (-1)) (List.replicate n (-2))).getD s.toNat 0 = -1
    rw [g2, if_pos (by rw [Int.toNat_of_nonneg h1.1]; exact hs)]
  · intro j hj
    show (S.foldl (fun f s => f.set s.toNat (-1)) (List.replicate n (-2))).getD j 0 = -2 ∨ (S.foldl (fun f s => f.set s.toNat (-1)) (List.replicate n (-2))).getD j 0 = -1 ∨ _
    rw [g2, hrep j hj]
    by_cases e : (j : Int) ∈ S
    · simp [e]
    · simp [e]
  · intro q h1 h2
    have h3 : q < S.length := h2
    omega
  · show S.length + (S.foldl (fun f s => f.set s.toNat (-1)) (List.replicate n (-2))).count (-2) = n
    rw [g3, List.count_replicate_self]
theorem SI.step (h : SI N S Ed p) {i : Nat} (hi : i < p.2.length) {to : Int} (h0 : 0 ≤ to) (h1 : to < N) (he : Ed (p.2.getD i 0) to) : SI N S Ed (s1 (p.2.getD i 0) p to) ∧ Le p (s1 (p.2.getD i 0) p to) ∧ (s1 (p.2.getD i 0) p to).1.getD to.toNat 0 ≠ -2 := by
  obtain ⟨a, ha⟩ : ∃ a, a = p.2.getD i 0 := ⟨_, rfl⟩
  have hat := h.at hi
  rw [← ha] at hat he ⊢
  unfold s1
  split
  case isFalse e => exact ⟨h, Le.refl, e⟩
  rename_i e
  obtain ⟨k, rfl⟩ : ∃ k : Nat, to = k := ⟨to.toNat, (Int.toNat_of_nonneg h0).symm⟩
  simp only [Int.toNat_natCast] at e ⊢
  have hkN : k < p.1.length := by rw [h.fl]; omega
  have hkq : (k : Int) ∉ p.2 := fun hm => by
    have := (h.inq _ hm).2.2
    rw [Int.toNat_natCast] at this
    exact this e
  have hge : p.1[k] = -2 := by rw [← e]; simp [hkN]
  obtain ⟨tp, hpre⟩ := h.pre
  refine ⟨⟨by simp [h.fl], ⟨tp ++ [(k : Int)], by rw [hpre, List.append_assoc]⟩, ?_, ?_, ?_, ?_, ?_, ?_⟩, ⟨fun j hj => ?_, ⟨_, rfl⟩⟩, ?_⟩
  · intro x hx
    simp only [List.mem_append, List.mem_singleton] at hx
    simp only [set_getD hkN]
    rcases hx with hx | rfl
    · have := h.inq x hx
      refine ⟨this.1, this.2.1, ?_⟩
      split
      · omega
      · exact this.2.2
    · refine ⟨by omega, by omega, ?_⟩
      simp; omega
  · intro j hj h2
    simp only [set_getD hkN] at h2
    simp only [List.mem_append, List.mem_singleton]
    split at h2
    · rename_i e2; right; omega
    · exact .inl (h.vis j hj h2)
  · intro s hs
    simp only [set_getD hkN]
    rw [if_neg]
    · exact h.st s hs
    · intro e2
      refine hkq ?_
      rw [hpre]
      have := (h.inq s (by rw [hpre]; simp [hs])).1
      have e3 : (k : Int) = s := by omega
      rw [e3]; simp [hs]
  · intro j hj
    simp only [set_getD hkN]
    split
    · right; right; omega
    · exact h.val j hj
  · intro q h2 h3
    simp only [List.length_append, List.length_singleton] at h3
    by_cases hq : q < p.2.length
    · obtain ⟨r, hr, e2, e5⟩ := h.par q h2 hq
      have e3 : (p.2 ++ [(k : Int)]).getD q 0 = p.2.getD q 0 := by rw [List.getD_eq_getElem?_getD, List.getElem?_append_left hq, List.getD_eq_getElem?_getD]
      have e4 : (p.2 ++ [(k : Int)]).getD r 0 = p.2.getD r 0 := by rw [List.getD_eq_getElem?_getD, List.getElem?_append_left (by omega), List.getD_eq_getElem?_getD]
      refine ⟨r, hr, ?_⟩
      simp only [e3, e4, set_getD hkN]
      have := h.at hq
      rw [if_neg (fun e5 => hkq (by
        have e6 : p.2.getD q 0 = p.2[q] := by simp [hq]
        have e7 : (k : Int) = p.2[q] := by rw [← e6]; omega
        rw [e7]; exact List.getElem_mem hq))]
      exact ⟨e2, e5⟩
    · have hq2 : q = p.2.length := by omega
      subst hq2
      refine ⟨i, hi, ?_⟩
      have e3 : (p.2 ++ [(k : Int)]).getD p.2.length 0 = k := by simp
      have e4 : (p.2 ++ [(k : Int)]).getD i 0 = a := by rw [List.getD_eq_getElem?_getD, List.getElem?_append_left hi, ← List.getD_eq_getElem?_getD, ha]
      simp only [e3, e4, set_getD hkN, Int.toNat_natCast, if_pos]
      exact ⟨trivial, he⟩
  · have h2 := h.cnt
    have h3 := set_count hkN hge (b := a) (by omega)
    simp only [List.length_append, List.length_singleton]
    omega
  · simp only [set_getD hkN]
    rw [if_neg]
    rintro rfl
    exact hj e
  · simp only [set_getD hkN, if_pos]
    omega
end
structure NOk (next : List (List Int)) : Prop where
  ent : ∀ l ∈ next, ∀ x ∈ l, 0 ≤ x ∧ x < next.length
def Ed (next : List (List Int)) (x y : Int) : Prop := 0 ≤ x ∧ x < next.length ∧ y ∈ next.getD x.toNat []
section
variable {next : List (List Int)} {S : List Int}
theorem row_mem {k : Nat} (hk : k < next.length) : next.getD k [] ∈ next := by
  rw [List.getD_eq_getElem?_getD, List.getElem?_eq_getElem hk]
  exact List.getElem_mem hk
theorem NOk.row (hn : NOk next) {p : SP} (h : SI next.length S (Ed next) p) {i : Nat} (hi : i < p.2.length) : ∀ x ∈ next.getD (p.2.getD i 0).toNat [], 0 ≤ x ∧ x < next.length ∧ Ed next (p.2.getD i 0) x := by
  intro x hx
  have hat := h.at hi
  have h1 := hn.ent _ (row_mem (k := (p.2.getD i 0).toNat) (by omega)) x hx
  exact ⟨h1.1, h1.2, hat.1, hat.2.1, hx⟩
def fin (next : List (List Int)) (S : List Int) : SP := sN next S next.length
end
inductive Chn (f : List Int) : Int → List Int → Prop where
  | z : Chn f (-1) []
  | s {a : Int} {l : List Int} : 0 ≤ a → a < f.length → Chn f (f.getD a.toNat 0) l → Chn f a (l ++ [a])
theorem Chn.neg {f : List Int} {l : List Int} (h : Chn f (-1) l) : l = [] := by
  generalize hx : (-1 : Int) = x at h
  cases h with
  | z => rfl
  | s h0 _ _ => omega
theorem Chn.un {f : List Int} {a : Int} {l : List Int} (h : Chn f a l) (h0 : 0 ≤ a) : ∃ l', l = l' ++ [a] ∧ a < f.length ∧ Chn f (f.getD a.toNat 0) l' := by
  cases h with
  | z => omega
  | s h1 h2 h3 => exact ⟨_, rfl, h2, h3⟩
theorem Chn.ge {f : List Int} {a : Int} {l : List Int} (h : Chn f a l) : -1 ≤ a := by
  cases h with
  | z => decide
  | s h1 _ _ => omega
theorem Chn.le {p p' : SP} (hb : Le p p') (hl : p.1.length = p'.1.length) {a : Int} {l : List Int} (h : Chn p.1 a l) : Chn p'.1 a l := by
  induction h with
  | z => exact .z
  | s h1 h2 h3 ih =>
    refine .s h1 (by omega) ?_
    have := h3.ge
    rw [hb.keep _ (by omega)]
    exact ih
theorem Chn.all {f : List Int} {a : Int} {l : List Int} (h : Chn f a l) : ∀ x ∈ l, 0 ≤ x ∧ x < f.length := by
  induction h with
  | z => simp
  | s h1 h2 h3 ih =>
    intro x hx
    simp only [List.mem_append, List.mem_singleton] at hx
    rcases hx with hx | rfl
    · exact ih x hx
    · exact ⟨h1, h2⟩
inductive Pth (S : List Int) (Ed : Int → Int → Prop) : Int → List Int → Prop
  | one {s : Int} (h : s ∈ S) : Pth S Ed s [s]
  | snoc {x y : Int} {l : List Int} (h : Pth S Ed x l) (e : Ed x y) : Pth S Ed y (l ++ [y])
noncomputable def path (next : List (List Int)) (S : List Int) (a : Int) : List Int := open Classical in if h : ∃ l, Chn (fin next S).1 a l then h.choose else []
end Bf
end Go.Proofs.Ytbanccfdojgocaa

namespace Go.Proofs.Ytbanccfdojgocaa
open Go
section
variable {l : Las}
end
inductive LP (E : List Tr) : Nat → List Int → Nat → Prop
  | nil (p : Nat) : LP E p [] p
  | cons {p q r : Nat} {x : Int} {xs : List Int} (h : ∃ e ∈ E, e.frm = p ∧ e.to = q ∧ e.on x = true) (k : LP E q xs r) : LP E p (x :: xs) r
section
variable {E : List Tr}
theorem LP.append {p q r : Nat} {xs ys : List Int} (h : LP E p xs q) (k : LP E q ys r) : LP E p (xs ++ ys) r := by
  induction h with
  | nil => exact k
  | cons h _ ih => exact .cons h (ih k)
theorem LP.fr {w : Nat → Int} {p q : Nat} {xs : List Int} (h : LP E p xs q) : ∀ {t : Nat}, (∀ i (hi : i < xs.length), w (t + i) = xs[i]) → FR E w t p (t + xs.length) q := by
  induction h with
  | nil => intro t _; exact .refl _ _
  | cons h k ih =>
    rename_i x xs
    intro t hw
    have h1 := ih (t := t + 1) (fun i hi => by
      have := hw (i + 1) (by simpa using hi)
      rw [show t + (i + 1) = t + 1 + i by omega] at this
      simpa using this)
    obtain ⟨e, he, h2, h3, h4⟩ := h
    have h5 := hw 0 (by simp)
    simp only [Nat.add_zero, List.getElem_cons_zero] at h5
    rw [List.length_cons, show t + (xs.length + 1) = t + 1 + xs.length by omega]
    exact .step ⟨e, he, h2, h3, by rw [h5]; exact h4⟩ h1
end
namespace Bf
def row (a : Aut) (q : Int) (k : Nat) : List Int := ((a.edges.take k).filter fun e => decide (e.frm = q)).map Tr.to
def NX (a : Aut) (k : Nat) : List (List Int) := (List.range a.acc.length).map fun (q : Nat) => row a q k
def nx (a : Aut) : List (List Int) := NX a a.edges.length
section
variable {a : Aut}
end
def ev (a : Aut) (p q : Int) : Int := match a.edges.find? (fun e => decide (e.frm = p ∧ e.to = q)) with
  | some e => e.value
  | none => 0
def vals (a : Aut) : List Int → List Int
  | p :: q :: l => ev a p q :: vals a (q :: l)
  | _ => []
end Bf
end Go.Proofs.Ytbanccfdojgocaa

namespace Go.Proofs.Ytbanccfdojgocaa
open Go
section
variable {α : Type} [Ty α] {g h : Heap} {Γ : List HP} {v u : Value} {l : List α}
theorem HS.cut (H : HS g (ow v l :: Γ) h) {n esz : Nat} {k : IntKind} (hn : n ≤ l.length) : ∃ v', sliceVV esz v none (some (some (.int k n))) none = some v' ∧ HS g (ow v' (l.take n) :: Γ) h := by
  obtain ⟨g', r, rfl, d, O, H⟩ := H
  rcases Own_list.1 O with ⟨p, rfl, rfl, rfl, hp⟩ | ⟨b, off, cap, cells, el, r', rfl, ⟨h1, hM⟩, h2, rfl, h4, h5⟩
  · have hn0 : n = 0 := by simpa using hn
    subst hn0
    exact ⟨.slice p 0 0, by simp [sliceVV, bndV], g', Heap.nil, rfl, d, Own_list.2 (.inl ⟨p, rfl, by simp, rfl, hp⟩), H⟩
  · rw [← List.take_append_drop n l] at h5
    obtain ⟨r1, r2, rfl, d2, h6, h7⟩ := ownL_split h5
    obtain ⟨d3, d4⟩ := Dj_add.1 d
    obtain ⟨d5, d6⟩ := Dj_add.1 d4
    obtain ⟨n1, n2⟩ : r1 b = none ∧ r2 b = none := by simpa [Heap.add] using h4
    refine ⟨.slice (some ⟨b, off, none⟩) n cap, ?_, g'.add r2, (Heap.one b (.cells cells.toArray el (0, 0))).add r1, by ac_rfl, ?_, ?_, H.le (le_add d6)⟩
    · have : n ≤ cap := by omega
      simp [sliceVV, bndV, add_none, this]
    · exact Dj_add.2 ⟨add_Dj.2 ⟨d3, (Dj_one.2 n2)⟩, add_Dj.2 ⟨d5, d2.symm⟩⟩
    · have hl : (l.take n).length = n := by simp; omega
      exact Own_list.2 (.inr ⟨b, off, cap, cells, el, r1, by rw [hl], ⟨by omega, by omega⟩, h2, rfl, n1, h6⟩)
end
end Go.Proofs.Ytbanccfdojgocaa

namespace Go.Proofs.Ytbanccfdojgocaa
open Go
end Go.Proofs.Ytbanccfdojgocaa

namespace Go.Proofs.Ytbanccfdojgocaa
open Go
structure LpI (E : Nat → Nat → Prop) (n q : Nat) (B : List Bool) (Q : List Int) (i : Nat) : Prop where
  len : B.length = n
  size : Q.length + 2048 * B.count false ≤ 2048 * (n + 1)
  le : i ≤ Q.length
  snd : ∀ z ∈ Q, ∃ p : Nat, z = p ∧ p < n ∧ ∃ y, E q y ∧ Rch E y p
  start : ∀ y, E q y → (y : Int) ∈ Q
  seen : ∀ x, tru B x → ∀ y, E x y → (y : Int) ∈ Q
  past : ∀ j (hj : j < Q.length), j < i → Q[j] ≠ q ∧ tru B Q[j].toNat
theorem LpI.done {E : Nat → Nat → Prop} {n q : Nat} {B : List Bool} {Q : List Int} {i : Nat} (h : LpI E n q B Q i) (hi : Q.length ≤ i) : ¬ Cyc E q := by
  rintro ⟨y, h1, h2⟩
  have hm : ((q : Nat) : Int) ∈ Q := by
    refine h2.closed (C := fun x => (x : Int) ∈ Q) (fun u v hu huv => ?_) (h.start y h1)
    obtain ⟨j, hj, h3⟩ := List.mem_iff_getElem.1 hu
    have h4 := (h.past j hj (by omega)).2
    rw [h3] at h4
    exact h.seen u h4 v huv
  obtain ⟨j, hj, h3⟩ := List.mem_iff_getElem.1 hm
  exact (h.past j hj (by omega)).1 h3
end Go.Proofs.Ytbanccfdojgocaa

namespace Go.Proofs.Ytbanccfdojgocaa
open Go
def gd (l : List Int) : Nat → Int := fun x => l.getD x 0
theorem gd_set {l : List Int} {i : Nat} {v : Int} (hi : i < l.length) : gd (l.set i v) = fput (gd l) i v := by
  funext x
  simp only [gd, fput, List.getD_eq_getElem?_getD, List.getElem?_set]
  by_cases h : i = x
  · subst h; simp [hi]
  · simp [h, Ne.symm h]
@[reducible] def FB (bN bL bQ bG bV : Nat) (vn vl vq w fv : Value) (h : Heap) : Prop := hload h (some (.pointer (some ⟨bN, 0, none⟩))) none = some vn ∧ hload h (some (.pointer (some ⟨bL, 0, none⟩))) none = some vl ∧ hload h (some (.pointer (some ⟨bQ, 0, none⟩))) none = some vq ∧
  hload h (some (.pointer (some ⟨bG, 0, none⟩))) none = some w ∧ hload h (some (.pointer (some ⟨bV, 0, none⟩))) none = some fv
theorem FB.on {bN bL bQ bG bV : Nat} {vn vl vq w fv : Value} {g h : Heap} {Γ : List HP} (F : FB bN bL bQ bG bV vn vl vq w fv g) (H : HS g Γ h) : FB bN bL bQ bG bV vn vl vq w fv h :=
  ⟨hload_le H.base F.1, hload_le H.base F.2.1, hload_le H.base F.2.2.1, hload_le H.base F.2.2.2.1, hload_le H.base F.2.2.2.2⟩
@[reducible] def CHs (vn vl vq : Value) (bS bC bP : Nat) (vs : Value) (N L Q : List Int) (s : TS) : List HP :=
  [ow vn N, ow vl L, ow vq Q, ow vs (s.stk.map Int.ofNat), bx bS [vs], bx bC [.int .i64 s.cnt], bx bP [.int .i64 s.prt]]
theorem TL.mono {n : Nat} {E : Nat → Nat → Prop} {gr sc sc' : Nat → Prop} {s s1 : TS} {a : Nat} (h : TL n E gr s a sc s1) (hs : ∀ y, sc' y → sc y) : TL n E gr s a sc' s1 :=
  ⟨h.inv, h.num, h.part, h.stk, h.na, h.cnt, h.fresh, h.black, h.lowa, h.low, h.min, fun y hy => h.proc y (hs y hy)⟩
end Go.Proofs.Ytbanccfdojgocaa

namespace Go.Proofs.Ytbanccfdojgocaa
open Go
theorem HS.only {g h : Heap} {Γ : List HP} {p : HP} (H : HS g (p :: Γ) h) : HS g [p] h := by
  obtain ⟨g', r, e, d, hp, H⟩ := H
  exact ⟨g', r, e, d, hp, H.base⟩
structure NmI (n : Nat) (f : Nat → Int) (i : Nat) (l : List (Int × Int)) (Q : List Int) : Prop where
  len : Q.length = n
  le : l.length ≤ i
  done : ∀ x, x < i → mlk l (f x) = some (gd Q x)
  rest : ∀ x, i ≤ x → x < n → gd Q x = f x
  bnd : ∀ a y, mlk l a = some y → 0 ≤ y ∧ y < l.length
  inj : ∀ a b y, mlk l a = some y → mlk l b = some y → a = b
theorem NmI.old {n : Nat} {f : Nat → Int} {i : Nat} {l : List (Int × Int)} {Q : List Int} {y : Int} (h : NmI n f i l Q) (hi : i < n) (hy : mlk l (f i) = some y) : NmI n f (i + 1) l (Q.set i y) := by
  have hl := h.len
  refine ⟨by simpa using hl, by have := h.le; omega, ?_, ?_, h.bnd, h.inj⟩
  · intro x hx
    rw [gd_set (by omega)]
    by_cases e : x = i
    · subst e; simp [hy]
    · rw [fput_ne e]; exact h.done x (by omega)
  · intro x hx hxn
    rw [gd_set (by omega), fput_ne (by omega)]
    exact h.rest x (by omega) hxn
theorem NmI.new {n : Nat} {f : Nat → Int} {i : Nat} {l : List (Int × Int)} {Q : List Int} (h : NmI n f i l Q) (hi : i < n) (hy : mlk l (f i) = none) : NmI n f (i + 1) (l ++ [(f i, (l.length : Int))]) (Q.set i (l.length : Int)) ∧ mlk (l ++ [(f i, (l.length : Int))]) (f i) = some (l.length : Int) := by
  have hl := h.len
  have hs := fun b => mlk_snoc (y := (l.length : Int)) (b := b) hy
  refine ⟨⟨by simpa using hl, by have := h.le; simp; omega, ?_, ?_, ?_, ?_⟩, by rw [hs, if_pos rfl]⟩
  · intro x hx
    rw [gd_set (by omega), hs]
    by_cases e : x = i
    · subst e; simp
    · rw [fput_ne e]
      have h1 := h.done x (by omega)
      rw [if_neg]
      · exact h1
      · intro e2; rw [← e2, hy] at h1; simp at h1
  · intro x hx hxn
    rw [gd_set (by omega), fput_ne (by omega)]
    exact h.rest x (by omega) hxn
  · intro a y ha
    rw [hs] at ha
    split at ha
    · simp at ha; subst ha; simp; omega
    · have := h.bnd a y ha; simp; omega
  · intro a b y ha hb
    rw [hs] at ha hb
    split at ha
    · simp at ha
      split at hb
      · rename_i e1 e2; rw [← e1, ← e2]
      · have := h.bnd b y hb; omega
    · split at hb
      · simp at hb
        have := h.bnd a y ha; omega
      · exact h.inj a b y ha hb
theorem NmI.result {n : Nat} {f : Nat → Int} {l : List (Int × Int)} {Q : List Int} (h : NmI n f n l Q) : (∀ x, x < n → 0 ≤ gd Q x ∧ gd Q x < n) ∧ ∀ x y, x < n → y < n → (gd Q x = gd Q y ↔ f x = f y) := by
  refine ⟨fun x hx => ?_, fun x y hx hy => ⟨fun e => ?_, fun e => ?_⟩⟩
  · have := h.bnd _ _ (h.done x hx)
    have := h.le
    omega
  · have h1 := h.done x hx
    have h2 := h.done y hy
    rw [e] at h1
    exact h.inj _ _ _ h1 h2
  · have h1 := h.done x hx
    have h2 := h.done y hy
    rw [e, h2] at h1
    simpa using h1.symm
end Go.Proofs.Ytbanccfdojgocaa

namespace Go.Proofs.Ytbanccfdojgocaa
open Go
end Go.Proofs.Ytbanccfdojgocaa

namespace Go.Proofs.Ytbanccfdojgocaa
open Go
theorem okL {xs : List Int} (h : ∀ x ∈ xs, -9223372036854775808 ≤ x ∧ x < 9223372036854775808) : ∀ x ∈ xs, Flat.ok x := h
end Go.Proofs.Ytbanccfdojgocaa

namespace Go.Proofs.Ytbanccfdojgocaa
open Go
namespace Fm
end Fm
end Go.Proofs.Ytbanccfdojgocaa

namespace Go.Proofs.Ytbanccfdojgocaa
open Go
end Go.Proofs.Ytbanccfdojgocaa

namespace Go.Proofs.Ytbanccfdojgocaa
open Go
end Go.Proofs.Ytbanccfdojgocaa

namespace Go.Proofs.Ytbanccfdojgocaa
open Go
end Go.Proofs.Ytbanccfdojgocaa

namespace Go.Proofs.Ytbanccfdojgocaa
open Go
namespace Bf
end Bf
end Go.Proofs.Ytbanccfdojgocaa

namespace Go.Proofs.Ytbanccfdojgocaa
open Go
namespace Bf
section
variable {S : List Int} {D : Int → Int → Prop}
theorem Pth.last {x : Int} {l : List Int} (h : Pth S D x l) : ∃ l0, l = l0 ++ [x] := by
  cases h with
  | one h => exact ⟨[], rfl⟩
  | snoc h e => exact ⟨_, rfl⟩
theorem Pth.head {x : Int} {l : List Int} (h : Pth S D x l) : ∃ s ∈ S, ∃ t, l = s :: t := by
  induction h with
  | one h => exact ⟨_, h, [], rfl⟩
  | snoc h e ih =>
    obtain ⟨s, hs, t, rfl⟩ := ih
    exact ⟨s, hs, t ++ [_], rfl⟩
def Joined (D : Int → Int → Prop) : List Int → Prop
  | x :: y :: l => D x y ∧ Joined D (y :: l)
  | _ => True
theorem Joined.snoc {x y : Int} : ∀ {l : List Int}, Joined D (l ++ [x]) → D x y → Joined D (l ++ [x] ++ [y])
  | [], _, h => ⟨h, trivial⟩
  | [z], h, h' => ⟨h.1, h', trivial⟩
  | z :: z2 :: l, h, h' => ⟨h.1, Joined.snoc (l := z2 :: l) h.2 h'⟩
theorem Pth.joined {x : Int} {l : List Int} (h : Pth S D x l) : Joined D l := by
  induction h with
  | one h => trivial
  | snoc h e ih =>
    obtain ⟨l0, rfl⟩ := h.last
    exact ih.snoc e
theorem Joined.at {D : Int → Int → Prop} : ∀ {l : List Int}, Joined D l → ∀ (i : Nat) (hi : i + 1 < l.length), D l[i] l[i + 1]
  | [], _, i, hi => absurd hi (by simp)
  | [x], _, i, hi => absurd hi (by simp)
  | x :: y :: l, h, 0, _ => h.1
  | x :: y :: l, h, i + 1, hi => Joined.at (l := y :: l) h.2 i (by simpa using hi)
end
noncomputable def hitL (G : List (List Int)) (S : List Int) (g : Int → Bool) : List Int := match (fin G S).2.find? g with
  | some t => path G S t
  | none => []
def back (G : List (List Int)) (t : Int) : Int → Bool := fun m => decide (m ≠ t) && decide (t ∈ G.getD m.toNat [])
noncomputable def arn (G : List (List Int)) (t : Int) : List Int := if t ∈ G.getD t.toNat [] then [t] else hitL G [t] (back G t)
theorem Rch.last {E : Nat → Nat → Prop} {x y z : Nat} (h : E x y) (k : Rch E y z) : ∃ m, Rch E x m ∧ E m z := by
  induction k generalizing x with
  | refl => exact ⟨x, .refl _, h⟩
  | step e _ ih =>
    obtain ⟨m, h1, h2⟩ := ih e
    exact ⟨m, .step h h1, h2⟩
noncomputable def gA (a : Aut) : Int → Bool := fun t => a.acc.getD t.toNat false && @decide (Cyc a.E t.toNat) (Classical.propDecidable _)
noncomputable def fw (a : Aut) : Option Las := match (fin (nx a) a.init).2.find? (gA a) with
  | some t => some ⟨vals a (path (nx a) a.init t), vals a (arn (nx a) t ++ [t])⟩
  | none => none
section
variable {a : Aut}
end
end Bf
end Go.Proofs.Ytbanccfdojgocaa

namespace Go.Proofs.Ytbanccfdojgocaa
open Go
end Go.Proofs.Ytbanccfdojgocaa

namespace Go.Proofs.Ytbanccfdojgocaa
open Go
end Go.Proofs.Ytbanccfdojgocaa

namespace Go.Proofs.Ytbanccfdojgocaa
open Go
def okR (f : Aut → Aut) (h : Heap) (a : Aut) (u : Value) (h' : Heap) : Prop := ∃ v, u = .tuple #[v, .bool (decide a.Ok)] ∧ HS h [ow v (if a.Ok then f a else Aut.empty)] h'
theorem okR.no {f : Aut → Aut} {h h' : Heap} {a : Aut} (hn : ¬ a.Ok) (H : HS h [] h') : okR f h a (.tuple #[.agg #[.slice none 0 0, .slice none 0 0, .slice none 0 0], .bool false]) h' :=
  ⟨_, by rw [decide_eq_false hn], by rw [if_neg hn]; exact empty_ow H⟩
theorem okR.yes {f : Aut → Aut} {h h' : Heap} {a : Aut} {v : Value} (hn : a.Ok) (H : HS h [ow v (f a)] h') : okR f h a (.tuple #[v, .bool true]) h' :=
  ⟨_, by rw [decide_eq_true hn], by rw [if_pos hn]; exact H⟩
end Go.Proofs.Ytbanccfdojgocaa

namespace Go.Proofs.Ytbanccfdojgocaa
open Go
theorem cnt_ints (l : List Int) : Mk.cnt l = l.length := by
  induction l with
  | nil => rfl
  | cons b r ih => show 1 + cntL r = _; have : cntL r = Mk.cnt r := rfl; rw [this, ih]; simp; omega
theorem cnt_bools (l : List Bool) : Mk.cnt l = l.length := by
  induction l with
  | nil => rfl
  | cons b r ih => show 1 + cntL r = _; have : cntL r = Mk.cnt r := rfl; rw [this, ih]; simp; omega
theorem cnt_trs (l : List Tr) : Mk.cnt l = 4 * l.length := by
  induction l with
  | nil => rfl
  | cons b r ih => show 4 + cntL r = _; have : cntL r = Mk.cnt r := rfl; rw [this, ih]; simp; omega
theorem cnt_aut (b : Aut) : Mk.cnt b = b.init.length + b.acc.length + 4 * b.edges.length := by
  show Mk.cnt b.init + Mk.cnt b.acc + Mk.cnt b.edges = _
  rw [cnt_ints, cnt_bools, cnt_trs]
theorem cnt_ok {x : Aut} (h : x.Ok) : Mk.cnt x ≤ 4194304 := by
  have h1 := h.n
  have h2 := h.il
  have h3 := h.e
  rw [cnt_aut]; omega
theorem cnt_empty : Mk.cnt Aut.empty ≤ 4194304 := by decide
end Go.Proofs.Ytbanccfdojgocaa

namespace Go.Proofs.Ytbanccfdojgocaa
open Go
end Go.Proofs.Ytbanccfdojgocaa

namespace Go.Proofs.Ytbanccfdojgocaa
open Go
end Go.Proofs.Ytbanccfdojgocaa

namespace Go.Proofs.Ytbanccfdojgocaa
open Go
end Go.Proofs.Ytbanccfdojgocaa

namespace Go.Proofs.Ytbanccfdojgocaa
open Go
structure GI (N B : Nat) (E : Nat → Nat → Prop) (G : List (List Int)) : Prop where
  len : G.length = N
  mem : ∀ x (hx : x < G.length) z, z ∈ G[x] ↔ ∃ y : Nat, z = y ∧ E x y
  row : ∀ x (hx : x < G.length), G[x].length ≤ B
theorem GI.zero {N : Nat} : GI N 0 (fun _ _ => False) (List.replicate N []) := ⟨by simp, by simp, by simp⟩
theorem GI.add {N B : Nat} {E : Nat → Nat → Prop} {G : List (List Int)} (h : GI N B E G) {f t : Nat} (hf : f < G.length) : GI N (B + 1) (fun x y => E x y ∨ (x = f ∧ y = t)) (G.set f (G[f] ++ [(t : Int)])) := by
  refine ⟨by simp [h.len], fun x hx z => ?_, fun x hx => ?_⟩
  · simp only [List.length_set] at hx
    rw [List.getElem_set]
    split
    · rename_i e
      subst e
      rw [List.mem_append, h.mem f hf z, List.mem_singleton]
      constructor
      · rintro (⟨y, h1, h2⟩ | h1)
        · exact ⟨y, h1, .inl h2⟩
        · exact ⟨t, h1, .inr ⟨rfl, rfl⟩⟩
      · rintro ⟨y, h1, h2 | ⟨_, h2⟩⟩
        · exact .inl ⟨y, h1, h2⟩
        · subst h2; exact .inr h1
    · rename_i e
      rw [h.mem x hx z]
      constructor
      · rintro ⟨y, h1, h2⟩; exact ⟨y, h1, .inl h2⟩
      · rintro ⟨y, h1, h2 | ⟨h2, _⟩⟩
        · exact ⟨y, h1, h2⟩
        · exact absurd h2.symm e
  · simp only [List.length_set] at hx
    rw [List.getElem_set]
    have h1 := h.row f hf
    have h2 := h.row x hx
    split
    · simp; omega
    · omega
theorem GI.congr {N B B' : Nat} {E E' : Nat → Nat → Prop} {G : List (List Int)} (h : GI N B E G) (hB : B ≤ B') (he : ∀ x y, E x y ↔ E' x y) : GI N B' E' G :=
  ⟨h.len, fun x hx z => by rw [h.mem x hx z]; exact ⟨fun ⟨y, h1, h2⟩ => ⟨y, h1, (he x y).1 h2⟩, fun ⟨y, h1, h2⟩ => ⟨y, h1, (he x y).2 h2⟩⟩, fun x hx => Nat.le_trans (h.row x hx) hB⟩
end Go.Proofs.Ytbanccfdojgocaa

namespace Go.Proofs.Ytbanccfdojgocaa
open Go
end Go.Proofs.Ytbanccfdojgocaa

namespace Go.Proofs.Ytbanccfdojgocaa
open Go
end Go.Proofs.Ytbanccfdojgocaa

namespace Go.Proofs.Ytbanccfdojgocaa
open Go
def R2 {α : Type} [Ty α] (b : Bool) (y : α) (h : Heap) (u : Value) (h' : Heap) : Prop := ∃ v, u = .tuple #[v, .bool b] ∧ HS h [ow v y] h'
end Go.Proofs.Ytbanccfdojgocaa

namespace Go.Proofs.Ytbanccfdojgocaa
open Go
end Go.Proofs.Ytbanccfdojgocaa

namespace Go.Proofs.Ytbanccfdojgocaa
open Go
end Go.Proofs.Ytbanccfdojgocaa

namespace Go.Proofs.Ytbanccfdojgocaa
open Go
noncomputable def stA (a : Aut) (w : List Int) : Aut := ⟨a.states w, a.acc, a.edges⟩
noncomputable def ext (a : Aut) (w : List Int) : Option Las :=
  if a.Ok ∧ Wok w ∧ a.states w ≠ [] then
    match Bf.fw (stA a w) with
    | some l => if (⟨w ++ l.stem, l.loop⟩ : Las).Ok then some ⟨w ++ l.stem, l.loop⟩ else none
    | none => none
  else none
end Go.Proofs.Ytbanccfdojgocaa

namespace Go.Proofs.Ytbanccfdojgocaa
open Go
end Go.Proofs.Ytbanccfdojgocaa

namespace Go.Proofs.Ytbanccfdojgocaa
open Go
theorem Run.next {A : List Bool} {E : List Tr} {w : Nat → Int} {t p : Nat} (h : Run A E w t p) : ∃ q, StE E w t p q ∧ Run A E w (t + 1) q := by
  obtain ⟨C, hC, hG⟩ := h
  obtain ⟨u, q, h1, h2, h3, h4⟩ := hG t p hC
  cases h2 with
  | refl => omega
  | step h k => exact ⟨_, h, Run.before k ⟨C, h4, hG⟩⟩
namespace Fm
end Fm
end Go.Proofs.Ytbanccfdojgocaa

namespace Go.Proofs.Ytbanccfdojgocaa
open Go
namespace Fm
section
variable {l : Las}
end
end Fm
end Go.Proofs.Ytbanccfdojgocaa

namespace Go.Proofs.Ytbanccfdojgocaa
open Go
end Go.Proofs.Ytbanccfdojgocaa

namespace Go.Proofs.Ytbanccfdojgocaa
open Go
end Go.Proofs.Ytbanccfdojgocaa

namespace Go.Proofs.Ytbanccfdojgocaa
open Go
namespace Fm
instance instDecTru {B : List Bool} {x : Nat} : Decidable (Go.Proofs.Ytbanccfdojgocaa.tru B x) := by unfold Go.Proofs.Ytbanccfdojgocaa.tru; infer_instance
end Fm
end Go.Proofs.Ytbanccfdojgocaa

namespace Go.Proofs.Ytbanccfdojgocaa
open Go
theorem Great.refl {a : Aut} {R : Rl} (h : Great a R) {i : Nat} (hi : i < a.acc.length) : R i i = true := by
  refine h.upper (fun x y => decide (x = y)) ⟨?_, ?_⟩ i i hi hi (by simp)
  · intro x y _ _ hxy hx
    simp only [decide_eq_true_eq] at hxy
    subst hxy; exact hx
  · intro x y _ _ hxy l _ e he hx ho
    simp only [decide_eq_true_eq] at hxy
    subst hxy
    exact ⟨e, he, hx, ho, by simp⟩
theorem Great.trans {a : Aut} (ha : a.Ok) {R : Rl} (h : Great a R) {i j k : Nat} (hi : i < a.acc.length) (hj : j < a.acc.length) (hk : k < a.acc.length) (h1 : R i j = true) (h2 : R j k = true) : R i k = true := by
  refine h.upper (fun x z => @decide (∃ y, y < a.acc.length ∧ R x y = true ∧ R y z = true) (Classical.propDecidable _)) ⟨?_, ?_⟩ i k hi hk (by simpa using ⟨j, hj, h1, h2⟩)
  · intro x z hx hz hxz h3
    simp only [decide_eq_true_eq] at hxz
    obtain ⟨y, hy, h4, h5⟩ := hxz
    exact h.simu.1 y z hy hz h5 (h.simu.1 x y hx hy h4 h3)
  · intro x z hx hz hxz l hl e he h6 ho
    simp only [decide_eq_true_eq] at hxz
    obtain ⟨y, hy, h4, h5⟩ := hxz
    obtain ⟨f, hf, g1, g2, g3⟩ := h.simu.2 x y hx hy h4 l hl e he h6 ho
    obtain ⟨f', hf', k1, k2, k3⟩ := h.simu.2 y z hy hz h5 l hl f hf g1 g2
    obtain ⟨_, q, _, h8, _, h10⟩ := ha.tr hf
    refine ⟨f', hf', k1, k2, ?_⟩
    simp only [decide_eq_true_eq]
    exact ⟨f.to.toNat, by rw [h8]; simpa using h10, g3, k3⟩
def Letters (w : Nat → Int) : Prop := ∀ t, 0 ≤ w t ∧ w t ≤ 7
theorem Simu.run {a : Aut} (ha : a.Ok) {R : Rl} (hR : Simu a R) {w : Nat → Int} (hw : Letters w) {t i j : Nat} (hi : i < a.acc.length) (hj : j < a.acc.length) (h : R i j = true) (k : Run a.acc a.edges w t i) : Run a.acc a.edges w t j := by
  refine Run.sim (fun x y => x < a.acc.length ∧ y < a.acc.length ∧ R x y = true) ?_ ?_ k ⟨hi, hj, h⟩
  · rintro t p q p' ⟨h1, h2, h3⟩ ⟨e, he, h4, h5, h6⟩ _
    have h7 := hw t
    obtain ⟨n, hn⟩ : ∃ n : Nat, w t = n := ⟨(w t).toNat, by omega⟩
    rw [hn] at h6 h7
    obtain ⟨f, hf, g1, g2, g3⟩ := hR.2 p p' h1 h2 h3 n (by omega) e he h4 h6
    obtain ⟨x, y, k1, k2, k3, k4⟩ := ha.tr he
    obtain ⟨x', y', k1', k2', k3', k4'⟩ := ha.tr hf
    refine ⟨y', ⟨f, hf, g1, k2', by rw [hn]; exact g2⟩, by omega, k4', ?_⟩
    rw [h5, k2'] at g3
    simpa using g3
  · rintro p p' ⟨h1, h2, h3⟩ h4
    exact hR.1 p p' h1 h2 h3 h4
section
variable {a b : Aut}
end
section
variable {a : Aut} {K : Nat → Bool}
end
end Go.Proofs.Ytbanccfdojgocaa

namespace Go.Proofs.Ytbanccfdojgocaa
open Go
namespace Fm
theorem ltv_sub {B : List Exq} {s : Nat} : ltv B s B.length &&& ltc B B.length = ltv B s B.length := by
  refine Nat.eq_of_testBit_eq fun a => ?_
  rw [Nat.testBit_and]
  cases h : (ltv B s B.length).testBit a with
  | false => rfl
  | true =>
    obtain ⟨i, hi, h1, h2, _, h4⟩ := (ltv_bit _ (Nat.le_refl _)).1 h
    rw [(ltc_bit _ (Nat.le_refl _)).2 ⟨i, hi, h1, h2, h4⟩]
    rfl
theorem trA_ok {x : Exq} (h : trOk x) : (trA x).Ok := by
  rw [trA_ex h]
  have h5 := h.1.2
  have hB := fun y hy => (basics_ok h.1 y hy).1
  have hp : 2 ^ (basics x).length ≤ 2 ^ 5 := Nat.pow_le_pow_right (by omega) h5
  refine exA_ok (trOk_ex.1 h).2 ?_ fun s _ m hm => ?_
  · have := exN_edges (mv := mvT (basics x) (unt (basics x) (basics x).length)) (ac := acT (basics x) (unt (basics x) (basics x).length)) (L0 := ini0 (basics x) (push x false) (2 ^ (basics x).length)) (fun _ => mvT_len) 64
    omega
  · unfold mvT mvS at hm
    obtain ⟨t, _, rfl⟩ := List.mem_map.1 hm
    exact ⟨_, _, rfl, rfl, ltc_lt hB _ (Nat.le_refl _), ltv_sub⟩
end Fm
end Go.Proofs.Ytbanccfdojgocaa

namespace Go.Proofs.Ytbanccfdojgocaa
open Go
theorem bnd_TranslateFormula {a0 : Exq} : Mk.cnt (Fm.trR a0) ≤ 4194304 := by
  by_cases h : Fm.trOk a0
  · rw [Fm.trR, if_pos h]
    exact cnt_ok (Fm.trA_ok h)
  · rw [Fm.trR, if_neg h]
    exact cnt_empty
end Go.Proofs.Ytbanccfdojgocaa

namespace Go.Proofs.Ytbanccfdojgocaa
open Go
set_option maxHeartbeats 4000000 in
theorem c_FnExactTranslateFormula {h : Heap} {v0 : Value} {a0 : Exq} (R0 : Rep h v0 a0) : CallE Try.prog fn_laws_FnExactTranslateFormula [v0] h (fun u h' => h.le h' ∧ u = .bool true) := by
  refine CallE.gen fun k hk => EN_laws_FnExactTranslateFormula rfl ?_
  have F0 := R0.aExq
  simp -implicitDefEqProofs (disch:=first|omega|(simp only[LnZ];omega))[wrap64, F0]
  refine (c_szFormula _ R0 (n := 1048576) (by omega)).go ?_
  rintro _ h ⟨rfl, l0, rfl, q0⟩
  simp -implicitDefEqProofs (disch:=first|omega|(simp only[LnZ];omega))[wrap64, F0]
  refine IteW.mk (fun hlt => ?_) (fun hge0 => ?_)
  · simp -implicitDefEqProofs (disch:=first|omega|(simp only[LnZ];omega))[wrap64]
    exact RetK.keep (hk _ _ ⟨Heap.le.refl _, rfl⟩)
  have qq0 : Sz.sz a0 ≤ 1048576 := by omega
  have hc0 := cnt_Formula (x := a0) (by omega)
  have hcy := bnd_TranslateFormula (a0 := a0)
  have H : HS h [] h := HS.init
  simp -implicitDefEqProofs (disch:=first|omega|(simp only[LnZ];omega))[wrap64, F0]
  refine (c_toFormula _ R0 (by omega)).go ?_
  intro s0 m1 G
  have H := G.app H
  have F1 := H.rep.aExq
  simp -implicitDefEqProofs (disch:=first|omega|(simp only[LnZ];omega))[wrap64, F0, F1]
  refine (c_spec_TranslateFormula H.rep).go ?_
  rintro _ m2 ⟨w0, rfl, G⟩
  have H := G.app H
  have F2 := H.rep.aAut
  have H := H.only
  simp -implicitDefEqProofs (disch:=first|omega|(simp only[LnZ];omega))[wrap64, F0, F1, F2]
  refine (c_toFormula _ (R0.on H) (by omega)).go ?_
  intro x0 m3 G
  have H := G.app H
  have F3 := H.rep.aExq
  simp -implicitDefEqProofs (disch:=first|omega|(simp only[LnZ];omega))[wrap64, F0, F1, F2, F3]
  refine (c_TranslateFormula H.rep).go ?_
  rintro _ m4 ⟨g0, rfl, G⟩
  have H := G.app H
  have F4 := H.rep.aAut
  simp -implicitDefEqProofs (disch:=first|omega|(simp only[LnZ];omega))[wrap64, F0, F1, F2, F3, F4]
  refine (c_eqAutomaton H.rep H.sw2.rep).go ?_
  rintro _ _ ⟨rfl, rfl⟩
  simp -implicitDefEqProofs (disch:=first|omega|(simp only[LnZ];omega))[wrap64, F0, F1, F2, F3, F4]
  refine (c_toFormula _ (R0.on H) (by omega)).go ?_
  intro t0 m5 G
  have H := G.app H
  have F5 := H.rep.aExq
  simp -implicitDefEqProofs (disch:=first|omega|(simp only[LnZ];omega))[wrap64, F0, F1, F2, F3, F4, F5]
  refine (c_eqFormula H.sw2.rep H.rep).go ?_
  rintro _ _ ⟨rfl, rfl⟩
  have H := H.drop
  simp -implicitDefEqProofs (disch:=first|omega|(simp only[LnZ];omega))[wrap64, F0, F1, F2, F3, F4, F5]
  refine (c_markFormula (k0 := 1) H.sw1 (by omega) (by omega)).go ?_
  rintro _ m6 ⟨H, rfl⟩
  have hneg : ¬ ((1 + (Mk.cnt a0.kids : Nat) : Int) < 0) := by omega
  simp -implicitDefEqProofs (disch:=first|omega|(simp only[LnZ];omega))[wrap64, F0, F1, F2, F3, F4, F5, hneg]
  refine (c_eqAutomaton H.sw1.rep H.sw2.rep).go ?_
  rintro _ _ ⟨rfl, rfl⟩
  simp -implicitDefEqProofs (disch:=first|omega|(simp only[LnZ];omega))[wrap64, F0, F1, F2, F3, F4, F5, hneg]
  refine (c_markAutomaton (k0 := 1) H.sw1 (by omega) (by omega)).go ?_
  rintro _ m7 ⟨H, rfl⟩
  have hcw := fun y : Aut => Mk.cnt_wr 1 y
  simp -implicitDefEqProofs (disch:=first|omega|(simp only[LnZ];omega))[wrap64, F0, F1, F2, F3, F4, F5, hneg]
  refine (c_heldAutomaton (k0 := 1) H.rep (by omega) (by rw [hcw]; omega)).go ?_
  rintro _ _ ⟨rfl, rfl⟩
  rw [if_pos (Mk.wr_wr 1 1 _), hcw]
  simp -implicitDefEqProofs (disch:=first|omega|(simp only[LnZ];omega))[wrap64, F0, F1, F2, F3, F4, F5, hneg]
  rw [IteW_neg (by omega)]
  simp -implicitDefEqProofs (disch:=first|omega|(simp only[LnZ];omega))[wrap64, F0, F1, F2, F3, F4, F5, hneg]
  refine (c_toFormula _ (R0.on H) (by omega)).go ?_
  intro y0 m8 G
  have H := G.app H
  have F7 := H.rep.aExq
  simp -implicitDefEqProofs (disch:=first|omega|(simp only[LnZ];omega))[wrap64, F0, F1, F2, F3, F4, F5, hneg, F7]
  refine (c_TranslateFormula H.rep).go ?_
  rintro _ m9 ⟨z0, rfl, G⟩
  have H := G.app H
  have F8 := H.rep.aAut
  simp -implicitDefEqProofs (disch:=first|omega|(simp only[LnZ];omega))[wrap64, F0, F1, F2, F3, F4, F5, hneg, F7, F8]
  refine (c_eqAutomaton H.rep H.sw4.rep).go ?_
  rintro _ _ ⟨rfl, rfl⟩
  simp -implicitDefEqProofs (disch:=first|omega|(simp only[LnZ];omega))[wrap64, F0, F1, F2, F3, F4, F5, hneg, F7, F8]
  refine (c_heldAutomaton (k0 := 1) H.sw2.rep (by omega) (by rw [hcw]; omega)).go ?_
  rintro _ _ ⟨rfl, rfl⟩
  rw [if_pos (Mk.wr_wr 1 1 _), hcw]
  simp -implicitDefEqProofs (disch:=first|omega|(simp only[LnZ];omega))[wrap64, F0, F1, F2, F3, F4, F5, hneg, F7, F8]
  rw [IteW_neg (by omega)]
  simp -implicitDefEqProofs (disch:=first|omega|(simp only[LnZ];omega))[wrap64, F0, F1, F2, F3, F4, F5, hneg, F7, F8]
  exact RetK.keep (hk _ _ ⟨H.base, rfl⟩)
end Go.Proofs.Ytbanccfdojgocaa
