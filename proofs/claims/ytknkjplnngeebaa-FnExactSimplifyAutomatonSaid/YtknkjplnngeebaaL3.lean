/-
  Plain laws of graphs: paths, components, search; and what is left of an automaton when some states are kept.
-/
import Derived.Test.YtknkjplnngeebaaL1
namespace Go.Proofs.Ytknkjplnngeebaa
open Go
set_option linter.all false
set_option linter.unusedVariables false
set_option linter.unusedSimpArgs false
set_option linter.defProp false
set_option maxRecDepth 1000000

/- paths -/
inductive Rch (E : Nat → Nat → Prop) : Nat → Nat → Prop
  | refl (x : Nat) : Rch E x x
  | step {x y z : Nat} (h : E x y) (r : Rch E y z) : Rch E x z
theorem Rch.one {E : Nat → Nat → Prop} {x y : Nat} (h : E x y) : Rch E x y := .step h (.refl y)
theorem Rch.trans {E : Nat → Nat → Prop} {x y z : Nat} (h1 : Rch E x y) (h2 : Rch E y z) : Rch E x z := by
  induction h1 with
  | refl => exact h2
  | step h _ ih => exact .step h (ih h2)
theorem Rch.closed {E : Nat → Nat → Prop} {C : Nat → Prop} (hC : ∀ x y, C x → E x y → C y) {x y : Nat} (h : Rch E x y) (hx : C x) : C y := by
  induction h with
  | refl => exact hx
  | step h _ ih => exact ih (hC _ _ hx h)
/-- on a cycle -/
def Cyc (E : Nat → Nat → Prop) (x : Nat) : Prop := ∃ y, E x y ∧ Rch E y x
/-- each reaches the other -/
def Scc (E : Nat → Nat → Prop) (x y : Nat) : Prop := Rch E x y ∧ Rch E y x
theorem Cyc.iff {E : Nat → Nat → Prop} {x : Nat} : Cyc E x ↔ E x x ∨ ∃ y, y ≠ x ∧ Scc E x y := by
  constructor
  · rintro ⟨y, h1, h2⟩
    by_cases h : y = x
    · subst h; exact .inl h1
    · exact .inr ⟨y, h, .one h1, h2⟩
  · rintro (h | ⟨y, h, h1, h2⟩)
    · exact ⟨x, h, .refl x⟩
    · cases h1 with
      | refl => exact absurd rfl h
      | step h3 h4 => exact ⟨_, h3, h4.trans h2⟩

/- THE SEARCH for components -/
structure TS where
  num : Nat → Int
  low : Nat → Int
  part : Nat → Int
  stk : List Nat
  cnt : Int
  prt : Int
def fput (f : Nat → Int) (i : Nat) (v : Int) : Nat → Int := fun x => if x = i then v else f x
@[simp] theorem fput_self {f : Nat → Int} {i : Nat} {v : Int} : fput f i v i = v := by simp [fput]
theorem fput_ne {f : Nat → Int} {i x : Nat} {v : Int} (h : x ≠ i) : fput f i v x = f x := by simp [fput, h]

/-- what holds at each moment; 'gr': those whose visit has not ended -/
structure TI (n : Nat) (E : Nat → Nat → Prop) (gr : Nat → Prop) (s : TS) : Prop where
  num : ∀ x, x < n → 0 ≤ s.num x ∧ s.num x ≤ s.cnt
  cnt : 0 ≤ s.prt ∧ s.prt + s.stk.length ≤ s.cnt
  mem : ∀ x, x ∈ s.stk ↔ x < n ∧ s.num x ≠ 0 ∧ s.part x < 0
  ord : s.stk.Pairwise fun x y => s.num x < s.num y
  new : ∀ x, x < n → s.num x = 0 → s.part x < 0
  done : ∀ x y, x < n → 0 ≤ s.part x → E x y → 0 ≤ s.part y
  bnd : ∀ x, x < n → -1 ≤ s.part x ∧ s.part x < s.prt
  scc : ∀ x y, x < n → y < n → 0 ≤ s.part x → 0 ≤ s.part y → (s.part x = s.part y ↔ Scc E x y)
  s1 : ∀ x y, x ∈ s.stk → y ∈ s.stk → s.num x ≤ s.num y → Rch E x y
  s2 : ∀ x, x ∈ s.stk → ∃ g, gr g ∧ g ∈ s.stk ∧ s.num g ≤ s.num x ∧ Rch E x g

/-- what a visit brings about -/
structure TV (n : Nat) (E : Nat → Nat → Prop) (gr : Nat → Prop) (s : TS) (a : Nat) (s' : TS) : Prop where
  inv : TI n E gr s'
  num : ∀ x, x < n → s.num x ≠ 0 → s'.num x = s.num x ∧ s'.low x = s.low x
  part : ∀ x, x < n → 0 ≤ s.part x → s'.part x = s.part x
  stk : ∃ w, s'.stk = s.stk ++ w ∧ ∀ x ∈ w, s.num x = 0
  vis : s'.num a ≠ 0
  cnt : s.cnt ≤ s'.cnt
  fresh : ∀ x, x < n → s.num x = 0 → s'.num x ≠ 0 → s.cnt < s'.num x
  black : ∀ x, x < n → s.num x = 0 → s'.num x ≠ 0 → ∀ y, E x y → s'.num y ≠ 0
  low : s'.low a = s'.num a ∨ ∃ y ∈ s.stk, s'.low a = s.num y ∧ Rch E a y
  min : ∀ x ∈ s'.stk, s.num x = 0 → ∀ y ∈ s.stk, E x y → s'.low a ≤ s.num y

/-- in the midst of a visit: 'sc': the successors that have been looked at -/
structure TL (n : Nat) (E : Nat → Nat → Prop) (gr : Nat → Prop) (s : TS) (a : Nat) (sc : Nat → Prop) (s' : TS) : Prop where
  inv : TI n E (fun g => gr g ∨ g = a) s'
  num : ∀ x, x < n → s.num x ≠ 0 → s'.num x = s.num x ∧ s'.low x = s.low x
  part : ∀ x, x < n → 0 ≤ s.part x → s'.part x = s.part x
  stk : ∃ w, s'.stk = s.stk ++ a :: w ∧ ∀ x ∈ w, s.num x = 0 ∧ x ≠ a
  na : s'.num a = s.cnt + 1
  cnt : s.cnt + 1 ≤ s'.cnt
  fresh : ∀ x, x < n → s.num x = 0 → s'.num x ≠ 0 → x ≠ a → s.cnt + 1 < s'.num x
  black : ∀ x, x < n → x ≠ a → s.num x = 0 → s'.num x ≠ 0 → ∀ y, E x y → s'.num y ≠ 0
  lowa : s'.low a ≤ s.cnt + 1
  low : s'.low a = s'.num a ∨ ∃ y ∈ s.stk, s'.low a = s.num y ∧ Rch E a y
  min : ∀ x ∈ s'.stk, x ≠ a → s.num x = 0 → ∀ y ∈ s.stk, E x y → s'.low a ≤ s.num y
  proc : ∀ y, sc y → y < n ∧ s'.num y ≠ 0 ∧ (y ∈ s.stk → s'.low a ≤ s.num y)

def TS.push (s : TS) (a : Nat) : TS := { s with num := fput s.num a (s.cnt + 1), low := fput s.low a (s.cnt + 1), stk := s.stk ++ [a], cnt := s.cnt + 1 }
def TS.lower (s : TS) (a : Nat) (v : Int) : TS := { s with low := fput s.low a (min (s.low a) v) }
def TS.pop (s : TS) (st : List Nat) (c : List Nat) : TS := { s with part := fun x => if x ∈ c then s.prt else s.part x, stk := st, prt := s.prt + 1 }

section
variable {n : Nat} {E : Nat → Nat → Prop} {gr : Nat → Prop} {s s1 s2 : TS} {a b : Nat} {sc : Nat → Prop}

theorem TI.stk_lt (h : TI n E gr s) {x : Nat} (hx : x ∈ s.stk) : x < n := ((h.mem x).1 hx).1
theorem TI.stk_num (h : TI n E gr s) {x : Nat} (hx : x ∈ s.stk) : s.num x ≠ 0 := ((h.mem x).1 hx).2.1

theorem TL.start (hE : ∀ x y, E x y → x < n ∧ y < n) (h : TI n E gr s) (ha : a < n) (h0 : s.num a = 0) (hg : ∀ g, gr g → g ∈ s.stk → Rch E g a) : TL n E gr s a (fun _ => False) (s.push a) := by
  have hc := h.cnt
  have hns : ∀ x, x ∈ s.stk → x ≠ a := fun x hx e => h.stk_num hx (e ▸ h0)
  refine ⟨⟨?_, ?_, ?_, ?_, ?_, h.done, h.bnd, h.scc, ?_, ?_⟩, ?_, fun _ _ _ => rfl, ⟨[], by simp [TS.push], by simp⟩, by simp [TS.push], by simp [TS.push], ?_, ?_, by simp [TS.push], .inl (by simp [TS.push]), ?_, fun y hy => hy.elim⟩
  · intro x hx
    have := h.num x hx
    by_cases e : x = a
    · subst e; simp [TS.push]; omega
    · simp [TS.push, fput_ne e]; omega
  · simp [TS.push]; omega
  · intro x
    by_cases e : x = a
    · subst e
      simp only [TS.push, List.mem_append, List.mem_singleton, or_true, fput_self, true_iff]
      exact ⟨ha, by omega, h.new _ ha h0⟩
    · simp only [TS.push, List.mem_append, List.mem_singleton, e, or_false, fput_ne e]
      exact h.mem x
  · simp only [TS.push, List.pairwise_append]
    refine ⟨h.ord.imp_of_mem ?_, List.pairwise_singleton _ _, ?_⟩
    · intro x y hx hy hxy
      rw [fput_ne (hns x hx), fput_ne (hns y hy)]; exact hxy
    · intro x hx y hy
      obtain rfl : y = a := by simpa using hy
      rw [fput_ne (hns x hx)]
      have := h.num x (h.stk_lt hx)
      simp; omega
  · intro x hx hx0
    by_cases e : x = a
    · subst e; exact h.new _ hx h0
    · simp only [TS.push, fput_ne e] at hx0; exact h.new _ hx hx0
  · intro x y hx hy hxy
    simp only [TS.push, List.mem_append, List.mem_singleton] at hx hy hxy
    rcases hx with hx | rfl
    · rcases hy with hy | rfl
      · rw [fput_ne (hns x hx), fput_ne (hns y hy)] at hxy
        exact h.s1 x y hx hy hxy
      · obtain ⟨g, g1, g2, _, g4⟩ := h.s2 x hx
        exact g4.trans (hg g g1 g2)
    · rcases hy with hy | rfl
      · rw [fput_self, fput_ne (hns y hy)] at hxy
        have := h.num y (h.stk_lt hy)
        omega
      · exact .refl _
  · intro x hx
    simp only [TS.push, List.mem_append, List.mem_singleton] at hx ⊢
    rcases hx with hx | rfl
    · obtain ⟨g, g1, g2, g3, g4⟩ := h.s2 x hx
      exact ⟨g, .inl g1, .inl g2, by rw [fput_ne (hns g g2), fput_ne (hns x hx)]; exact g3, g4⟩
    · exact ⟨x, .inr rfl, .inr rfl, Int.le_refl _, .refl _⟩
  · intro x hx hx0
    have e : x ≠ a := fun e => hx0 (e ▸ h0)
    simp [TS.push, fput_ne e]
  · intro x hx hx0 hx1 e
    simp only [TS.push, fput_ne e] at hx1; exact absurd hx0 hx1
  · intro x hx e hx0 hx1
    simp only [TS.push, fput_ne e] at hx1; exact absurd hx0 hx1
  · intro x hx e hx0
    simp only [TS.push, List.mem_append, List.mem_singleton, e, or_false] at hx
    exact absurd hx0 (h.stk_num hx)

theorem TL.lower (h : TL n E gr s a sc s1) {v : Int} (hab : E a b) (hE : ∀ x y, E x y → x < n ∧ y < n) (ha0 : s.num a = 0) (hi : TI n E gr s)
    (hb : s1.num b ≠ 0) (hv : v < s1.low a → ∃ y ∈ s.stk, v = s.num y ∧ Rch E b y) (hsb : b ∈ s.stk → v ≤ s.num b) : TL n E gr s a (fun y => sc y ∨ y = b) (s1.lower a v) := by
  refine ⟨⟨h.inv.num, h.inv.cnt, h.inv.mem, h.inv.ord, h.inv.new, h.inv.done, h.inv.bnd, h.inv.scc, h.inv.s1, h.inv.s2⟩, ?_, h.part, h.stk, h.na, h.cnt, h.fresh, h.black, ?_, ?_, ?_, ?_⟩
  · intro x hx hx0
    have e : x ≠ a := fun e => hx0 (e ▸ ha0)
    exact ⟨(h.num x hx hx0).1, by simp only [TS.lower, fput_ne e]; exact (h.num x hx hx0).2⟩
  · have := h.lowa; simp [TS.lower]; omega
  · simp only [TS.lower, fput_self]
    by_cases hlt : v < s1.low a
    · obtain ⟨y, h1, h2, h3⟩ := hv hlt
      exact .inr ⟨y, h1, by omega, .step hab h3⟩
    · rw [Int.min_eq_left (by omega)]; exact h.low
  · intro x hx e hx0 y hy hxy
    have := h.min x hx e hx0 y hy hxy
    simp only [TS.lower, fput_self]; omega
  · rintro y (hy | rfl)
    · have := h.proc y hy
      exact ⟨this.1, this.2.1, fun hm => by have := this.2.2 hm; simp only [TS.lower, fput_self]; omega⟩
    · exact ⟨(hE _ _ hab).2, hb, fun hm => by have := hsb hm; simp only [TS.lower, fput_self]; omega⟩

/-- a successor of which the part is known -/
theorem TL.skip (h : TL n E gr s a sc s1) (hi : TI n E gr s) (hbn : b < n) (hb : s1.num b ≠ 0) (hp : 0 ≤ s1.part b) : TL n E gr s a (fun y => sc y ∨ y = b) s1 := by
  refine ⟨h.inv, h.num, h.part, h.stk, h.na, h.cnt, h.fresh, h.black, h.lowa, h.low, h.min, ?_⟩
  rintro y (hy | rfl)
  · exact h.proc y hy
  · refine ⟨hbn, hb, fun hm => ?_⟩
    obtain ⟨w, hw, _⟩ := h.stk
    have : y ∈ s1.stk := by rw [hw]; simp [hm]
    have := ((h.inv.mem y).1 this).2.2
    omega

/-- a successor on the stack -/
theorem TL.seen (h : TL n E gr s a sc s1) (hab : E a b) (hE : ∀ x y, E x y → x < n ∧ y < n) (ha0 : s.num a = 0) (hi : TI n E gr s) (hb : s1.num b ≠ 0) (hp : s1.part b < 0) : TL n E gr s a (fun y => sc y ∨ y = b) (s1.lower a (s1.num b)) := by
  have hbn := (hE _ _ hab).2
  refine h.lower hab hE ha0 hi hb ?_ ?_
  · intro hlt
    have hm : b ∈ s1.stk := (h.inv.mem b).2 ⟨hbn, hb, hp⟩
    obtain ⟨w, hw, hw2⟩ := h.stk
    rw [hw] at hm
    have hl := h.lowa
    rcases List.mem_append.1 hm with hm | hm
    · exact ⟨b, hm, (h.num b hbn (hi.stk_num hm)).1, .refl _⟩
    · exfalso
      rcases List.mem_cons.1 hm with rfl | hm
      · have := h.na; omega
      · have h1 := hw2 b hm
        have := h.fresh b hbn h1.1 hb h1.2
        omega
  · intro hm
    rw [(h.num b hbn (hi.stk_num hm)).1]; exact Int.le_refl _

theorem TL.gray (h : TL n E gr s a sc s1) (hab : E a b) (hi : TI n E gr s) (hgr : ∀ g, gr g → g < n ∧ s.num g ≠ 0) (han : a < n) : (∀ g, (gr g ∨ g = a) → g ∈ s1.stk → Rch E g b) ∧ (∀ g, (gr g ∨ g = a) → g < n ∧ s1.num g ≠ 0) ∧ a ∈ s1.stk := by
  obtain ⟨w, hw, hw2⟩ := h.stk
  have ha : a ∈ s1.stk := by rw [hw]; simp
  have hna := h.na
  have hc := hi.cnt
  refine ⟨?_, ?_, ha⟩
  · rintro g (hg | rfl) hm
    · refine (h.inv.s1 g a hm ha ?_).trans (.one hab)
      rw [(h.num g (h.inv.stk_lt hm) (hgr g hg).2).1, hna]
      have := hi.num g (h.inv.stk_lt hm)
      omega
    · exact .one hab
  · rintro g (hg | rfl)
    · have h1 := hgr g hg
      rw [(h.num g h1.1 h1.2).1]; exact h1
    · exact ⟨han, by omega⟩

/-- a successor that is visited: behind the visit, before its 'low' is taken over -/
theorem TL.visit (h : TL n E gr s a sc s1) (hab : E a b) (hE : ∀ x y, E x y → x < n ∧ y < n) (ha0 : s.num a = 0) (hi : TI n E gr s) (hb0 : s1.num b = 0) (hv : TV n E (fun g => gr g ∨ g = a) s1 b s2) :
    TL n E gr s a (fun y => sc y ∨ y = b) (s2.lower a (s2.low b)) := by
  have han := (hE _ _ hab).1
  have hbn := (hE _ _ hab).2
  have hna := h.na
  have hc := hi.cnt
  have hc1 := h.inv.cnt
  obtain ⟨w, hw, hw2⟩ := h.stk
  obtain ⟨w2, hw3, hw4⟩ := hv.stk
  have ha1 : s1.num a ≠ 0 := by omega
  have hkeep : ∀ x, x < n → s.num x ≠ 0 → s1.num x ≠ 0 := fun x hx h0 => by rw [(h.num x hx h0).1]; exact h0
  have hb00 : s.num b = 0 := by
    by_cases h0 : s.num b = 0
    · exact h0
    · exact absurd hb0 (hkeep b hbn h0)
  have hva := hv.num a han ha1
  have hla : (s2.lower a (s2.low b)).low a = Min.min (s1.low a) (s2.low b) := by simp [TS.lower, hva.2]
  have hlow : s2.low b < s1.low a → ∃ y ∈ s.stk, s2.low b = s.num y ∧ Rch E b y := by
    intro hlt
    have hl := h.lowa
    rcases hv.low with h1 | ⟨y, hy, h2, h3⟩
    · have := hv.fresh b hbn hb0 hv.vis
      have := h.cnt
      omega
    · rw [hw] at hy
      rcases List.mem_append.1 hy with hm | hm
      · exact ⟨y, hm, by rw [h2, (h.num y (hi.stk_lt hm) (hi.stk_num hm)).1], h3⟩
      · exfalso
        rcases List.mem_cons.1 hm with rfl | hm
        · omega
        · have h4 := hw2 y hm
          have hyn : y < n := h.inv.stk_lt (by rw [hw]; simp [hm])
          have := h.fresh y hyn h4.1 (h.inv.stk_num (by rw [hw]; simp [hm])) h4.2
          omega
  refine ⟨⟨hv.inv.num, hv.inv.cnt, hv.inv.mem, hv.inv.ord, hv.inv.new, hv.inv.done, hv.inv.bnd, hv.inv.scc, hv.inv.s1, hv.inv.s2⟩, ?_, ?_, ⟨w ++ w2, by show s2.stk = _; rw [hw3, hw]; simp, ?_⟩, by show s2.num a = _; rw [hva.1]; exact hna, Int.le_trans h.cnt hv.cnt, ?_, ?_, by have := h.lowa; rw [hla]; omega, ?_, ?_, ?_⟩
  · intro x hx hx0
    have e1 := h.num x hx hx0
    have e2 := hv.num x hx (hkeep x hx hx0)
    have e : x ≠ a := fun e => hx0 (e ▸ ha0)
    exact ⟨by show s2.num x = _; rw [e2.1, e1.1], by simp only [TS.lower, fput_ne e]; rw [e2.2, e1.2]⟩
  · intro x hx hx0
    have e1 := h.part x hx hx0
    show s2.part x = _
    rw [hv.part x hx (by rw [e1]; exact hx0), e1]
  · intro x hx
    rcases List.mem_append.1 hx with hx | hx
    · exact hw2 x hx
    · have h1 := hw4 x hx
      have hxn : x < n := hv.inv.stk_lt (by rw [hw3]; simp [hx])
      refine ⟨?_, fun e => ha1 (e ▸ h1)⟩
      by_cases h0 : s.num x = 0
      · exact h0
      · exact absurd h1 (hkeep x hxn h0)
  · intro x hx hx0 hx2 e
    show s.cnt + 1 < s2.num x
    by_cases h1 : s1.num x = 0
    · have := hv.fresh x hx h1 hx2
      have := h.cnt
      omega
    · have := h.fresh x hx hx0 h1 e
      rw [(hv.num x hx h1).1]; exact this
  · intro x hx e hx0 hx2 y hxy
    show s2.num y ≠ 0
    by_cases h1 : s1.num x = 0
    · exact hv.black x hx h1 hx2 y hxy
    · have h3 := h.black x hx e hx0 h1 y hxy
      rw [(hv.num y (hE _ _ hxy).2 h3).1]; exact h3
  · rw [hla]
    by_cases hlt : s2.low b < s1.low a
    · obtain ⟨y, h1, h2, h3⟩ := hlow hlt
      exact .inr ⟨y, h1, by rw [Int.min_eq_right (Int.le_of_lt hlt)]; exact h2, .step hab h3⟩
    · rw [Int.min_eq_left (Int.not_lt.1 hlt)]
      rcases h.low with h1 | h1
      · exact .inl (by rw [h1]; exact hva.1.symm)
      · exact .inr h1
  · intro x hx e hx0 y hy hxy
    rw [hla]
    clear hlow
    by_cases h1 : s1.num x = 0
    · have h3 := hv.min x hx h1 y (by rw [hw]; simp [hy]) hxy
      rw [(h.num y (hi.stk_lt hy) (hi.stk_num hy)).1] at h3
      omega
    · have h3 := h.min x (by
        have hx : x ∈ s2.stk := hx
        rw [hw3] at hx
        rcases List.mem_append.1 hx with hx | hx
        · exact hx
        · exact absurd (hw4 x hx) h1) e hx0 y hy hxy
      omega
  · clear hlow
    rintro y (hy | rfl)
    · have h1 := h.proc y hy
      refine ⟨h1.1, ?_, fun hm => ?_⟩
      · show s2.num y ≠ 0
        rw [(hv.num y h1.1 h1.2.1).1]; exact h1.2.1
      · have := h1.2.2 hm
        rw [hla]; omega
    · exact ⟨hbn, hv.vis, fun hm => absurd hb00 (hi.stk_num hm)⟩

theorem TL.vis_of (h : TL n E gr s a sc s1) (hall : ∀ y, E a y → sc y) {x y : Nat} (hx : x < n) (hx0 : s.num x = 0) (hx1 : s1.num x ≠ 0) (hxy : E x y) : s1.num y ≠ 0 := by
  by_cases e : x = a
  · subst e; exact (h.proc y (hall y hxy)).2.1
  · exact h.black x hx e hx0 hx1 y hxy

/-- the end of a visit: the component is not yet whole -/
theorem TL.end1 (h : TL n E gr s a sc s1) (hall : ∀ y, E a y → sc y) (han : a < n) (ha0 : s.num a = 0) (hi : TI n E gr s) (hne : s1.low a ≠ s1.num a) : TV n E gr s a s1 := by
  obtain ⟨w, hw, hw2⟩ := h.stk
  have hna := h.na
  have hc := hi.cnt
  obtain ⟨y, hy, hly, hry⟩ : ∃ y ∈ s.stk, s1.low a = s.num y ∧ Rch E a y := h.low.resolve_left hne
  have hyn := hi.num y (hi.stk_lt hy)
  have hy1 := h.num y (hi.stk_lt hy) (hi.stk_num hy)
  refine ⟨⟨h.inv.num, h.inv.cnt, h.inv.mem, h.inv.ord, h.inv.new, h.inv.done, h.inv.bnd, h.inv.scc, h.inv.s1, ?_⟩, h.num, h.part, ⟨a :: w, hw, ?_⟩, by omega, by have := h.cnt; omega, ?_, ?_, h.low, ?_⟩
  · intro x hx
    obtain ⟨g, h1 | rfl, h2, h3, h4⟩ := h.inv.s2 x hx
    · exact ⟨g, h1, h2, h3, h4⟩
    · obtain ⟨g', k1, k2, k3, k4⟩ := hi.s2 y hy
      have hg' := h.num g' (hi.stk_lt k2) (hi.stk_num k2)
      exact ⟨g', k1, by rw [hw]; simp [k2], by omega, h4.trans (hry.trans k4)⟩
  · intro x hx
    rcases List.mem_cons.1 hx with rfl | hx
    · exact ha0
    · exact (hw2 x hx).1
  · intro x hx hx0 hx1
    by_cases e : x = a
    · subst e; omega
    · have := h.fresh x hx hx0 hx1 e; omega
  · intro x hx hx0 hx1 y hxy
    exact h.vis_of hall hx hx0 hx1 hxy
  · intro x hx hx0 y hy hxy
    by_cases e : x = a
    · subst e; exact (h.proc y (hall y hxy)).2.2 hy
    · exact h.min x hx e hx0 y hy hxy

/-- the end of a visit: the component is taken off the stack -/
theorem TL.end2 (h : TL n E gr s a sc s1) (hE : ∀ x y, E x y → x < n ∧ y < n) (hall : ∀ y, E a y → sc y) (han : a < n) (ha0 : s.num a = 0) (hi : TI n E gr s) (hgr : ∀ g, gr g → g < n ∧ s.num g ≠ 0) (he : s1.low a = s1.num a) {w : List Nat} (hw : s1.stk = s.stk ++ a :: w) : TV n E gr s a (s1.pop s.stk (a :: w)) := by
  have hw2 : ∀ x ∈ w, s.num x = 0 ∧ x ≠ a := by
    obtain ⟨w', hw', hw2⟩ := h.stk
    rw [hw] at hw'
    have : w = w' := by simpa using hw'
    subst this; exact hw2
  have hna := h.na
  have hc := hi.cnt
  have hc1 := h.inv.cnt
  have hcm : ∀ x, x ∈ a :: w → x ∈ s1.stk := fun x hx => by rw [hw]; exact List.mem_append_right _ hx
  have hC0 : ∀ x ∈ a :: w, s.num x = 0 := fun x hx => by
    rcases List.mem_cons.1 hx with rfl | hx
    · exact ha0
    · exact (hw2 x hx).1
  have hso : ∀ x ∈ s.stk, x ∉ a :: w := fun x hx hx2 => hi.stk_num hx (hC0 x hx2)
  have ham : a ∈ s1.stk := hcm a (by simp)
  -- the component and what is done are closed
  have hclo : ∀ x y, (x ∈ a :: w ∨ (x < n ∧ 0 ≤ s1.part x)) → E x y → (y ∈ a :: w ∨ (y < n ∧ 0 ≤ s1.part y)) := by
    rintro x y (hx | hx) hxy
    · have hyn := (hE _ _ hxy).2
      have hxs := hcm x hx
      have hyv := h.vis_of hall (h.inv.stk_lt hxs) (hC0 x hx) (h.inv.stk_num hxs) hxy
      by_cases hp : 0 ≤ s1.part y
      · exact .inr ⟨hyn, hp⟩
      · have hys : y ∈ s1.stk := (h.inv.mem y).2 ⟨hyn, hyv, by omega⟩
        rw [hw] at hys
        rcases List.mem_append.1 hys with hy2 | hy2
        · exfalso
          have hle : s1.low a ≤ s.num y := by
            by_cases e : x = a
            · subst e; exact (h.proc y (hall y hxy)).2.2 hy2
            · exact h.min x hxs e (hC0 x hx) y hy2 hxy
          have := hi.num y (hi.stk_lt hy2)
          omega
        · exact .inl hy2
    · exact .inr ⟨(hE _ _ hxy).2, h.inv.done x y hx.1 hx.2 hxy⟩
  have hreach : ∀ x y, x ∈ a :: w → Rch E x y → (y ∈ a :: w ∨ (y < n ∧ 0 ≤ s1.part y)) := fun x y hx hr => hr.closed hclo (.inl hx)
  have hdone : ∀ x y, x < n → 0 ≤ s1.part x → Rch E x y → 0 ≤ s1.part y ∧ y < n := fun x y hx hp hr =>
    hr.closed (C := fun z => 0 ≤ s1.part z ∧ z < n) (fun u v hu huv => ⟨h.inv.done u v hu.2 hu.1 huv, (hE _ _ huv).2⟩) ⟨hp, hx⟩
  have hpn : ∀ x ∈ a :: w, s1.part x < 0 := fun x hx => ((h.inv.mem x).1 (hcm x hx)).2.2
  have hnum : ∀ x ∈ a :: w, s1.num a ≤ s1.num x := by
    intro x hx
    rcases List.mem_cons.1 hx with rfl | hx
    · exact Int.le_refl _
    · have h1 := hw2 x hx
      have hm := hcm x (by simp [hx])
      have := h.fresh x (h.inv.stk_lt hm) h1.1 (h.inv.stk_num hm) h1.2
      omega
  have hto : ∀ x ∈ a :: w, Rch E a x := fun x hx => h.inv.s1 a x ham (hcm x hx) (hnum x hx)
  have hfrom : ∀ x ∈ a :: w, Rch E x a := by
    intro x hx
    obtain ⟨g, h1 | rfl, h2, h3, h4⟩ := h.inv.s2 x (hcm x hx)
    · exfalso
      have hg := hgr g h1
      rcases hreach x g hx h4 with h5 | h5
      · exact hg.2 (hC0 g h5)
      · have := ((h.inv.mem g).1 h2).2.2
        omega
    · exact h4
  have hCC : ∀ x y, x ∈ a :: w → y ∈ a :: w → Scc E x y := fun x y hx hy => ⟨(hfrom x hx).trans (hto y hy), (hfrom y hy).trans (hto x hx)⟩
  have hpart : ∀ x, (s1.pop s.stk (a :: w)).part x = if x ∈ a :: w then s1.prt else s1.part x := fun x => rfl
  have hsl : s1.stk.length = s.stk.length + 1 + w.length := by rw [hw]; simp; omega
  refine ⟨⟨h.inv.num, ?_, ?_, ?_, ?_, ?_, ?_, ?_, ?_, ?_⟩, h.num, ?_, ⟨[], by simp [TS.pop], by simp⟩, by show s1.num a ≠ 0; omega, by show s.cnt ≤ s1.cnt; have := h.cnt; omega, ?_, ?_, .inl he, ?_⟩
  · show 0 ≤ s1.prt + 1 ∧ s1.prt + 1 + (s.stk.length : Int) ≤ s1.cnt
    omega
  · intro x
    rw [hpart]
    show x ∈ s.stk ↔ x < n ∧ s1.num x ≠ 0 ∧ _
    constructor
    · intro hx
      have h1 := hso x hx
      rw [if_neg h1]
      exact (h.inv.mem x).1 (by rw [hw]; exact List.mem_append_left _ hx)
    · rintro ⟨h1, h2, h3⟩
      split at h3
      · omega
      · rename_i hno
        have := (h.inv.mem x).2 ⟨h1, h2, h3⟩
        rw [hw] at this
        exact (List.mem_append.1 this).resolve_right hno
  · show s.stk.Pairwise fun x y => s1.num x < s1.num y
    have := h.inv.ord
    rw [hw] at this
    exact (List.pairwise_append.1 this).1
  · intro x hx hx0
    rw [hpart, if_neg]
    · exact h.inv.new x hx hx0
    · intro hm; exact h.inv.stk_num (hcm x hm) hx0
  · intro x y hx hp hxy
    rw [hpart] at hp ⊢
    have h2 : y ∈ a :: w ∨ (y < n ∧ 0 ≤ s1.part y) := by
      split at hp
      · rename_i hm; exact hclo x y (.inl hm) hxy
      · exact hclo x y (.inr ⟨hx, hp⟩) hxy
    rcases h2 with h2 | h2
    · rw [if_pos h2]; omega
    · split
      · omega
      · exact h2.2
  · intro x hx
    rw [hpart]
    have := h.inv.bnd x hx
    show _ ∧ _ < s1.prt + 1
    split <;> omega
  · intro x y hx hy hpx hpy
    rw [hpart] at hpx hpy ⊢
    rw [hpart]
    by_cases hxc : x ∈ a :: w
    · by_cases hyc : y ∈ a :: w
      · rw [if_pos hxc, if_pos hyc]
        simp [hCC x y hxc hyc]
      · rw [if_neg hyc] at hpy
        rw [if_pos hxc, if_neg hyc]
        have := h.inv.bnd y hy
        constructor
        · intro e; omega
        · rintro ⟨_, h2⟩
          have h3 := hdone y x hy hpy h2
          have := hpn x hxc
          omega
    · rw [if_neg hxc] at hpx
      by_cases hyc : y ∈ a :: w
      · rw [if_neg hxc, if_pos hyc]
        have := h.inv.bnd x hx
        constructor
        · intro e; omega
        · rintro ⟨h2, _⟩
          have h3 := hdone x y hx hpx h2
          have := hpn y hyc
          omega
      · rw [if_neg hyc] at hpy
        rw [if_neg hxc, if_neg hyc]
        exact h.inv.scc x y hx hy hpx hpy
  · intro x y hx hy hxy
    exact h.inv.s1 x y (by rw [hw]; exact List.mem_append_left _ hx) (by rw [hw]; exact List.mem_append_left _ hy) hxy
  · intro x hx
    have hx : x ∈ s.stk := hx
    obtain ⟨g, k1, k2, k3, k4⟩ := hi.s2 x hx
    have e1 := h.num g (hi.stk_lt k2) (hi.stk_num k2)
    have e2 := h.num x (hi.stk_lt hx) (hi.stk_num hx)
    exact ⟨g, k1, k2, by show s1.num g ≤ s1.num x; omega, k4⟩
  · intro x hx hp
    have e1 := h.part x hx hp
    rw [hpart, if_neg, e1]
    intro hm
    have := hpn x hm
    omega
  · intro x hx hx0 hx1
    show s.cnt < s1.num x
    have hx1 : s1.num x ≠ 0 := hx1
    by_cases e : x = a
    · subst e; omega
    · have := h.fresh x hx hx0 hx1 e; omega
  · intro x hx hx0 hx1 y hxy
    exact h.vis_of hall hx hx0 hx1 hxy
  · intro x hx hx0
    have hx : x ∈ s.stk := hx
    exact absurd hx0 (hi.stk_num hx)

theorem TI.done_all (h : TI n E (fun _ => False) s) : s.stk = [] := by
  cases hs : s.stk with
  | nil => rfl
  | cons x l =>
    obtain ⟨g, hg, _⟩ := h.s2 x (by rw [hs]; simp)
    exact hg.elim
theorem TI.start (h0 : ∀ x, x < n → s.num x = 0) (h1 : ∀ x, x < n → s.part x = -1) (h2 : s.stk = []) (h3 : s.cnt = 0) (h4 : s.prt = 0) : TI n E (fun _ => False) s := by
  refine ⟨fun x hx => by rw [h0 x hx, h3]; omega, by rw [h2, h3, h4]; simp, fun x => ?_, by rw [h2]; simp, fun x hx _ => by rw [h1 x hx]; omega, fun x y hx hp => by rw [h1 x hx] at hp; omega, fun x hx => by rw [h1 x hx, h4]; omega, fun x y hx _ hp => by rw [h1 x hx] at hp; omega, fun x y hx => by rw [h2] at hx; simp at hx, fun x hx => by rw [h2] at hx; simp at hx⟩
  rw [h2]
  constructor
  · intro h; simp at h
  · rintro ⟨h5, h6, _⟩; exact absurd (h0 x h5) h6
/-- when all have been visited -/
theorem TI.result (h : TI n E (fun _ => False) s) (hall : ∀ x, x < n → s.num x ≠ 0) : (∀ x, x < n → 0 ≤ s.part x) ∧ ∀ x y, x < n → y < n → (s.part x = s.part y ↔ Scc E x y) := by
  have h1 : ∀ x, x < n → 0 ≤ s.part x := by
    intro x hx
    have := h.mem x
    rw [h.done_all] at this
    by_cases hp : 0 ≤ s.part x
    · exact hp
    · have h2 := this.2 ⟨hx, hall x hx, by omega⟩
      simp at h2
  exact ⟨h1, fun x y hx hy => h.scc x y hx hy (h1 x hx) (h1 y hy)⟩
end

/- SEARCH: what has been met, and what is yet to be looked at -/
structure Srch (E : Nat → Nat → Prop) (S B td : Nat → Prop) : Prop where
  sound : ∀ x, B x → ∃ s, S s ∧ Rch E s x
  start : ∀ s, S s → B s
  closed : ∀ x y, B x → ¬ td x → E x y → B y
theorem Rch.snoc {E : Nat → Nat → Prop} {x y z : Nat} (h : Rch E x y) (e : E y z) : Rch E x z := h.trans (.one e)
section
variable {E : Nat → Nat → Prop} {S B B' td td' : Nat → Prop}
theorem Srch.done (h : Srch E S B td) (h0 : ∀ x, ¬ td x) {x : Nat} : B x ↔ ∃ s, S s ∧ Rch E s x :=
  ⟨h.sound x, fun ⟨s, hs, hr⟩ => hr.closed (fun u v hu huv => h.closed u v hu (h0 u) huv) (h.start s hs)⟩
theorem Srch.add (h : Srch E S B td) {x y : Nat} (hx : B x) (hxy : E x y) (hB : ∀ z, B' z ↔ B z ∨ z = y) (ht : ∀ z, td' z ↔ td z ∨ z = y) : Srch E S B' td' := by
  refine ⟨fun z hz => ?_, fun s hs => (hB s).2 (.inl (h.start s hs)), fun u v hu htd huv => ?_⟩
  · rcases (hB z).1 hz with hz | rfl
    · exact h.sound z hz
    · obtain ⟨s, hs, hr⟩ := h.sound x hx
      exact ⟨s, hs, hr.snoc hxy⟩
  · rw [ht] at htd
    rcases (hB u).1 hu with hu | rfl
    · exact (hB v).2 (.inl (h.closed u v hu (fun h => htd (.inl h)) huv))
    · exact absurd (.inr rfl) htd
theorem Srch.drop (h : Srch E S B td) {x : Nat} (hx : ∀ y, E x y → B y) (ht : ∀ z, td z → td' z ∨ z = x) : Srch E S B td' := by
  refine ⟨h.sound, h.start, fun u v hu htd huv => ?_⟩
  by_cases e : u = x
  · subst e; exact hx v huv
  · exact h.closed u v hu (fun h1 => (ht u h1).elim htd e) huv
theorem Srch.init (hB : ∀ x, B x ↔ S x) (ht : ∀ x, S x → td x) : Srch E S B td :=
  ⟨fun x hx => ⟨x, (hB x).1 hx, .refl x⟩, fun s hs => (hB s).2 hs, fun x y hx hn _ => absurd (ht x ((hB x).1 hx)) hn⟩
theorem Srch.congr (h : Srch E S B td) (hB : ∀ x, B x ↔ B' x) (ht : ∀ x, td x ↔ td' x) : Srch E S B' td' :=
  ⟨fun x hx => h.sound x ((hB x).2 hx), fun s hs => (hB s).1 (h.start s hs), fun x y hx hn hxy => (hB y).1 (h.closed x y ((hB x).2 hx) (fun ht' => hn ((ht x).1 ht')) hxy)⟩
end

/-- marks -/
def tru (B : List Bool) (x : Nat) : Prop := B.getD x false = true
theorem tru_set {B : List Bool} {i : Nat} (hi : i < B.length) {x : Nat} : tru (B.set i true) x ↔ tru B x ∨ x = i := by
  simp only [tru, List.getD_eq_getElem?_getD, List.getElem?_set]
  by_cases h : i = x
  · subst h; simp [hi]
  · simp [h, Ne.symm h]
theorem tru_get {B : List Bool} {i : Nat} (hi : i < B.length) : tru B i ↔ B[i] = true := by simp [tru, hi]
theorem tru_lt {B : List Bool} {x : Nat} (h : tru B x) : x < B.length := by
  by_cases hx : x < B.length
  · exact hx
  · simp [tru, List.getElem?_eq_none (Nat.le_of_not_lt hx)] at h
theorem count_set {B : List Bool} {i : Nat} (hi : i < B.length) (hb : B[i] = false) : (B.set i true).count false + 1 = B.count false := by
  rw [List.count_set hi, hb]
  have : 0 < B.count false := List.count_pos_iff.2 (hb ▸ List.getElem_mem hi)
  simp; omega
theorem count_replicate_false (n : Nat) : (List.replicate n false).count false = n := by simp
theorem tru_replicate {n x : Nat} : ¬ tru (List.replicate n false) x := by
  simp only [tru, List.getD_eq_getElem?_getD, List.getElem?_replicate]
  split <;> simp

/-- lists of successors -/
structure Adj (E : Nat → Nat → Prop) (G : List (List Int)) : Prop where
  lt : ∀ x y, E x y → x < G.length ∧ y < G.length
  mem : ∀ x (hx : x < G.length) z, z ∈ G[x] ↔ ∃ y : Nat, z = y ∧ E x y
theorem Adj.get {E : Nat → Nat → Prop} {G : List (List Int)} (h : Adj E G) {x j : Nat} (hx : x < G.length) (hj : j < G[x].length) : ∃ y : Nat, G[x][j] = (y : Int) ∧ E x y ∧ y < G.length := by
  obtain ⟨y, h1, h2⟩ := (h.mem x hx _).1 (List.getElem_mem hj)
  exact ⟨y, h1, h2, (h.lt x y h2).2⟩
theorem Adj.of {E : Nat → Nat → Prop} {G : List (List Int)} (h : Adj E G) {x y : Nat} (hxy : E x y) : ∃ (hx : x < G.length) (j : Nat) (hj : j < G[x].length), G[x][j] = (y : Int) := by
  have hx := (h.lt x y hxy).1
  obtain ⟨j, hj, h1⟩ := List.mem_iff_getElem.1 ((h.mem x hx y).2 ⟨y, rfl, hxy⟩)
  exact ⟨hx, j, hj, h1⟩
/-- all successors have been looked at -/
theorem Adj.all {E : Nat → Nat → Prop} {G : List (List Int)} (h : Adj E G) {x : Nat} (hx : x < G.length) {C : Nat → Prop} (hC : ∀ j (hj : j < G[x].length), ∀ y : Nat, G[x][j] = (y : Int) → C y) {y : Nat} (hxy : E x y) : C y := by
  obtain ⟨_, j, hj, h1⟩ := h.of hxy
  exact hC j hj y h1

/- counting the members of parts -/
theorem part_cycle {n : Nat} {E : Nat → Nat → Prop} {P : Nat → Int} (hP : ∀ x y, x < n → y < n → (P x = P y ↔ Scc E x y)) (hE : ∀ x y, E x y → x < n ∧ y < n) {x : Nat} (hx : x < n) :
    Cyc E x ↔ 1 < ((List.range n).filter fun y => P y = P x).length ∨ E x x := by
  rw [Cyc.iff, or_comm]
  have key : (∃ y, y ≠ x ∧ Scc E x y) ↔ 1 < ((List.range n).filter fun y => P y = P x).length := by
    constructor
    · rintro ⟨y, hne, hs⟩
      have hy : y < n := by
        have := hs.2
        cases this with
        | refl => exact hx
        | step h _ => exact (hE _ _ h).1
      have h1 : x ∈ (List.range n).filter fun y => P y = P x := by simp [hx]
      have h2 : y ∈ (List.range n).filter fun y => P y = P x := by simp [hy, ((hP x y hx hy).2 hs).symm]
      generalize (List.range n).filter (fun y => decide (P y = P x)) = l at h1 h2
      match l, h1, h2 with
      | [z], h1, h2 => simp at h1 h2; exact absurd (h2.trans h1.symm) hne
      | _ :: _ :: _, _, _ => simp
    · intro hlt
      have hnd : ((List.range n).filter fun y => P y = P x).Nodup := List.Pairwise.filter _ List.nodup_range
      have hm : ∀ y ∈ (List.range n).filter fun y => P y = P x, y < n ∧ P y = P x := by simp
      generalize (List.range n).filter (fun y => decide (P y = P x)) = l at hlt hnd hm
      match l, hlt, hnd, hm with
      | u :: v :: _, _, hnd, hm =>
        have huv : u ≠ v := by
          intro e; subst e; simp at hnd
        have hu := hm u (by simp)
        have hv := hm v (by simp)
        by_cases e : u = x
        · exact ⟨v, fun e2 => huv (e.trans e2.symm), (hP x v hx hv.1).1 hv.2.symm⟩
        · exact ⟨u, e, (hP x u hx hu.1).1 hu.2.symm⟩
  rw [key]

/-- the edges of an automaton, without letters -/
def Aut.E (a : Aut) (x y : Nat) : Prop := ∃ e ∈ a.edges, e.frm = x ∧ e.to = y
theorem Aut.E_lt {a : Aut} (ha : a.Ok) (x y : Nat) (h : a.E x y) : x < a.acc.length ∧ y < a.acc.length := by
  obtain ⟨e, he, h1, h2⟩ := h
  have := ha.2.2.2 e he
  unfold Tr.Ok at this
  omega
def Aut.Reach (a : Aut) (q : Nat) : Prop := ∃ s : Nat, (s : Int) ∈ a.init ∧ Rch a.E s q
def Aut.Live (a : Aut) (q : Nat) : Prop := ∃ t, Rch a.E q t ∧ Cyc a.E t ∧ tru a.acc t

/-- the number of a state among those that are kept -/
def kidx (K : Nat → Bool) (q : Nat) : Nat := ((List.range q).filter K).length
theorem kidx_succ {K : Nat → Bool} {q : Nat} : kidx K (q + 1) = kidx K q + if K q then 1 else 0 := by
  simp only [kidx, List.range_succ, List.filter_append, List.length_append, List.filter_cons, List.filter_nil]
  split <;> simp
theorem kidx_le {K : Nat → Bool} {q : Nat} : kidx K q ≤ q := by
  have := List.length_filter_le K (List.range q)
  simpa [kidx] using this
def Tr.ren (f : Int → Int) (e : Tr) : Tr := ⟨f e.frm, e.care, e.value, f e.to⟩
def kout (K : Nat → Bool) (x : Int) : Int := kidx K x.toNat
/-- what is left of an automaton when some states are kept -/
def Aut.keep (a : Aut) (K : Nat → Bool) : Aut :=
  if kidx K a.acc.length = 0 then ⟨[], [false], []⟩ else
    ⟨(a.init.filter fun q => K q.toNat).map (kout K), ((List.range a.acc.length).filter K).map fun q => a.acc.getD q false,
     (a.edges.filter fun e => K e.frm.toNat && K e.to.toNat).map (Tr.ren (kout K))⟩
theorem kidx_congr {K K' : Nat → Bool} {n q : Nat} (h : ∀ x, x < n → K x = K' x) (hq : q ≤ n) : kidx K q = kidx K' q := by
  unfold kidx
  rw [List.filter_congr]
  intro x hx
  exact h x (by have := List.mem_range.1 hx; omega)
theorem Aut.keep_congr {a : Aut} (ha : a.Ok) {K K' : Nat → Bool} (h : ∀ x, x < a.acc.length → K x = K' x) : a.keep K = a.keep K' := by
  have h0 := kidx_congr h (Nat.le_refl _)
  have hi : ∀ q ∈ a.init, q.toNat < a.acc.length := by
    intro q hq
    have := incr_mem ha.i q hq
    have := ha.n
    omega
  have he : ∀ e ∈ a.edges, e.frm.toNat < a.acc.length ∧ e.to.toNat < a.acc.length := by
    intro e he
    have := ha.2.2.2 e he
    unfold Tr.Ok at this
    omega
  have hk : ∀ x : Int, x.toNat < a.acc.length → kout K x = kout K' x := fun x hx => by
    unfold kout; rw [kidx_congr h (by omega)]
  unfold Aut.keep
  rw [h0]
  split
  · rfl
  · congr 1
    · rw [List.filter_congr (q := fun q => K' q.toNat) fun q hq => h _ (hi q hq)]
      apply List.map_congr_left
      intro q hq
      exact hk q (hi q (List.mem_filter.1 hq).1)
    · rw [List.filter_congr (q := K') fun q hq => h _ (by simpa using hq)]
    · rw [List.filter_congr (q := fun e => K' e.frm.toNat && K' e.to.toNat) fun e hee => by rw [h _ (he e hee).1, h _ (he e hee).2]]
      apply List.map_congr_left
      intro e hee
      have := he e (List.mem_filter.1 hee).1
      simp only [Tr.ren, hk _ this.1, hk _ this.2]
theorem incr_map {n m : Int} {K : Nat → Bool} : ∀ {lo lo' : Int} {l : List Int}, incr n lo l → (∀ x ∈ l, K x.toNat = true) → -1 ≤ lo → (0 ≤ lo → lo' < kidx K (lo.toNat + 1)) → (lo < 0 → lo' < 0) → (∀ x ∈ l, (kidx K (x.toNat + 1) : Int) ≤ m) → incr m lo' (l.map (kout K))
  | lo, lo', [], _, _, _, _, _, _ => trivial
  | lo, lo', x :: l, h, hK, h0, h1, h2, hm => by
    have hx := hK x (by simp)
    have hlx := h.1
    have mono : ∀ p q : Nat, p ≤ q → kidx K p ≤ kidx K q := by
      intro p q hpq
      induction hpq with
      | refl => exact Nat.le_refl _
      | step _ ih => rw [kidx_succ]; omega
    have hs := kidx_succ (K := K) (q := x.toNat)
    rw [if_pos hx] at hs
    have hmx := hm x (by simp)
    refine ⟨?_, ?_, incr_map h.2.2 (fun y hy => hK y (by simp [hy])) (by omega) (fun _ => ?_) (fun hneg => ?_) (fun y hy => hm y (by simp [hy]))⟩
    · unfold kout
      by_cases hl : 0 ≤ lo
      · have := h1 hl
        have := mono (lo.toNat + 1) x.toNat (by omega)
        omega
      · have := h2 (by omega); omega
    · unfold kout; omega
    · unfold kout; omega
    · omega
theorem incr_filter {n : Int} {p : Int → Bool} : ∀ {lo : Int} {l : List Int}, incr n lo l → incr n lo (l.filter p)
  | _, [], _ => trivial
  | lo, x :: l, h => by
    have weak : ∀ {lo lo' : Int} {l : List Int}, lo' ≤ lo → incr n lo l → incr n lo' l := by
      intro lo lo' l hle h
      cases l with
      | nil => trivial
      | cons y l => exact ⟨by have := h.1; omega, h.2.1, h.2.2⟩
    by_cases hp : p x = true
    · rw [List.filter_cons_of_pos hp]; exact ⟨h.1, h.2.1, incr_filter h.2.2⟩
    · rw [List.filter_cons_of_neg hp]; exact weak (by have := h.1; omega) (incr_filter h.2.2)
theorem kidx_mono {K : Nat → Bool} {p q : Nat} (hpq : p ≤ q) : kidx K p ≤ kidx K q := by
  induction hpq with
  | refl => exact Nat.le_refl _
  | step _ ih => rw [kidx_succ]; omega
theorem kout_lt {K : Nat → Bool} {n : Nat} {x : Int} (h0 : 0 ≤ x) (hx : x < n) (hK : K x.toNat = true) : kout K x < kidx K n := by
  have h1 := kidx_succ (K := K) (q := x.toNat)
  rw [if_pos hK] at h1
  have h2 := kidx_mono (K := K) (show x.toNat + 1 ≤ n by omega)
  unfold kout; omega
theorem Aut.keep_len {a : Aut} {K : Nat → Bool} (h : kidx K a.acc.length ≠ 0) : (a.keep K).acc.length = kidx K a.acc.length := by
  unfold Aut.keep
  rw [if_neg h]
  simp [kidx]
theorem Aut.keep_ok {a : Aut} (ha : a.Ok) (K : Nat → Bool) : (a.keep K).Ok := by
  by_cases h0 : kidx K a.acc.length = 0
  · simp [Aut.keep, h0, Aut.Ok, incr]
  have hl := Aut.keep_len h0
  have hn := ha.n
  refine ⟨?_, ?_, ?_, ?_⟩
  · rw [hl]
    have := kidx_le (K := K) (q := a.acc.length)
    omega
  · simp only [Aut.keep, h0, if_false, List.length_map]
    exact Nat.le_trans (List.length_filter_le _ _) ha.e
  · rw [hl]
    simp only [Aut.keep, h0, if_false]
    refine incr_map (incr_filter ha.i) (fun x hx => (List.mem_filter.1 hx).2) (by omega) (by omega) (by omega) ?_
    intro x hx
    have h1 := incr_mem ha.i x (List.mem_filter.1 hx).1
    have := kidx_mono (K := K) (show x.toNat + 1 ≤ a.acc.length by omega)
    omega
  · rw [hl]
    simp only [Aut.keep, h0, if_false]
    intro t ht
    obtain ⟨e, he, rfl⟩ := List.mem_map.1 ht
    obtain ⟨he, hk⟩ := List.mem_filter.1 he
    simp only [Bool.and_eq_true] at hk
    have h1 := ha.2.2.2 e he
    unfold Tr.Ok at h1 ⊢
    have h2 := kout_lt h1.1 h1.2.1 hk.1
    have h3 := kout_lt h1.2.2.1 h1.2.2.2.1 hk.2
    simp only [Tr.ren]
    refine ⟨?_, h2, ?_, h3, h1.2.2.2.2⟩ <;> (unfold kout; omega)
/-- trimmed -/
noncomputable def Aut.tkeep (a : Aut) : Nat → Bool := fun q => @decide (a.Reach q ∧ a.Live q) (Classical.propDecidable _)
theorem Aut.tkeep_iff {a : Aut} {q : Nat} : a.tkeep q = true ↔ a.Reach q ∧ a.Live q := by simp [Aut.tkeep]
noncomputable def Aut.trim (a : Aut) : Aut := a.keep a.tkeep
theorem Aut.trim_eq {a : Aut} (ha : a.Ok) {K : Nat → Bool} (h : ∀ q, q < a.acc.length → (K q = true ↔ a.Reach q ∧ a.Live q)) : a.keep K = a.trim :=
  Aut.keep_congr ha fun q hq => by rw [Bool.eq_iff_iff, h q hq, Aut.tkeep_iff]
end Go.Proofs.Ytknkjplnngeebaa
