/-
  Plain laws of automata: which are valid, unions, and the greatest simulation.
-/
import Derived.Test.YtknkjplnngeebaaD1
namespace Go.Proofs.Ytknkjplnngeebaa
open Go
set_option linter.all false
set_option linter.unusedVariables false
set_option linter.unusedSimpArgs false
set_option linter.defProp false
set_option maxRecDepth 1000000

/-- a list of numbers that rises, from above lo to below n -/
def incr (n : Int) : Int → List Int → Prop
  | _, [] => True
  | lo, x :: l => lo < x ∧ x < n ∧ incr n x l
instance decIncr (n : Int) : ∀ (lo : Int) (l : List Int), Decidable (incr n lo l)
  | _, [] => inferInstanceAs (Decidable True)
  | lo, x :: l => @instDecidableAnd _ _ _ (@instDecidableAnd _ _ _ (decIncr n x l))
theorem incr_len {n : Int} : ∀ {lo : Int} {l : List Int}, incr n lo l → lo < n → lo + l.length < n
  | lo, [], _, h => by simpa using h
  | lo, x :: l, h, _ => by
    have := incr_len h.2.2 h.2.1
    have := h.1
    simp; omega
theorem incr_mem {n : Int} : ∀ {lo : Int} {l : List Int}, incr n lo l → ∀ x ∈ l, lo < x ∧ x < n
  | lo, y :: l, h, x, hx => by
    rcases List.mem_cons.1 hx with rfl | hx
    · exact ⟨h.1, h.2.1⟩
    · have := incr_mem h.2.2 x hx
      have := h.1
      omega

def Tr.Ok (n : Int) (t : Tr) : Prop := 0 ≤ t.frm ∧ t.frm < n ∧ 0 ≤ t.to ∧ t.to < n ∧ 0 ≤ t.care ∧ t.care ≤ 7 ∧ 0 ≤ t.value ∧ andI .i64 t.value t.care = t.value
instance (n : Int) (t : Tr) : Decidable (t.Ok n) := by unfold Tr.Ok; infer_instance
def Aut.Ok (a : Aut) : Prop := (1 ≤ a.acc.length ∧ a.acc.length ≤ 64) ∧ a.edges.length ≤ 2048 ∧ incr a.acc.length (-1) a.init ∧ ∀ t ∈ a.edges, t.Ok a.acc.length
instance (a : Aut) : Decidable a.Ok := by unfold Aut.Ok; infer_instance
theorem Aut.Ok.n {a : Aut} (h : a.Ok) : 1 ≤ a.acc.length ∧ a.acc.length ≤ 64 := h.1
theorem Aut.Ok.e {a : Aut} (h : a.Ok) : a.edges.length ≤ 2048 := h.2.1
theorem Aut.Ok.i {a : Aut} (h : a.Ok) : incr a.acc.length (-1) a.init := h.2.2.1
theorem Aut.Ok.t {a : Aut} (h : a.Ok) {i : Nat} (hi : i < a.edges.length) : a.edges[i].Ok a.acc.length := h.2.2.2 _ (List.getElem_mem hi)
theorem Aut.Ok.il {a : Aut} (h : a.Ok) : a.init.length ≤ 64 := by
  have h1 := incr_len h.i (by have := h.n; omega)
  have := h.n
  omega
theorem Aut.Ok.im {a : Aut} (h : a.Ok) {i : Nat} (hi : i < a.init.length) : 0 ≤ a.init[i] ∧ a.init[i] < a.acc.length := by
  have h1 := incr_mem h.i _ (List.getElem_mem hi)
  omega

/-- whether an edge takes a letter -/
def Tr.on (t : Tr) (letter : Int) : Bool := decide (andI .i64 letter t.care = t.value)
def Tr.shift (n : Int) (t : Tr) : Tr := ⟨t.frm + n, t.care, t.value, t.to + n⟩
def Aut.empty : Aut := ⟨[], [], []⟩
def Aut.unite (a b : Aut) : Aut := ⟨a.init ++ b.init.map (· + (a.acc.length : Int)), a.acc ++ b.acc, a.edges ++ b.edges.map (Tr.shift a.acc.length)⟩

/- SIMULATION -/
abbrev Rl := Nat → Nat → Bool
/-- the edges that leave i are answered by those that leave j, in a relation -/
def Ans (a : Aut) (R : Rl) (i j : Nat) : Prop := ∀ l : Nat, l < 8 → ∀ e ∈ a.edges, e.frm = i → e.on l = true → ∃ f ∈ a.edges, f.frm = j ∧ f.on l = true ∧ R e.to.toNat f.to.toNat = true
def AccR (a : Aut) (R : Rl) : Prop := ∀ i j, i < a.acc.length → j < a.acc.length → R i j = true → a.acc.getD i false = true → a.acc.getD j false = true
def Simu (a : Aut) (R : Rl) : Prop := AccR a R ∧ ∀ i j, i < a.acc.length → j < a.acc.length → R i j = true → Ans a R i j
/-- a relation that holds every simulation -/
def Upper (a : Aut) (R : Rl) : Prop := ∀ S, Simu a S → ∀ i j, i < a.acc.length → j < a.acc.length → S i j = true → R i j = true
structure Great (a : Aut) (R : Rl) : Prop where
  simu : Simu a R
  upper : Upper a R
theorem Great.eq {a : Aut} {R S : Rl} (hR : Great a R) (hS : Great a S) {i j : Nat} (hi : i < a.acc.length) (hj : j < a.acc.length) : R i j = S i j := by
  cases h1 : R i j <;> cases h2 : S i j <;> try rfl
  · exact absurd (hR.upper S hS.simu i j hi hj h2) (by simp [h1])
  · exact absurd (hS.upper R hR.simu i j hi hj h1) (by simp [h2])

def Rl.rem (R : Rl) (i j : Nat) : Rl := fun x y => R x y && !(decide (x = i) && decide (y = j))
theorem Rl.rem_le {R : Rl} {i j x y : Nat} (h : R.rem i j x y = true) : R x y = true := by
  simp only [Rl.rem, Bool.and_eq_true] at h; exact h.1
theorem Ans.mono {a : Aut} {R S : Rl} (ha : a.Ok) {i j : Nat} (hRS : ∀ x y, x < a.acc.length → y < a.acc.length → R x y = true → S x y = true) (h : Ans a R i j) : Ans a S i j := by
  intro l hl e he hi ho
  obtain ⟨f, hf, h1, h2, h3⟩ := h l hl e he hi ho
  have h4 := ha.2.2.2 e he
  have h5 := ha.2.2.2 f hf
  unfold Tr.Ok at h4 h5
  exact ⟨f, hf, h1, h2, hRS _ _ (by omega) (by omega) h3⟩
theorem Upper.rem {a : Aut} {R : Rl} (ha : a.Ok) (hR : Upper a R) {i j : Nat} (hn : ¬ Ans a R i j) : Upper a (R.rem i j) := by
  intro S hS x y hx hy h
  have h1 := hR S hS x y hx hy h
  by_cases hxy : x = i ∧ y = j
  · obtain ⟨rfl, rfl⟩ := hxy
    exact absurd ((hS.2 x y hx hy h).mono ha fun u v hu hv huv => hR S hS u v hu hv huv) hn
  · simp only [Rl.rem, h1, Bool.true_and, Bool.not_eq_true', Bool.and_eq_false_imp, decide_eq_true_eq, decide_eq_false_iff_not]
    exact fun h2 h3 => hxy ⟨h2, h3⟩
theorem AccR.rem {a : Aut} {R : Rl} (h : AccR a R) (i j : Nat) : AccR a (R.rem i j) := fun x y hx hy hr => h x y hx hy (Rl.rem_le hr)

theorem Great.congr {a : Aut} {R S : Rl} (ha : a.Ok) (h : Great a R) (he : ∀ x y, x < a.acc.length → y < a.acc.length → R x y = S x y) : Great a S :=
  ⟨⟨fun i j hi hj hr => h.simu.1 i j hi hj (by rw [he i j hi hj]; exact hr),
    fun i j hi hj hr => (h.simu.2 i j hi hj (by rw [he i j hi hj]; exact hr)).mono ha fun x y hx hy hxy => by rw [← he x y hx hy]; exact hxy⟩,
   fun T hT i j hi hj hr => by rw [← he i j hi hj]; exact h.upper T hT i j hi hj hr⟩

/-- how many pairs a relation holds -/
def cnt2 (n : Nat) (R : Rl) : Nat := ((List.range n).map fun i => ((List.range n).filter fun j => R i j).length).sum
theorem sum_lt_of {α : Type} {f g : α → Nat} : ∀ {l : List α}, (∀ x ∈ l, f x ≤ g x) → (∃ x ∈ l, f x < g x) → (l.map f).sum < (l.map g).sum
  | [], _, h => by obtain ⟨x, hx, _⟩ := h; simp at hx
  | y :: l, h, ⟨x, hx, hlt⟩ => by
    have hy := h y (by simp)
    have hle : (l.map f).sum ≤ (l.map g).sum := by
      have : ∀ l : List α, (∀ x ∈ l, f x ≤ g x) → (l.map f).sum ≤ (l.map g).sum := by
        intro l
        induction l with
        | nil => simp
        | cons z l ih =>
          intro h
          have h1 := h z (by simp)
          have h2 := ih fun x hx => h x (by simp [hx])
          simp; omega
      exact this l fun x hx => h x (by simp [hx])
    rcases List.mem_cons.1 hx with rfl | hx
    · simp; omega
    · have := sum_lt_of (l := l) (fun x hx => h x (by simp [hx])) ⟨x, hx, hlt⟩
      simp; omega
theorem filter_le_of {α : Type} {p q : α → Bool} (h : ∀ x, p x = true → q x = true) : ∀ l : List α, (l.filter p).length ≤ (l.filter q).length
  | [] => by simp
  | x :: l => by
    have := filter_le_of h l
    cases hp : p x
    · cases hq : q x <;> simp [List.filter_cons, hp, hq] <;> omega
    · simp [List.filter_cons, hp, h x hp]; omega
theorem filter_lt_of {α : Type} {p q : α → Bool} (h : ∀ x, p x = true → q x = true) : ∀ {l : List α}, (∃ x ∈ l, p x = false ∧ q x = true) → (l.filter p).length < (l.filter q).length
  | [], hx => by obtain ⟨x, hx, _⟩ := hx; simp at hx
  | y :: l, ⟨x, hx, h1, h2⟩ => by
    rcases List.mem_cons.1 hx with rfl | hx
    · have := filter_le_of h l
      simp [List.filter_cons, h1, h2]; omega
    · have := filter_lt_of h (l := l) ⟨x, hx, h1, h2⟩
      cases hp : p y
      · cases hq : q y <;> simp [List.filter_cons, hp, hq] <;> omega
      · simp [List.filter_cons, hp, h y hp]; omega
theorem cnt2_rem {n : Nat} {R : Rl} {i j : Nat} (hi : i < n) (hj : j < n) (h : R i j = true) : cnt2 n (R.rem i j) < cnt2 n R := by
  refine sum_lt_of ?_ ⟨i, by simpa using hi, ?_⟩
  · intro x _
    exact filter_le_of (fun y hy => Rl.rem_le hy) _
  · exact filter_lt_of (fun y hy => Rl.rem_le hy) ⟨j, by simpa using hj, by simp [Rl.rem], h⟩

/-- where the search for the greatest simulation stands: 'c': something has been taken away since the pass began; all pairs ahead of (i, j) have been looked at -/
structure Pass (a : Aut) (R0 R : Rl) (c : Bool) (i j : Nat) : Prop where
  acc : AccR a R
  upper : Upper a R
  less : c = true → cnt2 a.acc.length R < cnt2 a.acc.length R0
  same : c = false → R = R0 ∧ ∀ x y, x < a.acc.length → y < a.acc.length → (x < i ∨ (x = i ∧ y < j)) → R x y = true → Ans a R x y
theorem Pass.start {a : Aut} {R : Rl} (h1 : AccR a R) (h2 : Upper a R) : Pass a R R false 0 0 := ⟨h1, h2, by simp, fun _ => ⟨rfl, fun x y _ _ h => by omega⟩⟩
theorem Pass.keep {a : Aut} {R0 R : Rl} {c : Bool} {i j : Nat} (h : Pass a R0 R c i j) (hk : R i j = true → Ans a R i j) : Pass a R0 R c i (j + 1) :=
  ⟨h.acc, h.upper, h.less, fun hc => ⟨(h.same hc).1, fun x y hx hy hxy hr => by
    by_cases h2 : x = i ∧ y = j
    · obtain ⟨rfl, rfl⟩ := h2; exact hk hr
    · exact (h.same hc).2 x y hx hy (by omega) hr⟩⟩
theorem Pass.rem {a : Aut} {R0 R : Rl} {c : Bool} {i j : Nat} (ha : a.Ok) (h : Pass a R0 R c i j) (hi : i < a.acc.length) (hj : j < a.acc.length) (hr : R i j = true) (hn : ¬ Ans a R i j) : Pass a R0 (R.rem i j) true i (j + 1) :=
  ⟨h.acc.rem i j, h.upper.rem ha hn, fun _ => by
    have h1 := cnt2_rem hi hj hr
    cases hc : c
    · rw [← (h.same hc).1]; exact h1
    · exact Nat.lt_trans h1 (h.less hc), by simp⟩
theorem Pass.next {a : Aut} {R0 R : Rl} {c : Bool} {i j : Nat} (h : Pass a R0 R c i j) (hj : a.acc.length ≤ j) : Pass a R0 R c (i + 1) 0 :=
  ⟨h.acc, h.upper, h.less, fun hc => ⟨(h.same hc).1, fun x y hx hy hxy hr => (h.same hc).2 x y hx hy (by omega) hr⟩⟩
theorem Pass.done {a : Aut} {R0 R : Rl} {i j : Nat} (h : Pass a R0 R false i j) (hi : a.acc.length ≤ i) : Great a R :=
  ⟨⟨h.acc, fun x y hx hy hr => (h.same rfl).2 x y hx hy (by omega) hr⟩, h.upper⟩

/-- the first relation: by acceptance alone -/
def acc0 (a : Aut) : Rl := fun i j => !a.acc.getD i false || a.acc.getD j false
theorem acc0_acc (a : Aut) : AccR a (acc0 a) := by
  intro i j _ _ h h1
  simp only [acc0, h1] at h
  simpa using h
theorem acc0_upper (a : Aut) : Upper a (acc0 a) := by
  intro S hS i j hi hj h
  have h1 := hS.1 i j hi hj h
  simp only [acc0]
  cases h2 : a.acc.getD i false
  · simp
  · rw [h1 h2]; simp
end Go.Proofs.Ytknkjplnngeebaa
