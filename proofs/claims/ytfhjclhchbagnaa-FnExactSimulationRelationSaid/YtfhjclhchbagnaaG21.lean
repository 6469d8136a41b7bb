/-
  Facts for the simplifier about what is read; loops; functions that are handed on.
-/
import Derived.Test.YtfhjclhchbagnaaG20
namespace Go.Proofs.Ytfhjclhchbagnaa
open Go
set_option linter.all false
set_option linter.unusedVariables false
set_option linter.unusedSimpArgs false
set_option linter.defProp false

section
variable {α : Type} [Ty α] {h : Heap} {v : Value}
/-- the places of a slice's elements, and its length -/
theorem Rep.X {l : List α} (hr : Rep h v l) {n : Nat} (hn : n = Ty.sz α) : (∀ (kd : IntKind) (i : Nat), i < l.length → iaV n v (.int kd i) = some (elp n v i)) ∧ (∀ (kd : IntKind) (i : Int), 0 ≤ i → i < l.length → iaV n v (.int kd i) = some (elp n v i.toNat)) ∧ lenVV v = some (.int .i64 l.length) :=
  ⟨fun _ _ h1 => hr.ian hn h1, fun _ _ h0 h1 => hr.ia' hn h0 h1, hr.len⟩
end
section
variable {h : Heap} {v : Value}
theorem Rep.I {l : List Int} (hr : Rep h v l) : ((∀ (kd : IntKind) (i : Nat), i < l.length → iaV 1 v (.int kd i) = some (elp 1 v i)) ∧ (∀ (kd : IntKind) (i : Int), 0 ≤ i → i < l.length → iaV 1 v (.int kd i) = some (elp 1 v i.toNat)) ∧ lenVV v = some (.int .i64 l.length)) ∧
    ∀ (i : Nat) (hi : i < l.length), hload h (some (elp 1 v i)) none = some (.int .i64 l[i]) := ⟨hr.X rfl, fun _ hi => hr.ldI hi⟩
theorem Rep.B {l : List Bool} (hr : Rep h v l) : ((∀ (kd : IntKind) (i : Nat), i < l.length → iaV 1 v (.int kd i) = some (elp 1 v i)) ∧ (∀ (kd : IntKind) (i : Int), 0 ≤ i → i < l.length → iaV 1 v (.int kd i) = some (elp 1 v i.toNat)) ∧ lenVV v = some (.int .i64 l.length)) ∧
    ∀ (i : Nat) (hi : i < l.length), hload h (some (elp 1 v i)) none = some (.bool l[i]) := ⟨hr.X rfl, fun _ hi => hr.ldB hi⟩
theorem Rep.S {l : List ByteArray} (hr : Rep h v l) : ((∀ (kd : IntKind) (i : Nat), i < l.length → iaV 1 v (.int kd i) = some (elp 1 v i)) ∧ (∀ (kd : IntKind) (i : Int), 0 ≤ i → i < l.length → iaV 1 v (.int kd i) = some (elp 1 v i.toNat)) ∧ lenVV v = some (.int .i64 l.length)) ∧
    ∀ (i : Nat) (hi : i < l.length), hload h (some (elp 1 v i)) none = some (.string l[i]) := ⟨hr.X rfl, fun _ hi => hr.ldS hi⟩
theorem Rep.U {l : List (BitVec 64)} (hr : Rep h v l) : ((∀ (kd : IntKind) (i : Nat), i < l.length → iaV 1 v (.int kd i) = some (elp 1 v i)) ∧ (∀ (kd : IntKind) (i : Int), 0 ≤ i → i < l.length → iaV 1 v (.int kd i) = some (elp 1 v i.toNat)) ∧ lenVV v = some (.int .i64 l.length)) ∧
    ∀ (i : Nat) (hi : i < l.length), hload h (some (elp 1 v i)) none = some (.int .u64 l[i].toNat) := ⟨hr.X rfl, fun _ hi => hr.ldU hi⟩
/-- a list of lists: where an element's header lies -/
theorem Rep.ldL {α : Type} [Ty α] {l : List (List α)} (hr : Rep h v l) {i : Nat} (hi : i < l.length) : ∃ u, hload h (some (elp 1 v i)) none = some u ∧ Rep h u l[i] := hr.ld hi
end

theorem IteW.mkr {p A B : Prop} (h2 : ¬ p → B) (h1 : p → A) : IteW p A B := ⟨h1, h2⟩

/-- THE LOOP over a state of plain data: 'Enc s' says how the state lies in the environment and the memory; 'm' goes down -/
theorem wp_while {P : Program} {Q : Ex → Env → Heap → Prop} {e : Env} {h : Heap} {n : Nat} {fg : List Nat} {a : C} {σ : Type} (Enc : σ → Env → Heap → Prop) (m : σ → Nat) (s0 : σ) (h0 : Enc s0 (efgt (e.take n) fg) h)
    (hs : ∀ (J : Env → Heap → Prop) s e h, (∀ s' e h, m s' < m s → Enc s' e h → J e h) → Enc s e h → a.wp P (loopQ n fg J Q) e h) : (C.loop n fg a).wp P Q e h := by
  refine wp_loop (fun k e h => ∃ s, m s = k ∧ Enc s e h) ⟨_, s0, rfl, h0⟩ ?_
  rintro I' k e h hI ⟨s, rfl, hE⟩
  exact hs I' s e h (fun s' e h hlt hE => hI (m s') e h hlt ⟨s', rfl, hE⟩) hE

/-- a step in between: what holds behind the first part -/
theorem wp_cut {P : Program} {Q : Ex → Env → Heap → Prop} {e : Env} {h : Heap} {a b : C} (M : Env → Heap → Prop) (ha : ∀ J : Env → Heap → Prop, (∀ e h, M e h → J e h) → a.wp P (fun x e h => match x with
      | .nrm => J e h
      | x => Q x e h) e h) (hb : ∀ e h, M e h → b.wp P Q e h) : (C.seq a b).wp P Q e h := by
  rw [wp_seq]
  refine C.wp_mono a ?_ (ha (fun e h => b.wp P Q e h) hb)
  intro x e h hx
  cases x <;> exact hx

end Go.Proofs.Ytfhjclhchbagnaa
