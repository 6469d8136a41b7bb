/-
  Texts of this proof, one behind the other.
-/
import Derived.WalkKit
import Derived.ProofKit
import Derived.OpenShut
import Derived.Carry
import Derived.Deep.Slices
import Derived.SizedLaws
import Derived.Test.YthgimpheeemooaaGreatRows
import Derived.Test.YthgimpheeemooaaGreatM2
/-
  How the weakest preconditions are computed; what a value stands for; the memory as a list of pieces that are owned.
-/
namespace Go.Proofs.YthgimpheeemooaaGreat
open Go
set_option linter.all false
set_option linter.unusedVariables false
set_option linter.unusedSimpArgs false
set_option linter.defProp false
set_option maxRecDepth 1000000
universe u

/-- what must hold where a function ends -/
def retQ (res : List (Nat × Option (Option Nat))) (k : Value → Heap → Prop) (x : Ex) (e : Env) (h : Heap) : Prop :=
  match x with
  | .exit _ => False
  | _ => ∃ vs, resV e res = some vs ∧ ∃ h2, h2.le h ∧ k (tupV vs) h2

/-- what is returned; a part of the heap may be forgotten -/
def RetK (k : Value → Heap → Prop) (v : Value) (h : Heap) : Prop := ∃ h2, h2.le h ∧ k v h2
theorem RetK.keep {k : Value → Heap → Prop} {v : Value} {h : Heap} (hk : k v h) : RetK k v h := ⟨h, fun _ _ hb => hb, hk⟩
theorem RetK.drop {k : Value → Heap → Prop} {v : Value} {h h2 : Heap} (hl : h2.le h) (hk : k v h2) : RetK k v h := ⟨h2, hl, hk⟩

/-- a value that must be there, and what holds of it: the simplifier goes into the latter only when the value is known -/
def ExW {α : Type} (x : Option α) (k : α → Prop) : Prop := ∃ v, x = some v ∧ k v
@[simp] theorem ExW_some {α : Type} {v : α} {k : α → Prop} : ExW (some v) k = k v := by simp [ExW]
theorem ExW.mk {α : Type} {x : Option α} {k : α → Prop} {v : α} (hx : x = some v) (hk : k v) : ExW x k := ⟨v, hx, hk⟩
/-- a condition, and what holds behind it -/
def AndW (p A : Prop) : Prop := p ∧ A
@[simp] theorem AndW_true {A : Prop} : AndW True A = A := by simp [AndW]
theorem AndW.mk {p A : Prop} (hp : p) (hA : A) : AndW p A := ⟨hp, hA⟩
/-- the function that a value stands for -/
def fnOf : Value → Option (FuncId × List Value × List Value)
  | .func (.func f) first cap => some (f, first.toList, cap.toList)
  | _ => none

/-- two ways -/
def IteW (p A B : Prop) : Prop := (p → A) ∧ (¬ p → B)
theorem IteW.mk {p A B : Prop} (h1 : p → A) (h2 : ¬ p → B) : IteW p A B := ⟨h1, h2⟩
@[simp] theorem IteW_true {A B : Prop} : IteW True A B = A := by simp [IteW]
@[simp] theorem IteW_false {A B : Prop} : IteW False A B = B := by simp [IteW]
@[simp] theorem IteW_not {p A B : Prop} : IteW (¬ p) A B = IteW p B A := by simp [IteW, And.comm]
theorem IteW_neg {p A B : Prop} (h : ¬ p) : IteW p A B = B := by simp [IteW, h]
def condW (v : Option Value) (A B : Prop) : Prop := ∃ t, v = some (.bool t) ∧ IteW (t = true) A B
@[simp] theorem condW_bool {b : Bool} {A B : Prop} : condW (some (.bool b)) A B = IteW (b = true) A B := by simp [condW]

theorem A.wp_mono {P : Program} {k k' : Env → Heap → Prop} (hk : ∀ e h, k e h → k' e h) {e : Env} {h : Heap} {x : A} (hx : x.wp P k e h) : x.wp P k' e h := by
  cases x <;> simp only [A.wp] at hx ⊢
  case px => obtain ⟨v, h1, h2⟩ := hx; exact ⟨v, h1, hk _ _ h2⟩
  case ld => obtain ⟨v, h1, h2⟩ := hx; exact ⟨v, h1, hk _ _ h2⟩
  case ex => exact EX.wp_mono (fun v h' ⟨h2, hl, h3⟩ => ⟨h2, hl, hk _ _ h3⟩) hx
  case pnew => obtain ⟨v, h1, h2⟩ := hx; exact ⟨v, h1, hk _ _ h2⟩
  case pget => obtain ⟨v, h1, h2⟩ := hx; exact ⟨v, h1, hk _ _ h2⟩
  case pset => obtain ⟨h0, v, h1, h2⟩ := hx; exact ⟨h0, v, h1, hk _ _ h2⟩
  case als => exact ⟨hx.1, hx.2.1, hk _ _ hx.2.2⟩
  case psl => obtain ⟨v, h1, h2⟩ := hx; exact ⟨v, h1, hk _ _ h2⟩

theorem S.wp_mono {P : Program} {k k' : Env → Heap → Prop} (hk : ∀ e h, k e h → k' e h) {e : Env} {h : Heap} {s : S} (hx : s.wp P k e h) : s.wp P k' e h := by
  cases s with
  | act g x =>
    cases g with
    | none => exact A.wp_mono hk hx
    | some g =>
      simp only [S.wp] at hx ⊢
      obtain ⟨b, h1, h2⟩ := hx
      refine ⟨b, h1, ?_⟩
      cases hv : x.val e h with
      | none => rw [hv] at h2; exact ⟨fun hb => A.wp_mono hk (h2.1 hb), fun hb => hk _ _ (h2.2 hb)⟩
      | some dv => rw [hv] at h2; exact ⟨h2.1, hk _ _ h2.2⟩
  | re d a sz g =>
    cases g with
    | none => exact ⟨hx.1, hk _ _ hx.2⟩
    | some g => obtain ⟨b, h1, h2, h3⟩ := hx; exact ⟨b, h1, h2, hk _ _ h3⟩
  | ext n m => exact hk _ _ hx

theorem Pl.wp_mono {P : Program} {k k' : Env → Heap → Prop} (hk : ∀ e h, k e h → k' e h) : ∀ (p : Pl) {e : Env} {h : Heap}, p.wp P k e h → p.wp P k' e h
  | .done, _, _, hx => hk _ _ hx
  | .st _ n, _, _, hx => S.wp_mono (fun _ _ => Pl.wp_mono hk n) hx
  | .both a b, _, _, hx => ⟨Pl.wp_mono hk a hx.1, Pl.wp_mono hk b hx.2⟩

theorem C.wp_mono {P : Program} : ∀ (c : C) {Q Q' : Ex → Env → Heap → Prop} (_ : ∀ x e h, Q x e h → Q' x e h) {e : Env} {h : Heap}, c.wp P Q e h → c.wp P Q' e h
  | .skip, _, _, hQ, _, _, hx => hQ _ _ _ hx
  | .pl p, _, _, hQ, _, _, hx => Pl.wp_mono (hQ .nrm) p hx
  | .seq a b, _, _, hQ, _, _, hx => C.wp_mono a (fun x e h => by cases x <;> first | exact hQ _ _ _ | exact C.wp_mono b hQ) hx
  | .cond n o a b, _, _, hQ, _, _, ⟨t, h1, h2, h3⟩ => ⟨t, h1, fun ht => C.wp_mono a hQ (h2 ht), fun ht => C.wp_mono b hQ (h3 ht)⟩
  | .block id a, _, _, hQ, _, _, hx => C.wp_mono a (fun x e h hx => by
      cases x with
      | exit i =>
        by_cases hi : i = id
        · simp only [if_pos hi] at hx ⊢; exact hQ _ _ _ hx
        · simp only [if_neg hi] at hx ⊢; exact hQ _ _ _ hx
      | nrm => exact hQ _ _ _ hx
      | ret => exact hQ _ _ _ hx) hx
  | .loop n fg a, _, _, hQ, _, _, ⟨I, h0, hs⟩ => ⟨I, h0, fun m e h hI => C.wp_mono a (fun x e h hx => by
      cases x with
      | nrm => exact hx
      | exit i => exact hQ _ _ _ hx
      | ret => exact hQ _ _ _ hx) (hs m e h hI)⟩
  | .exit _, _, _, hQ, _, _, hx => hQ _ _ _ hx
  | .ret, _, _, hQ, _, _, hx => hQ _ _ _ hx

section
variable {P : Program} {Q : Ex → Env → Heap → Prop} {e : Env} {h : Heap}

def seqQ (P : Program) (b : C) (Q : Ex → Env → Heap → Prop) (x : Ex) (e : Env) (h : Heap) : Prop :=
  match x with
  | .nrm => b.wp P Q e h
  | x => Q x e h
def blockQ (id : Nat) (Q : Ex → Env → Heap → Prop) (x : Ex) (e : Env) (h : Heap) : Prop :=
  match x with
  | .exit i => if i = id then Q .nrm e h else Q (.exit i) e h
  | x => Q x e h
def loopQ (n : Nat) (fg : List Nat) (I : Env → Heap → Prop) (Q : Ex → Env → Heap → Prop) (x : Ex) (e : Env) (h : Heap) : Prop :=
  match x with
  | .nrm => I (efgt (e.take n) fg) h
  | x => Q x e h

@[simp] theorem seqQ_nrm {b : C} : seqQ P b Q .nrm e h = b.wp P Q e h := rfl
@[simp] theorem seqQ_ret {b : C} : seqQ P b Q .ret e h = Q .ret e h := rfl
@[simp] theorem seqQ_exit {b : C} {i : Nat} : seqQ P b Q (.exit i) e h = Q (.exit i) e h := rfl
@[simp] theorem blockQ_nrm {i : Nat} : blockQ i Q .nrm e h = Q .nrm e h := rfl
@[simp] theorem blockQ_ret {i : Nat} : blockQ i Q .ret e h = Q .ret e h := rfl
@[simp] theorem blockQ_exit {i j : Nat} : blockQ i Q (.exit j) e h = if j = i then Q .nrm e h else Q (.exit j) e h := rfl
@[simp] theorem loopQ_nrm {n : Nat} {fg : List Nat} {I : Env → Heap → Prop} : loopQ n fg I Q .nrm e h = I (efgt (e.take n) fg) h := rfl
@[simp] theorem loopQ_ret {n : Nat} {fg : List Nat} {I : Env → Heap → Prop} : loopQ n fg I Q .ret e h = Q .ret e h := rfl
@[simp] theorem loopQ_exit {n : Nat} {fg : List Nat} {I : Env → Heap → Prop} {i : Nat} : loopQ n fg I Q (.exit i) e h = Q (.exit i) e h := rfl
@[simp] theorem retQ_nrm {res : List (Nat × Option (Option Nat))} {k : Value → Heap → Prop} : retQ res k .nrm e h = ExW (resV e res) (fun vs => RetK k (tupV vs) h) := rfl
@[simp] theorem retQ_ret {res : List (Nat × Option (Option Nat))} {k : Value → Heap → Prop} : retQ res k .ret e h = ExW (resV e res) (fun vs => RetK k (tupV vs) h) := rfl
@[simp] theorem retQ_exit {res : List (Nat × Option (Option Nat))} {k : Value → Heap → Prop} {i : Nat} : retQ res k (.exit i) e h = False := rfl

theorem wp_skip : C.skip.wp P Q e h = Q .nrm e h := rfl
theorem wp_pl {p : Pl} : (C.pl p).wp P Q e h = p.wp P (Q .nrm) e h := rfl
theorem wp_seq {a b : C} : (C.seq a b).wp P Q e h = a.wp P (seqQ P b Q) e h := by
  simp only [C.wp]
  congr 1
theorem wp_cond {n : Nat} {o : O} {a b : C} : (C.cond n o a b).wp P Q e h = condW (o.get e) (a.wp P Q (e.take n) h) (b.wp P Q (e.take n) h) := by
  simp [C.wp, condW, IteW]
theorem wp_block {i : Nat} {a : C} : (C.block i a).wp P Q e h = a.wp P (blockQ i Q) e h := by
  simp only [C.wp]
  congr 1
theorem wp_exit {i : Nat} : (C.exit i).wp P Q e h = Q (.exit i) e h := rfl
theorem wp_ret : C.ret.wp P Q e h = Q .ret e h := rfl

/-- THE RULE OF THE LOOP -/
theorem wp_loop {n : Nat} {fg : List Nat} {a : C} (I : Nat → Env → Heap → Prop) (h0 : ∃ m, I m (efgt (e.take n) fg) h)
    (hs : ∀ (I' : Env → Heap → Prop) m e h, (∀ m' e h, m' < m → I m' e h → I' e h) → I m e h → a.wp P (loopQ n fg I' Q) e h) : (C.loop n fg a).wp P Q e h := by
  refine ⟨I, h0, fun m e h hI => ?_⟩
  have h1 := hs (fun e' h' => ∃ m', m' < m ∧ I m' e' h') m e h (fun m' e h hm hI => ⟨m', hm, hI⟩) hI
  have h2 : (fun (x : Ex) (e' : Env) (h' : Heap) => match x with
        | .nrm => ∃ m', m' < m ∧ I m' (efgt (e'.take n) fg) h'
        | x => Q x e' h') = loopQ n fg (fun e' h' => ∃ m', m' < m ∧ I m' e' h') Q := by
    funext x e' h'
    cases x <;> rfl
  exact h2 ▸ h1

/-- a loop that counts up to a bound -/
theorem wp_count {n : Nat} {fg : List Nat} {a : C} (N : Nat) (J : Nat → Env → Heap → Prop) (h0 : J 0 (efgt (e.take n) fg) h)
    (hs : ∀ (J' : Env → Heap → Prop) i e h, (∀ e h, i < N → J (i + 1) e h → J' e h) → i ≤ N → J i e h → a.wp P (loopQ n fg J' Q) e h) : (C.loop n fg a).wp P Q e h := by
  refine wp_loop (fun m e h => ∃ i, i ≤ N ∧ m = N - i ∧ J i e h) ⟨N, 0, by omega, by omega, h0⟩ ?_
  rintro I' m e h hI ⟨i, hi, rfl, hJ⟩
  exact hs I' i e h (fun e h hlt hJ => hI (N - (i + 1)) e h (by omega) ⟨i + 1, hlt, rfl, hJ⟩) hi hJ

theorem pl_done {k : Env → Heap → Prop} : Pl.done.wp P k e h = k e h := rfl
theorem pl_st {s : S} {n : Pl} {k : Env → Heap → Prop} : (Pl.st s n).wp P k e h = s.wp P (n.wp P k) e h := rfl
theorem s_act {x : A} {k : Env → Heap → Prop} : (S.act none x).wp P k e h = x.wp P k e h := rfl
/-- two ways by a guard: the guard's value is simplified, the two ways are not, until the guard is known -/
def gvw (w : Bool) : Option Value → Option Bool
  | some (.bool b) => some (b == w)
  | some _ => some false
  | none => none
def guardW (v : Option Value) (w : Bool) (A B : Prop) : Prop := ∃ b, gvw w v = some b ∧ (b = true → A) ∧ (b = false → B)
@[congr] theorem guardW_congr {v v' : Option Value} {w : Bool} {A B : Prop} (hv : v = v') : guardW v w A B = guardW v' w A B := by rw [hv]
@[simp] theorem guardW_tt {A B : Prop} : guardW (some (.bool true)) true A B = A := by simp [guardW, gvw]
@[simp] theorem guardW_ff {A B : Prop} : guardW (some (.bool false)) false A B = A := by simp [guardW, gvw]
@[simp] theorem guardW_tf {A B : Prop} : guardW (some (.bool true)) false A B = B := by simp [guardW, gvw]
@[simp] theorem guardW_ft {A B : Prop} : guardW (some (.bool false)) true A B = B := by simp [guardW, gvw]
@[simp] theorem guardW_undef {w : Bool} {A B : Prop} : guardW (some undef) w A B = B := by simp [guardW, gvw, undef]
theorem gcond_gvw {o : O} {w : Bool} : gcond e (some (o, w)) = gvw w (o.get e) := by
  simp only [gcond]
  cases o.get e with
  | none => rfl
  | some v => cases v <;> rfl
theorem s_gp {v : Option Value} {d : Option Nat} {b : Bool} {k : Env → Heap → Prop} : ((b = true → v.isSome = true) ∧ k (dput d (gval b v) e) h) ↔ ((b = true → ∃ u, v = some u ∧ k (dput d (some u) e) h) ∧ (b = false → k (dput d (some undef) e) h)) := by
  cases b
  · simp [gval]
  · cases v <;> simp [gval]
theorem s_g {o : O} {w : Bool} {x : A} {k : Env → Heap → Prop} : (S.act (some (o, w)) x).wp P k e h = guardW (o.get e) w (x.wp P k e h) (k (dput x.dst (some undef) e) h) := by
  have key : ∀ b : Bool, (match x.val e h with
    | some (d, v) => (b = true → v.isSome = true) ∧ k (dput d (gval b v) e) h
    | none => (b = true → x.wp P k e h) ∧ (b = false → k (dput x.dst (some undef) e) h)) ↔ (b = true → x.wp P k e h) ∧ (b = false → k (dput x.dst (some undef) e) h) := by
    intro b
    cases x
    case px => exact s_gp
    case ld => exact s_gp
    case pget => exact s_gp
    all_goals exact Iff.rfl
  apply propext
  constructor
  · rintro ⟨b, h1, h2⟩; exact ⟨b, gcond_gvw ▸ h1, (key b).1 h2⟩
  · rintro ⟨b, h1, h2⟩; exact ⟨b, gcond_gvw ▸ h1, (key b).2 h2⟩
theorem s_re {d : Nat} {a : O} {sz : Option Nat} {k : Env → Heap → Prop} : (S.re d a sz none).wp P k e h = AndW (hload h (a.get e) sz = eget e d) (k e h) := rfl
theorem s_reg {d : Nat} {a : O} {sz : Option Nat} {g : O × Bool} {k : Env → Heap → Prop} : (S.re d a sz (some g)).wp P k e h =
    ∃ b, gcond e (some g) = some b ∧ (b = true → hload h (a.get e) sz = eget e d) ∧ k e h := rfl
theorem s_ext {n m : Nat} {k : Env → Heap → Prop} : (S.ext n m).wp P k e h = k (eext n m e) h := rfl

theorem a_px {d : Option Nat} {x : PX} {k : Env → Heap → Prop} : (A.px d x).wp P k e h = ExW (x.ev e) (fun v => k (dput d (some v) e) h) := rfl
theorem a_ld {d : Option Nat} {a : O} {sz : Option Nat} {k : Env → Heap → Prop} : (A.ld d a sz).wp P k e h = ExW (hload h (a.get e) sz) (fun v => k (dput d (some v) e) h) := rfl
theorem a_pnew {i : Nat} {x : O} {cl : List Nat} {k : Env → Heap → Prop} : (A.pnew i x cl).wp P k e h = ExW (x.get e) (fun v => k (efgt (eset e i (some v)) cl) h) := rfl
theorem a_pget {d c : Option Nat} {i off : Nat} {sz : Option Nat} {k : Env → Heap → Prop} : (A.pget d c i off sz).wp P k e h = ExW (pgetC e c i off sz) (fun v => k (dput d (some v) e) h) := rfl
theorem a_pset {c : Option Nat} {i off sz : Nat} {x : O} {k : Env → Heap → Prop} : (A.pset c i off sz x).wp P k e h = AndW (aok e c = true) (ExW (psetV (eget e i) off sz (x.get e)) (fun v => k (eset e i (some v)) h)) := rfl
theorem a_als {d : Nat} {c : Option Nat} {i : Nat} {k : Env → Heap → Prop} : (A.als d c i).wp P k e h = AndW (aok e c = true) (AndW ((eget e i).isSome = true) (k (eset e d (some (.bool true))) h)) := rfl
theorem a_psl {d : Nat} {z : List Value} {ps : List (Nat × Nat × O)} {k : Env → Heap → Prop} : (A.psl d z ps).wp P k e h = ExW (fillP e z ps) (fun cs => k (eset e d (some (.agg cs.toArray))) h) := rfl

/- effects -/
theorem a_call {d : Option Nat} {f : FuncId} {args : List O} {k : Env → Heap → Prop} : (A.ex d (.call f args)).wp P k e h = ExW (ogets e args) (fun vs => CallE P f vs h fun v h' => Fgt k (dput d (some v) e) h') := rfl
theorem a_callv {d : Option Nat} {fo : O} {args : List O} {k : Env → Heap → Prop} : (A.ex d (.callv fo args)).wp P k e h =
    ExW ((fo.get e).bind fnOf) (fun c => ExW (ogets e args) (fun vs => CallE P c.1 (c.2.1 ++ vs ++ c.2.2) h fun v h' => Fgt k (dput d (some v) e) h')) := by
  apply propext
  constructor
  · rintro ⟨f, first, cap, vs, h1, h2, h3⟩
    exact ⟨(f, first.toList, cap.toList), by rw [h1]; rfl, vs, h2, h3⟩
  · rintro ⟨⟨f, first, cap⟩, h1, vs, h2, h3⟩
    cases hf : fo.get e with
    | none => rw [hf] at h1; simp at h1
    | some v =>
      rw [hf] at h1
      simp only [Option.bind_some] at h1
      unfold fnOf at h1
      split at h1
      · simp only [Option.some.injEq, Prod.mk.injEq] at h1
        obtain ⟨rfl, rfl, rfl⟩ := h1
        exact ⟨_, _, _, vs, hf, h2, h3⟩
      · simp at h1
@[simp] theorem fnOf_func {f : FuncId} {a b : Array Value} : fnOf (.func (.func f) a b) = some (f, a.toList, b.toList) := rfl
/- the environment -/
@[simp] theorem eget_zero {x : Option Value} {l : Env} : eget (x :: l) 0 = x := rfl
@[simp] theorem eget_succ {x : Option Value} {l : Env} {n : Nat} : eget (x :: l) (n + 1) = eget l n := rfl
@[simp] theorem eset_zero {x v : Option Value} {l : Env} : eset (x :: l) 0 v = v :: l := rfl
@[simp] theorem eset_succ {x v : Option Value} {l : Env} {n : Nat} : eset (x :: l) (n + 1) v = x :: eset l n v := rfl
@[simp] theorem efgt_nil {l : Env} : efgt l [] = l := rfl
@[simp] theorem efgt_cons {l : Env} {i : Nat} {r : List Nat} : efgt l (i :: r) = efgt (eset l i none) r := rfl
@[simp] theorem eext_zero {m : Nat} {l : Env} : eext 0 m l = List.replicate m none := rfl
@[simp] theorem eext_succ {n m : Nat} {x : Option Value} {l : Env} : eext (n + 1) m (x :: l) = x :: eext n m l := rfl
@[simp] theorem get_v {i : Nat} : (O.v i).get e = eget e i := rfl
@[simp] theorem get_c {x : Value} : (O.c x).get e = some x := rfl
@[simp] theorem ogets_nil : ogets e [] = some [] := rfl
@[simp] theorem dput_none {v : Option Value} : dput none v e = e := rfl
@[simp] theorem dput_some {i : Nat} {v : Option Value} : dput (some i) v e = eset e i v := rfl
@[simp] theorem gval_true {v : Option Value} : gval true v = v := rfl
@[simp] theorem gval_false {v : Option Value} : gval false v = some undef := rfl
@[simp] theorem tupV_one {v : Value} : tupV [v] = v := rfl
@[simp] theorem tupV_two {v u : Value} {l : List Value} : tupV (v :: u :: l) = .tuple (v :: u :: l).toArray := rfl

theorem le_refl' : h.le h := fun _ _ hb => hb
theorem Fgt.keep {k : Env → Heap → Prop} (hk : k e h) : Fgt k e h := ⟨h, le_refl', hk⟩
theorem Fgt.drop {k : Env → Heap → Prop} {h' : Heap} (hl : h'.le h) (hk : k e h') : Fgt k e h := ⟨h', hl, hk⟩

theorem wrap64 {n : Int} (h1 : -9223372036854775808 ≤ n) (h2 : n < 9223372036854775808) : IntKind.i64.wrap n = n := by
  rw [IntKind.wrap_i64]; omega
end

/- values in private boxes -/
def allOne : List Value → Bool
  | [] => true
  | v :: l => v.oneCell' && allOne l
@[simp] theorem allOne_nil : allOne [] = true := rfl
@[simp] theorem allOne_cons {v : Value} {l : List Value} : allOne (v :: l) = (v.oneCell' && allOne l) := rfl
theorem allOne_eq : ∀ l, List.all l Value.oneCell' = allOne l
  | [] => rfl
  | v :: l => by simp [allOne, allOne_eq l]
@[simp] theorem cells_agg {c : Array Value} : (Value.agg c).cells = c := rfl
@[simp] theorem cells_int {k : IntKind} {n : Int} : (Value.int k n).cells = #[.int k n] := rfl
@[simp] theorem cells_bool {b : Bool} : (Value.bool b).cells = #[.bool b] := rfl
@[simp] theorem cells_string {b : ByteArray} : (Value.string b).cells = #[.string b] := rfl
@[simp] theorem cells_slice {p : Option Addr} {n c : Nat} : (Value.slice p n c).cells = #[.slice p n c] := rfl
@[simp] theorem cells_pointer {p : Option Addr} : (Value.pointer p).cells = #[.pointer p] := rfl
@[simp] theorem cells_map {p : Option Nat} : (Value.map p).cells = #[.map p] := rfl
@[simp] theorem cells_func {f : Fn} {a b : Array Value} : (Value.func f a b).cells = #[.func f a b] := rfl
@[simp] theorem cells_nilFunc : Value.nilFunc.cells = #[.nilFunc] := rfl
@[simp] theorem pgetV_agg {c : Array Value} {off : Nat} : pgetV (some (.agg c)) off none = c.toList[off]? := rfl
@[simp] theorem pgetV_aggs {c : Array Value} {off n : Nat} : pgetV (some (.agg c)) off (some n) = if off = 0 ∧ c.size = n then some (.agg c) else partV c.toList off (some n) := rfl
@[simp] theorem pgetV_int {k : IntKind} {n : Int} : pgetV (some (.int k n)) 0 none = some (.int k n) := rfl
@[simp] theorem pgetV_bool {b : Bool} : pgetV (some (.bool b)) 0 none = some (.bool b) := rfl
@[simp] theorem pgetV_string {b : ByteArray} : pgetV (some (.string b)) 0 none = some (.string b) := rfl
@[simp] theorem pgetV_slice {p : Option Addr} {n c : Nat} : pgetV (some (.slice p n c)) 0 none = some (.slice p n c) := rfl
@[simp] theorem psetV_agg {c : Array Value} {off sz : Nat} {x : Value} : psetV (some (.agg c)) off sz (some x) = if x.cells.size = sz ∧ off + sz ≤ c.size ∧ allOne x.cells.toList = true then
    some (if off = 0 ∧ sz = c.size then .agg x.cells else .agg (setC c.toList off x.cells.toList).toArray) else none := by
  rw [← allOne_eq]; rfl
@[simp] theorem psetV_int {k : IntKind} {n : Int} {x : Value} : psetV (some (.int k n)) 0 1 (some x) = if x.cells.size = 1 ∧ allOne x.cells.toList = true then x.cells[0]? else none := by
  rw [← allOne_eq]
  simp only [psetV, cells_int]
  simp
@[simp] theorem psetV_bool {b : Bool} {x : Value} : psetV (some (.bool b)) 0 1 (some x) = if x.cells.size = 1 ∧ allOne x.cells.toList = true then x.cells[0]? else none := by
  rw [← allOne_eq]
  simp only [psetV, cells_bool]
  simp
@[simp] theorem psetV_string {b : ByteArray} {x : Value} : psetV (some (.string b)) 0 1 (some x) = if x.cells.size = 1 ∧ allOne x.cells.toList = true then x.cells[0]? else none := by
  rw [← allOne_eq]
  simp only [psetV, cells_string]
  simp
@[simp] theorem psetV_slice {p : Option Addr} {n c : Nat} {x : Value} : psetV (some (.slice p n c)) 0 1 (some x) = if x.cells.size = 1 ∧ allOne x.cells.toList = true then x.cells[0]? else none := by
  rw [← allOne_eq]
  simp only [psetV, cells_slice]
  simp
@[simp] theorem one_int {k : IntKind} {n : Int} : (Value.int k n).oneCell' = true := rfl
@[simp] theorem one_bool {b : Bool} : (Value.bool b).oneCell' = true := rfl
@[simp] theorem one_string {b : ByteArray} : (Value.string b).oneCell' = true := rfl
@[simp] theorem one_slice {p : Option Addr} {n c : Nat} : (Value.slice p n c).oneCell' = true := rfl
@[simp] theorem one_pointer {p : Option Addr} : (Value.pointer p).oneCell' = true := rfl
@[simp] theorem one_map {p : Option Nat} : (Value.map p).oneCell' = true := rfl
@[simp] theorem one_func {f : Fn} {a b : Array Value} : (Value.func f a b).oneCell' = true := rfl
@[simp] theorem one_nilFunc : Value.nilFunc.oneCell' = true := rfl

attribute [simp] wp_skip wp_pl wp_seq wp_cond wp_block wp_exit wp_ret pl_done pl_st s_act s_g A.dst s_re s_reg s_ext
  a_px a_ld a_pnew a_pget a_pset a_als a_psl a_call a_callv PX.ev gcond env0 binV intV strV unV resV ogets pgetC aok eqB eqL fillP partV
/-- what is to be shown of a call, kept closed while the body is walked -/
theorem CallE.gen {P : Program} {f : FuncId} {args : List Value} {h : Heap} {Q : Value → Heap → Prop} (hg : ∀ k : Value → Heap → Prop, (∀ v h', Q v h' → k v h') → CallE P f args h k) : CallE P f args h Q := hg Q fun _ _ hq => hq
theorem CallE.to {P : Program} {f : FuncId} {args : List Value} {h : Heap} {Q k : Value → Heap → Prop} (hc : CallE P f args h Q) (hk : ∀ v h', Q v h' → k v h') : CallE P f args h k := CallE.mono hk hc

def Heap.nil : Heap := fun _ => none
def Heap.one (b : Nat) (o : Obj) : Heap := fun x => if x = b then some o else none
/-- what stands where two parts of a heap clash: never met where they are apart -/
def clash : Obj := .map #[] 0
def oplus : Option Obj → Option Obj → Option Obj
  | none, y => y
  | some x, none => some x
  | some _, some _ => some clash
def Heap.add (h r : Heap) : Heap := fun b => oplus (h b) (r b)
/-- apart -/
def Dj (h r : Heap) : Prop := ∀ b, h b = none ∨ r b = none

section
variable {a b c h h' r r' : Heap}

@[simp] theorem oplus_none {x : Option Obj} : oplus x none = x := by cases x <;> rfl
@[simp] theorem none_oplus {x : Option Obj} : oplus none x = x := rfl
@[simp] theorem oplus_eq_none {x y : Option Obj} : oplus x y = none ↔ x = none ∧ y = none := by cases x <;> cases y <;> simp [oplus]
@[simp] theorem add_nil : h.add Heap.nil = h := by funext b; simp [Heap.add, Heap.nil]
@[simp] theorem nil_add : Heap.nil.add h = h := by funext b; simp [Heap.add, Heap.nil]
theorem add_assoc : (a.add b).add c = a.add (b.add c) := by
  funext x
  simp only [Heap.add]
  cases a x <;> cases b x <;> cases c x <;> rfl
theorem add_comm : a.add b = b.add a := by
  funext x
  simp only [Heap.add]
  cases a x <;> cases b x <;> rfl
instance : Std.Associative Heap.add := ⟨fun _ _ _ => add_assoc⟩
instance : Std.Commutative Heap.add := ⟨fun _ _ => add_comm⟩
theorem Dj.symm (d : Dj a b) : Dj b a := fun x => (d x).symm
theorem Dj.comm (_ : Dj a b) : a.add b = b.add a := add_comm
@[simp] theorem Dj_nil : Dj h Heap.nil := fun _ => .inr rfl
@[simp] theorem nil_Dj : Dj Heap.nil h := fun _ => .inl rfl
theorem Dj_add : Dj h (a.add b) ↔ Dj h a ∧ Dj h b := by
  constructor
  · intro d
    constructor <;> intro x <;> rcases d x with h1 | h1
    · exact .inl h1
    · simp only [Heap.add, oplus_eq_none] at h1; exact .inr h1.1
    · exact .inl h1
    · simp only [Heap.add, oplus_eq_none] at h1; exact .inr h1.2
  · rintro ⟨d1, d2⟩ x
    rcases d1 x with h1 | h1
    · exact .inl h1
    · rcases d2 x with h2 | h2
      · exact .inl h2
      · exact .inr (by simp [Heap.add, h1, h2])
theorem add_Dj : Dj (a.add b) h ↔ Dj a h ∧ Dj b h :=
  ⟨fun d => ⟨(Dj_add.1 d.symm).1.symm, (Dj_add.1 d.symm).2.symm⟩, fun d => (Dj_add.2 ⟨d.1.symm, d.2.symm⟩).symm⟩
theorem Dj_one {b : Nat} {o : Obj} : Dj h (Heap.one b o) ↔ h b = none := by
  constructor
  · intro d
    rcases d b with h1 | h1
    · exact h1
    · simp [Heap.one] at h1
  · intro h1 x
    by_cases hx : x = b
    · subst hx; exact .inl h1
    · exact .inr (by simp [Heap.one, hx])
theorem one_Dj {b : Nat} {o : Obj} : Dj (Heap.one b o) h ↔ h b = none := ⟨fun d => Dj_one.1 d.symm, fun d => (Dj_one.2 d).symm⟩
theorem set_new {b : Nat} {o : Obj} (hb : h b = none) : h.set b o = h.add (Heap.one b o) := by
  funext x
  by_cases hx : x = b
  · subst hx; simp [Heap.set, Heap.add, Heap.one, hb]
  · simp [Heap.set, Heap.add, Heap.one, hx]
theorem set_one {b : Nat} {o o' : Obj} (hb : h b = none) : (h.add (Heap.one b o)).set b o' = h.add (Heap.one b o') := by
  funext x
  by_cases hx : x = b
  · subst hx; simp [Heap.set, Heap.add, Heap.one, hb]
  · simp [Heap.set, Heap.add, Heap.one, hx]
theorem add_one_set {b : Nat} {o o' : Obj} (hb : h b = none) (hr : r b = none) : (h.add ((Heap.one b o).add r)).set b o' = h.add ((Heap.one b o').add r) := by
  funext x
  by_cases hx : x = b
  · subst hx; simp [Heap.set, Heap.add, Heap.one, hb, hr]
  · simp [Heap.set, Heap.add, Heap.one, hx]

theorem Heap.le.refl (h : Heap) : h.le h := fun _ _ hb => hb
theorem Heap.le.trans (h1 : a.le b) (h2 : b.le c) : a.le c := fun x o hb => h2 x o (h1 x o hb)
theorem le_add (d : Dj h r) : h.le (h.add r) := fun x o hb => by
  rcases d x with h1 | h1
  · rw [h1] at hb; simp at hb
  · simp [Heap.add, h1, hb]
theorem le_add' (d : Dj h r) : r.le (h.add r) := add_comm (a := h) ▸ le_add d.symm
theorem le_drop (d0 : Dj h r) (d : Dj r c) : (h.add c).le ((h.add r).add c) := by
  intro x o hb
  simp only [Heap.add] at hb ⊢
  rcases d x with h1 | h1
  · simpa [h1] using hb
  · rcases d0 x with h2 | h2
    · rw [h1, h2] at hb; simp at hb
    · simpa [h2] using hb
theorem add_swap (_ : Dj a b) : (h.add a).add b = (h.add b).add a := by rw [add_assoc, add_comm (a := a), add_assoc]
theorem Dj.le (d : Dj h r) (hl : h'.le h) : Dj h' r := fun x => by
  rcases d x with h1 | h1
  · cases hx : h' x with
    | none => exact .inl rfl
    | some o => rw [hl x o hx] at h1; simp at h1
  · exact .inr h1
theorem hcell_le {i off : Nat} {v : Value} (hl : h.le h') (hc : hcell h i off = some v) : hcell h' i off = some v := by
  unfold hcell at hc ⊢
  split at hc
  · rename_i c el fr hb
    rw [hl _ _ hb]
    exact hc
  · simp at hc
theorem hcells_le {i : Nat} : ∀ {n off : Nat} {l : List Value} (_ : h.le h') (_ : hcells h i off n = some l), hcells h' i off n = some l
  | 0, _, _, _, hc => hc
  | n + 1, off, l, hl, hc => by
    simp only [hcells] at hc ⊢
    split at hc
    · rename_i v r hv hr
      rw [hcell_le hl hv, hcells_le hl hr]
      exact hc
    · simp at hc
theorem hload_le {p : Option Value} {sz : Option Nat} {v : Value} (hl : h.le h') (hc : hload h p sz = some v) : hload h' p sz = some v := by
  unfold hload at hc ⊢
  split at hc
  · split at hc
    · exact hcell_le hl hc
    · simp only [Option.map_eq_some_iff] at hc ⊢
      obtain ⟨l, h1, h2⟩ := hc
      exact ⟨l, hcells_le hl h1, h2⟩
  · simp at hc
theorem hcells_mk {i : Nat} {c : Array Value} {el : TypeId} {fr : Nat × Nat} (hb : h i = some (.cells c el fr)) : ∀ {n off : Nat}, off + n ≤ c.size → hcells h i off n = some ((c.toList.drop off).take n)
  | 0, _, _ => by simp [hcells]
  | n + 1, off, ho => by
    simp only [hcells]
    rw [hcells_mk hb (n := n) (off := off + 1) (by omega)]
    have h1 : hcell h i off = some c[off] := by simp [hcell, hb]
    rw [h1]
    simp only [Option.some.injEq]
    rw [List.drop_eq_getElem_cons (by simp; omega : off < c.toList.length)]
    simp
end

/-- PLAIN DATA: how a piece of it is laid out in cells. 'rep': what it reaches is only read. 'own': the part of the heap holds just what it reaches -/
class Ty (α : Type) where
  agg : Bool
  sz : Nat
  rep : Heap → List Value → α → Prop
  own : Heap → List Value → α → Prop
  one : agg = false → sz = 1
  len : ∀ {h cs x}, rep h cs x → cs.length = sz
  cell : ∀ {h cs x}, rep h cs x → ∀ v ∈ cs, v.oneCell' = true
  mono : ∀ {h h' cs x}, Heap.le h h' → rep h cs x → rep h' cs x
  own_rep : ∀ {r cs x}, own r cs x → rep r cs x

/-- the value of some cells -/
def valC (agg : Bool) (cs : List Value) : Value := if agg then .agg cs.toArray else cs.headD undef
def Rep {α : Type} [Ty α] (h : Heap) (v : Value) (x : α) : Prop := ∃ cs, v = valC (Ty.agg α) cs ∧ Ty.rep h cs x
def Own {α : Type} [Ty α] (r : Heap) (v : Value) (x : α) : Prop := ∃ cs, v = valC (Ty.agg α) cs ∧ Ty.own r cs x
def szo (α : Type) [Ty α] : Option Nat := if Ty.agg α then some (Ty.sz α) else none

section
variable {α : Type} [Ty α] {h h' r : Heap} {v : Value} {x : α}
theorem Rep.le (hr : Rep h v x) (hl : h.le h') : Rep h' v x := by
  obtain ⟨cs, h1, h2⟩ := hr
  exact ⟨cs, h1, Ty.mono hl h2⟩
theorem Own.rep (ho : Own r v x) : Rep r v x := by
  obtain ⟨cs, h1, h2⟩ := ho
  exact ⟨cs, h1, Ty.own_rep h2⟩
theorem Own.rep' (ho : Own r v x) (d : Dj h r) : Rep (h.add r) v x := ho.rep.le (le_add' d)
theorem Rep.add (hr : Rep h v x) (d : Dj h r) : Rep (h.add r) v x := hr.le (le_add d)
theorem valC_cells {cs : List Value} (h1 : Ty.agg α = false → cs.length = 1) (h2 : ∀ v ∈ cs, v.oneCell' = true) : (valC (Ty.agg α) cs).cells.toList = cs := by
  unfold valC
  cases ha : Ty.agg α with
  | true => rfl
  | false =>
    have := h1 ha
    match cs, this with
    | [u], _ =>
      have h3 := h2 u (by simp)
      cases u <;> first | rfl | simp [Value.oneCell'] at h3
theorem rep_cells {cs : List Value} (hr : Ty.rep h cs x) : (valC (Ty.agg α) cs).cells.toList = cs :=
  valC_cells (fun ha => by rw [Ty.len hr, Ty.one ha]) (Ty.cell hr)
end

/-- owned elements, one behind the other -/
def ownL {α : Type} [Ty α] : List α → List Value → Heap → Prop
  | [], _, r => r = Heap.nil
  | x :: l, cs, r => ∃ r1 r2, r = r1.add r2 ∧ Dj r1 r2 ∧ Ty.own r1 (cs.take (Ty.sz α)) x ∧ ownL l (cs.drop (Ty.sz α)) r2

def okP (p : Option Addr) : Prop := p = none ∨ ∃ b off, p = some ⟨b, off, none⟩

section
variable {α : Type} [Ty α]
/-- elements that are only read -/
def repL (h : Heap) (p : Option Addr) (l : List α) : Prop := ∀ i (hi : i < l.length), ∃ b off vs, p = some ⟨b, off, none⟩ ∧ hcells h b (off + i * Ty.sz α) (Ty.sz α) = some vs ∧ Ty.rep h vs l[i]

theorem repL_le {h h' : Heap} {p : Option Addr} {l : List α} (hl : h.le h') (hr : repL h p l) : repL h' p l := fun i hi => by
  obtain ⟨b, off, vs, h1, h2, h3⟩ := hr i hi
  exact ⟨b, off, vs, h1, hcells_le hl h2, Ty.mono hl h3⟩

theorem ownL_at : ∀ {l : List α} {cs : List Value} {r : Heap}, ownL l cs r → ∀ i (hi : i < l.length), ∃ r1 r2, r = r1.add r2 ∧ Dj r1 r2 ∧ Ty.own r1 ((cs.drop (i * Ty.sz α)).take (Ty.sz α)) l[i] ∧
    ∀ r1' c' y, Dj r1' r2 → Ty.own r1' c' y → ownL (l.set i y) (setC cs (i * Ty.sz α) c') (r1'.add r2)
  | [], _, _, _, i, hi => by simp at hi
  | x :: l, cs, r, ho, 0, _ => by
    obtain ⟨r1, r2, h1, h2, h3, h4⟩ := ho
    refine ⟨r1, r2, h1, h2, by simpa using h3, ?_⟩
    intro r1' c' y d o'
    have hlen := Ty.len (Ty.own_rep o')
    refine ⟨r1', r2, rfl, d, ?_, ?_⟩
    · simpa [setC, List.take_append, hlen] using o'
    · simpa [setC, List.drop_append, hlen] using h4
  | x :: l, cs, r, ho, i + 1, hi => by
    obtain ⟨r1, r2, h1, h2, h3, h4⟩ := ho
    obtain ⟨s1, s2, g1, g2, g3, g4⟩ := ownL_at h4 i (by simpa using hi)
    subst h1; subst g1
    obtain ⟨d1, d2⟩ := Dj_add.1 h2
    refine ⟨s1, r1.add s2, ?_, ?_, ?_, ?_⟩
    · rw [← add_assoc, d1.comm, add_assoc]
    · exact Dj_add.2 ⟨d1.symm, g2⟩
    · simpa [List.drop_drop, Nat.add_mul, Nat.add_comm] using g3
    · intro r1' c' y d o'
      obtain ⟨e1, e2⟩ := Dj_add.1 d
      have hlen := Ty.len (Ty.own_rep h3)
      have hlen' := Ty.len (Ty.own_rep o')
      have hcs : Ty.sz α ≤ cs.length := by
        have := hlen
        simp at this
        omega
      have ha : (i + 1) * Ty.sz α = Ty.sz α + i * Ty.sz α := by rw [Nat.add_mul]; omega
      refine ⟨r1, r1'.add s2, ?_, Dj_add.2 ⟨e1.symm, d2⟩, ?_, ?_⟩
      · rw [← add_assoc, e1.comm, add_assoc]
      · have : (setC cs ((i + 1) * Ty.sz α) c').take (Ty.sz α) = cs.take (Ty.sz α) := by
          rw [setC, ha, List.append_assoc, List.take_append_of_le_length (by simp; omega), List.take_take]
          congr 1; omega
        rw [this]; exact h3
      · have : (setC cs ((i + 1) * Ty.sz α) c').drop (Ty.sz α) = setC (cs.drop (Ty.sz α)) (i * Ty.sz α) c' := by
          unfold setC
          rw [ha, List.append_assoc, List.drop_append_of_le_length (by simp; omega), List.drop_take, List.append_assoc, List.drop_drop]
          congr 2
          · omega
          · congr 1; omega
        rw [this]
        exact g4 r1' c' y e2 o'

theorem ownL_sub {l : List α} {cs : List Value} {r : Heap} (ho : ownL l cs r) (i : Nat) (hi : i < l.length) : Ty.rep r ((cs.drop (i * Ty.sz α)).take (Ty.sz α)) l[i] := by
  obtain ⟨r1, r2, h1, h2, h3, _⟩ := ownL_at ho i hi
  subst h1
  exact Ty.mono (le_add h2) (Ty.own_rep h3)

theorem ownL_len : ∀ {l : List α} {cs : List Value} {r : Heap}, ownL l cs r → l.length * Ty.sz α ≤ cs.length
  | [], _, _, _ => by simp
  | x :: l, cs, r, ho => by
    obtain ⟨r1, r2, h1, h2, h3, h4⟩ := ho
    have := ownL_len h4
    have hlen := Ty.len (Ty.own_rep h3)
    simp at this hlen ⊢
    rw [Nat.add_mul]
    omega

theorem ownL_congr : ∀ {l : List α} {cs cs' : List Value} {r : Heap}, ownL l cs r → cs.take (l.length * Ty.sz α) = cs'.take (l.length * Ty.sz α) → ownL l cs' r
  | [], _, _, _, ho, _ => ho
  | x :: l, cs, cs', r, ho, he => by
    obtain ⟨r1, r2, h1, h2, h3, h4⟩ := ho
    have ha : (x :: l).length * Ty.sz α = Ty.sz α + l.length * Ty.sz α := by simp [Nat.add_mul]; omega
    rw [ha] at he
    refine ⟨r1, r2, h1, h2, ?_, ?_⟩
    · have := congrArg (List.take (Ty.sz α)) he
      rw [List.take_take, List.take_take, Nat.min_eq_left (by omega)] at this
      rw [← this]; exact h3
    · refine ownL_congr h4 ?_
      have := congrArg (List.drop (Ty.sz α)) he
      rw [List.drop_take, List.drop_take] at this
      simpa using this

theorem ownL_append : ∀ {l l2 : List α} {cs cs2 : List Value} {r r2 : Heap}, ownL l cs r → cs.length = l.length * Ty.sz α → ownL l2 cs2 r2 → Dj r r2 → ownL (l ++ l2) (cs ++ cs2) (r.add r2)
  | [], l2, cs, cs2, r, r2, ho, hc, h2, _ => by
    have : cs = [] := by simpa using hc
    subst this
    have hr : r = Heap.nil := ho
    subst hr
    simpa using h2
  | x :: l, l2, cs, cs2, r, r2, ho, hc, h2, d => by
    obtain ⟨s1, s2, e1, e2, e3, e4⟩ := ho
    subst e1
    obtain ⟨d1, d2⟩ := add_Dj.1 d
    have hlen := Ty.len (Ty.own_rep e3)
    have ha : cs.length = Ty.sz α + l.length * Ty.sz α := by rw [hc]; simp [Nat.add_mul]; omega
    refine ⟨s1, s2.add r2, by rw [add_assoc], Dj_add.2 ⟨e2, d1⟩, ?_, ?_⟩
    · rw [List.take_append_of_le_length (by omega)]; exact e3
    · rw [List.drop_append_of_le_length (by omega)]
      exact ownL_append e4 (by simp; omega) h2 d2

theorem ownL_reps {z : List Value} {y : α} (hz : Ty.own Heap.nil z y) : ∀ n, ownL (List.replicate n y) (reps n z) Heap.nil
  | 0 => rfl
  | n + 1 => by
    have hlen := Ty.len (Ty.own_rep hz)
    refine ⟨Heap.nil, Heap.nil, by simp, by simp, ?_, ?_⟩
    · simpa [reps, List.replicate_succ, List.take_append, hlen] using hz
    · simpa [reps, List.replicate_succ, List.drop_append, hlen] using ownL_reps hz n
end

section
variable {α : Type} [Ty α]

def repS (h : Heap) (cs : List Value) (l : List α) : Prop := ∃ p cap, cs = [.slice p l.length cap] ∧ (l.length ≤ cap ∧ l.length < 4611686018427387904) ∧ True ∧ repL h p l
def ownS (r : Heap) (cs : List Value) (l : List α) : Prop :=
  (∃ p, cs = [.slice p 0 0] ∧ l = [] ∧ r = Heap.nil ∧ okP p) ∨
  ∃ (b off cap : Nat) (cells : List Value) (el : TypeId) (r' : Heap), cs = [.slice (some ⟨b, off, none⟩) l.length cap] ∧ (l.length ≤ cap ∧ l.length < 4611686018427387904) ∧ off + cap * Ty.sz α ≤ cells.length ∧
    r = (Heap.one b (.cells cells.toArray el (0, 0))).add r' ∧ r' b = none ∧ ownL l (cells.drop off) r'

theorem ownS_rep {r : Heap} {cs : List Value} {l : List α} (ho : ownS r cs l) : repS r cs l := by
  rcases ho with ⟨p, h1, h2, h3, h4⟩ | ⟨b, off, cap, cells, el, r', h1, h2, h3, h4, h5, h6⟩
  · subst h2
    exact ⟨p, 0, h1, by simp, trivial, fun i hi => by simp at hi⟩
  · refine ⟨_, cap, h1, h2, trivial, ?_⟩
    intro i hi
    subst h4
    have hb : ((Heap.one b (.cells cells.toArray el (0, 0))).add r') b = some (.cells cells.toArray el (0, 0)) := by simp [Heap.add, Heap.one, h5]
    have hsz : i * Ty.sz α + Ty.sz α ≤ cap * Ty.sz α := by
      rw [← Nat.succ_mul]
      exact Nat.mul_le_mul_right _ (by have := h2.1; omega)
    refine ⟨b, off, _, rfl, hcells_mk hb (by simp; omega), ?_⟩
    have := ownL_sub h6 i hi
    rw [List.drop_drop] at this
    exact Ty.mono (le_add' (one_Dj.2 h5)) this

instance instTyList : Ty (List α) where
  agg := false
  sz := 1
  rep := repS
  own := ownS
  one := fun _ => rfl
  len := by rintro h cs x ⟨p, cap, rfl, _⟩; rfl
  cell := by rintro h cs x ⟨p, cap, rfl, _⟩ v hv; simp at hv; subst hv; rfl
  mono := by
    rintro h h' cs x hl ⟨p, cap, h1, h2, h3, h4⟩
    exact ⟨p, cap, h1, h2, h3, repL_le hl h4⟩
  own_rep := ownS_rep
end

instance instTyInt : Ty Int where
  agg := false
  sz := 1
  rep := fun _ cs n => cs = [.int .i64 n] ∧ -9223372036854775808 ≤ n ∧ n < 9223372036854775808
  own := fun r cs n => r = Heap.nil ∧ cs = [.int .i64 n] ∧ -9223372036854775808 ≤ n ∧ n < 9223372036854775808
  one := fun _ => rfl
  len := by rintro h cs x ⟨rfl, _⟩; rfl
  cell := by rintro h cs x ⟨rfl, _⟩ v hv; simp at hv; subst hv; rfl
  mono := fun _ hr => hr
  own_rep := fun ho => ho.2

instance instTyBool : Ty Bool where
  agg := false
  sz := 1
  rep := fun _ cs n => cs = [.bool n]
  own := fun r cs n => r = Heap.nil ∧ cs = [.bool n]
  one := fun _ => rfl
  len := by rintro h cs x rfl; rfl
  cell := by rintro h cs x rfl v hv; simp at hv; subst hv; rfl
  mono := fun _ hr => hr
  own_rep := fun ho => ho.2

instance instTyStr : Ty ByteArray where
  agg := false
  sz := 1
  rep := fun _ cs n => cs = [.string n]
  own := fun r cs n => r = Heap.nil ∧ cs = [.string n]
  one := fun _ => rfl
  len := by rintro h cs x rfl; rfl
  cell := by rintro h cs x rfl v hv; simp at hv; subst hv; rfl
  mono := fun _ hr => hr
  own_rep := fun ho => ho.2

/-- words of 64 bits -/
instance instTyU64 : Ty (BitVec 64) where
  agg := false
  sz := 1
  rep := fun _ cs n => cs = [.int .u64 n.toNat]
  own := fun r cs n => r = Heap.nil ∧ cs = [.int .u64 n.toNat]
  one := fun _ => rfl
  len := by rintro h cs x rfl; rfl
  cell := by rintro h cs x rfl v hv; simp at hv; subst hv; rfl
  mono := fun _ hr => hr
  own_rep := fun ho => ho.2

instance instTyProd {α β : Type} [Ty α] [Ty β] : Ty (α × β) where
  agg := true
  sz := Ty.sz α + Ty.sz β
  rep := fun h cs x => ∃ c1 c2, cs = c1 ++ c2 ∧ Ty.rep h c1 x.1 ∧ Ty.rep h c2 x.2
  own := fun r cs x => ∃ c1 c2 r1 r2, cs = c1 ++ c2 ∧ r = r1.add r2 ∧ Dj r1 r2 ∧ Ty.own r1 c1 x.1 ∧ Ty.own r2 c2 x.2
  one := fun h => by simp at h
  len := by rintro h cs x ⟨c1, c2, rfl, h1, h2⟩; simp [Ty.len h1, Ty.len h2]
  cell := by
    rintro h cs x ⟨c1, c2, rfl, h1, h2⟩ v hv
    rcases List.mem_append.1 hv with h3 | h3
    · exact Ty.cell h1 v h3
    · exact Ty.cell h2 v h3
  mono := by rintro h h' cs x hl ⟨c1, c2, h0, h1, h2⟩; exact ⟨c1, c2, h0, Ty.mono hl h1, Ty.mono hl h2⟩
  own_rep := by
    rintro r cs x ⟨c1, c2, r1, r2, h0, rfl, d, h1, h2⟩
    exact ⟨c1, c2, h0, Ty.mono (le_add d) (Ty.own_rep h1), Ty.mono (le_add' d) (Ty.own_rep h2)⟩

/-- a structure, by the tuple of its fields -/
@[reducible] def Ty.via {α β : Type} [Ty β] (f : α → β) : Ty α where
  agg := true
  sz := Ty.sz β
  rep := fun h cs x => Ty.rep h cs (f x)
  own := fun r cs x => Ty.own r cs (f x)
  one := fun h => by simp at h
  len := fun h => Ty.len h
  cell := fun h => Ty.cell h
  mono := fun hl h => Ty.mono hl h
  own_rep := fun h => Ty.own_rep h

/-- DATA WITHOUT MEMORY OF ITS OWN -/
class Flat (α : Type) [Ty α] where
  enc : α → List Value
  ok : α → Prop
  rep_iff : ∀ {h cs} {x : α}, Ty.rep h cs x ↔ cs = enc x ∧ ok x
  own_iff : ∀ {r cs} {x : α}, Ty.own r cs x ↔ r = Heap.nil ∧ cs = enc x ∧ ok x

instance : Flat Int := ⟨fun n => [.int .i64 n], fun n => -9223372036854775808 ≤ n ∧ n < 9223372036854775808, Iff.rfl, Iff.rfl⟩
instance : Flat Bool := ⟨fun n => [.bool n], fun _ => True, by simp [Ty.rep], by simp [Ty.own]⟩
instance : Flat ByteArray := ⟨fun n => [.string n], fun _ => True, by simp [Ty.rep], by simp [Ty.own]⟩
instance : Flat (BitVec 64) := ⟨fun n => [.int .u64 n.toNat], fun _ => True, by simp [Ty.rep], by simp [Ty.own]⟩
instance {α β : Type} [Ty α] [Ty β] [Flat α] [Flat β] : Flat (α × β) := ⟨fun x => Flat.enc x.1 ++ Flat.enc x.2, fun x => Flat.ok x.1 ∧ Flat.ok x.2, by
    intro h cs x
    simp only [Ty.rep, Flat.rep_iff]
    constructor
    · rintro ⟨c1, c2, rfl, ⟨rfl, h1⟩, rfl, h2⟩; exact ⟨rfl, h1, h2⟩
    · rintro ⟨rfl, h1, h2⟩; exact ⟨_, _, rfl, ⟨rfl, h1⟩, rfl, h2⟩, by
    intro h cs x
    simp only [Ty.own, Flat.own_iff]
    constructor
    · rintro ⟨c1, c2, r1, r2, rfl, rfl, _, ⟨rfl, rfl, h1⟩, rfl, rfl, h2⟩; exact ⟨by simp, rfl, h1, h2⟩
    · rintro ⟨rfl, rfl, h1, h2⟩; exact ⟨_, _, Heap.nil, Heap.nil, rfl, by simp, by simp, ⟨rfl, rfl, h1⟩, rfl, rfl, h2⟩⟩
@[reducible] def Flat.via {α β : Type} [Ty β] [Flat β] (f : α → β) : @Flat α (Ty.via f) :=
  let _ := Ty.via f
  ⟨fun x => Flat.enc (f x), fun x => Flat.ok (f x), fun {_ _ x} => Flat.rep_iff (x := f x), fun {_ _ x} => Flat.own_iff (x := f x)⟩

/-- the place of an element -/
def elp (sz : Nat) (v : Value) (i : Nat) : Value :=
  match v with
  | .slice (some p) _ _ => .pointer (some (p.add (i * sz)))
  | _ => undef

theorem srcV_slice {h : Heap} {b off n cap esz : Nat} {l : List Value} (hc : hcells h b off (n * esz) = some l) : srcV h esz (some (.slice (some ⟨b, off, none⟩) n cap)) = some (n, l) := by
  cases n with
  | zero => simp [hcells] at hc; subst hc; rfl
  | succ n => simp only [srcV, hc]; rfl

theorem add_none (b off n : Nat) : (⟨b, off, none⟩ : Addr).add n = ⟨b, off + n, none⟩ := by
  unfold Addr.add
  split
  · next hn => simp [hn]
  · rfl

section
variable {α : Type} [Ty α] {h h' g r : Heap} {v : Value} {l : List α}

theorem Rep_list : Rep h v l ↔ ∃ p cap, v = .slice p l.length cap ∧ (l.length ≤ cap ∧ l.length < 4611686018427387904) ∧ True ∧ repL h p l := by
  constructor
  · rintro ⟨cs, rfl, p, cap, rfl, h1, h2, h3⟩; exact ⟨p, cap, rfl, h1, h2, h3⟩
  · rintro ⟨p, cap, rfl, h1, h2, h3⟩; exact ⟨_, rfl, p, cap, rfl, h1, h2, h3⟩

theorem Own_list : Own r v l ↔ (∃ p, v = .slice p 0 0 ∧ l = [] ∧ r = Heap.nil ∧ okP p) ∨
    ∃ (b off cap : Nat) (cells : List Value) (el : TypeId) (r' : Heap), v = .slice (some ⟨b, off, none⟩) l.length cap ∧ (l.length ≤ cap ∧ l.length < 4611686018427387904) ∧ off + cap * Ty.sz α ≤ cells.length ∧
    r = (Heap.one b (.cells cells.toArray el (0, 0))).add r' ∧ r' b = none ∧ ownL l (cells.drop off) r' := by
  constructor
  · rintro ⟨cs, rfl, ⟨p, rfl, h1, h2, h3⟩ | ⟨b, off, cap, cells, el, r', rfl, h1, h2, h3, h4, h5⟩⟩
    · exact .inl ⟨p, rfl, h1, h2, h3⟩
    · exact .inr ⟨b, off, cap, cells, el, r', rfl, h1, h2, h3, h4, h5⟩
  · rintro (⟨p, rfl, h1, h2, h3⟩ | ⟨b, off, cap, cells, el, r', rfl, h1, h2, h3, h4, h5⟩)
    · exact ⟨_, rfl, .inl ⟨p, rfl, h1, h2, h3⟩⟩
    · exact ⟨_, rfl, .inr ⟨b, off, cap, cells, el, r', rfl, h1, h2, h3, h4, h5⟩⟩

theorem Rep.len (hr : Rep h v l) : lenVV v = some (.int .i64 l.length) := by
  obtain ⟨p, cap, rfl, _⟩ := Rep_list.1 hr
  rfl

theorem Rep.lt (hr : Rep h v l) : l.length < 4611686018427387904 := by
  obtain ⟨p, cap, rfl, h1, _⟩ := Rep_list.1 hr
  exact h1.2

theorem Rep.cells (hr : Rep h v l) : v.cells = #[v] := by
  obtain ⟨p, cap, rfl, h1, _⟩ := Rep_list.1 hr
  rfl
theorem Rep.one (hr : Rep h v l) : v.oneCell' = true := by
  obtain ⟨p, cap, rfl, h1, _⟩ := Rep_list.1 hr
  rfl

theorem Rep.ia (hr : Rep h v l) {k : IntKind} {i : Int} (h0 : 0 ≤ i) (h1 : i < l.length) : iaV (Ty.sz α) v (.int k i) = some (elp (Ty.sz α) v i.toNat) := by
  obtain ⟨p, cap, rfl, hc, hp, hl⟩ := Rep_list.1 hr
  obtain ⟨b, off, vs, rfl, _⟩ := hl i.toNat (by omega)
  simp [iaV, elp, h0, h1]

theorem Rep.ld (hr : Rep h v l) {i : Nat} (hi : i < l.length) : ∃ u, hload h (some (elp (Ty.sz α) v i)) (szo α) = some u ∧ Rep h u l[i] := by
  obtain ⟨p, cap, rfl, hc, hp, hl⟩ := Rep_list.1 hr
  obtain ⟨b, off, vs, rfl, h1, h2⟩ := hl i hi
  refine ⟨valC (Ty.agg α) vs, ?_, vs, rfl, h2⟩
  simp only [elp, add_none, hload, szo, valC]
  cases ha : Ty.agg α with
  | true => simp [h1]
  | false =>
    have h3 := Ty.one ha
    rw [h3] at h1
    simp only [hcells] at h1
    rw [h3]
    simp only [Bool.false_eq_true, if_false]
    split at h1
    · rename_i v r hv hr
      simp only [Option.some.injEq] at h1
      subst h1
      simpa using hv
    · simp at h1

theorem Rep.ia' {n : Nat} (hr : Rep h v l) (hn : n = Ty.sz α) {k : IntKind} {i : Int} (h0 : 0 ≤ i) (h1 : i < l.length) : iaV n v (.int k i) = some (elp n v i.toNat) := by
  subst hn; exact hr.ia h0 h1

theorem Rep.ian {n : Nat} (hr : Rep h v l) (hn : n = Ty.sz α) {k : IntKind} {i : Nat} (h1 : i < l.length) : iaV n v (.int k i) = some (elp n v i) := by
  have := hr.ia' hn (k := k) (i := (i : Int)) (by omega) (by omega)
  simpa using this

/-- elements of a slice, for the simplifier, where their values can be told from what they stand for -/
theorem Rep.ldF [Flat α] (hr : Rep h v l) {i : Nat} (hi : i < l.length) : hload h (some (elp (Ty.sz α) v i)) (szo α) = some (valC (Ty.agg α) (Flat.enc l[i])) := by
  obtain ⟨u, h1, cs, h2, h3⟩ := hr.ld hi
  rw [h1, h2, (Flat.rep_iff.1 h3).1]
theorem Rep.okF [Flat α] (hr : Rep h v l) {i : Nat} (hi : i < l.length) : Flat.ok l[i] := by
  obtain ⟨u, h1, cs, h2, h3⟩ := hr.ld hi
  exact (Flat.rep_iff.1 h3).2
end

theorem Rep.ldI {h : Heap} {v : Value} {l : List Int} (hr : Rep h v l) {i : Nat} (hi : i < l.length) : hload h (some (elp 1 v i)) none = some (.int .i64 l[i]) := hr.ldF hi
theorem Rep.ldB {h : Heap} {v : Value} {l : List Bool} (hr : Rep h v l) {i : Nat} (hi : i < l.length) : hload h (some (elp 1 v i)) none = some (.bool l[i]) := hr.ldF hi
theorem Rep.ldS {h : Heap} {v : Value} {l : List ByteArray} (hr : Rep h v l) {i : Nat} (hi : i < l.length) : hload h (some (elp 1 v i)) none = some (.string l[i]) := hr.ldF hi
theorem Rep.okI {h : Heap} {v : Value} {l : List Int} (hr : Rep h v l) {i : Nat} (hi : i < l.length) : -9223372036854775808 ≤ l[i] ∧ l[i] < 9223372036854775808 := hr.okF hi

theorem own_zero {n : Int} (h1 : -9223372036854775808 ≤ n) (h2 : n < 9223372036854775808) : Ty.own Heap.nil [.int .i64 n] n := ⟨rfl, rfl, h1, h2⟩
theorem own_false {b : Bool} : Ty.own Heap.nil [.bool b] b := ⟨rfl, rfl⟩
theorem own_nils {α : Type} [Ty α] : Ty.own (α := List α) Heap.nil [.slice none 0 0] [] := .inl ⟨none, rfl, rfl, rfl, .inl rfl⟩
theorem Own_nils {α : Type} [Ty α] : Own (α := List α) Heap.nil (.slice none 0 0) [] := ⟨_, rfl, own_nils⟩
theorem Rep_int {h : Heap} {v : Value} {n : Int} : Rep h v n ↔ v = .int .i64 n ∧ -9223372036854775808 ≤ n ∧ n < 9223372036854775808 :=
  ⟨fun ⟨_, h1, h2, h3⟩ => by subst h2; exact ⟨h1, h3⟩, fun ⟨h1, h2⟩ => ⟨[.int .i64 n], h1, rfl, h2⟩⟩
theorem take_set_succ {α : Type} {x y : List α} {i : Nat} (h1 : y.take i = x.take i) (hi : i < x.length) (hl : y.length = x.length) : (y.set i x[i]).take (i + 1) = x.take (i + 1) := by
  rw [List.take_add_one, List.take_add_one, List.take_set_of_le (Nat.le_refl i), h1]
  simp [hi, hl]
theorem eq_of_take {α : Type} {x y : List α} {i : Nat} (h1 : y.take i = x.take i) (hi : x.length ≤ i) (hl : y.length = x.length) : y = x := by
  rwa [List.take_of_length_le (by omega), List.take_of_length_le hi] at h1
/-- a slice of which one element has been taken away -/
def Hole {α : Type} [Ty α] (r : Heap) (v : Value) (l : List α) (i : Nat) (u : Value) : Prop :=
  ∃ (b off cap : Nat) (cells : List Value) (el : TypeId) (r' : Heap), v = .slice (some ⟨b, off, none⟩) l.length cap ∧ i < l.length ∧ (l.length ≤ cap ∧ l.length < 4611686018427387904) ∧ off + cap * Ty.sz α ≤ cells.length ∧
    r = (Heap.one b (.cells cells.toArray el (0, 0))).add r' ∧ r' b = none ∧ u = valC (Ty.agg α) (((cells.drop off).drop (i * Ty.sz α)).take (Ty.sz α)) ∧
    ∀ r1' c' y, Dj r1' r' → Ty.own r1' c' y → ownL (l.set i y) (setC (cells.drop off) (i * Ty.sz α) c') (r1'.add r')

theorem setC_self {cs c : List Value} {n m : Nat} (h1 : (cs.drop n).take m = c) (hc : c.length = m) : setC cs n c = cs := by
  subst h1
  simp at hc
  unfold setC
  conv => rhs; rw [← List.take_append_drop n cs]
  rw [List.append_assoc]
  congr 1
  rw [List.length_take, List.length_drop]
  conv => rhs; rw [← List.take_append_drop m (cs.drop n)]
  rw [List.drop_drop]
  congr 2
  omega

section
variable {α : Type} [Ty α] {h h' g r r2 ru : Heap} {v u : Value} {l : List α} {i : Nat}

theorem valC_inj {c : List Value} {c' : List Value} (h1 : Ty.agg α = false → c.length = 1) (h2 : Ty.agg α = false → c'.length = 1) (hv : valC (Ty.agg α) c = valC (Ty.agg α) c') : c = c' := by
  unfold valC at hv
  cases ha : Ty.agg α with
  | true => rw [ha] at hv; simpa using hv
  | false =>
    rw [ha] at hv
    have e1 := h1 ha
    have e2 := h2 ha
    match c, c', e1, e2 with
    | [x], [y], _, _ => simpa using hv

theorem slot_le {i n c s : Nat} (h1 : i < n) (h2 : n ≤ c) : i * s + s ≤ c * s := by
  rw [← Nat.succ_mul]
  exact Nat.mul_le_mul_right _ (by omega)

theorem Own.take (O : Own r v l) (hi : i < l.length) : ∃ u r1 r2, r = r1.add r2 ∧ Dj r1 r2 ∧ Own r1 u l[i] ∧ Hole r2 v l i u := by
  rcases Own_list.1 O with ⟨p, _, rfl, _⟩ | ⟨b, off, cap, cells, el, r', rfl, ⟨h1, hM⟩, h2, rfl, h4, h5⟩
  · simp at hi
  · obtain ⟨s1, s2, g1, g2, g3, g4⟩ := ownL_at h5 i hi
    subst g1
    obtain ⟨n1, n2⟩ : s1 b = none ∧ s2 b = none := by simpa [Heap.add] using h4
    refine ⟨_, s1, (Heap.one b (.cells cells.toArray el (0, 0))).add s2, ?_, Dj_add.2 ⟨Dj_one.2 n1, g2⟩, ⟨_, rfl, g3⟩, b, off, cap, cells, el, s2, rfl, hi, ⟨h1, hM⟩, h2, rfl, n2, rfl, g4⟩
    rw [← add_assoc, ← add_assoc, (one_Dj.2 n1).comm]

theorem Hole.put {r1 : Heap} {y : α} (H : Hole r2 v l i u) (d : Dj r1 r2) (O : Own r1 u y) : Own (r1.add r2) v (l.set i y) := by
  obtain ⟨b, off, cap, cells, el, r', rfl, hi, ⟨h1, hM⟩, h2, rfl, h4, h5, h6⟩ := H
  obtain ⟨c, hc, ho⟩ := O
  obtain ⟨d1, d2⟩ := Dj_add.1 d
  have hs := slot_le (s := Ty.sz α) hi h1
  have hl : ((((cells.drop off).drop (i * Ty.sz α)).take (Ty.sz α))).length = Ty.sz α := by simp; omega
  have hlen := Ty.len (Ty.own_rep ho)
  have e1 : c = ((cells.drop off).drop (i * Ty.sz α)).take (Ty.sz α) := valC_inj (α := α) (fun ha => by rw [hlen, Ty.one ha]) (fun ha => by rw [hl, Ty.one ha]) (by rw [← hc, h5])
  have h7 := h6 r1 c y d2 ho
  rw [setC_self e1.symm hlen] at h7
  refine Own_list.2 (.inr ⟨b, off, cap, cells, el, r1.add r', by simp, ⟨by simpa using h1, by simpa using hM⟩, h2, ?_, ?_, h7⟩)
  · rw [← add_assoc, ← add_assoc, d1.comm]
  · simp [Heap.add, h4]; exact Dj_one.1 d1

theorem Hole.ld (H : Hole r2 v l i u) : hload r2 (some (elp (Ty.sz α) v i)) (szo α) = some u := by
  obtain ⟨b, off, cap, cells, el, r', rfl, hi, ⟨h1, hM⟩, h2, rfl, h4, h5, h6⟩ := H
  have hs := slot_le (s := Ty.sz α) hi h1
  have hb : ((Heap.one b (.cells cells.toArray el (0, 0))).add r') b = some (.cells cells.toArray el (0, 0)) := by simp [Heap.add, Heap.one, h4]
  have hc := hcells_mk hb (n := Ty.sz α) (off := off + i * Ty.sz α) (by simp; omega)
  simp only [elp, add_none, hload, szo]
  rw [List.drop_drop] at h5
  cases ha : Ty.agg α with
  | true => simp only [if_true, hc]; rw [h5]; simp [valC, ha]
  | false =>
    have h3 := Ty.one ha
    rw [h3] at hc h5 h2
    rw [ha] at h5
    simp only [Bool.false_eq_true, if_false]
    rw [h3] at hs ⊢
    have hlt : off + i * 1 < cells.length := by omega
    rw [List.drop_eq_getElem_cons hlt] at h5
    simp only [valC, List.take_succ_cons, Bool.false_eq_true, if_false, List.headD_cons] at h5
    rw [h5]
    simp only [hcell, hb]
    simp at hlt ⊢

theorem Hole.len (H : Hole r2 v l i u) : lenVV v = some (.int .i64 l.length) := by
  obtain ⟨b, off, cap, cells, el, r', rfl, _⟩ := H
  rfl

theorem Hole.ia (H : Hole r2 v l i u) {k : IntKind} {n : Int} (h0 : 0 ≤ n) (h1 : n < l.length) : iaV (Ty.sz α) v (.int k n) = some (elp (Ty.sz α) v n.toNat) := by
  obtain ⟨b, off, cap, cells, el, r', rfl, _⟩ := H
  simp [iaV, elp, h0, h1]

theorem drop_setC {cs c : List Value} {a n : Nat} (h : a + n + c.length ≤ cs.length) : (setC cs (a + n) c).drop a = setC (cs.drop a) n c := by
  unfold setC
  rw [List.append_assoc, List.drop_append_of_le_length (by simp; omega), List.drop_take, List.append_assoc, List.drop_drop]
  congr 2
  · omega
  · congr 1; omega

theorem setC_length {cs c : List Value} {n : Nat} (h : n + c.length ≤ cs.length) : (setC cs n c).length = cs.length := by
  unfold setC; simp; omega

/-- what is written where an element was taken away -/
theorem Hole.store {y : α} (H : Hole r v l i u) {u' : Value} (d : Dj g r) (d2 : Dj (g.add r) ru) (Ou : Own ru u' y) :
    ∃ b off h', elp (Ty.sz α) v i = .pointer (some ⟨b, off, none⟩) ∧ u'.cells.size = Ty.sz α ∧ hstore ((g.add r).add ru) b off u'.cells.toList = some h' ∧ ∃ r', h' = g.add r' ∧ Dj g r' ∧ Own r' v (l.set i y) := by
  obtain ⟨b, off, cap, cells, el, r', rfl, hi, ⟨h1, hM⟩, h2, rfl, h4, h5, h6⟩ := H
  obtain ⟨c, rfl, ho⟩ := Ou
  have hlen := Ty.len (Ty.own_rep ho)
  have hcell := Ty.cell (Ty.own_rep ho)
  have hcs := rep_cells (Ty.own_rep ho)
  have hs := slot_le (s := Ty.sz α) hi h1
  obtain ⟨d3, d4⟩ := Dj_add.1 d
  obtain ⟨d5, d6⟩ := add_Dj.1 d2
  obtain ⟨d7, d8⟩ := add_Dj.1 d6
  have hb : (((g.add ((Heap.one b (.cells cells.toArray el (0, 0))).add r')).add ru)) b = some (.cells cells.toArray el (0, 0)) := by
    have := Dj_one.1 d3
    simp [Heap.add, Heap.one, this, h4, one_Dj.1 d7]
  refine ⟨b, off + i * Ty.sz α, g.add ((Heap.one b (.cells (setC cells (off + i * Ty.sz α) c).toArray el (0, 0))).add (r'.add ru)), by simp [elp, add_none], ?_, ?_, ?_⟩
  · have := congrArg List.length hcs
    simpa [hlen] using this
  · unfold hstore
    rw [hb]
    simp only [hcs]
    rw [if_pos (by refine ⟨trivial, ?_, by simpa using hcell⟩; simp [hlen]; omega)]
    rw [add_assoc (a := g), add_assoc (b := r'), add_one_set (Dj_one.1 d3) (by simp [Heap.add, h4, one_Dj.1 d7])]
  · refine ⟨(Heap.one b (.cells (setC cells (off + i * Ty.sz α) c).toArray el (0, 0))).add (r'.add ru), ?_, ?_, ?_⟩
    · rfl
    · exact Dj_add.2 ⟨Dj_one.2 (Dj_one.1 d3), Dj_add.2 ⟨d4, d5⟩⟩
    · have h7 := h6 ru c y d8.symm ho
      refine Own_list.2 (.inr ⟨b, off, cap, _, el, _, by simp, ⟨by simpa using h1, by simpa using hM⟩, ?_, rfl, ?_, ?_⟩)
      · rw [setC_length (by rw [hlen]; omega)]; exact h2
      · simp [Heap.add, h4]; exact one_Dj.1 d7
      · rw [drop_setC (by rw [hlen]; omega), d8.comm]; exact h7
end

section
variable {α : Type} [Ty α] {P : Program} {k : Env → Heap → Prop} {e : Env} {h h' g r r2 ru rs : Heap} {v u : Value} {l l2 : List α} {i : Nat}

theorem a_store {sz : Nat} {a x : O} {y : α} {u' : Value} (O : Own r v l) (hi : i < l.length) (Ou : Own ru u' y) (d : Dj g r) (d2 : Dj (g.add r) ru) (hh : h = (g.add r).add ru) (hp : a.get e = some (elp (Ty.sz α) v i)) (hx : x.get e = some u') (hsz : sz = Ty.sz α)
    (K : ∀ r', Dj g r' → Own r' v (l.set i y) → k e (g.add r')) : (A.ex none (.store sz a x)).wp P k e h := by
  subst hh; subst hsz
  obtain ⟨u, r1, r2, rfl, d3, O1, H⟩ := O.take hi
  obtain ⟨d4, d5⟩ := Dj_add.1 d
  obtain ⟨d6, d7⟩ := add_Dj.1 d2
  obtain ⟨d8, d9⟩ := add_Dj.1 d7
  -- the element's own part stays behind
  have hd : Dj (g.add r1) r2 := add_Dj.2 ⟨d5, d3⟩
  have hd2 : Dj ((g.add r1).add r2) ru := by rw [add_assoc]; exact d2
  obtain ⟨b, off, h', h1, h2, h3, r', rfl, h4, h5⟩ := H.store hd hd2 Ou
  refine ⟨b, off, u', _, by rw [hp, h1], hx, h2, by rw [← add_assoc]; exact h3, ?_⟩
  obtain ⟨d10, d11⟩ := add_Dj.1 h4
  exact Fgt.drop (le_drop d4 d11) (K r' d10 h5)

theorem Own_flat [Flat α] {y : α} : Own r u y ↔ r = Heap.nil ∧ u = valC (Ty.agg α) (Flat.enc y) ∧ Flat.ok y := by
  constructor
  · rintro ⟨cs, rfl, ho⟩
    obtain ⟨h1, rfl, h2⟩ := Flat.own_iff.1 ho
    exact ⟨h1, rfl, h2⟩
  · rintro ⟨rfl, rfl, h1⟩
    exact ⟨_, rfl, Flat.own_iff.2 ⟨rfl, rfl, h1⟩⟩

theorem a_storeF [Flat α] {sz : Nat} {a x : O} (y : α) (O : Own r v l) (hi : i < l.length) (d : Dj g r) (hh : h = g.add r) (hp : a.get e = some (elp (Ty.sz α) v i)) (hx : x.get e = some (valC (Ty.agg α) (Flat.enc y))) (hy : Flat.ok y) (hsz : sz = Ty.sz α)
    (K : ∀ r', Dj g r' → Own r' v (l.set i y) → k e (g.add r')) : (A.ex none (.store sz a x)).wp P k e h :=
  a_store O hi (Own_flat.2 ⟨rfl, rfl, hy⟩) d Dj_nil (by simp [hh]) hp hx hsz K

/-- MAKING A SLICE -/
theorem a_mks {bytes esz : Nat} {zero : List Value} {len cap : O} {j j' : IntKind} {n c : Nat} {dst : Nat} {z : α} (hl : len.get e = some (.int j n)) (hc : cap.get e = some (.int j' c)) (hz : Ty.own Heap.nil zero z) (h1 : n ≤ c) (h2 : c < 2 ^ 62) (h3 : bytes * c ≤ 2 ^ 48)
    (K : ∀ v r, Dj h r → Own r v (List.replicate n z) → k (eset e dst (some v)) (h.add r)) : (A.ex (some dst) (.mks bytes esz zero len cap)).wp P k e h := by
  refine ⟨n, c, j, j', hl, hc, h1, h2, h3, fun b el hb => Fgt.keep ?_⟩
  rw [set_new hb]
  refine K _ _ (Dj_one.2 hb) (Own_list.2 (.inr ⟨b, 0, c, reps c zero, el, Heap.nil, by simp, ⟨by simpa using h1, by simp; omega⟩, ?_, by simp, rfl, ?_⟩))
  · have := ownL_len (ownL_reps hz c)
    simpa using this
  · have hlen := Ty.len (Ty.own_rep hz)
    refine ownL_congr (ownL_reps hz n) ?_
    simp only [List.length_replicate, List.drop_zero]
    rw [show reps c zero = reps n zero ++ reps (c - n) zero by
      rw [reps, reps, reps, ← List.flatten_append, List.replicate_append_replicate]; congr 3; omega]
    have : (reps n zero).length = n * Ty.sz α := by simp [reps, hlen]
    rw [List.take_append_of_le_length (by omega)]

theorem ownL_cell : ∀ {l : List α} {cs : List Value} {r : Heap}, ownL l cs r → ∀ v ∈ cs.take (l.length * Ty.sz α), v.oneCell' = true
  | [], _, _, _, v, hv => by simp at hv
  | x :: l, cs, r, ⟨r1, r2, h1, h2, h3, h4⟩, v, hv => by
    have ha : (x :: l).length * Ty.sz α = Ty.sz α + l.length * Ty.sz α := by simp [Nat.add_mul]; omega
    rw [ha, List.take_add] at hv
    rcases List.mem_append.1 hv with h5 | h5
    · exact Ty.cell (Ty.own_rep h3) v h5
    · exact ownL_cell h4 v h5

/-- APPENDING to a slice that is owned -/
theorem a_app {bytes esz : Nat} {zero : List Value} {a : O} {b : AO} {dst : Nat} {cs : List Value} (O : Own r v l) (ha : a.get e = some v) (hs : b.src h e esz = some (l2.length, cs)) (hcs : cs.length = l2.length * Ty.sz α) (Os : ownL l2 cs rs)
    (d : Dj g r) (d2 : Dj (g.add r) rs) (hh : h = (g.add r).add rs) (hsz : esz = Ty.sz α) (hz : zero.length = Ty.sz α) (hb : (l.length + l2.length) * bytes ≤ 140737488355328) (hn : l.length + l2.length < 2 ^ 62)
    (K : ∀ v' r', Dj g r' → Own r' v' (l ++ l2) → k (eset e dst (some v')) (g.add r')) : (A.ex (some dst) (.app bytes esz zero (.o a) b)).wp P k e h := by
  subst hsz
  obtain ⟨d5, d6⟩ := add_Dj.1 d2
  have hcell : cs.all Value.oneCell' = true := by
    have := ownL_cell Os
    rw [← hcs, List.take_length] at this
    simpa using this
  refine ⟨l2.length, cs, hs, ?_⟩
  rcases Own_list.1 O with ⟨p, rfl, rfl, rfl, hp⟩ | ⟨bb, off, cap, cells, el, r', rfl, ⟨h1, hM⟩, h2, rfl, h4, h5⟩
  · refine ⟨p, 0, 0, ha, ?_, ?_⟩
    · intro h1
      have hl2 : l2 = [] := by cases l2 with
        | nil => rfl
        | cons _ _ => simp at h1
      subst hl2
      have hcs0 : cs = [] := by simpa using hcs
      have hrs : rs = Heap.nil := Os
      subst hrs
      have hk : ∀ p, okP p → Fgt k (eset e dst (some (.slice p (0 + ([] : List α).length) 0))) h := by
        intro p hp
        subst hh
        refine Fgt.keep ?_
        simpa using K (.slice p 0 0) Heap.nil Dj_nil (Own_list.2 (.inl ⟨p, rfl, rfl, rfl, hp⟩))
      rcases hp with rfl | ⟨b', o', rfl⟩
      · exact ⟨hcs0, hk _ (.inl rfl)⟩
      · exact .inl ⟨hcs0, hk _ (.inr ⟨b', o', rfl⟩)⟩
    · intro h1
      refine ⟨0, [], ?_, ?_, by simpa using hn, ?_⟩
      · rcases hp with rfl | ⟨b', o', rfl⟩
        · rfl
        · simp [srcV, hcells]
      · exact growslice_fits h1 (by simpa using hb)
      · intro b' el c hb' hc
        subst hh
        rw [set_new hb']
        simp only [add_nil] at hb' ⊢
        have n1 : g b' = none ∧ rs b' = none := by simpa [Heap.add] using hb'
        refine Fgt.keep ?_
        rw [add_assoc]
        simp only [List.length_nil, Nat.zero_add] at hn ⊢
        refine K _ _ (Dj_add.2 ⟨d5, Dj_one.2 n1.1⟩) ?_
        rw [(Dj_one.2 n1.2).comm]
        refine Own_list.2 (.inr ⟨b', 0, c, _, el, rs, by simp, ⟨by simpa using hc, by simpa using hn⟩, ?_, rfl, n1.2, ?_⟩)
        · simp [reps, hz, hcs]
          rw [← Nat.add_mul]
          exact Nat.mul_le_mul_right _ (by simp at hc; omega)
        · refine ownL_congr Os ?_
          simp only [List.drop_zero, List.nil_append]
          exact (List.take_append_of_le_length (by rw [hcs]; exact Nat.le_refl _)).symm
  · have hbk : ((g.add ((Heap.one bb (.cells cells.toArray el (0, 0))).add r')).add rs) bb = some (.cells cells.toArray el (0, 0)) := by
      have := Dj_one.1 (Dj_add.1 d).1
      simp [Heap.add, Heap.one, this, h4, one_Dj.1 (add_Dj.1 d6).1]
    obtain ⟨d3, d4⟩ := Dj_add.1 d
    obtain ⟨d7, d8⟩ := add_Dj.1 d6
    have hll := ownL_len h5
    have hfit : l.length * Ty.sz α ≤ cap * Ty.sz α := Nat.mul_le_mul_right _ h1
    have hold : ownL l ((cells.drop off).take (l.length * Ty.sz α)) r' := by
      refine ownL_congr h5 ?_
      rw [List.take_take, Nat.min_self]
    refine ⟨_, l.length, cap, ha, ?_, ?_⟩
    · intro hle
      right
      have hf2 : l.length * Ty.sz α + l2.length * Ty.sz α ≤ cap * Ty.sz α := by rw [← Nat.add_mul]; exact Nat.mul_le_mul_right _ hle
      refine ⟨g.add ((Heap.one bb (.cells (setC cells (off + l.length * Ty.sz α) cs).toArray el (0, 0))).add (r'.add rs)), ?_, Fgt.keep ?_⟩
      · unfold hstore
        rw [hh, hbk]
        simp only
        rw [if_pos (by refine ⟨trivial, ?_, hcell⟩; simp [hcs]; omega)]
        rw [add_assoc (a := g), add_assoc (b := r'), add_one_set (Dj_one.1 d3) (by simp [Heap.add, h4, one_Dj.1 d7])]
      · refine K _ _ (Dj_add.2 ⟨Dj_one.2 (Dj_one.1 d3), Dj_add.2 ⟨d4, d5⟩⟩) ?_
        refine Own_list.2 (.inr ⟨bb, off, cap, _, el, _, by simp, ⟨by simpa using hle, by simpa using hn⟩, ?_, rfl, ?_, ?_⟩)
        · rw [setC_length (by rw [hcs]; omega)]; exact h2
        · simp [Heap.add, h4]; exact one_Dj.1 d7
        · rw [drop_setC (by rw [hcs]; omega)]
          have h9 := ownL_append hold (by simp; omega) Os d8
          refine ownL_congr h9 ?_
          rw [List.length_append, Nat.add_mul]
          exact (List.take_append_of_le_length (by rw [List.length_append, List.length_take, Nat.min_eq_left hll, hcs]; exact Nat.le_refl _)).symm
    · intro hlt
      refine ⟨l.length, (cells.drop off).take (l.length * Ty.sz α), ?_, growslice_fits hlt hb, hn, ?_⟩
      · rw [srcV_slice (l := (cells.drop off).take (l.length * Ty.sz α))]
        rw [hh, hcells_mk hbk (by simp; omega)]
      · intro b' el' c hb' hc
        subst hh
        rw [set_new hb']
        have n1 : g b' = none ∧ r' b' = none ∧ rs b' = none := by
          simp only [Heap.add, oplus_eq_none] at hb'
          exact ⟨hb'.1.1, hb'.1.2.2, hb'.2⟩
        have hne : Dj (Heap.one bb (.cells cells.toArray el (0, 0))) ((r'.add rs).add (Heap.one b' (.cells ((cells.drop off).take (l.length * Ty.sz α) ++ cs ++ reps (c - (l.length + l2.length)) zero).toArray el' (0, 0)))) := by
          refine Dj_add.2 ⟨Dj_add.2 ⟨one_Dj.2 h4, d7⟩, Dj_one.2 ?_⟩
          simp only [Heap.add, oplus_eq_none] at hb'
          exact hb'.1.2.1
        refine Fgt.drop (h' := g.add ((r'.add rs).add (Heap.one b' (.cells ((cells.drop off).take (l.length * Ty.sz α) ++ cs ++ reps (c - (l.length + l2.length)) zero).toArray el' (0, 0))))) ?_ ?_
        · have := le_drop d3 hne
          simpa [add_assoc] using this
        · refine K _ _ (Dj_add.2 ⟨Dj_add.2 ⟨d4, d5⟩, Dj_one.2 n1.1⟩) ?_
          rw [(Dj_one.2 (show (r'.add rs) b' = none by simp [Heap.add, n1.2])).comm]
          refine Own_list.2 (.inr ⟨b', 0, c, _, el', r'.add rs, by simp, ⟨by simpa using hc, by simpa using hn⟩, ?_, rfl, by simp [Heap.add, n1.2], ?_⟩)
          · have : (l.length + l2.length) * Ty.sz α + (c - (l.length + l2.length)) * Ty.sz α = c * Ty.sz α := by
              rw [← Nat.add_mul]; congr 1; omega
            rw [Nat.add_mul] at this
            simp [reps, hz, hcs]
            omega
          · have h9 := ownL_append hold (by simp; omega) Os d8
            refine ownL_congr h9 ?_
            rw [List.drop_zero, List.length_append, Nat.add_mul]
            exact (List.take_append_of_le_length (by rw [List.length_append, List.length_take, Nat.min_eq_left hll, hcs]; exact Nat.le_refl _)).symm

/-- APPENDING to a private slice without elements -/
theorem a_appP {bytes esz : Nat} {zero : List Value} {j : Nat} {b : AO} {dst : Nat} {cs : List Value} {c0 : Array Value} (hp : eget e j = some (.agg c0)) (hs : b.src h e esz = some (l2.length, cs)) (hcs : cs.length = l2.length * Ty.sz α) (Os : ownL l2 cs rs)
    (d : Dj g rs) (hh : h = g.add rs) (hz : zero.length = Ty.sz α) (hb : l2.length * bytes ≤ 140737488355328) (hn : l2.length < 2 ^ 62)
    (K : ∀ v' r', Dj g r' → Own r' v' l2 → k (eset e dst (some v')) (g.add r')) : (A.ex (some dst) (.app bytes esz zero (.p 0 j) b)).wp P k e h := by
  refine ⟨l2.length, cs, hs, rfl, ⟨c0, hp⟩, ?_, ?_⟩
  · intro hl2 b'
    have hl2 : l2 = [] := by simpa using hl2
    subst hl2
    have hrs : rs = Heap.nil := Os
    subst hrs
    subst hh
    refine Fgt.keep ?_
    simpa using K _ Heap.nil Dj_nil (Own_list.2 (.inl ⟨some ⟨b', 0, none⟩, rfl, rfl, rfl, .inr ⟨b', 0, rfl⟩⟩))
  · intro hpos
    refine ⟨growslice_fits hpos (by simpa using hb), hn, ?_⟩
    intro b' el c hb' hc
    subst hh
    rw [set_new hb']
    have n1 : g b' = none ∧ rs b' = none := by simpa [Heap.add] using hb'
    refine Fgt.keep ?_
    rw [add_assoc]
    refine K _ _ (Dj_add.2 ⟨d, Dj_one.2 n1.1⟩) ?_
    rw [(Dj_one.2 n1.2).comm]
    refine Own_list.2 (.inr ⟨b', 0, c, _, el, rs, rfl, ⟨hc, by omega⟩, ?_, rfl, n1.2, ?_⟩)
    · simp [reps, hz, hcs]
      rw [← Nat.add_mul]
      exact Nat.mul_le_mul_right _ (by omega)
    · refine ownL_congr Os ?_
      simp only [List.drop_zero]
      exact (List.take_append_of_le_length (by rw [hcs]; exact Nat.le_refl _)).symm

/-- the cells of a list without memory of its own -/
def encL [Flat α] (l : List α) : List Value := (l.map Flat.enc).flatten

theorem flat_len [Flat α] {x : α} (hx : Flat.ok x) : (Flat.enc x).length = Ty.sz α := Ty.len (h := Heap.nil) (Flat.rep_iff.2 ⟨rfl, hx⟩)
theorem encL_len [Flat α] : ∀ {l : List α}, (∀ x ∈ l, Flat.ok x) → (encL l).length = l.length * Ty.sz α
  | [], _ => by simp [encL]
  | x :: l, h => by
    have := encL_len (l := l) (fun y hy => h y (by simp [hy]))
    simp only [encL, List.map_cons, List.flatten_cons, List.length_append, flat_len (h x (by simp)), List.length_cons] at this ⊢
    rw [this, Nat.add_mul]; omega
theorem ownL_enc [Flat α] : ∀ {l : List α}, (∀ x ∈ l, Flat.ok x) → ownL l (encL l) Heap.nil
  | [], _ => rfl
  | x :: l, h => by
    have hx := flat_len (h x (by simp))
    refine ⟨Heap.nil, Heap.nil, by simp, by simp, ?_, ?_⟩
    · rw [show encL (x :: l) = Flat.enc x ++ encL l from rfl, ← hx, List.take_left]
      exact Flat.own_iff.2 ⟨rfl, rfl, h x (by simp)⟩
    · rw [show encL (x :: l) = Flat.enc x ++ encL l from rfl, ← hx, List.drop_left]
      exact ownL_enc (fun y hy => h y (by simp [hy]))

theorem hcells_add {h : Heap} {b : Nat} : ∀ {n m off : Nat} {c1 c2 : List Value}, hcells h b off n = some c1 → hcells h b (off + n) m = some c2 → hcells h b off (n + m) = some (c1 ++ c2)
  | 0, m, off, c1, c2, h1, h2 => by simp [hcells] at h1; subst h1; simpa using h2
  | n + 1, m, off, c1, c2, h1, h2 => by
    rw [show n + 1 + m = (n + m) + 1 by omega]
    simp only [hcells] at h1 ⊢
    split at h1
    · rename_i v r hv hr
      simp only [Option.some.injEq] at h1
      subst h1
      rw [hv, hcells_add hr (by rw [← h2]; congr 1; omega)]
      rfl
    · simp at h1

theorem repL_enc [Flat α] {h : Heap} {b off : Nat} : ∀ {l : List α}, repL h (some ⟨b, off, none⟩) l → hcells h b off (l.length * Ty.sz α) = some (encL l)
  | l, hr => by
    have key : ∀ n, n ≤ l.length → hcells h b off (n * Ty.sz α) = some (encL (l.take n)) := by
      intro n
      induction n with
      | zero => intro _; simp [hcells, encL]
      | succ n ih =>
        intro hn
        obtain ⟨b', off', vs, h1, h2, h3⟩ := hr n (by omega)
        simp only [Option.some.injEq, Addr.mk.injEq] at h1
        obtain ⟨rfl, rfl, _⟩ := h1
        have h4 := hcells_add (ih (by omega)) h2
        rw [show (n + 1) * Ty.sz α = n * Ty.sz α + Ty.sz α by rw [Nat.add_mul]; omega, h4]
        rw [List.take_add_one, List.getElem?_eq_getElem (by omega)]
        rw [encL, encL, List.map_append, List.flatten_append, (Flat.rep_iff.1 h3).1]
        simp
    have := key l.length (Nat.le_refl _)
    rwa [List.take_length] at this

theorem Rep.okL [Flat α] {h : Heap} {v : Value} {l : List α} (hr : Rep h v l) : ∀ x ∈ l, Flat.ok x := by
  intro x hx
  obtain ⟨i, hi, rfl⟩ := List.mem_iff_getElem.1 hx
  exact hr.okF hi

theorem Rep.src [Flat α] {h : Heap} {v : Value} {l : List α} (hr : Rep h v l) : srcV h (Ty.sz α) (some v) = some (l.length, encL l) := by
  obtain ⟨p, cap, rfl, h1, h2, h3⟩ := Rep_list.1 hr
  cases l with
  | nil => rfl
  | cons x l =>
    obtain ⟨b, off, vs, rfl, _⟩ := h3 0 (by simp)
    have h4 := repL_enc h3
    simp only [List.length_cons] at h4 ⊢
    simp only [srcV, h4]
    rfl

/-- APPENDING a list that is only read -/
theorem a_appPL [Flat α] {bytes esz : Nat} {zero : List Value} {j : Nat} {x : O} {dst : Nat} {c0 : Array Value} {u : Value} (hp : eget e j = some (.agg c0)) (hx : x.get e = some u) (hr : Rep h u l2) (hsz : esz = Ty.sz α) (hz : zero.length = Ty.sz α) (hb : l2.length * bytes ≤ 140737488355328)
    (K : ∀ v' r', Dj h r' → Own r' v' l2 → k (eset e dst (some v')) (h.add r')) : (A.ex (some dst) (.app bytes esz zero (.p 0 j) (.o x))).wp P k e h := by
  subst hsz
  refine a_appP (rs := Heap.nil) (l2 := l2) hp ?_ (encL_len hr.okL) (ownL_enc hr.okL) Dj_nil (by simp) hz hb (by have := hr.lt; omega) K
  simp only [AO.src, hx]
  exact hr.src
theorem a_appL [Flat α] {bytes esz : Nat} {zero : List Value} {a x : O} {dst : Nat} {u : Value} (O : Own r v l) (ha : a.get e = some v) (hx : x.get e = some u) (hr : Rep h u l2) (d : Dj g r) (hh : h = g.add r) (hsz : esz = Ty.sz α) (hz : zero.length = Ty.sz α)
    (hb : (l.length + l2.length) * bytes ≤ 140737488355328) (hn : l.length + l2.length < 2 ^ 62)
    (K : ∀ v' r', Dj g r' → Own r' v' (l ++ l2) → k (eset e dst (some v')) (g.add r')) : (A.ex (some dst) (.app bytes esz zero (.o a) (.o x))).wp P k e h := by
  subst hsz
  refine a_app (rs := Heap.nil) (l2 := l2) O ha ?_ (encL_len hr.okL) (ownL_enc hr.okL) d Dj_nil (by simp [hh]) rfl hz hb hn K
  simp only [AO.src, hx]
  exact hr.src
/-- APPENDING the elements of a private slice: one element and more, each without memory of its own -/
theorem a_appF [Flat α] {bytes esz : Nat} {zero : List Value} {a : O} {n j : Nat} {dst : Nat} {c0 : Array Value} (O : Own r v l) (ha : a.get e = some v) (hp : eget e j = some (.agg c0)) (hn : n = l2.length) (hc : c0.toList = encL l2) (hok : ∀ x ∈ l2, Flat.ok x) (d : Dj g r) (hh : h = g.add r) (hsz : esz = Ty.sz α) (hz : zero.length = Ty.sz α)
    (hb : (l.length + l2.length) * bytes ≤ 140737488355328) (hn2 : l.length + l2.length < 2 ^ 62)
    (K : ∀ v' r', Dj g r' → Own r' v' (l ++ l2) → k (eset e dst (some v')) (g.add r')) : (A.ex (some dst) (.app bytes esz zero (.o a) (.p n j))).wp P k e h := by
  subst hsz hn
  refine a_app (rs := Heap.nil) (l2 := l2) O ha ?_ (encL_len hok) (ownL_enc hok) d Dj_nil (by simp [hh]) rfl hz hb hn2 K
  have h1 := encL_len hok
  have h2 : c0.size = l2.length * Ty.sz α := by rw [← h1, ← hc]; simp
  simp only [AO.src, hp, h2, if_true, hc]
end

/-- the place of a field of an element -/
def elpo (sz : Nat) (v : Value) (i fo : Nat) : Value :=
  match v with
  | .slice (some p) _ _ => .pointer (some ((p.add (i * sz)).add fo))
  | _ => undef

section
variable {α : Type} [Ty α] {P : Program} {k : Env → Heap → Prop} {e : Env} {h g r : Heap} {v : Value} {l : List α} {i : Nat}

theorem Rep.fa {n : Nat} (hr : Rep h v l) (hi : i < l.length) {fo : Nat} : faV fo (elp n v i) = some (elpo n v i fo) := by
  obtain ⟨p, cap, rfl, hc, hp, hl⟩ := Rep_list.1 hr
  obtain ⟨b, off, vs, rfl, _⟩ := hl i hi
  rfl

end

/- what the simplifier does not go into: 'same' makes it take these laws for a step, so that it does not fall back on its own -/
def same {α : Sort u} (x : α) : α := x
@[simp] theorem same_eq {α : Sort u} (x : α) : same x = x := Eq.trans (Eq.refl x) (Eq.refl x)
section
variable {P : Program} {e e' : Env} {h : Heap} {Q : Ex → Env → Heap → Prop} {k : Env → Heap → Prop}
@[congr] theorem C.wp_congr {c : C} (he : same e = e') : C.wp P c Q e h = C.wp P c Q e' h := by rw [← he, same_eq]
@[congr] theorem Pl.wp_congr {p : Pl} (he : same e = e') : Pl.wp P k p e h = Pl.wp P k p e' h := by rw [← he, same_eq]
@[congr] theorem S.wp_congr {s : S} (he : same e = e') : S.wp P k e h s = S.wp P k e' h s := by rw [← he, same_eq]
@[congr] theorem A.wp_congr {x : A} (he : same e = e') : A.wp P k e h x = A.wp P k e' h x := by rw [← he, same_eq]
@[congr] theorem seqQ_congr {b : C} {x x' : Ex} (hx : x = x') (he : same e = e') : seqQ P b Q x e h = seqQ P b Q x' e' h := by rw [hx, ← he, same_eq]
@[congr] theorem blockQ_congr {i : Nat} {x x' : Ex} (hx : x = x') (he : same e = e') : blockQ i Q x e h = blockQ i Q x' e' h := by rw [hx, ← he, same_eq]
@[congr] theorem loopQ_congr {n : Nat} {fg : List Nat} {I : Env → Heap → Prop} {x x' : Ex} (hx : x = x') (he : same e = e') : loopQ n fg I Q x e h = loopQ n fg I Q x' e' h := by rw [hx, ← he, same_eq]
@[congr] theorem Fgt_congr (he : same e = e') : Fgt k e h = Fgt k e' h := by rw [← he, same_eq]
@[congr] theorem RetK_congr {k : Value → Heap → Prop} {v v' : Value} (hv : same v = v') : RetK k v h = RetK k v' h := by rw [← hv, same_eq]
@[congr] theorem CallE_congr {f f' : FuncId} {a a' : List Value} {q : Value → Heap → Prop} (hf : f = f') (ha : same a = a') : CallE P f a h q = CallE P f' a' h q := by rw [hf, ← ha, same_eq]
@[congr] theorem IteW_congr {p p' A B : Prop} (hp : same p = p') : IteW p A B = IteW p' A B := by rw [← hp, same_eq]
@[congr] theorem condW_congr {v v' : Option Value} {A B : Prop} (hv : same v = v') : condW v A B = condW v' A B := by rw [← hv, same_eq]
@[congr] theorem guardW_congr' {v v' : Option Value} {w : Bool} {A B : Prop} (hv : same v = v') : guardW v w A B = guardW v' w A B := by rw [← hv, same_eq]
@[congr] theorem ExW_congr {α : Type} {x x' : Option α} {k : α → Prop} (hx : same x = x') : ExW x k = ExW x' k := by rw [← hx, same_eq]
@[congr] theorem AndW_congr {p p' A : Prop} (hp : same p = p') : AndW p A = AndW p' A := by rw [← hp, same_eq]
attribute [simp] List.getElem?_cons_zero List.getElem?_cons_succ List.getElem_cons_zero List.getElem_cons_succ
theorem C.wpe {c c' : C} (hc : c = c') {P : Program} {Q : Ex → Env → Heap → Prop} {e : Env} {h : Heap} : C.wp P c Q e h = C.wp P c' Q e h := by rw [hc]
theorem Pl.wpe {c c' : Pl} (hc : c = c') {P : Program} {k : Env → Heap → Prop} {e : Env} {h : Heap} : Pl.wp P k c e h = Pl.wp P k c' e h := by rw [hc]
end

theorem CallE.go {P : Program} {f : FuncId} {args : List Value} {h : Heap} {Q : Value → Heap → Prop} {k : Env → Heap → Prop} {d : Option Nat} {e : Env} (hc : CallE P f args h Q) (hk : ∀ v h', Q v h' → k (dput d (some v) e) h') :
    CallE P f args h fun v h' => Fgt k (dput d (some v) e) h' := CallE.mono (fun v h' hq => Fgt.keep (hk v h' hq)) hc

abbrev HP := Heap → Prop
def HS : Heap → List HP → Heap → Prop
  | g, [], h => g.le h
  | g, p :: Γ, h => ∃ g' r, h = g'.add r ∧ Dj g' r ∧ p r ∧ HS g Γ g'

def Heap.minus (h r : Heap) : Heap := fun b => match r b with
  | none => h b
  | some _ => none

section
variable {g h h' r : Heap}
theorem minus_add (hl : r.le h) : (h.minus r).add r = h := by
  funext b
  simp only [Heap.add, Heap.minus]
  cases hr : r b with
  | none => simp
  | some o => simp [hl b o hr]
theorem minus_Dj : Dj (h.minus r) r := fun b => by
  cases hr : r b with
  | none => exact .inr rfl
  | some o => exact .inl (by simp [Heap.minus, hr])
theorem le_minus (hl : g.le h) (d : Dj g r) : g.le (h.minus r) := fun b o hb => by
  rcases d b with h1 | h1
  · rw [h1] at hb; simp at hb
  · simp [Heap.minus, h1, hl b o hb]

def ow {α : Type} [Ty α] (v : Value) (x : α) : HP := fun r => Own r v x
def hole {α : Type} [Ty α] (v : Value) (l : List α) (i : Nat) (u : Value) : HP := fun r => Hole r v l i u
/-- a box of its own: so many cells -/
def bx (b : Nat) (c : List Value) : HP := fun r => ∃ el, r = Heap.one b (.cells c.toArray el (0, 0))

theorem HS.le : ∀ {Γ : List HP} {h h' : Heap}, HS g Γ h → h.le h' → HS g Γ h'
  | [], _, _, H, hl => Heap.le.trans H hl
  | _ :: _, _, h', ⟨g', r, e, d, hp, H⟩, hl => by
    subst e
    have h1 : r.le h' := (le_add' d).trans hl
    have h2 : g'.le h' := (le_add d).trans hl
    exact ⟨h'.minus r, r, (minus_add h1).symm, minus_Dj, hp, H.le (le_minus h2 d)⟩

theorem HS.base : ∀ {Γ : List HP} {h : Heap}, HS g Γ h → g.le h
  | [], _, H => H
  | _ :: _, _, ⟨_, _, e, d, _, H⟩ => by subst e; exact H.base.trans (le_add d)

theorem HS.init : HS h [] h := Heap.le.refl h
theorem HS.drop {p : HP} {Γ : List HP} (H : HS g (p :: Γ) h) : HS g Γ h := by
  obtain ⟨g', r, rfl, d, hp, H⟩ := H
  exact H.le (le_add d)

theorem HS.app : ∀ {Δ Γ : List HP} {h h' : Heap}, HS h Δ h' → HS g Γ h → HS g (Δ ++ Γ) h'
  | [], _, _, _, H1, H => H.le H1
  | _ :: _, _, _, _, ⟨g', r, e, d, hp, H1⟩, H => ⟨g', r, e, d, hp, H1.app H⟩

theorem HS.sw1 {p q : HP} {Γ : List HP} (H : HS g (p :: q :: Γ) h) : HS g (q :: p :: Γ) h := by
  obtain ⟨g1, r1, rfl, d1, hp, g2, r2, rfl, d2, hq, H⟩ := H
  obtain ⟨d3, d4⟩ := add_Dj.1 d1
  exact ⟨g2.add r1, r2, add_swap d4, add_Dj.2 ⟨d2, d4.symm⟩, hq, g2, r1, rfl, d3, hp, H⟩
theorem HS.under {p : HP} {Γ Γ' : List HP} (hH : ∀ h, HS g Γ h → HS g Γ' h) (H : HS g (p :: Γ) h) : HS g (p :: Γ') h := by
  obtain ⟨g', r, rfl, d, hp, H⟩ := H
  exact ⟨g', r, rfl, d, hp, hH _ H⟩
theorem HS.imp {p q : HP} {Γ : List HP} (H : HS g (p :: Γ) h) (hpq : ∀ r, p r → q r) : HS g (q :: Γ) h := by
  obtain ⟨g', r, e, d, hp, H⟩ := H
  exact ⟨g', r, e, d, hpq r hp, H⟩
/- the n-th to the front -/
theorem HS.sw2 {a b c : HP} {Γ : List HP} (H : HS g (a :: b :: c :: Γ) h) : HS g (c :: a :: b :: Γ) h := (H.under fun _ => HS.sw1).sw1
theorem HS.sw3 {a b c d : HP} {Γ : List HP} (H : HS g (a :: b :: c :: d :: Γ) h) : HS g (d :: a :: b :: c :: Γ) h := (H.under fun _ => HS.sw2).sw1
theorem HS.sw4 {a b c d f : HP} {Γ : List HP} (H : HS g (a :: b :: c :: d :: f :: Γ) h) : HS g (f :: a :: b :: c :: d :: Γ) h := (H.under fun _ => HS.sw3).sw1
theorem HS.bk1 {a b : HP} {Γ : List HP} (H : HS g (a :: b :: Γ) h) : HS g (b :: a :: Γ) h := H.sw1
/- the first one back to where the n-th stood -/
theorem HS.bk2 {a b c : HP} {Γ : List HP} (H : HS g (c :: a :: b :: Γ) h) : HS g (a :: b :: c :: Γ) h := H.sw2.sw2
theorem HS.bk3 {a b c d : HP} {Γ : List HP} (H : HS g (d :: a :: b :: c :: Γ) h) : HS g (a :: b :: c :: d :: Γ) h := H.sw3.sw3.sw3
theorem HS.of {α : Type} [Ty α] {v : Value} {x : α} (H : ∃ r, Dj h r ∧ h' = h.add r ∧ Own r v x) : HS h [ow v x] h' := by
  obtain ⟨r, d, rfl, O⟩ := H
  exact ⟨h, r, rfl, d, O, HS.init⟩
theorem HS.rep {α : Type} [Ty α] {v : Value} {x : α} {Γ : List HP} (H : HS g (ow v x :: Γ) h) : Rep h v x := by
  obtain ⟨g', r, rfl, d, O, _⟩ := H
  exact Own.rep' O d
theorem Rep.on {α : Type} [Ty α] {v : Value} {x : α} {Γ : List HP} (R : Rep g v x) (H : HS g Γ h) : Rep h v x := R.le H.base
end

section
variable {α : Type} [Ty α] {P : Program} {k : Env → Heap → Prop} {e : Env} {g h : Heap} {Γ : List HP} {v u : Value} {l l2 : List α} {i : Nat}

theorem HS.storeF [Flat α] (H : HS g (ow v l :: Γ) h) (y : α) {sz : Nat} {a x : O} (hi : i < l.length) (hp : a.get e = some (elp (Ty.sz α) v i)) (hx : x.get e = some (valC (Ty.agg α) (Flat.enc y))) (hy : Flat.ok y) (hsz : sz = Ty.sz α)
    (K : ∀ h', HS g (ow v (l.set i y) :: Γ) h' → k e h') : (A.ex none (.store sz a x)).wp P k e h := by
  obtain ⟨g', r, rfl, d, O, H⟩ := H
  exact a_storeF y O hi d rfl hp hx hy hsz fun r' d' O' => K _ ⟨g', r', rfl, d', O', H⟩

/-- writing an element that is owned itself -/
theorem HS.store {y : α} {u' : Value} (H : HS g (ow u' y :: ow v l :: Γ) h) {sz : Nat} {a x : O} (hi : i < l.length) (hp : a.get e = some (elp (Ty.sz α) v i)) (hx : x.get e = some u') (hsz : sz = Ty.sz α)
    (K : ∀ h', HS g (ow v (l.set i y) :: Γ) h' → k e h') : (A.ex none (.store sz a x)).wp P k e h := by
  obtain ⟨g1, ru, rfl, d2, Ou, g', r, rfl, d, O, H⟩ := H
  exact a_store O hi Ou d d2 rfl hp hx hsz fun r' d' O' => K _ ⟨g', r', rfl, d', O', H⟩

/-- an element is taken away -/
theorem HS.take (H : HS g (ow v l :: Γ) h) (hi : i < l.length) : ∃ u, hload h (some (elp (Ty.sz α) v i)) (szo α) = some u ∧ HS g (ow u l[i] :: hole v l i u :: Γ) h := by
  obtain ⟨g', r, rfl, d, O, H⟩ := H
  obtain ⟨u, r1, r2, rfl, d1, O1, Ho⟩ := Own.take O hi
  obtain ⟨d2, d3⟩ := Dj_add.1 d
  refine ⟨u, hload_le (Heap.le.trans (le_add' d1) (le_add' d)) Ho.ld, g'.add r2, r1, ?_, add_Dj.2 ⟨d2, d1.symm⟩, O1, g', r2, rfl, d3, Ho, H⟩
  rw [add_assoc, d1.comm]
/-- an element is put back -/
theorem HS.put {y : α} (H : HS g (ow u y :: hole v l i u :: Γ) h) : HS g (ow v (l.set i y) :: Γ) h := by
  obtain ⟨g1, r1, rfl, d1, O1, g', r2, rfl, d2, Ho, H⟩ := H
  obtain ⟨d3, d4⟩ := add_Dj.1 d1
  refine ⟨g', r1.add r2, ?_, Dj_add.2 ⟨d3, d2⟩, Ho.put d4.symm O1, H⟩
  rw [add_assoc, d4.comm]
theorem HS.holeld (H : HS g (hole v l i u :: Γ) h) : hload h (some (elp (Ty.sz α) v i)) (szo α) = some u := by
  obtain ⟨g', r, rfl, d, Ho, H⟩ := H
  exact hload_le (le_add' d) (Hole.ld Ho)
theorem HS.holeia (H : HS g (hole v l i u :: Γ) h) {n : Nat} (hn : n = Ty.sz α) {kd : IntKind} {j : Nat} (hj : j < l.length) : iaV n v (.int kd j) = some (elp n v j) := by
  obtain ⟨g', r, rfl, d, Ho, H⟩ := H
  subst hn
  simpa using Hole.ia Ho (k := kd) (n := (j : Int)) (by omega) (by omega)

theorem HS.mks (H : HS g Γ h) {bytes esz : Nat} {zero : List Value} {len cap : O} {j j' : IntKind} {n c : Nat} {dst : Nat} {z : α} (hl : len.get e = some (.int j n)) (hc : cap.get e = some (.int j' c)) (hz : Ty.own Heap.nil zero z) (h1 : n ≤ c) (h2 : c < 2 ^ 62) (h3 : bytes * c ≤ 2 ^ 48)
    (K : ∀ v h', HS g (ow v (List.replicate n z) :: Γ) h' → k (eset e dst (some v)) h') : (A.ex (some dst) (.mks bytes esz zero len cap)).wp P k e h :=
  a_mks hl hc hz h1 h2 h3 fun v r d O => K _ _ ⟨h, r, rfl, d, O, H⟩

/-- appending elements without memory of their own, out of a private slice -/
theorem HS.appF [Flat α] (H : HS g (ow v l :: Γ) h) (l2 : List α) {bytes esz : Nat} {zero : List Value} {a : O} {n j : Nat} {dst : Nat} {c0 : Array Value} (ha : a.get e = some v) (hp : eget e j = some (.agg c0)) (hn : n = l2.length) (hc : c0.toList = encL l2) (hok : ∀ x ∈ l2, Flat.ok x) (hsz : esz = Ty.sz α) (hz : zero.length = Ty.sz α)
    (hb : (l.length + l2.length) * bytes ≤ 140737488355328) (hn2 : l.length + l2.length < 2 ^ 62)
    (K : ∀ v' h', HS g (ow v' (l ++ l2) :: Γ) h' → k (eset e dst (some v')) h') : (A.ex (some dst) (.app bytes esz zero (.o a) (.p n j))).wp P k e h := by
  obtain ⟨g', r, rfl, d, O, H⟩ := H
  exact a_appF O ha hp hn hc hok d rfl hsz hz hb hn2 fun v' r' d' O' => K _ _ ⟨g', r', rfl, d', O', H⟩
theorem HS.app1 [Flat α] (H : HS g (ow v l :: Γ) h) (y : α) {bytes esz : Nat} {zero : List Value} {a : O} {j : Nat} {dst : Nat} {c0 : Array Value} (ha : a.get e = some v) (hp : eget e j = some (.agg c0)) (hc : c0.toList = Flat.enc y) (hok : Flat.ok y) (hsz : esz = Ty.sz α) (hz : zero.length = Ty.sz α)
    (hb : (l.length + 1) * bytes ≤ 140737488355328) (hl1 : l.length + 1 < 2 ^ 62)
    (K : ∀ v' h', HS g (ow v' (l ++ [y]) :: Γ) h' → k (eset e dst (some v')) h') : (A.ex (some dst) (.app bytes esz zero (.o a) (.p 1 j))).wp P k e h := by
  refine H.appF [y] ha hp rfl (by simpa [encL] using hc) (by simpa using hok) hsz hz (by simpa using hb) ?_ K
  exact hl1
/-- appending one element that is owned itself -/
theorem HS.appO {y : α} (H : HS g (ow u y :: ow v l :: Γ) h) {bytes esz : Nat} {zero : List Value} {a : O} {j : Nat} {dst : Nat} {c0 : Array Value} (ha : a.get e = some v) (hp : eget e j = some (.agg c0)) (hc : c0.toList = u.cells.toList) (hsz : esz = Ty.sz α) (hz : zero.length = Ty.sz α)
    (hb : (l.length + 1) * bytes ≤ 140737488355328) (hl1 : l.length + 1 < 2 ^ 62)
    (K : ∀ v' h', HS g (ow v' (l ++ [y]) :: Γ) h' → k (eset e dst (some v')) h') : (A.ex (some dst) (.app bytes esz zero (.o a) (.p 1 j))).wp P k e h := by
  obtain ⟨g1, ru, rfl, d2, ⟨cs, rfl, ho⟩, g', r, rfl, d, O, H⟩ := H
  have h1 := Ty.len (Ty.own_rep ho)
  rw [rep_cells (Ty.own_rep ho)] at hc
  have h2 : c0.size = 1 * esz := by rw [hsz, Nat.one_mul, ← h1, ← hc]; simp
  refine a_app (l2 := [y]) (cs := cs) (rs := ru) O ha ?_ (by simpa using h1) ⟨ru, Heap.nil, by simp, by simp, by simpa [← h1] using ho, rfl⟩ d d2 rfl hsz hz (by simpa using hb) hl1 fun v' r' d' O' => K _ _ ⟨g', r', rfl, d', O', H⟩
  simp only [AO.src, hp, h2, if_true, hc, List.length_singleton]
/-- appending the elements of a list that is only read -/
theorem HS.appL [Flat α] (H : HS g (ow v l :: Γ) h) {bytes esz : Nat} {zero : List Value} {a x : O} {dst : Nat} (ha : a.get e = some v) (hx : x.get e = some u) (hr : Rep h u l2) (hsz : esz = Ty.sz α) (hz : zero.length = Ty.sz α)
    (hb : (l.length + l2.length) * bytes ≤ 140737488355328) (hn : l.length + l2.length < 2 ^ 62)
    (K : ∀ v' h', HS g (ow v' (l ++ l2) :: Γ) h' → k (eset e dst (some v')) h') : (A.ex (some dst) (.app bytes esz zero (.o a) (.o x))).wp P k e h := by
  obtain ⟨g', r, rfl, d, O, H⟩ := H
  exact a_appL O ha hx hr d rfl hsz hz hb hn fun v' r' d' O' => K _ _ ⟨g', r', rfl, d', O', H⟩
/-- the same, to a private slice without elements -/
theorem HS.appPL [Flat α] (H : HS g Γ h) {bytes esz : Nat} {zero : List Value} {j : Nat} {x : O} {dst : Nat} {c0 : Array Value} (hp : eget e j = some (.agg c0)) (hx : x.get e = some u) (hr : Rep h u l2) (hsz : esz = Ty.sz α) (hz : zero.length = Ty.sz α) (hb : l2.length * bytes ≤ 140737488355328)
    (K : ∀ v' h', HS g (ow v' l2 :: Γ) h' → k (eset e dst (some v')) h') : (A.ex (some dst) (.app bytes esz zero (.p 0 j) (.o x))).wp P k e h :=
  a_appPL hp hx hr hsz hz hb fun v' r' d' O' => K _ _ ⟨h, r', rfl, d', O', H⟩
/-- the same, with elements out of a private slice -/
theorem HS.nil_ow (H : HS g Γ h) : HS g (ow (.slice none 0 0) ([] : List α) :: Γ) h := ⟨h, Heap.nil, by simp, by simp, Own_nils, H⟩

/-- a slice that is written out -/
theorem HS.bls [Flat α] (H : HS g Γ h) (l2 : List α) {esz len : Nat} {zero : List Value} {parts : List (Nat × Nat × O)} {dst : Nat} (hf : fillP e (reps len zero) parts = some (encL l2)) (hn : len = l2.length) (hok : ∀ x ∈ l2, Flat.ok x) (hl : len < 4611686018427387904)
    (K : ∀ v' h', HS g (ow v' l2 :: Γ) h' → k (eset e dst (some v')) h') : (A.ex (some dst) (.bls esz len zero parts)).wp P k e h := by
  subst hn
  refine ⟨_, hf, fun b el hb => Fgt.keep ?_⟩
  rw [set_new hb]
  refine K _ _ ⟨h, _, rfl, Dj_one.2 hb, Own_list.2 (.inr ⟨b, 0, l2.length, encL l2, el, Heap.nil, rfl, ⟨Nat.le_refl _, hl⟩, ?_, by simp, rfl, by simpa using ownL_enc hok⟩), H⟩
  rw [encL_len hok]; omega
end

section
variable {P : Program} {k : Env → Heap → Prop} {e : Env} {g h : Heap} {Γ : List HP}
/- boxes -/
theorem HS.alloc (H : HS g Γ h) {x : O} {dst : Nat} {u : Value} (hx : x.get e = some u) (K : ∀ b h', HS g (bx b u.cells.toList :: Γ) h' → k (eset e dst (some (.pointer (some ⟨b, 0, none⟩)))) h') : (A.ex (some dst) (.alloc x)).wp P k e h := by
  refine ⟨u, hx, fun b el hb => Fgt.keep ?_⟩
  rw [set_new hb]
  exact K _ _ ⟨h, _, rfl, Dj_one.2 hb, ⟨el, rfl⟩, H⟩
theorem HS.bxld {b : Nat} {c : List Value} (H : HS g (bx b c :: Γ) h) {o : Nat} {u : Value} (ho : c[o]? = some u) : hload h (some (.pointer (some ⟨b, o, none⟩))) none = some u := by
  obtain ⟨g', r, rfl, d, ⟨el, rfl⟩, H⟩ := H
  refine hload_le (le_add' d) ?_
  simp [hload, hcell, Heap.one, ho]
theorem HS.bxld0 {b : Nat} {u : Value} (H : HS g (bx b [u] :: Γ) h) : hload h (some (.pointer (some ⟨b, 0, none⟩))) none = some u := H.bxld rfl
theorem HS.bxlds {b : Nat} {c : List Value} (H : HS g (bx b c :: Γ) h) {o n : Nat} (ho : o + n ≤ c.length) : hload h (some (.pointer (some ⟨b, o, none⟩))) (some n) = some (.agg ((c.drop o).take n).toArray) := by
  obtain ⟨g', r, rfl, d, ⟨el, rfl⟩, H⟩ := H
  refine hload_le (le_add' d) ?_
  have hb : (Heap.one b (.cells c.toArray el (0, 0))) b = some (.cells c.toArray el (0, 0)) := by simp [Heap.one]
  simp only [hload]
  rw [hcells_mk hb (by simpa using ho)]
  rfl
theorem HS.bxst {b : Nat} {c : List Value} (H : HS g (bx b c :: Γ) h) {o sz : Nat} {a x : O} {u : Value} (hp : a.get e = some (.pointer (some ⟨b, o, none⟩))) (hx : x.get e = some u) (hu : u.cells.size = sz) (hu1 : allOne u.cells.toList = true) (ho : o + sz ≤ c.length)
    (K : ∀ h', HS g (bx b (setC c o u.cells.toList) :: Γ) h' → k e h') : (A.ex none (.store sz a x)).wp P k e h := by
  obtain ⟨g', r, rfl, d, ⟨el, rfl⟩, H⟩ := H
  have hn := Dj_one.1 d
  refine ⟨b, o, u, g'.add (Heap.one b (.cells (setC c o u.cells.toList).toArray el (0, 0))), hp, hx, hu, ?_, Fgt.keep (K _ ⟨g', _, rfl, Dj_one.2 hn, ⟨el, rfl⟩, H⟩)⟩
  have hb : (g'.add (Heap.one b (.cells c.toArray el (0, 0)))) b = some (.cells c.toArray el (0, 0)) := by simp [Heap.add, Heap.one, hn]
  unfold hstore
  rw [hb]
  simp only
  rw [if_pos ⟨trivial, by simpa [hu] using ho, by rw [allOne_eq]; exact hu1⟩, set_one hn]
end

end Go.Proofs.YthgimpheeemooaaGreat

/-
  Facts for the simplifier; loops; structures; marks; words as sets.
-/
namespace Go.Proofs.YthgimpheeemooaaGreat
open Go
set_option linter.all false
set_option linter.unusedVariables false
set_option linter.unusedSimpArgs false
set_option linter.defProp false
set_option maxRecDepth 1000000
universe u

section
variable {α : Type} [Ty α] {h : Heap} {v : Value}
/-- the places of a slice's elements, and its length -/
theorem Rep.X {l : List α} (hr : Rep h v l) {n : Nat} (hn : n = Ty.sz α) : (∀ (kd : IntKind) (i : Nat), i < l.length → iaV n v (.int kd i) = some (elp n v i)) ∧ (∀ (kd : IntKind) (i : Int), 0 ≤ i → i < l.length → iaV n v (.int kd i) = some (elp n v i.toNat)) ∧ lenVV v = some (.int .i64 l.length) :=
  ⟨fun _ _ h1 => hr.ian hn h1, fun _ _ h0 h1 => hr.ia' hn h0 h1, hr.len⟩
end
section
variable {h : Heap} {v : Value}
theorem Rep.I {l : List Int} (hr : Rep h v l) : ((∀ (kd : IntKind) (i : Nat), i < l.length → iaV 1 v (.int kd i) = some (elp 1 v i)) ∧ (∀ (kd : IntKind) (i : Int), 0 ≤ i → i < l.length → iaV 1 v (.int kd i) = some (elp 1 v i.toNat)) ∧ lenVV v = some (.int .i64 l.length)) ∧
    ∀ (i : Nat) (hi : i < l.length), hload h (some (elp 1 v i)) none = some (.int .i64 l[i]) := ⟨hr.X rfl, fun _ hi => hr.ldI hi⟩
theorem Rep.B {l : List Bool} (hr : Rep h v l) : ((∀ (kd : IntKind) (i : Nat), i < l.length → iaV 1 v (.int kd i) = some (elp 1 v i)) ∧ (∀ (kd : IntKind) (i : Int), 0 ≤ i → i < l.length → iaV 1 v (.int kd i) = some (elp 1 v i.toNat)) ∧ lenVV v = some (.int .i64 l.length)) ∧
    ∀ (i : Nat) (hi : i < l.length), hload h (some (elp 1 v i)) none = some (.bool l[i]) := ⟨hr.X rfl, fun _ hi => hr.ldB hi⟩
theorem Rep.S {l : List ByteArray} (hr : Rep h v l) : ((∀ (kd : IntKind) (i : Nat), i < l.length → iaV 1 v (.int kd i) = some (elp 1 v i)) ∧ (∀ (kd : IntKind) (i : Int), 0 ≤ i → i < l.length → iaV 1 v (.int kd i) = some (elp 1 v i.toNat)) ∧ lenVV v = some (.int .i64 l.length)) ∧
    ∀ (i : Nat) (hi : i < l.length), hload h (some (elp 1 v i)) none = some (.string l[i]) := ⟨hr.X rfl, fun _ hi => hr.ldS hi⟩
/-- a list of lists: where an element's header lies -/
theorem Rep.ldL {α : Type} [Ty α] {l : List (List α)} (hr : Rep h v l) {i : Nat} (hi : i < l.length) : ∃ u, hload h (some (elp 1 v i)) none = some u ∧ Rep h u l[i] := hr.ld hi
end

theorem IteW.mkr {p A B : Prop} (h2 : ¬ p → B) (h1 : p → A) : IteW p A B := ⟨h1, h2⟩

/-- THE LOOP over a state of plain data: 'Enc s' says how the state lies in the environment and the memory; 'm' goes down -/
theorem wp_while {P : Program} {Q : Ex → Env → Heap → Prop} {e : Env} {h : Heap} {n : Nat} {fg : List Nat} {a : C} {σ : Type} (Enc : σ → Env → Heap → Prop) (m : σ → Nat) (s0 : σ) (h0 : Enc s0 (efgt (e.take n) fg) h)
    (hs : ∀ (J : Env → Heap → Prop) s e h, (∀ s' e h, m s' < m s → Enc s' e h → J e h) → Enc s e h → a.wp P (loopQ n fg J Q) e h) : (C.loop n fg a).wp P Q e h := by
  refine wp_loop (fun k e h => ∃ s, m s = k ∧ Enc s e h) ⟨_, s0, rfl, h0⟩ ?_
  rintro I' k e h hI ⟨s, rfl, hE⟩
  exact hs I' s e h (fun s' e h hlt hE => hI (m s') e h hlt ⟨s', rfl, hE⟩) hE

theorem own1 {α : Type} [Ty α] (ha : Ty.agg α = false) {r : Heap} {cs : List Value} {x : α} : Ty.own r cs x ↔ ∃ v, cs = [v] ∧ Own r v x := by
  constructor
  · intro ho
    have hl := Ty.len (Ty.own_rep ho)
    rw [Ty.one ha] at hl
    match cs, hl with
    | [v], _ => exact ⟨v, rfl, [v], by simp [valC, ha], ho⟩
  · rintro ⟨v, rfl, c, h1, h2⟩
    have hl := Ty.len (Ty.own_rep h2)
    rw [Ty.one ha] at hl
    match c, hl with
    | [u], _ => simp [valC, ha] at h1; subst h1; exact h2
theorem rep1 {α : Type} [Ty α] (ha : Ty.agg α = false) {r : Heap} {cs : List Value} {x : α} : Ty.rep r cs x ↔ ∃ v, cs = [v] ∧ Rep r v x := by
  constructor
  · intro ho
    have hl := Ty.len ho
    rw [Ty.one ha] at hl
    match cs, hl with
    | [v], _ => exact ⟨v, rfl, [v], by simp [valC, ha], ho⟩
  · rintro ⟨v, rfl, c, h1, h2⟩
    have hl := Ty.len h2
    rw [Ty.one ha] at hl
    match c, hl with
    | [u], _ => simp [valC, ha] at h1; subst h1; exact h2

section
variable {α : Type} [Ty α] {h : Heap} {v : Value} {l : List α} {i : Nat}
/-- one cell of an element -/
theorem Rep.fld [Flat α] (hr : Rep h v l) (hi : i < l.length) {n j : Nat} (hn : n = Ty.sz α) {u : Value} (hj : (Flat.enc l[i])[j]? = some u) : hload h (some (elpo n v i j)) none = some u := by
  subst hn
  obtain ⟨p, cap, rfl, hc, hp, hl⟩ := Rep_list.1 hr
  obtain ⟨b, off, vs, rfl, h1, h2⟩ := hl i hi
  rw [← (Flat.rep_iff.1 h2).1] at hj
  have := (hcells_get h1).2 j u hj
  simp [elpo, add_none, hload, this]
end

/-- a value of many cells, as it is put into a box and taken out -/
theorem Rep.A {α : Type} [Ty α] {h : Heap} {v : Value} {x : α} (hr : Rep h v x) (ha : Ty.agg α = true) {n : Nat} (hn : n = Ty.sz α) : pgetV (some v) 0 (some n) = some v ∧ v.cells.size = n ∧ allOne v.cells.toList = true ∧ Value.agg v.cells = v := by
  obtain ⟨cs, rfl, h1⟩ := hr
  have h2 := Ty.len h1
  have h3 := Ty.cell h1
  subst hn
  simp only [valC, ha, if_true]
  refine ⟨?_, by simpa using h2, ?_, rfl⟩
  · simp [h2]
  · rw [← allOne_eq]; simpa using h3

/-- owned, at its cells -/
def owC {α : Type} [Ty α] (cs : List Value) (x : α) : HP := fun r => Ty.own r cs x

section
variable {g h : Heap} {Γ : List HP}
theorem HS.join2 {p p1 p2 : HP} (H : HS g (p1 :: p2 :: Γ) h) (hp : ∀ r1 r2, Dj r1 r2 → p1 r1 → p2 r2 → p (r1.add r2)) : HS g (p :: Γ) h := by
  obtain ⟨g1, r1, rfl, d1, h1, g', r2, rfl, d2, h2, H⟩ := H
  obtain ⟨d3, d4⟩ := add_Dj.1 d1
  refine ⟨g', r1.add r2, ?_, Dj_add.2 ⟨d3, d2⟩, hp r1 r2 d4.symm h1 h2, H⟩
  rw [add_assoc, d4.comm]
theorem HS.unvia {α β : Type} [Ty β] (f : α → β) {v : Value} {x : α} (H : HS g (@ow α (Ty.via f) v x :: Γ) h) : ∃ cs : List Value, v = .agg cs.toArray ∧ HS g (owC cs (f x) :: Γ) h := by
  obtain ⟨g', r, rfl, d, ⟨cs, rfl, ho⟩, H⟩ := H
  exact ⟨cs, rfl, g', r, rfl, d, ho, H⟩
theorem HS.via {α β : Type} [Ty β] (f : α → β) {cs : List Value} {x : α} (H : HS g (owC cs (f x) :: Γ) h) : HS g (@ow α (Ty.via f) (.agg cs.toArray) x :: Γ) h :=
  H.imp fun _ ho => ⟨cs, rfl, ho⟩
theorem HS.unprod {α β : Type} [Ty α] [Ty β] {cs : List Value} {x : α} {y : β} (H : HS g (owC cs (x, y) :: Γ) h) : ∃ c1 c2, cs = c1 ++ c2 ∧ HS g (owC c1 x :: owC c2 y :: Γ) h := by
  obtain ⟨g', r, rfl, d, ⟨c1, c2, r1, r2, rfl, rfl, d2, h1, h2⟩, H⟩ := H
  obtain ⟨d3, d4⟩ := Dj_add.1 d
  exact ⟨c1, c2, rfl, g'.add r2, r1, by rw [add_assoc, d2.comm], add_Dj.2 ⟨d3, d2.symm⟩, h1, g', r2, rfl, d4, h2, H⟩
theorem HS.unone {α : Type} [Ty α] (ha : Ty.agg α = false) {cs : List Value} {x : α} (H : HS g (owC cs x :: Γ) h) : ∃ v, cs = [v] ∧ HS g (ow v x :: Γ) h := by
  obtain ⟨g', r, rfl, d, ho, H⟩ := H
  have ho2 : Ty.own r cs x := ho
  obtain ⟨v, rfl, h3⟩ := (own1 ha).1 ho2
  exact ⟨v, rfl, g', r, rfl, d, h3, H⟩
theorem HS.one {α : Type} [Ty α] (ha : Ty.agg α = false) {v : Value} {x : α} (H : HS g (ow v x :: Γ) h) : HS g (owC [v] x :: Γ) h := H.imp fun _ ho => (own1 ha).2 ⟨v, rfl, ho⟩
theorem HS.prod {α β : Type} [Ty α] [Ty β] (ha : Ty.agg α = false) {v : Value} {cs : List Value} {x : α} {y : β} (H : HS g (ow v x :: owC cs y :: Γ) h) : HS g (owC (v :: cs) (x, y) :: Γ) h :=
  H.join2 fun r1 r2 d h1 h2 => ⟨[v], cs, r1, r2, rfl, rfl, d, (own1 ha).2 ⟨v, rfl, h1⟩, h2⟩
end

/-- HOW MUCH a piece of data holds: the lengths of all its lists, added up -/
class Sz (α : Type) where
  sz : α → Nat
instance : Sz Int := ⟨fun _ => 0⟩
instance : Sz Bool := ⟨fun _ => 0⟩
def szL {α : Type} [Sz α] : List α → Nat
  | [] => 0
  | x :: l => Sz.sz x + szL l
instance instSzList {α : Type} [Sz α] : Sz (List α) := ⟨fun l => l.length + szL l⟩
theorem sz_list {α : Type} [Sz α] (l : List α) : Sz.sz l = l.length + szL l := rfl
theorem szL_get {α : Type} [Sz α] : ∀ {l : List α} {i : Nat} (hi : i < l.length), Sz.sz l[i] ≤ szL l
  | x :: l, 0, _ => by simp [szL]
  | x :: l, i + 1, hi => by
    have := szL_get (l := l) (i := i) (by simpa using hi)
    simp [szL]; omega
theorem szL_take {α : Type} [Sz α] : ∀ {l : List α} {i : Nat} (hi : i < l.length), szL (l.take (i + 1)) = szL (l.take i) + Sz.sz l[i]
  | x :: l, 0, _ => by simp [szL]
  | x :: l, i + 1, hi => by
    have := szL_take (l := l) (i := i) (by simpa using hi)
    simp [szL, this]; omega
theorem szL_zero {α : Type} [Sz α] (h0 : ∀ x : α, Sz.sz x = 0) : ∀ l : List α, szL l = 0
  | [] => rfl
  | x :: l => by simp [szL, h0, szL_zero h0 l]

/-- 'cnt': how many places are written; 'wr k': the piece of data with the places written over, from k on -/
class Mk (α : Type) where
  cnt : α → Nat
  wr : Int → α → α
  cnt_wr : ∀ k x, cnt (wr k x) = cnt x
  wr_wr : ∀ k j x, wr k (wr j x) = wr k x

def cntL {α : Type} [Mk α] : List α → Nat
  | [] => 0
  | x :: l => Mk.cnt x + cntL l
def mkL {α : Type} [Mk α] : Int → List α → List α
  | _, [] => []
  | k, x :: l => Mk.wr k x :: mkL (k + Mk.cnt x) l

section
variable {α : Type} [Mk α]
theorem cntL_mk : ∀ (k : Int) (l : List α), cntL (mkL k l) = cntL l
  | _, [] => rfl
  | k, x :: l => by simp [cntL, mkL, Mk.cnt_wr, cntL_mk (k + Mk.cnt x) l]
theorem mkL_mk : ∀ (k j : Int) (l : List α), mkL k (mkL j l) = mkL k l
  | _, _, [] => rfl
  | k, j, x :: l => by simp [mkL, Mk.cnt_wr, Mk.wr_wr, mkL_mk (k + Mk.cnt x) (j + Mk.cnt x) l]
@[simp] theorem mkL_length : ∀ (k : Int) (l : List α), (mkL k l).length = l.length
  | _, [] => rfl
  | k, x :: l => by simp [mkL, mkL_length (k + Mk.cnt x) l]
theorem mkL_get : ∀ (k : Int) (l : List α) (i : Nat) (hi : i < l.length), (mkL k l)[i]'(by simpa using hi) = Mk.wr (k + cntL (l.take i)) l[i]
  | _, [], i, hi => by simp at hi
  | k, x :: l, 0, _ => by simp [mkL, cntL]
  | k, x :: l, i + 1, hi => by
    simp only [mkL, List.getElem_cons_succ, List.take_succ_cons, cntL]
    rw [mkL_get (k + Mk.cnt x) l i (by simpa using hi)]
    congr 1
    push_cast
    omega
theorem cntL_take : ∀ (l : List α) (i : Nat) (hi : i < l.length), cntL (l.take (i + 1)) = cntL (l.take i) + Mk.cnt l[i]
  | [], i, hi => by simp at hi
  | x :: l, 0, _ => by simp [cntL]
  | x :: l, i + 1, hi => by
    simp only [List.take_succ_cons, cntL, List.getElem_cons_succ]
    rw [cntL_take l i (by simpa using hi)]
    omega
theorem cntL_le : ∀ (l : List α) (i : Nat), cntL (l.take i) ≤ cntL l
  | [], i => by simp [cntL]
  | x :: l, 0 => by simp [cntL]
  | x :: l, i + 1 => by
    simp only [List.take_succ_cons, cntL]
    have := cntL_le l i
    omega

instance instMkList : Mk (List α) := ⟨cntL, mkL, cntL_mk, mkL_mk⟩
end

instance instMkInt : Mk Int := ⟨fun _ => 1, fun k _ => k, fun _ _ => rfl, fun _ _ _ => rfl⟩
instance instMkBool : Mk Bool := ⟨fun _ => 1, fun k _ => decide (k.tmod 3 = 0), fun _ _ => rfl, fun _ _ _ => rfl⟩
/-- how far the writing has come -/
structure Mkd {α : Type} [Mk α] (k : Int) (x y : List α) (i : Nat) : Prop where
  len : y.length = x.length
  done : y.take i = (mkL k x).take i
  rest : y.drop i = x.drop i

section
variable {α : Type} [Mk α] {k : Int} {x y : List α} {i : Nat}
theorem Mkd.zero : Mkd k x x 0 := ⟨rfl, rfl, rfl⟩
theorem Mkd.get (h : Mkd k x y i) (hi : i < x.length) : y[i]'(by rw [h.len]; exact hi) = x[i] := by
  have := congrArg (fun l => l[0]?) h.rest
  simp [List.getElem?_drop, hi, h.len] at this
  exact this
theorem Mkd.step (h : Mkd k x y i) (hi : i < x.length) : Mkd k x (y.set i (Mk.wr (k + cntL (x.take i)) x[i])) (i + 1) := by
  refine ⟨by simp [h.len], ?_, ?_⟩
  · have := take_set_succ (x := mkL k x) h.done (by simpa using hi) (by simpa using h.len)
    rwa [mkL_get k x i hi] at this
  · rw [List.drop_set_of_lt (by omega)]
    have := congrArg (List.drop 1) h.rest
    simpa [List.drop_drop] using this
theorem Mkd.all (h : Mkd k x y i) (hi : x.length ≤ i) : y = mkL k x := eq_of_take h.done (by simpa using hi) (by simpa using h.len)
end
theorem take_step {α : Type} {x y : List α} {i : Nat} (h : x.take i = y.take i) (h1 : i < x.length) (h2 : i < y.length) (he : x[i] = y[i]) : x.take (i + 1) = y.take (i + 1) := by
  rw [List.take_add_one, List.take_add_one, h, List.getElem?_eq_getElem h1, List.getElem?_eq_getElem h2, he]
/-- an amount to shift by is not negative -/
@[simp] theorem ite_lt_zero {α : Type} {b : Int} {x y : α} (h : 0 ≤ b) : (if b < 0 then x else y) = y := if_neg (by omega)

/- bits -/
def setB (a : BitVec 64) (j : Nat) : BitVec 64 := a ||| (1#64 <<< j)
def clrB (a : BitVec 64) (j : Nat) : BitVec 64 := a &&& ~~~(1#64 <<< j)
/-- eight words -/
structure W8 where
  l : List (BitVec 64)
  len : l.length = 8
def W8.zero : W8 := ⟨List.replicate 8 0, rfl⟩
def W8.put (w : W8) (j : Nat) (x : BitVec 64) : W8 := ⟨w.l.set j x, by simp [w.len]⟩
def W8.at (w : W8) (j : Nat) : BitVec 64 := w.l.getD j 0
def W8.enc (w : W8) : List Value := w.l.map fun b => .int .u64 b.toNat
instance instTyW8 : Ty W8 where
  agg := true
  sz := 8
  rep := fun _ cs x => cs = x.enc
  own := fun r cs x => r = Heap.nil ∧ cs = x.enc
  one := fun h => by simp at h
  len := by rintro h cs x rfl; simp [W8.enc, x.len]
  cell := by
    rintro h cs x rfl v hv
    simp only [W8.enc, List.mem_map] at hv
    obtain ⟨b, _, rfl⟩ := hv
    rfl
  mono := fun _ hr => hr
  own_rep := fun ho => ho.2
instance instFlatW8 : Flat W8 := ⟨W8.enc, fun _ => True, by simp [Ty.rep], by simp [Ty.own]⟩
theorem W8.enc_at (w : W8) {j : Nat} (hj : j < 8) : w.enc[j]? = some (.int .u64 (w.at j).toNat) := by
  have : j < w.l.length := by rw [w.len]; exact hj
  simp [W8.enc, W8.at, this]
section
variable {α : Type} [Ty α] {h : Heap} {v : Value} {l : List α} {i : Nat}
theorem Rep.iaA (hr : Rep h v l) (hi : i < l.length) {n m : Nat} {kd : IntKind} {j : Nat} (hj : j < m) : iaAV m 1 (elp n v i) (.int kd j) = some (elpo n v i j) := by
  obtain ⟨p, cap, rfl, hc, hp, hl⟩ := Rep_list.1 hr
  obtain ⟨b, off, vs, rfl, _⟩ := hl i hi
  have : (j : Int) < m := by omega
  simp [iaAV, elp, elpo, this]
/-- rows of words -/
theorem Rep.W {l : List W8} (hr : Rep h v l) : ((∀ (kd : IntKind) (i : Nat), i < l.length → iaV 8 v (.int kd i) = some (elp 8 v i)) ∧ (∀ (kd : IntKind) (i : Int), 0 ≤ i → i < l.length → iaV 8 v (.int kd i) = some (elp 8 v i.toNat)) ∧ lenVV v = some (.int .i64 l.length)) ∧
    (∀ (kd : IntKind) (i j : Nat), i < l.length → j < 8 → iaAV 8 1 (elp 8 v i) (.int kd j) = some (elpo 8 v i j)) ∧
    ∀ (i j : Nat) (hi : i < l.length), j < 8 → hload h (some (elpo 8 v i j)) none = some (.int .u64 (l[i].at j).toNat) :=
  ⟨hr.X rfl, fun _ _ _ hi hj => hr.iaA hi hj, fun _ _ hi hj => hr.fld hi rfl (W8.enc_at _ hj)⟩
end

theorem Rep.isNil {α : Type} [Ty α] {h : Heap} {v : Value} {l : List α} (hr : Rep h v l) : ∃ b, isNilV false v = some (.bool b) ∧ (b = true → l = []) := by
  obtain ⟨p, cap, rfl, h1, h2, h3⟩ := Rep_list.1 hr
  refine ⟨p.isNone, rfl, fun hp => ?_⟩
  cases l with
  | nil => rfl
  | cons x l => obtain ⟨b, off, vs, h4, _⟩ := h3 0 (by simp); subst h4; simp at hp

theorem Own.clip {α : Type} [Ty α] {r : Heap} {v : Value} {l : List α} (O : Own r v l) {esz : Nat} {k : IntKind} :
    ∃ v', sliceVV esz v none (some (some (.int k l.length))) (some (some (.int k l.length))) = some v' ∧ Own r v' l := by
  rcases Own_list.1 O with ⟨p, rfl, rfl, rfl, hp⟩ | ⟨b, off, cap, cells, el, r', rfl, ⟨h1, hM⟩, h2, rfl, h4, h5⟩
  · refine ⟨.slice p 0 0, ?_, Own_list.2 (.inl ⟨p, rfl, rfl, rfl, hp⟩)⟩
    simp [sliceVV, bndV]
  · refine ⟨.slice (some ⟨b, off, none⟩) l.length l.length, ?_, Own_list.2 (.inr ⟨b, off, l.length, cells, el, r', rfl, ⟨Nat.le_refl _, hM⟩, ?_, rfl, h4, h5⟩)⟩
    · simp [sliceVV, bndV, add_none, h1]
    · have : l.length * Ty.sz α ≤ cap * Ty.sz α := Nat.mul_le_mul_right _ h1
      omega
theorem HS.clip {α : Type} [Ty α] {g h : Heap} {Γ : List HP} {v : Value} {l : List α} (H : HS g (ow v l :: Γ) h) {esz : Nat} {k : IntKind} :
    ∃ v', sliceVV esz v none (some (some (.int k l.length))) (some (some (.int k l.length))) = some v' ∧ HS g (ow v' l :: Γ) h := by
  obtain ⟨g', r, rfl, d, O, H⟩ := H
  obtain ⟨v', h1, O'⟩ := O.clip (esz := esz) (k := k)
  exact ⟨v', h1, g', r, rfl, d, O', H⟩
/-- a slice that is written out, without elements -/
theorem HS.bls0 {P : Program} {k : Env → Heap → Prop} {e : Env} {g h : Heap} {Γ : List HP} (H : HS g Γ h) (α : Type) [Ty α] {esz : Nat} {zero : List Value} {dst : Nat}
    (K : ∀ v' h', HS g (ow v' ([] : List α) :: Γ) h' → k (eset e dst (some v')) h') : (A.ex (some dst) (.bls esz 0 zero [])).wp P k e h := by
  refine ⟨[], rfl, fun b el hb => Fgt.keep ?_⟩
  rw [set_new hb]
  exact K _ _ ⟨h, _, rfl, Dj_one.2 hb, Own_list.2 (.inr ⟨b, 0, 0, [], el, Heap.nil, rfl, ⟨Nat.le_refl _, by simp⟩, by simp, by simp, rfl, rfl⟩), H⟩
@[simp] theorem faV_ptr {b o off : Nat} : faV off (.pointer (some ⟨b, o, none⟩)) = some (.pointer (some ⟨b, o + off, none⟩)) := by simp [faV, add_none]
attribute [simp] Option.bind_some

end Go.Proofs.YthgimpheeemooaaGreat

/-
  The program's data: how they lie in cells, how much they hold, how they are marked. Printed by a program.
-/
namespace Go.Proofs.YthgimpheeemooaaGreat
open Go
set_option linter.all false
set_option linter.unusedVariables false
set_option linter.unusedSimpArgs false
set_option linter.defProp false
set_option maxRecDepth 1000000

structure Sta where
  locs : List Int
  vals : List Int
deriving DecidableEq

instance instTySta : Ty Sta := Ty.via fun (s : Sta) => (s.locs, s.vals)
theorem Sta.ext_iff' {a b : Sta} : a = b ↔ a.locs = b.locs ∧ a.vals = b.vals := by
  cases a; cases b; simp
theorem Rep_Sta {h : Heap} {v : Value} {a : Sta} : Rep h v a ↔ ∃ v1 v2, v = .agg #[v1, v2] ∧ Rep h v1 a.locs ∧ Rep h v2 a.vals := by
  constructor
  · rintro ⟨cs, rfl, c0, d0, rfl, h1, h2⟩
    obtain ⟨v1, rfl, g1⟩ := (rep1 rfl).1 h1
    obtain ⟨v2, rfl, g2⟩ := (rep1 rfl).1 h2
    exact ⟨v1, v2, rfl, g1, g2⟩
  · rintro ⟨v1, v2, rfl, h1, h2⟩
    exact ⟨[v1, v2], rfl, ⟨[v1], [v2], rfl, (rep1 rfl).2 ⟨_, rfl, h1⟩, (rep1 rfl).2 ⟨_, rfl, h2⟩⟩⟩
theorem HS.unSta {g h : Heap} {Γ : List HP} {v : Value} {a : Sta} (H : HS g (ow v a :: Γ) h) : ∃ v1 v2, v = .agg #[v1, v2] ∧ HS g (ow v1 a.locs :: ow v2 a.vals :: Γ) h := by
  obtain ⟨cs, rfl, H0⟩ := HS.unvia (fun (s : Sta) => (s.locs, s.vals)) H
  try dsimp only at H0
  obtain ⟨c0, e0, rfl, H1a⟩ := HS.unprod H0
  obtain ⟨v1, rfl, H1b⟩ := HS.unone rfl H1a
  have H1 := H1b.sw1
  obtain ⟨v2, rfl, HL⟩ := HS.unone rfl H1
  exact ⟨v1, v2, rfl, HL.sw1⟩
theorem HS.mkSta {g h : Heap} {Γ : List HP} {v1 v2 : Value} {a : Sta} (H : HS g (ow v1 a.locs :: ow v2 a.vals :: Γ) h) : HS g (ow (.agg #[v1, v2]) a :: Γ) h := by
  refine HS.via (fun (s : Sta) => (s.locs, s.vals)) ?_
  exact HS.prod rfl (H.under fun _ H => HS.one rfl H)
theorem Rep.aSta {h : Heap} {v : Value} {x : Sta} (hr : Rep h v x) : pgetV (some v) 0 (some 2) = some v ∧ v.cells.size = 2 ∧ allOne v.cells.toList = true ∧ Value.agg v.cells = v := hr.A rfl rfl
instance instSzSta : Sz Sta := ⟨fun a => Sz.sz a.locs + Sz.sz a.vals⟩
instance instMkSta : Mk Sta := ⟨fun a => Mk.cnt a.locs + Mk.cnt a.vals,
  fun k a => ⟨Mk.wr (k) a.locs, Mk.wr (k + Mk.cnt a.locs) a.vals⟩,
  fun k a => by simp [Mk.cnt_wr], fun k j a => by simp [Mk.cnt_wr, Mk.wr_wr]⟩

structure Gr where
  states : List Sta
  next : List (List Int)
deriving DecidableEq

instance instTyGr : Ty Gr := Ty.via fun (g : Gr) => (g.states, g.next)
theorem Gr.ext_iff' {a b : Gr} : a = b ↔ a.states = b.states ∧ a.next = b.next := by
  cases a; cases b; simp
theorem Rep_Gr {h : Heap} {v : Value} {a : Gr} : Rep h v a ↔ ∃ v1 v2, v = .agg #[v1, v2] ∧ Rep h v1 a.states ∧ Rep h v2 a.next := by
  constructor
  · rintro ⟨cs, rfl, c0, d0, rfl, h1, h2⟩
    obtain ⟨v1, rfl, g1⟩ := (rep1 rfl).1 h1
    obtain ⟨v2, rfl, g2⟩ := (rep1 rfl).1 h2
    exact ⟨v1, v2, rfl, g1, g2⟩
  · rintro ⟨v1, v2, rfl, h1, h2⟩
    exact ⟨[v1, v2], rfl, ⟨[v1], [v2], rfl, (rep1 rfl).2 ⟨_, rfl, h1⟩, (rep1 rfl).2 ⟨_, rfl, h2⟩⟩⟩
theorem HS.unGr {g h : Heap} {Γ : List HP} {v : Value} {a : Gr} (H : HS g (ow v a :: Γ) h) : ∃ v1 v2, v = .agg #[v1, v2] ∧ HS g (ow v1 a.states :: ow v2 a.next :: Γ) h := by
  obtain ⟨cs, rfl, H0⟩ := HS.unvia (fun (g : Gr) => (g.states, g.next)) H
  try dsimp only at H0
  obtain ⟨c0, e0, rfl, H1a⟩ := HS.unprod H0
  obtain ⟨v1, rfl, H1b⟩ := HS.unone rfl H1a
  have H1 := H1b.sw1
  obtain ⟨v2, rfl, HL⟩ := HS.unone rfl H1
  exact ⟨v1, v2, rfl, HL.sw1⟩
theorem HS.mkGr {g h : Heap} {Γ : List HP} {v1 v2 : Value} {a : Gr} (H : HS g (ow v1 a.states :: ow v2 a.next :: Γ) h) : HS g (ow (.agg #[v1, v2]) a :: Γ) h := by
  refine HS.via (fun (g : Gr) => (g.states, g.next)) ?_
  exact HS.prod rfl (H.under fun _ H => HS.one rfl H)
theorem Rep.aGr {h : Heap} {v : Value} {x : Gr} (hr : Rep h v x) : pgetV (some v) 0 (some 2) = some v ∧ v.cells.size = 2 ∧ allOne v.cells.toList = true ∧ Value.agg v.cells = v := hr.A rfl rfl
instance instSzGr : Sz Gr := ⟨fun a => Sz.sz a.states + Sz.sz a.next⟩
instance instMkGr : Mk Gr := ⟨fun a => Mk.cnt a.states + Mk.cnt a.next,
  fun k a => ⟨Mk.wr (k) a.states, Mk.wr (k + Mk.cnt a.states) a.next⟩,
  fun k a => by simp [Mk.cnt_wr], fun k j a => by simp [Mk.cnt_wr, Mk.wr_wr]⟩

structure Stp where
  proc : Int
  edge : Int
  partner : Int
  pedge : Int
deriving DecidableEq

instance instTyStp : Ty Stp := Ty.via fun (s : Stp) => (s.proc, s.edge, s.partner, s.pedge)
theorem Stp.ext_iff' {a b : Stp} : a = b ↔ a.proc = b.proc ∧ a.edge = b.edge ∧ a.partner = b.partner ∧ a.pedge = b.pedge := by
  cases a; cases b; simp
instance instFlatStp : Flat Stp := Flat.via fun (s : Stp) => (s.proc, s.edge, s.partner, s.pedge)
def Stp.v (s : Stp) : Value := .agg #[.int .i64 s.proc, .int .i64 s.edge, .int .i64 s.partner, .int .i64 s.pedge]
structure Stp.ok (s : Stp) : Prop where
  proc : -9223372036854775808 ≤ s.proc ∧ s.proc < 9223372036854775808
  edge : -9223372036854775808 ≤ s.edge ∧ s.edge < 9223372036854775808
  partner : -9223372036854775808 ≤ s.partner ∧ s.partner < 9223372036854775808
  pedge : -9223372036854775808 ≤ s.pedge ∧ s.pedge < 9223372036854775808
theorem Stp.ok_iff {s : Stp} : Flat.ok s ↔ s.ok := ⟨fun h => ⟨h.1, h.2.1, h.2.2.1, h.2.2.2⟩, fun h => ⟨h.proc, h.edge, h.partner, h.pedge⟩⟩
theorem Rep.ldStp {h : Heap} {v : Value} {l : List Stp} (hr : Rep h v l) {i : Nat} (hi : i < l.length) : hload h (some (elp 4 v i)) (some 4) = some l[i].v := hr.ldF hi
theorem Rep.xStp {h : Heap} {v : Value} {l : List Stp} (hr : Rep h v l) : ((∀ (kd : IntKind) (i : Nat), i < l.length → iaV 4 v (.int kd i) = some (elp 4 v i)) ∧ (∀ (kd : IntKind) (i : Int), 0 ≤ i → i < l.length → iaV 4 v (.int kd i) = some (elp 4 v i.toNat)) ∧ lenVV v = some (.int .i64 l.length)) ∧
    ∀ (i : Nat) (hi : i < l.length), hload h (some (elp 4 v i)) (some 4) = some l[i].v := ⟨hr.X rfl, fun _ hi => hr.ldStp hi⟩
instance instSzStp : Sz Stp := ⟨fun a => Sz.sz a.proc + Sz.sz a.edge + Sz.sz a.partner + Sz.sz a.pedge⟩
instance instMkStp : Mk Stp := ⟨fun a => Mk.cnt a.proc + Mk.cnt a.edge + Mk.cnt a.partner + Mk.cnt a.pedge,
  fun k a => ⟨Mk.wr (k) a.proc, Mk.wr (k + Mk.cnt a.proc) a.edge, Mk.wr (k + Mk.cnt a.proc + Mk.cnt a.edge) a.partner, Mk.wr (k + Mk.cnt a.proc + Mk.cnt a.edge + Mk.cnt a.partner) a.pedge⟩,
  fun k a => by simp [Mk.cnt_wr], fun k j a => by simp [Mk.cnt_wr, Mk.wr_wr]⟩

end Go.Proofs.YthgimpheeemooaaGreat

/-
  From a law as a call to the row's statement: what is read as data stands for a piece of plain data; what was there before stays.
-/
namespace Go.Proofs.YthgimpheeemooaaGreat
open Go Go.RowKit
set_option linter.all false
set_option linter.unusedVariables false
set_option linter.unusedSimpArgs false
set_option linter.defProp false
set_option maxRecDepth 1000000

/-- the whole memory -/
def whole (w : World) : Heap := fun b => w.heap[b]?

theorem calls_law {P : Program} {f : FuncId} {fn : Func} {args : List Value} {W : World} (hf : P.funcs[f]? = some fn) (hname : (fn.name == "runtime.NumGoroutine") = false) (hb : fn.body.isSome = true)
    (h : CallE P f args (whole W) (fun u h' => (whole W).le h' ∧ u = .bool true)) : Calls P f args.toArray W fun e W' => e = .returned (.bool true) ∧ Below W.heap.size W W' := by
  have h1 := h W (fun b o hb => hb)
  obtain ⟨bd, hbd⟩ := Option.isSome_iff_exists.1 hb
  have hname' : ¬ fn.name = "runtime.NumGoroutine" := by simpa using hname
  have hcall : (callFunc f args.toArray).run P W = .ok (.enter f args.toArray) W := by
    simp [callFunc, hf, hname', hbd]
  rw [hcall] at h1
  refine Calls.mono h1 ?_
  rintro e W' ⟨v, h', rfl, ⟨hl, rfl⟩, hs, hF⟩
  refine ⟨rfl, hF.os, hF.tape, hF.output, hF.size, ?_⟩
  intro k hk
  have h2 : whole W k = some W.heap[k] := by simp [whole, hk]
  rw [hs _ _ (hl _ _ h2)]
  simp [hk]

section
variable {H : Type} {enc : TypeId × Value → H} {P : Program}
theorem trodAll_below (hl : laidOutB P = true) {W W' : World} : ∀ {ts : List TypeId} {vs : List Value} {ds : List (DataW H)} {ps : List MemPlace}, (∀ t ∈ ts, P.readableRec t = true ∧ t < P.types.size) →
    DataW.TrodAll enc P W 0 (fun _ => true) true ts vs ds ps → Below W.heap.size W W' → (∀ x ∈ ps, x.block < W.heap.size) → DataW.TrodAll enc P W' 0 (fun b => decide (b < W.heap.size)) true ts vs ds ps
  | [], [], [], _, _, h, _, _ => h
  | _ :: _, _ :: _, _ :: _, _, ht, ⟨p, q, h1, h2, e⟩, hb, hlt =>
    ⟨p, q, Below.trod hl (ht _ (by simp)).1 (ht _ (by simp)).2 h1 hb (fun x hx => hlt x (by rw [e]; exact List.mem_append_left _ hx)),
      trodAll_below hl (fun t h => ht t (by simp [h])) h2 hb (fun x hx => hlt x (by rw [e]; exact List.mem_append_right _ hx)), e⟩

theorem kept_below {W W' : World} (hb : Below W.heap.size W W') (may : MemPlace → Prop) : W.keptBut W' may := by
  refine ⟨hb.os, hb.output, fun i hi => ?_⟩
  rw [hb.block i hi]
  split
  · rename_i h1 h2; rw [h1] at h2; simp only [Option.some.injEq, Obj.cells.injEq] at h2; obtain ⟨rfl, rfl, rfl⟩ := h2; exact ⟨rfl, rfl, rfl, fun _ _ => rfl⟩
  · rename_i h1 h2; rw [h1] at h2; simp only [Option.some.injEq, Obj.map.injEq] at h2; obtain ⟨rfl, rfl⟩ := h2; exact .inr ⟨rfl, rfl⟩
  · rfl

/-- THE LAW's CONTRACT: true; the arguments as they were -/
theorem post_law {f : Func} {s : ChangeSpec} {W W' : World} {args : Array Value} {ds gs : List (DataW H)} {before : List MemPlace} (hl : laidOutB P = true) (hvars : s.vars = []) (ht : ∀ t ∈ f.params.toList, P.readableRec t = true ∧ t < P.types.size)
    (hr : ∃ t, f.resultTypes = #[t] ∧ P.underlying t = some .bool) (hspec : (s.fn H (ds ++ gs)).results = [.lit (.bool true)] ∧ (s.fn H (ds ++ gs)).args = ds ∧ (s.fn H (ds ++ gs)).vars = [])
    (hW : DataW.Whole enc P f.params.toList s.vars false W args.toList ds gs before) (hb : Below W.heap.size W W') : s.post enc P f false true false false W args (.bool true) W' := by
  obtain ⟨t, ht1, ht2⟩ := hr
  obtain ⟨h1, h2, h3⟩ := hspec
  have hW' := hW
  obtain ⟨p, q, hA, hV, rfl, hz, hn⟩ := hW
  rw [hvars] at hV
  obtain ⟨rfl, rfl⟩ := Go.ChangeShapes.trodVars_none hV
  have hlt : ∀ x ∈ p ++ [], x.block < W.heap.size := fun x hx => by simpa using hW'.lt x hx
  refine ⟨ds, [], p ++ [], [], p, [], hW', ?_, ?_, ?_, World.keptBut_mono (fun x hx => ⟨by simpa using hx, .inr (.inl (by simpa using hx))⟩) (kept_below hb (fun x => x ∈ p)), by simp⟩
  · rw [h1, ht1]
    exact trodAll_cons_mk (shut_bool ht2 _) Go.ChangeShapes.trodAll_mk0
  · rw [h2]
    exact trodAll_below hl ht hA hb (fun x hx => hlt x (by simpa using hx))
  · rw [h3, hvars]; rfl
end

/-- what a piece of data weighs is within the reach -/
def wOk {H : Type} (P : Program) (t : TypeId) (d : DataW H) : Prop := ∀ n ∈ d.weights P t, n ≤ reachBytes
theorem wOk_all {H : Type} {P : Program} {e : TypeId} : ∀ {l : List (DataW H)}, (∀ n ∈ DataW.weightsAll P e l, n ≤ reachBytes) → ∀ d ∈ l, wOk P e d
  | [], _, d, hd => by simp at hd
  | x :: l, h, d, hd => by
    simp only [DataW.weightsAll, List.mem_append] at h
    rcases List.mem_cons.1 hd with rfl | hd
    · exact fun n hn => h n (.inl hn)
    · exact wOk_all (fun n hn => h n (.inr hn)) d hd
theorem wOk_each {H : Type} {P : Program} : ∀ {ts : List TypeId} {l : List (DataW H)}, (∀ n ∈ DataW.weightsEach P ts l, n ≤ reachBytes) → ∀ (i : Nat) t d, ts[i]? = some t → l[i]? = some d → wOk P t d
  | [], _, _, i, t, d, h1, _ => by simp at h1
  | _ :: _, [], _, i, t, d, _, h2 => by simp at h2
  | t0 :: ts, x :: l, h, 0, t, d, h1, h2 => by
    simp at h1 h2; subst h1 h2
    exact fun n hn => h n (by simp only [DataW.weightsEach, List.mem_append]; exact .inl hn)
  | t0 :: ts, x :: l, h, i + 1, t, d, h1, h2 => wOk_each (ts := ts) (l := l) (fun n hn => h n (by simp only [DataW.weightsEach, List.mem_append]; exact .inr hn)) i t d (by simpa using h1) (by simpa using h2)

/- what is read stands for plain data -/
def RdT (P : Program) (t : TypeId) (α : Type) [Ty α] : Prop := ∀ {H : Type} (enc : TypeId × Value → H) (W : World) (sp : Nat → Bool) (fuel : Nat) (cs : List Value) (x : DataW H × List MemPlace),
  DataW.trod enc P W 0 sp true fuel t cs = some x → wOk P t x.1 → ∃ y : α, Ty.rep (whole W) cs y

section
variable {P : Program} {t : TypeId}
theorem rd_int (ht : P.underlying t = some (.int .i64)) : RdT P t Int := by
  intro H enc W sp fuel cs x h hwt
  cases fuel with
  | zero => simp [DataW.trod] at h
  | succ n =>
    unfold DataW.trod at h
    rw [ht] at h
    split at h
    case h_2 k k' m h1 =>
      simp only [Option.some.injEq, TypeDesc.int.injEq] at h1
      subst h1
      split at h
      case isTrue hc =>
        obtain ⟨rfl, hw⟩ := hc
        have := bounds_i64 hw
        exact ⟨_, rfl, by omega, by omega⟩
      case isFalse => simp at h
    all_goals simp_all
theorem cells_whole {W : World} {b off : Nat} : ∀ {n : Nat} {l : List Value}, W.cells? 0 ⟨b, off, none⟩ n = some l → hcells (whole W) b off n = some l := by
  have key : ∀ n o l, (List.range' o n).mapM (fun i => W.cell? ((⟨b, off, none⟩ : Addr).add i)) = some l → hcells (whole W) b (off + o) n = some l := by
    intro n
    induction n with
    | zero => intro o l h; simpa [hcells] using h
    | succ n ih =>
      intro o l h
      rw [List.range'_succ, List.mapM_cons] at h
      simp only [Option.bind_eq_bind, Option.bind_eq_some_iff, Option.pure_def, Option.some.injEq] at h
      obtain ⟨v, h1, r, h2, rfl⟩ := h
      have h3 := ih (o + 1) r h2
      have h4 : hcell (whole W) b (off + o) = some v := by
        rw [addr_add0] at h1
        simp only [World.cell?, Option.isSome_none, Bool.false_eq_true, if_false] at h1
        simp only [hcell, whole]
        split at h1
        · rename_i hb; rw [hb]; exact h1
        · simp at h1
      simp only [hcells, h4]
      rw [show off + o + 1 = off + (o + 1) by omega, h3]
  intro n l h
  simp only [World.cells?, Nat.zero_le, if_true] at h
  rw [List.range_eq_range'] at h
  exact key n 0 l h

theorem cells_spot {W : World} {b off s n : Nat} (hn : 0 < n) : W.cells? 0 ⟨b, off, some s⟩ n = none := by
  simp only [World.cells?, Nat.zero_le, if_true]
  cases n with
  | zero => omega
  | succ n =>
    rw [List.range_succ_eq_map, List.mapM_cons]
    have : W.cell? ((⟨b, off, some s⟩ : Addr).add 0) = none := by
      simp only [Addr.add, if_true, World.cell?]
      split <;> simp
    rw [this]; rfl

theorem rd_list {α : Type} [Ty α] {e : TypeId} (ht : P.underlying t = some (.slice e)) (hc : P.cellsOf e = Ty.sz α) (hpos : 0 < Ty.sz α) (hby : 0 < P.bytesOf e) (he : RdT P e α) : RdT P t (List α) := by
  intro H enc W sp fuel cs x h hwt
  rcases Go.Deep.open_slice ht h with ⟨rfl, _⟩ | ⟨a, len, cap, m, n, D, Pl, rfl, _, hlen, hcap, hm, rfl, hel⟩
  · exact ⟨[], none, 0, rfl, by simp, trivial, fun i hi => by simp at hi⟩
  · have hle : len ≤ m := by rw [hm]; split <;> omega
    simp only [wOk, DataW.weights, ht, List.mem_cons, List.mem_append] at hwt
    have hsz : len ≤ reachBytes := by
      have h1 := hwt _ (.inl rfl)
      simp only [List.length_map, List.length_range] at h1
      have h2 : len * 1 ≤ (len + (m - len)) * P.bytesOf e := Nat.mul_le_mul (by omega) hby
      omega
    have hwe := wOk_all (fun n hn => hwt n (.inr (.inl hn)))
    have hall : ∀ i, i < len → ∃ y : α, ∃ b off vs, some a = some (⟨b, off, none⟩ : Addr) ∧ hcells (whole W) b (off + i * Ty.sz α) (Ty.sz α) = some vs ∧ Ty.rep (whole W) vs y := by
      intro i hi
      obtain ⟨cs', h1, h2⟩ := hel i (by omega)
      obtain ⟨y, hy⟩ := he enc W sp n cs' _ h2 (hwe _ (List.mem_map.2 ⟨i, by simpa using hi, rfl⟩))
      obtain ⟨b, off, spot⟩ := a
      rw [hc] at h1
      -- the address is plain: its first element could be read
      have h0 : spot = none := by
        cases spot with
        | none => rfl
        | some s =>
          obtain ⟨cs0, g1, _⟩ := hel 0 (by omega)
          rw [hc] at g1
          simp only [Nat.zero_mul, Addr.add, if_true] at g1
          rw [cells_spot hpos] at g1
          simp at g1
      subst h0
      rw [addr_add0] at h1
      exact ⟨y, b, off, cs', rfl, cells_whole h1, hy⟩
    have hch : ∃ l : List α, l.length = len ∧ ∀ i (hi : i < l.length), ∃ b off vs, some a = some (⟨b, off, none⟩ : Addr) ∧ hcells (whole W) b (off + i * Ty.sz α) (Ty.sz α) = some vs ∧ Ty.rep (whole W) vs l[i] := by
      refine ⟨(List.finRange len).map fun i => Classical.choose (hall i.1 i.2), by simp, fun i hi => ?_⟩
      have hi' : i < len := by simpa using hi
      have := Classical.choose_spec (hall i hi')
      simpa using this
    obtain ⟨l, hl, hr⟩ := hch
    refine ⟨l, some a, cap, by rw [hl], ⟨by omega, ?_⟩, trivial, hr⟩
    have : reachBytes < 4611686018427387904 := by decide
    omega

theorem rd_two {α β : Type} [Ty α] [Ty β] {h : Heap} {cs : List Value} (h1 : ∃ x : α, Ty.rep h (cs.take (Ty.sz α)) x) (h2 : ∃ y : β, Ty.rep h (cs.drop (Ty.sz α)) y) : ∃ z : α × β, Ty.rep h cs z := by
  obtain ⟨x, hx⟩ := h1
  obtain ⟨y, hy⟩ := h2
  exact ⟨(x, y), _, _, (List.take_append_drop _ cs).symm, hx, hy⟩
end

section
variable {P : Program} {W : World} {r : Reach} {base : Nat} {t e : TypeId} {v : Value}
end
end Go.Proofs.YthgimpheeemooaaGreat

/-
  Maps as pieces of the memory; pieces that are only read become part of what is read.
-/
namespace Go.Proofs.YthgimpheeemooaaGreat
open Go
set_option linter.all false
set_option linter.unusedVariables false
set_option linter.unusedSimpArgs false
set_option linter.defProp false
set_option maxRecDepth 1000000

section
variable {g h : Heap} {Γ : List HP}
end

/- MAPS -/
/-- a map of its own: its entries as pairs, in the order in which they came -/
def mpo {κ ν : Type} (kf : κ → Value) (vf : ν → Value) (b : Nat) (l : List (κ × ν)) : HP := fun r => ∃ es clock, r = Heap.one b (.map es clock) ∧ es.toList.map (fun e => (e.key, e.val)) = l.map fun p => (kf p.1, vf p.2)
/-- what a key leads to -/
def mlk {κ ν : Type} [DecidableEq κ] (l : List (κ × ν)) (a : κ) : Option ν := (l.find? fun p => decide (p.1 = a)).map (·.2)
theorem mfind_spec {κ ν : Type} [DecidableEq κ] {kf : κ → Value} {vf : ν → Value} {kt : KT} (hkt : ∀ a b, keyEq kt (kf a) (kf b) = some (decide (a = b))) {a : κ} : ∀ {es : List MapEntry} {l : List (κ × ν)} {i0 : Nat}, es.map (fun e => (e.key, e.val)) = l.map (fun p => (kf p.1, vf p.2)) →
    ∃ i, mfind kt (kf a) es i0 = some ((mlk l a).map fun y => (i, vf y))
  | [], [], _, _ => ⟨0, rfl⟩
  | [], _ :: _, _, h => by simp at h
  | _ :: _, [], _, h => by simp at h
  | x :: es, p :: l, i0, h => by
    simp only [List.map_cons, List.cons.injEq, Prod.mk.injEq] at h
    obtain ⟨⟨h1, h2⟩, h3⟩ := h
    obtain ⟨i, hi⟩ := mfind_spec hkt (a := a) (i0 := i0 + 1) h3
    unfold mfind
    rw [h1, hkt, h2]
    by_cases he : a = p.1
    · subst he
      refine ⟨i0, ?_⟩
      simp [mlk]
    · refine ⟨i, ?_⟩
      simp only [he, decide_false]
      rw [hi]
      simp [mlk, List.find?_cons, Ne.symm he, show ¬ p.1 = a from fun e => he e.symm]
section
variable {P : Program} {k : Env → Heap → Prop} {e : Env} {g h : Heap} {Γ : List HP} {κ ν : Type} [DecidableEq κ] {kf : κ → Value} {vf : ν → Value} {b : Nat} {l : List (κ × ν)} {kt : KT}
theorem HS.mkm (H : HS g Γ h) (kf : κ → Value) (vf : ν → Value) {dst : Nat} (K : ∀ b h', HS g (mpo kf vf b [] :: Γ) h' → k (eset e dst (some (.map (some b)))) h') : (A.ex (some dst) .mkm).wp P k e h := by
  intro b hb
  refine Fgt.keep ?_
  rw [set_new hb]
  exact K _ _ ⟨h, _, rfl, Dj_one.2 hb, ⟨_, _, rfl, rfl⟩, H⟩
theorem HS.mget (H : HS g (mpo kf vf b l :: Γ) h) {zero : Value} {ok : Bool} {m x : O} {a : κ} {dst : Nat} (hm : m.get e = some (.map (some b))) (hx : x.get e = some (kf a)) (hkt : ∀ a b, keyEq kt (kf a) (kf b) = some (decide (a = b)))
    (K : k (eset e dst (some (if ok then .tuple #[((mlk l a).map vf).getD zero, .bool (mlk l a).isSome] else ((mlk l a).map vf).getD zero))) h) : (A.ex (some dst) (.mget kt zero ok m x)).wp P k e h := by
  obtain ⟨g', r, rfl, d, ⟨es, clock, rfl, hes⟩, H⟩ := H
  obtain ⟨i, hi⟩ := mfind_spec hkt (a := a) (i0 := 0) hes
  refine ⟨b, es, clock, kf a, _, hm, le_add' d _ _ (by simp [Heap.one]), hx, by rw [hkt]; rfl, hi, Fgt.keep ?_⟩
  cases hl : mlk l a with
  | none => rw [hl] at K; cases ok <;> exact K
  | some y => rw [hl] at K; cases ok <;> exact K
theorem HS.mput (H : HS g (mpo kf vf b l :: Γ) h) {m x y : O} {a : κ} {v : ν} (hm : m.get e = some (.map (some b))) (hx : x.get e = some (kf a)) (hy : y.get e = some (vf v)) (hkt : ∀ a b, keyEq kt (kf a) (kf b) = some (decide (a = b))) (hn : mlk l a = none)
    (K : ∀ h', HS g (mpo kf vf b (l ++ [(a, v)]) :: Γ) h' → k e h') : (A.ex none (.mput kt m x y)).wp P k e h := by
  obtain ⟨g', r, rfl, d, ⟨es, clock, rfl, hes⟩, H⟩ := H
  obtain ⟨i, hi⟩ := mfind_spec hkt (a := a) (i0 := 0) hes
  rw [hn] at hi
  refine ⟨b, es, clock, kf a, vf v, none, hm, le_add' d _ _ (by simp [Heap.one]), hx, hy, by rw [hkt]; rfl, hi, Fgt.keep ?_⟩
  refine K _ ⟨g', Heap.one b (.map (es.push { key := kf a, val := vf v, born := clock }) (clock + 1)), ?_, ?_, ⟨_, _, rfl, ?_⟩, H⟩
  · have hb := Dj_one.1 d
    rw [← set_new hb]
    rw [← set_new hb]
    funext z
    simp only [Heap.set]
    split <;> rfl
  · exact Dj_one.2 (Dj_one.1 d)
  · simp [hes]
theorem HS.mlen (H : HS g (mpo kf vf b l :: Γ) h) {m : O} {dst : Nat} (hm : m.get e = some (.map (some b))) (K : k (eset e dst (some (.int .i64 l.length))) h) : (A.ex (some dst) (.mlen m)).wp P k e h := by
  obtain ⟨g', r, rfl, d, ⟨es, clock, rfl, hes⟩, H⟩ := H
  have hl : es.size = l.length := by
    have := congrArg List.length hes
    simpa using this
  refine ⟨b, es, clock, hm, le_add' d _ _ (by simp [Heap.one]), Fgt.keep ?_⟩
  rw [hl]
  exact K
end
end Go.Proofs.YthgimpheeemooaaGreat

/-
  Expressions: trees of numbers; edges, processes, systems: how they lie in cells.
-/
namespace Go.Proofs.YthgimpheeemooaaGreat
open Go
set_option linter.all false
set_option linter.unusedVariables false
set_option linter.unusedSimpArgs false
set_option linter.defProp false
set_option maxRecDepth 1000000

section
variable {α : Type}
theorem repL_map {t t' : Ty α} {h : Heap} {p : Option Addr} {l : List α} (hs : t.sz = t'.sz) (hr : ∀ cs x, x ∈ l → t.rep h cs x → t'.rep h cs x) (H : @repL α t h p l) : @repL α t' h p l := by
  intro i hi
  obtain ⟨b, off, vs, h1, h2, h3⟩ := H i hi
  refine ⟨b, off, vs, h1, ?_, hr _ _ (List.getElem_mem hi) h3⟩
  have h2 : hcells h b (off + i * t.sz) t.sz = some vs := h2
  show hcells h b (off + i * t'.sz) t'.sz = some vs
  rw [← hs]; exact h2
theorem repS_map {t t' : Ty α} {h : Heap} {cs : List Value} {l : List α} (hs : t.sz = t'.sz) (hr : ∀ cs x, x ∈ l → t.rep h cs x → t'.rep h cs x) (H : @repS α t h cs l) : @repS α t' h cs l := by
  obtain ⟨p, cap, h1, h2, h3, h4⟩ := H
  exact ⟨p, cap, h1, h2, h3, repL_map hs hr h4⟩
theorem ownL_map {t t' : Ty α} (hs : t.sz = t'.sz) : ∀ {l : List α} {cs : List Value} {r : Heap}, (∀ r cs x, x ∈ l → t.own r cs x → t'.own r cs x) → @ownL α t l cs r → @ownL α t' l cs r
  | [], _, _, _, H => H
  | x :: l, cs, r, ho, ⟨r1, r2, h1, h2, h3, h4⟩ => by
    refine ⟨r1, r2, h1, h2, ?_, ?_⟩
    · have := ho r1 _ x (by simp) h3
      show t'.own r1 (cs.take t'.sz) x
      rw [← hs]; exact this
    · have := ownL_map hs (fun r cs x hx => ho r cs x (by simp [hx])) h4
      show @ownL α t' l (cs.drop t'.sz) r2
      rw [← hs]; exact this
theorem ownS_map {t t' : Ty α} (hs : t.sz = t'.sz) {l : List α} {cs : List Value} {r : Heap} (ho : ∀ r cs x, x ∈ l → t.own r cs x → t'.own r cs x) (H : @ownS α t r cs l) : @ownS α t' r cs l := by
  rcases H with h1 | ⟨b, off, cap, cells, el, r', h1, h2, h3, h4, h5, h6⟩
  · exact .inl h1
  · refine .inr ⟨b, off, cap, cells, el, r', h1, h2, ?_, h4, h5, ownL_map hs ho h6⟩
    have h3 : off + cap * t.sz ≤ cells.length := h3
    show off + cap * t'.sz ≤ cells.length
    rw [← hs]; exact h3
end

theorem exists_max {P : Nat → Nat → Prop} (hu : ∀ i n, P i n → P i (n + 1)) : ∀ m, (∀ i, i < m → ∃ n, P i n) → ∃ N, ∀ i, i < m → P i N
  | 0, _ => ⟨0, fun i hi => absurd hi (Nat.not_lt_zero i)⟩
  | m + 1, h => by
    have up : ∀ i n k, P i n → P i (n + k) := by
      intro i n k hp
      induction k with
      | zero => exact hp
      | succ k ih => exact hu _ _ ih
    obtain ⟨N, hN⟩ := exists_max hu m fun i hi => h i (by omega)
    obtain ⟨M, hM⟩ := h m (by omega)
    refine ⟨N + M, fun i hi => ?_⟩
    by_cases e : i = m
    · subst e; rw [Nat.add_comm]; exact up _ _ _ hM
    · exact up _ _ _ (hN i (by omega))

/-- an expression -/
inductive Exq where
  | mk (kind val : Int) (kids : List Exq)
namespace Exq
def kind : Exq → Int | .mk k _ _ => k
def val : Exq → Int | .mk _ v _ => v
def kids : Exq → List Exq | .mk _ _ l => l
@[simp] theorem kind_mk {k v : Int} {l : List Exq} : (Exq.mk k v l).kind = k := rfl
@[simp] theorem val_mk {k v : Int} {l : List Exq} : (Exq.mk k v l).val = v := rfl
@[simp] theorem kids_mk {k v : Int} {l : List Exq} : (Exq.mk k v l).kids = l := rfl
theorem ext_iff' {a b : Exq} : a = b ↔ a.kind = b.kind ∧ a.val = b.val ∧ a.kids = b.kids := by
  cases a; cases b; simp
theorem ind {p : Exq → Prop} (h : ∀ x : Exq, (∀ y ∈ x.kids, p y) → p x) : ∀ x, p x
  | .mk k v l => h _ fun y hy => ind h y
termination_by x => SizeOf.sizeOf x
decreasing_by
  have h1 : y ∈ l := hy
  have := List.sizeOf_lt_of_mem h1
  simp only [Exq.mk.sizeOf_spec]
  omega
def tup (x : Exq) : Int × Int × List Exq := (x.kind, x.val, x.kids)

@[reducible] def T0 : Ty Exq where
  agg := true
  sz := 3
  rep := fun _ _ _ => False
  own := fun _ _ _ => False
  one := fun h => by simp at h
  len := fun h => h.elim
  cell := fun h => h.elim
  mono := fun _ h => h
  own_rep := fun h => h.elim
/-- the product of the fields, where the kids lie as t says -/
@[reducible] def tyTup (t : Ty Exq) : Ty (Int × Int × List Exq) := @instTyProd Int (Int × List Exq) instTyInt (@instTyProd Int (List Exq) instTyInt (@instTyList Exq t))
@[reducible] def T : Nat → Ty Exq
  | 0 => T0
  | n + 1 => @Ty.via Exq (Int × Int × List Exq) (tyTup (T n)) tup
theorem T_sz : ∀ n, (T n).sz = 3
  | 0 => rfl
  | _ + 1 => rfl

theorem tup_rep {t t' : Ty Exq} (hs : t.sz = t'.sz) {h : Heap} {cs : List Value} {x : Exq} (hr : ∀ cs y, y ∈ x.kids → t.rep h cs y → t'.rep h cs y) (H : (tyTup t).rep h cs x.tup) : (tyTup t').rep h cs x.tup := by
  obtain ⟨c1, c2, e1, h1, c3, c4, e2, h2, h3⟩ := H
  exact ⟨c1, c2, e1, h1, c3, c4, e2, h2, repS_map hs hr h3⟩
theorem tup_own {t t' : Ty Exq} (hs : t.sz = t'.sz) {r : Heap} {cs : List Value} {x : Exq} (hr : ∀ r cs y, y ∈ x.kids → t.own r cs y → t'.own r cs y) (H : (tyTup t).own r cs x.tup) : (tyTup t').own r cs x.tup := by
  obtain ⟨c1, c2, r1, r2, e1, e2, d1, h1, c3, c4, r3, r4, e3, e4, d2, h2, h3⟩ := H
  exact ⟨c1, c2, r1, r2, e1, e2, d1, h1, c3, c4, r3, r4, e3, e4, d2, h2, ownS_map hs hr h3⟩
theorem rep_up : ∀ (n : Nat) {h : Heap} {cs : List Value} {x : Exq}, (T n).rep h cs x → (T (n + 1)).rep h cs x
  | 0, _, _, _, H => H.elim
  | n + 1, h, cs, x, H => tup_rep (t := T n) (t' := T (n + 1)) (by rw [T_sz, T_sz]) (fun _ _ _ => rep_up n) H
theorem own_up : ∀ (n : Nat) {r : Heap} {cs : List Value} {x : Exq}, (T n).own r cs x → (T (n + 1)).own r cs x
  | 0, _, _, _, H => H.elim
  | n + 1, h, cs, x, H => tup_own (t := T n) (t' := T (n + 1)) (by rw [T_sz, T_sz]) (fun _ _ _ _ => own_up n) H
theorem own_le {n m : Nat} (hle : n ≤ m) {r : Heap} {cs : List Value} {x : Exq} (H : (T n).own r cs x) : (T m).own r cs x := by
  obtain ⟨k, rfl⟩ := Nat.exists_eq_add_of_le hle
  induction k with
  | zero => exact H
  | succ k ih => exact own_up _ (ih (by omega))
end Exq

instance instTyExq : Ty Exq where
  agg := true
  sz := 3
  rep := fun h cs x => ∃ n, (Exq.T n).rep h cs x
  own := fun r cs x => ∃ n, (Exq.T n).own r cs x
  one := fun h => by simp at h
  len := fun ⟨n, h⟩ => ((Exq.T n).len h).trans (Exq.T_sz n)
  cell := fun ⟨n, h⟩ => (Exq.T n).cell h
  mono := fun hl ⟨n, h⟩ => ⟨n, (Exq.T n).mono hl h⟩
  own_rep := fun ⟨n, h⟩ => ⟨n, (Exq.T n).own_rep h⟩

namespace Exq
theorem rep_iff {h : Heap} {cs : List Value} {x : Exq} : Ty.rep h cs x ↔ Ty.rep h cs x.tup := by
  constructor
  · rintro ⟨n, H⟩
    cases n with
    | zero => exact H.elim
    | succ n => exact tup_rep (t := T n) (t' := instTyExq) (T_sz n) (fun _ _ _ h => ⟨n, h⟩) H
  · rintro ⟨c1, c2, e1, h1, c3, c4, e2, h2, p, cap, e3, h3, h4, hl⟩
    have hl : ∀ i, i < x.kids.length → ∃ n, ∃ (hi : i < x.kids.length), ∃ b off vs, p = some ⟨b, off, none⟩ ∧ hcells h b (off + i * 3) 3 = some vs ∧ (T n).rep h vs x.kids[i] := by
      intro i hi
      obtain ⟨b, off, vs, g1, g2, n, g3⟩ := hl i hi
      exact ⟨n, hi, b, off, vs, g1, g2, g3⟩
    obtain ⟨N, hN⟩ := exists_max (P := fun i n => ∃ (hi : i < x.kids.length), ∃ b off vs, p = some ⟨b, off, none⟩ ∧ hcells h b (off + i * 3) 3 = some vs ∧ (T n).rep h vs x.kids[i]) (fun i n ⟨hi, b, off, vs, g1, g2, g3⟩ => ⟨hi, b, off, vs, g1, g2, rep_up n g3⟩) _ hl
    refine ⟨N + 1, c1, c2, e1, h1, c3, c4, e2, h2, p, cap, e3, h3, h4, fun i hi => ?_⟩
    obtain ⟨_, b, off, vs, g1, g2, g3⟩ := hN i hi
    refine ⟨b, off, vs, g1, ?_, g3⟩
    show hcells h b (off + i * (T N).sz) (T N).sz = some vs
    rw [T_sz]; exact g2
theorem ownL_max : ∀ {l : List Exq} {cs : List Value} {r : Heap}, ownL l cs r → ∃ N, @ownL Exq (T N) l cs r
  | [], _, _, H => ⟨0, H⟩
  | x :: l, cs, r, ⟨r1, r2, h1, h2, ⟨n, h3⟩, h4⟩ => by
    obtain ⟨N, h5⟩ := ownL_max h4
    refine ⟨n + N, r1, r2, h1, h2, ?_, ?_⟩
    · show (T (n + N)).own r1 (cs.take (T (n + N)).sz) x
      rw [T_sz]; exact own_le (by omega) h3
    · show @ownL Exq (T (n + N)) l (cs.drop (T (n + N)).sz) r2
      rw [T_sz]; exact ownL_map (t := T N) (t' := T (n + N)) (by rw [T_sz, T_sz]) (fun _ _ _ _ => own_le (by omega)) h5
theorem own_iff {r : Heap} {cs : List Value} {x : Exq} : Ty.own r cs x ↔ Ty.own r cs x.tup := by
  constructor
  · rintro ⟨n, H⟩
    cases n with
    | zero => exact H.elim
    | succ n => exact tup_own (t := T n) (t' := instTyExq) (T_sz n) (fun _ _ _ _ h => ⟨n, h⟩) H
  · rintro ⟨c1, c2, r1, r2, e1, e2, d1, h1, c3, c4, r3, r4, e3, e4, d2, h2, h3⟩
    rcases h3 with h3 | ⟨b, off, cap, cells, el, r', g1, g2, g3, g4, g5, g6⟩
    · exact ⟨1, c1, c2, r1, r2, e1, e2, d1, h1, c3, c4, r3, r4, e3, e4, d2, h2, .inl h3⟩
    · obtain ⟨N, h7⟩ := ownL_max g6
      refine ⟨N + 1, c1, c2, r1, r2, e1, e2, d1, h1, c3, c4, r3, r4, e3, e4, d2, h2, .inr ⟨b, off, cap, cells, el, r', g1, g2, ?_, g4, g5, h7⟩⟩
      show off + cap * (T N).sz ≤ cells.length
      rw [T_sz]; exact g3
end Exq

/-- a number of the machine -/
def I64 (n : Int) : Prop := -9223372036854775808 ≤ n ∧ n < 9223372036854775808
theorem I64.lo {n : Int} (h : I64 n) : -9223372036854775808 ≤ n := h.1
theorem I64.hi {n : Int} (h : I64 n) : n < 9223372036854775808 := h.2

section
variable {g h r : Heap} {Γ : List HP} {v : Value} {cs : List Value}
theorem repExq {x : Exq} : Ty.rep h cs x ↔ ∃ w, cs = [.int .i64 x.kind, .int .i64 x.val, w] ∧ I64 x.kind ∧ I64 x.val ∧ Rep h w x.kids := by
  rw [Exq.rep_iff]
  constructor
  · rintro ⟨c1, c2, rfl, ⟨rfl, h1⟩, c3, c4, rfl, ⟨rfl, h2⟩, h3⟩
    obtain ⟨w, rfl, h4⟩ := (rep1 (α := List Exq) rfl).1 h3
    exact ⟨w, rfl, h1, h2, h4⟩
  · rintro ⟨w, rfl, h1, h2, h3⟩
    exact ⟨[_], [_, _], rfl, ⟨rfl, h1⟩, [_], [_], rfl, ⟨rfl, h2⟩, (rep1 (α := List Exq) rfl).2 ⟨w, rfl, h3⟩⟩
theorem ownExq {x : Exq} : Ty.own r cs x ↔ ∃ w, cs = [.int .i64 x.kind, .int .i64 x.val, w] ∧ I64 x.kind ∧ I64 x.val ∧ Own r w x.kids := by
  rw [Exq.own_iff]
  constructor
  · rintro ⟨c1, c2, r1, r2, rfl, rfl, d1, ⟨rfl, rfl, h1⟩, c3, c4, r3, r4, rfl, rfl, d2, ⟨rfl, rfl, h2⟩, h3⟩
    obtain ⟨w, rfl, h4⟩ := (own1 (α := List Exq) rfl).1 h3
    exact ⟨w, rfl, h1, h2, by rw [nil_add, nil_add]; exact h4⟩
  · rintro ⟨w, rfl, h1, h2, h3⟩
    exact ⟨[_], [_, _], Heap.nil, r, rfl, by simp, by simp, ⟨rfl, rfl, h1⟩, [_], [_], Heap.nil, r, rfl, by simp, by simp, ⟨rfl, rfl, h2⟩, (own1 (α := List Exq) rfl).2 ⟨w, rfl, h3⟩⟩
theorem Rep_Exq {x : Exq} : Rep h v x ↔ ∃ w, v = .agg #[.int .i64 x.kind, .int .i64 x.val, w] ∧ I64 x.kind ∧ I64 x.val ∧ Rep h w x.kids := by
  constructor
  · rintro ⟨cs, rfl, H⟩
    obtain ⟨w, rfl, h1⟩ := repExq.1 H
    exact ⟨w, rfl, h1⟩
  · rintro ⟨w, rfl, h1⟩
    exact ⟨_, rfl, repExq.2 ⟨w, rfl, h1⟩⟩
theorem HS.unExq {x : Exq} (H : HS g (ow v x :: Γ) h) : ∃ w, v = .agg #[.int .i64 x.kind, .int .i64 x.val, w] ∧ I64 x.kind ∧ I64 x.val ∧ HS g (ow w x.kids :: Γ) h := by
  obtain ⟨g', r, rfl, d, ⟨cs, rfl, O⟩, H⟩ := H
  obtain ⟨w, rfl, h1, h2, h3⟩ := ownExq.1 O
  exact ⟨w, rfl, h1, h2, g', r, rfl, d, h3, H⟩
theorem HS.mkExq {x : Exq} {w : Value} (H : HS g (ow w x.kids :: Γ) h) (h1 : I64 x.kind) (h2 : I64 x.val) : HS g (ow (.agg #[.int .i64 x.kind, .int .i64 x.val, w]) x :: Γ) h :=
  H.imp fun _ O => ⟨_, rfl, ownExq.2 ⟨w, rfl, h1, h2, O⟩⟩
theorem HS.mkExq' {kd vl : Int} {l : List Exq} {w : Value} (H : HS g (ow w l :: Γ) h) (h1 : I64 kd) (h2 : I64 vl) : HS g (ow (.agg #[.int .i64 kd, .int .i64 vl, w]) (Exq.mk kd vl l) :: Γ) h :=
  HS.mkExq (x := Exq.mk kd vl l) H h1 h2
theorem Rep.aExq {x : Exq} (hr : Rep h v x) : pgetV (some v) 0 (some 3) = some v ∧ v.cells.size = 3 ∧ allOne v.cells.toList = true ∧ Value.agg v.cells = v := hr.A rfl rfl
end

noncomputable instance : DecidableEq Exq := fun _ _ => Classical.propDecidable _

/-- an edge -/
structure Ed where
  frm : Int
  to : Int
  guard : Exq
  var : Int
  value : Exq
  sync : Int
instance instTyEd : Ty Ed := Ty.via fun (e : Ed) => (e.frm, e.to, e.guard, e.var, e.value, e.sync)
noncomputable instance : DecidableEq Ed := fun _ _ => Classical.propDecidable _
/-- a process -/
structure Pr where
  locs : Int
  edges : List Ed
instance instTyPr : Ty Pr := Ty.via fun (p : Pr) => (p.locs, p.edges)
noncomputable instance : DecidableEq Pr := fun _ _ => Classical.propDecidable _
/-- a system -/
structure Sy where
  init : List Int
  procs : List Pr
instance instTySy : Ty Sy := Ty.via fun (s : Sy) => (s.init, s.procs)
noncomputable instance : DecidableEq Sy := fun _ _ => Classical.propDecidable _
theorem Ed.ext_iff' {a b : Ed} : a = b ↔ a.frm = b.frm ∧ a.to = b.to ∧ a.guard = b.guard ∧ a.var = b.var ∧ a.value = b.value ∧ a.sync = b.sync := by
  cases a; cases b; simp
theorem Pr.ext_iff' {a b : Pr} : a = b ↔ a.locs = b.locs ∧ a.edges = b.edges := by
  cases a; cases b; simp
theorem Sy.ext_iff' {a b : Sy} : a = b ↔ a.init = b.init ∧ a.procs = b.procs := by
  cases a; cases b; simp

/-- an edge's cells, where its two expressions' operands are known -/
def Ed.cs (e : Ed) (w1 w2 : Value) : List Value := [.int .i64 e.frm, .int .i64 e.to, .int .i64 e.guard.kind, .int .i64 e.guard.val, w1, .int .i64 e.var, .int .i64 e.value.kind, .int .i64 e.value.val, w2, .int .i64 e.sync]
structure Ed.ok (e : Ed) : Prop where
  frm : I64 e.frm
  to : I64 e.to
  gk : I64 e.guard.kind
  gv : I64 e.guard.val
  var : I64 e.var
  vk : I64 e.value.kind
  vv : I64 e.value.val
  sync : I64 e.sync

section
variable {g h r : Heap} {Γ : List HP} {v : Value} {cs : List Value}
theorem repEd {e : Ed} : Ty.rep h cs e ↔ ∃ w1 w2, cs = e.cs w1 w2 ∧ e.ok ∧ Rep h w1 e.guard.kids ∧ Rep h w2 e.value.kids := by
  constructor
  · rintro ⟨c1, c2, rfl, ⟨rfl, h1⟩, c3, c4, rfl, ⟨rfl, h2⟩, c5, c6, rfl, h3, c7, c8, rfl, ⟨rfl, h4⟩, c9, c0, rfl, h5, rfl, h6⟩
    obtain ⟨w1, rfl, g1, g2, g3⟩ := repExq.1 h3
    obtain ⟨w2, rfl, g4, g5, g6⟩ := repExq.1 h5
    exact ⟨w1, w2, rfl, ⟨h1, h2, g1, g2, h4, g4, g5, h6⟩, g3, g6⟩
  · rintro ⟨w1, w2, rfl, ok, h1, h2⟩
    exact ⟨[_], _, rfl, ⟨rfl, ok.frm⟩, [_], _, rfl, ⟨rfl, ok.to⟩, [_, _, _], _, rfl, repExq.2 ⟨_, rfl, ok.gk, ok.gv, h1⟩, [_], _, rfl, ⟨rfl, ok.var⟩, [_, _, _], _, rfl, repExq.2 ⟨_, rfl, ok.vk, ok.vv, h2⟩, rfl, ok.sync⟩
theorem ownEd {e : Ed} : Ty.own r cs e ↔ ∃ w1 w2 r1 r2, cs = e.cs w1 w2 ∧ e.ok ∧ r = r1.add r2 ∧ Dj r1 r2 ∧ Own r1 w1 e.guard.kids ∧ Own r2 w2 e.value.kids := by
  constructor
  · rintro ⟨c1, c2, _, _, rfl, rfl, _, ⟨rfl, rfl, h1⟩, c3, c4, _, _, rfl, rfl, _, ⟨rfl, rfl, h2⟩, c5, c6, ra, rb, rfl, rfl, d, h3, c7, c8, _, _, rfl, rfl, _, ⟨rfl, rfl, h4⟩, c9, c0, rc, rd, rfl, rfl, d2, h5, rfl, rfl, h6⟩
    obtain ⟨w1, rfl, g1, g2, g3⟩ := ownExq.1 h3
    obtain ⟨w2, rfl, g4, g5, g6⟩ := ownExq.1 h5
    exact ⟨w1, w2, ra, rc, rfl, ⟨h1, h2, g1, g2, h4, g4, g5, h6⟩, by simp, by simpa using d, g3, g6⟩
  · rintro ⟨w1, w2, r1, r2, rfl, ok, rfl, d, h1, h2⟩
    exact ⟨[_], _, Heap.nil, r1.add r2, rfl, by simp, by simp, ⟨rfl, rfl, ok.frm⟩, [_], _, Heap.nil, r1.add r2, rfl, by simp, by simp, ⟨rfl, rfl, ok.to⟩, [_, _, _], _, r1, r2, rfl, rfl, d, ownExq.2 ⟨_, rfl, ok.gk, ok.gv, h1⟩,
      [_], _, Heap.nil, r2, rfl, by simp, by simp, ⟨rfl, rfl, ok.var⟩, [_, _, _], _, r2, Heap.nil, rfl, by simp, by simp, ownExq.2 ⟨_, rfl, ok.vk, ok.vv, h2⟩, rfl, rfl, ok.sync⟩
theorem Rep_Ed {e : Ed} : Rep h v e ↔ ∃ w1 w2, v = .agg (e.cs w1 w2).toArray ∧ e.ok ∧ Rep h w1 e.guard.kids ∧ Rep h w2 e.value.kids := by
  constructor
  · rintro ⟨cs, rfl, H⟩
    obtain ⟨w1, w2, rfl, h1⟩ := repEd.1 H
    exact ⟨w1, w2, rfl, h1⟩
  · rintro ⟨w1, w2, rfl, h1⟩
    exact ⟨_, rfl, repEd.2 ⟨w1, w2, rfl, h1⟩⟩
theorem HS.unEd {e : Ed} (H : HS g (ow v e :: Γ) h) : ∃ w1 w2, v = .agg (e.cs w1 w2).toArray ∧ e.ok ∧ HS g (ow w1 e.guard.kids :: ow w2 e.value.kids :: Γ) h := by
  obtain ⟨g', r, rfl, d, ⟨cs, rfl, O⟩, H⟩ := H
  obtain ⟨w1, w2, r1, r2, rfl, ok, rfl, d2, h1, h2⟩ := ownEd.1 O
  obtain ⟨d3, d4⟩ := Dj_add.1 d
  exact ⟨w1, w2, rfl, ok, g'.add r2, r1, by rw [add_assoc, d2.comm], add_Dj.2 ⟨d3, d2.symm⟩, h1, g', r2, rfl, d4, h2, H⟩
theorem HS.mkEd {e : Ed} {w1 w2 : Value} (H : HS g (ow w1 e.guard.kids :: ow w2 e.value.kids :: Γ) h) (ok : e.ok) : HS g (ow (.agg (e.cs w1 w2).toArray) e :: Γ) h :=
  H.join2 fun r1 r2 d h1 h2 => ⟨_, rfl, ownEd.2 ⟨w1, w2, r1, r2, rfl, ok, rfl, d, h1, h2⟩⟩
theorem Rep_Pr {p : Pr} : Rep h v p ↔ ∃ w, v = .agg #[.int .i64 p.locs, w] ∧ I64 p.locs ∧ Rep h w p.edges := by
  constructor
  · rintro ⟨cs, rfl, c1, c2, rfl, ⟨rfl, h1⟩, h2⟩
    obtain ⟨w, rfl, h3⟩ := (rep1 (α := List Ed) rfl).1 h2
    exact ⟨w, rfl, h1, h3⟩
  · rintro ⟨w, rfl, h1, h2⟩
    exact ⟨_, rfl, [_], [_], rfl, ⟨rfl, h1⟩, (rep1 (α := List Ed) rfl).2 ⟨w, rfl, h2⟩⟩
theorem HS.unPr {p : Pr} (H : HS g (ow v p :: Γ) h) : ∃ w, v = .agg #[.int .i64 p.locs, w] ∧ I64 p.locs ∧ HS g (ow w p.edges :: Γ) h := by
  obtain ⟨g', r, rfl, d, ⟨cs, rfl, c1, c2, r1, r2, rfl, rfl, d2, ⟨rfl, rfl, h1⟩, h2⟩, H⟩ := H
  obtain ⟨w, rfl, h3⟩ := (own1 (α := List Ed) rfl).1 h2
  exact ⟨w, rfl, h1, g', r2, by simp, by simpa using d, h3, H⟩
theorem HS.mkPr {p : Pr} {w : Value} (H : HS g (ow w p.edges :: Γ) h) (h1 : I64 p.locs) : HS g (ow (.agg #[.int .i64 p.locs, w]) p :: Γ) h :=
  H.imp fun r O => ⟨_, rfl, [_], [_], Heap.nil, r, rfl, by simp, by simp, ⟨rfl, rfl, h1⟩, (own1 (α := List Ed) rfl).2 ⟨w, rfl, O⟩⟩
theorem Rep_Sy {s : Sy} : Rep h v s ↔ ∃ w1 w2, v = .agg #[w1, w2] ∧ Rep h w1 s.init ∧ Rep h w2 s.procs := by
  constructor
  · rintro ⟨cs, rfl, c1, c2, rfl, h1, h2⟩
    obtain ⟨w1, rfl, h3⟩ := (rep1 (α := List Int) rfl).1 h1
    obtain ⟨w2, rfl, h4⟩ := (rep1 (α := List Pr) rfl).1 h2
    exact ⟨w1, w2, rfl, h3, h4⟩
  · rintro ⟨w1, w2, rfl, h1, h2⟩
    exact ⟨_, rfl, [_], [_], rfl, (rep1 (α := List Int) rfl).2 ⟨w1, rfl, h1⟩, (rep1 (α := List Pr) rfl).2 ⟨w2, rfl, h2⟩⟩
theorem HS.unSy {s : Sy} (H : HS g (ow v s :: Γ) h) : ∃ w1 w2, v = .agg #[w1, w2] ∧ HS g (ow w1 s.init :: ow w2 s.procs :: Γ) h := by
  obtain ⟨g', r, rfl, d, ⟨cs, rfl, c1, c2, r1, r2, rfl, rfl, d2, h1, h2⟩, H⟩ := H
  obtain ⟨w1, rfl, h3⟩ := (own1 (α := List Int) rfl).1 h1
  obtain ⟨w2, rfl, h4⟩ := (own1 (α := List Pr) rfl).1 h2
  obtain ⟨d3, d4⟩ := Dj_add.1 d
  exact ⟨w1, w2, rfl, g'.add r2, r1, by rw [add_assoc, d2.comm], add_Dj.2 ⟨d3, d2.symm⟩, h3, g', r2, rfl, d4, h4, H⟩
theorem HS.mkSy {s : Sy} {w1 w2 : Value} (H : HS g (ow w1 s.init :: ow w2 s.procs :: Γ) h) : HS g (ow (.agg #[w1, w2]) s :: Γ) h :=
  H.join2 fun r1 r2 d h1 h2 => ⟨_, rfl, [_], [_], r1, r2, rfl, rfl, d, (own1 (α := List Int) rfl).2 ⟨w1, rfl, h1⟩, (own1 (α := List Pr) rfl).2 ⟨w2, rfl, h2⟩⟩
theorem Rep.aEd {x : Ed} (hr : Rep h v x) : pgetV (some v) 0 (some 10) = some v ∧ v.cells.size = 10 ∧ allOne v.cells.toList = true ∧ Value.agg v.cells = v := hr.A rfl rfl
theorem Rep.aPr {x : Pr} (hr : Rep h v x) : pgetV (some v) 0 (some 2) = some v ∧ v.cells.size = 2 ∧ allOne v.cells.toList = true ∧ Value.agg v.cells = v := hr.A rfl rfl
theorem Rep.aSy {x : Sy} (hr : Rep h v x) : pgetV (some v) 0 (some 2) = some v ∧ v.cells.size = 2 ∧ allOne v.cells.toList = true ∧ Value.agg v.cells = v := hr.A rfl rfl
end

end Go.Proofs.YthgimpheeemooaaGreat

/-
  Parts of elements, written and read where they lie; copies of lists whose elements are replaced one by one; sizes and marks of expressions and systems.
-/
namespace Go.Proofs.YthgimpheeemooaaGreat
open Go
set_option linter.all false
set_option linter.unusedVariables false
set_option linter.unusedSimpArgs false
set_option linter.defProp false
set_option maxRecDepth 1000000

theorem setC_get {cs c : List Value} {n j : Nat} (h : n + c.length ≤ cs.length) : (setC cs n c)[j]? = if j < n then cs[j]? else if j < n + c.length then c[j - n]? else cs[j]? := by
  unfold setC
  simp only [List.getElem?_append, List.getElem?_take, List.getElem?_drop, List.length_append, List.length_take]
  rw [Nat.min_eq_left (by omega : n ≤ cs.length)]
  by_cases h1 : j < n
  · rw [if_pos (by omega), if_pos h1, if_pos h1, if_pos h1]
  · by_cases h2 : j < n + c.length
    · rw [if_pos h2, if_neg h1, if_neg h1, if_pos h2]
    · rw [if_neg h2, if_neg h1, if_neg h2]
      congr 1; omega
theorem setC_over {cs d c : List Value} {n fo : Nat} (hd : fo + d.length ≤ c.length) (hl : n + c.length ≤ cs.length) : setC (setC cs (n + fo) d) n c = setC cs n c := by
  apply List.ext_getElem?
  intro j
  rw [setC_get (by rw [setC_length (by omega)]; exact hl), setC_get hl, setC_get (by omega)]
  by_cases h1 : j < n
  · rw [if_pos h1, if_pos h1, if_pos (by omega)]
  · by_cases h2 : j < n + c.length
    · rw [if_neg h1, if_neg h1, if_pos h2, if_pos h2]
    · rw [if_neg h1, if_neg h1, if_neg h2, if_neg h2, if_neg (by omega), if_neg (by omega)]
theorem setC_slot {cs d : List Value} {n fo m : Nat} (hd : fo + d.length ≤ m) (hl : n + m ≤ cs.length) : ((setC cs (n + fo) d).drop n).take m = setC ((cs.drop n).take m) fo d := by
  apply List.ext_getElem?
  intro j
  rw [setC_get (by simp; omega)]
  simp only [List.getElem?_take, List.getElem?_drop]
  by_cases h1 : j < m
  · rw [if_pos h1, if_pos h1, setC_get (by omega)]
    by_cases h2 : j < fo
    · rw [if_pos (by omega), if_pos h2]
    · by_cases h3 : j < fo + d.length
      · rw [if_neg (by omega), if_pos (by omega), if_neg h2, if_pos h3]
        congr 1; omega
      · rw [if_neg (by omega), if_neg (by omega), if_neg h2, if_neg h3]
  · rw [if_neg h1, if_neg h1, if_neg (by omega), if_neg (by omega)]

section
variable {α : Type} [Ty α] {P : Program} {k : Env → Heap → Prop} {e : Env} {g h : Heap} {Γ : List HP} {v w : Value} {l : List α} {i : Nat} {cs : List Value}
/-- writing a part of an element that was taken away -/
theorem HS.holest (H : HS g (hole v l i (.agg cs.toArray) :: Γ) h) (ha : Ty.agg α = true) {a x : O} {n fo m : Nat} (hn : n = Ty.sz α) (hp : a.get e = some (elpo n v i fo)) (hx : x.get e = some w) (hu : w.cells.size = m) (hu1 : allOne w.cells.toList = true) (hf : fo + m ≤ n)
    (K : ∀ h', HS g (hole v l i (.agg (setC cs fo w.cells.toList).toArray) :: Γ) h' → k e h') : (A.ex none (.store m a x)).wp P k e h := by
  subst hn
  obtain ⟨g', r, rfl, d, Ho, H⟩ := H
  obtain ⟨b, off, cap, cells, el, r', rfl, hi, ⟨h1, hM⟩, h2, rfl, h4, h5, h6⟩ := Ho
  have hs := slot_le (s := Ty.sz α) hi h1
  obtain ⟨d3, d4⟩ := Dj_add.1 d
  have hb : (g'.add ((Heap.one b (.cells cells.toArray el (0, 0))).add r')) b = some (.cells cells.toArray el (0, 0)) := by
    have := Dj_one.1 d3
    simp [Heap.add, Heap.one, this, h4]
  have hw : w.cells.toList.length = m := by simpa using hu
  have hcs : cs = ((cells.drop off).drop (i * Ty.sz α)).take (Ty.sz α) := by
    simpa [valC, ha] using h5
  have hdr : (setC cells (off + i * Ty.sz α + fo) w.cells.toList).drop off = setC (cells.drop off) (i * Ty.sz α + fo) w.cells.toList := by
    rw [Nat.add_assoc, drop_setC (by rw [hw]; omega)]
  refine ⟨b, off + i * Ty.sz α + fo, w, g'.add ((Heap.one b (.cells (setC cells (off + i * Ty.sz α + fo) w.cells.toList).toArray el (0, 0))).add r'), ?_, hx, hu, ?_,
    Fgt.keep (K _ ⟨g', _, rfl, Dj_add.2 ⟨Dj_one.2 (Dj_one.1 d3), d4⟩, ⟨b, off, cap, _, el, r', rfl, hi, ⟨h1, hM⟩, ?_, rfl, h4, ?_, ?_⟩, H⟩)⟩
  · rw [hp]; simp [elpo, add_none]
  · unfold hstore
    rw [hb]
    simp only
    rw [if_pos (by refine ⟨trivial, ?_, ?_⟩; · simp [hu]; omega
                   · rw [allOne_eq]; exact hu1), add_one_set (Dj_one.1 d3) h4]
  · rw [setC_length (by rw [hw]; omega)]; exact h2
  · rw [hdr, setC_slot (by rw [hw]; exact hf) (by simp; omega), ← hcs]
    simp [valC, ha]
  · intro r1' c' y dd o
    have hlen := Ty.len (Ty.own_rep o)
    rw [hdr, setC_over (by rw [hw, hlen]; exact hf) (by rw [hlen]; simp; omega)]
    exact h6 r1' c' y dd o

/-- an element's parts, where its cells are known -/
theorem hld_parts {n : Nat} (hv : hload h (some (elp n v i)) (some n) = some (.agg cs.toArray)) : (∀ fo, faV fo (elp n v i) = some (elpo n v i fo)) ∧ (∀ a b, faV b (elpo n v i a) = some (elpo n v i (a + b))) ∧
    (∀ fo, fo < n → hload h (some (elpo n v i fo)) none = cs[fo]?) ∧ (∀ fo m, fo + m ≤ n → hload h (some (elpo n v i fo)) (some m) = some (.agg ((cs.drop fo).take m).toArray)) := by
  unfold elp at hv
  split at hv
  case h_2 => simp [undef, hload] at hv
  case h_1 p c d =>
    have hz : ∃ b off, p.add (i * n) = ⟨b, off, none⟩ := by
      generalize hq : p.add (i * n) = q at hv
      obtain ⟨b, off, sp⟩ := q
      cases sp with
      | none => exact ⟨b, off, rfl⟩
      | some s => simp [hload] at hv
    obtain ⟨b, off, hz⟩ := hz
    rw [hz] at hv
    simp only [hload, Option.map_eq_some_iff] at hv
    obtain ⟨l, h1, h2⟩ := hv
    have h2 : l = cs := by simpa using h2
    subst h2
    have h3 := hcells_get h1
    have hsub : ∀ m fo, fo + m ≤ n → hcells h b (off + fo) m = some ((l.drop fo).take m) := by
      intro m
      induction m with
      | zero => intro fo _; simp [hcells]
      | succ m ih =>
        intro fo hf
        have h4 := ih (fo + 1) (by omega)
        have h5 := h3.2 fo (l[fo]'(by rw [h3.1]; omega)) (List.getElem?_eq_getElem _)
        simp only [hcells, h5]
        rw [show off + fo + 1 = off + (fo + 1) by omega, h4]
        simp only [Option.some.injEq]
        rw [List.drop_eq_getElem_cons (by rw [h3.1]; omega : fo < l.length), List.take_succ_cons]
    refine ⟨fun fo => ?_, fun a c => ?_, fun fo hf => ?_, fun fo m hf => ?_⟩
    · simp only [elp, elpo, hz, add_none, faV]
    · simp only [elpo, hz, add_none, faV]
      simp [Nat.add_assoc]
    · have h5 := h3.2 fo (l[fo]'(by rw [h3.1]; omega)) (List.getElem?_eq_getElem _)
      simp only [elpo, hz, add_none, hload, h5]
      exact (List.getElem?_eq_getElem _).symm
    · simp only [elpo, hz, add_none, hload, hsub m fo hf]
      rfl
theorem HS.holeP (H : HS g (hole v l i (.agg cs.toArray) :: Γ) h) (ha : Ty.agg α = true) {n : Nat} (hn : n = Ty.sz α) : hload h (some (elp n v i)) (some n) = some (.agg cs.toArray) := by
  have := H.holeld
  subst hn
  simpa [szo, ha] using this
end

/-- an element of a copy: as it was copied, or replaced -/
inductive Mix (α : Type) where
  | raw (cs : List Value)
  | new (x : α)
section
variable {α : Type} [Ty α]
def Mix.rep (h : Heap) (cs : List Value) : Mix α → Prop
  | .raw c => cs = c ∧ c.length = Ty.sz α ∧ ∀ v ∈ c, v.oneCell' = true
  | .new x => Ty.rep h cs x
def Mix.own (r : Heap) (cs : List Value) : Mix α → Prop
  | .raw c => r = Heap.nil ∧ cs = c ∧ c.length = Ty.sz α ∧ ∀ v ∈ c, v.oneCell' = true
  | .new x => Ty.own r cs x
instance instTyMix : Ty (Mix α) where
  agg := Ty.agg α
  sz := Ty.sz α
  rep := Mix.rep
  own := Mix.own
  one := Ty.one
  len := by
    intro h cs x hx
    cases x with
    | raw c => obtain ⟨rfl, h1, _⟩ := hx; exact h1
    | new x => exact Ty.len (x := x) hx
  cell := by
    intro h cs x hx
    cases x with
    | raw c => obtain ⟨rfl, _, h1⟩ := hx; exact h1
    | new x => exact Ty.cell (x := x) hx
  mono := by
    intro h h' cs x hl hx
    cases x with
    | raw c => exact hx
    | new x => exact Ty.mono (x := x) hl hx
  own_rep := by
    intro r cs x hx
    cases x with
    | raw c => exact hx.2
    | new x => exact Ty.own_rep (x := x) hx
/-- a copy's elements, as they were copied -/
structure Raws (h : Heap) (l : List α) (M : List (Mix α)) : Prop where
  len : M.length = l.length
  at' : ∀ (i : Nat) (hi : i < l.length), ∃ c, M[i]? = some (.raw c) ∧ Ty.rep h c l[i]

end

/-- how far the replacing has come -/
structure Mixed {α : Type} [Ty α] (h : Heap) (l : List α) (f : α → α) (M : List (Mix α)) (i : Nat) : Prop where
  len : M.length = l.length
  done : M.take i = ((l.map f).take i).map Mix.new
  rest : ∀ (j : Nat) (hj : j < l.length), i ≤ j → ∃ c, M[j]? = some (.raw c) ∧ Ty.rep h c l[j]
section
variable {α : Type} [Ty α] {h : Heap} {l : List α} {f : α → α} {M : List (Mix α)} {i : Nat}
theorem Mixed.zero (R : Raws h l M) : Mixed h l f M 0 := ⟨R.len, rfl, fun j hj _ => R.at' j hj⟩
theorem Mixed.le {h' : Heap} (H : Mixed h l f M i) (hl : h.le h') : Mixed h' l f M i := ⟨H.len, H.done, fun j hj hij => by
  obtain ⟨c, h1, h2⟩ := H.rest j hj hij
  exact ⟨c, h1, Ty.mono hl h2⟩⟩
theorem Mixed.get (H : Mixed h l f M i) (hi : i < l.length) : ∃ c, M[i]'(by rw [H.len]; exact hi) = .raw c ∧ Ty.rep h c l[i] := by
  obtain ⟨c, h1, h2⟩ := H.rest i hi (Nat.le_refl i)
  refine ⟨c, ?_, h2⟩
  rw [List.getElem?_eq_getElem (by rw [H.len]; exact hi)] at h1
  exact Option.some.inj h1
theorem Mixed.step (H : Mixed h l f M i) (hi : i < l.length) : Mixed h l f (M.set i (.new (f l[i]))) (i + 1) := by
  refine ⟨by simp [H.len], ?_, fun j hj hij => ?_⟩
  · have h1 : M.take i = (l.map fun x => Mix.new (f x)).take i := by rw [H.done, List.map_take, List.map_map]; rfl
    have := take_set_succ (x := l.map fun x => Mix.new (f x)) h1 (by simpa using hi) (by simp [H.len])
    rw [List.getElem_map] at this
    rw [this, List.map_take, List.map_map]
    rfl
  · rw [List.getElem?_set_ne (by omega)]
    exact H.rest j hj (by omega)
theorem Mixed.all (H : Mixed h l f M i) (hi : l.length ≤ i) : M = (l.map f).map Mix.new := by
  have := H.done
  rw [List.take_of_length_le (by rw [H.len]; exact hi), List.take_of_length_le (by simpa using hi)] at this
  exact this
end

/- SIZES AND MARKS -/
mutual
def Exq.size : Exq → Nat
  | .mk _ _ l => Exq.sizes l
def Exq.sizes : List Exq → Nat
  | [] => 0
  | x :: l => 1 + x.size + Exq.sizes l
end
instance instSzExq : Sz Exq := ⟨Exq.size⟩
theorem Exq.sizes_eq : ∀ l, Exq.sizes l = Sz.sz l
  | [] => by simp [Exq.sizes, sz_list, szL]
  | x :: l => by
    have := Exq.sizes_eq l
    rw [sz_list] at this ⊢
    simp only [Exq.sizes, szL, List.length_cons, this]
    show 1 + Sz.sz x + _ = _
    omega
theorem sz_Exq (x : Exq) : Sz.sz x = Sz.sz x.kids := by
  cases x with
  | mk k v l => exact Exq.sizes_eq l
instance instSzEd : Sz Ed := ⟨fun e => Sz.sz e.guard + Sz.sz e.value⟩
instance instSzPr : Sz Pr := ⟨fun p => Sz.sz p.edges⟩
instance instSzSy : Sz Sy := ⟨fun s => Sz.sz s.init + Sz.sz s.procs⟩

mutual
def Exq.cnt : Exq → Nat
  | .mk _ _ l => 2 + Exq.cnts l
def Exq.cnts : List Exq → Nat
  | [] => 0
  | x :: l => x.cnt + Exq.cnts l
end
mutual
def Exq.wr : Int → Exq → Exq
  | k, .mk _ _ l => .mk k (k + 1) (Exq.wrs (k + 2) l)
def Exq.wrs : Int → List Exq → List Exq
  | _, [] => []
  | k, x :: l => x.wr k :: Exq.wrs (k + x.cnt) l
end
mutual
theorem Exq.cnt_wr : ∀ (k : Int) (x : Exq), (Exq.wr k x).cnt = x.cnt
  | k, .mk _ _ l => by simp only [Exq.wr, Exq.cnt, Exq.cnts_wrs (k + 2) l]
theorem Exq.cnts_wrs : ∀ (k : Int) (l : List Exq), Exq.cnts (Exq.wrs k l) = Exq.cnts l
  | _, [] => rfl
  | k, x :: l => by simp only [Exq.wrs, Exq.cnts, Exq.cnt_wr k x, Exq.cnts_wrs (k + x.cnt) l]
end
mutual
theorem Exq.wr_wr : ∀ (k j : Int) (x : Exq), Exq.wr k (Exq.wr j x) = Exq.wr k x
  | k, j, .mk _ _ l => by simp only [Exq.wr, Exq.wrs_wrs (k + 2) (j + 2) l]
theorem Exq.wrs_wrs : ∀ (k j : Int) (l : List Exq), Exq.wrs k (Exq.wrs j l) = Exq.wrs k l
  | _, _, [] => rfl
  | k, j, x :: l => by simp only [Exq.wrs, Exq.cnt_wr j x, Exq.wr_wr k j x, Exq.wrs_wrs (k + x.cnt) (j + x.cnt) l]
end
instance instMkExq : Mk Exq := ⟨Exq.cnt, Exq.wr, Exq.cnt_wr, Exq.wr_wr⟩
theorem Exq.cnts_eq : ∀ l, Exq.cnts l = Mk.cnt l
  | [] => rfl
  | x :: l => by
    have := Exq.cnts_eq l
    simp only [Exq.cnts, this]
    rfl
theorem Exq.wrs_eq : ∀ k l, Exq.wrs k l = Mk.wr k l
  | _, [] => rfl
  | k, x :: l => by
    have := Exq.wrs_eq (k + x.cnt) l
    simp only [Exq.wrs, this]
    rfl
theorem cnt_Exq (x : Exq) : Mk.cnt x = 2 + Mk.cnt x.kids := by
  cases x with
  | mk k v l => show 2 + Exq.cnts l = _; rw [Exq.cnts_eq]; rfl
theorem wr_Exq (k : Int) (x : Exq) : Mk.wr k x = Exq.mk k (k + 1) (Mk.wr (k + 2) x.kids) := by
  cases x with
  | mk kd v l => show Exq.mk k (k + 1) (Exq.wrs (k + 2) l) = _; rw [Exq.wrs_eq]; rfl
instance instMkEd : Mk Ed := ⟨fun e => Mk.cnt e.frm + Mk.cnt e.to + Mk.cnt e.guard + Mk.cnt e.var + Mk.cnt e.value + Mk.cnt e.sync,
  fun k e => ⟨Mk.wr k e.frm, Mk.wr (k + Mk.cnt e.frm) e.to, Mk.wr (k + Mk.cnt e.frm + Mk.cnt e.to) e.guard, Mk.wr (k + Mk.cnt e.frm + Mk.cnt e.to + Mk.cnt e.guard) e.var,
    Mk.wr (k + Mk.cnt e.frm + Mk.cnt e.to + Mk.cnt e.guard + Mk.cnt e.var) e.value, Mk.wr (k + Mk.cnt e.frm + Mk.cnt e.to + Mk.cnt e.guard + Mk.cnt e.var + Mk.cnt e.value) e.sync⟩,
  fun k a => by simp [Mk.cnt_wr], fun k j a => by simp [Mk.cnt_wr, Mk.wr_wr]⟩
instance instMkPr : Mk Pr := ⟨fun p => Mk.cnt p.locs + Mk.cnt p.edges, fun k p => ⟨Mk.wr k p.locs, Mk.wr (k + Mk.cnt p.locs) p.edges⟩, fun k a => by simp [Mk.cnt_wr], fun k j a => by simp [Mk.cnt_wr, Mk.wr_wr]⟩
instance instMkSy : Mk Sy := ⟨fun p => Mk.cnt p.init + Mk.cnt p.procs, fun k p => ⟨Mk.wr k p.init, Mk.wr (k + Mk.cnt p.init) p.procs⟩, fun k a => by simp [Mk.cnt_wr], fun k j a => by simp [Mk.cnt_wr, Mk.wr_wr]⟩
theorem cnt_Ed (e : Ed) : Mk.cnt e = 8 + Mk.cnt e.guard.kids + Mk.cnt e.value.kids := by
  show 1 + 1 + Mk.cnt e.guard + 1 + Mk.cnt e.value + 1 = _
  rw [cnt_Exq, cnt_Exq]; omega
theorem cnt_Pr (p : Pr) : Mk.cnt p = 1 + Mk.cnt p.edges := rfl
theorem cnt_Sy (p : Sy) : Mk.cnt p = Mk.cnt p.init + Mk.cnt p.procs := rfl

end Go.Proofs.YthgimpheeemooaaGreat

/-
  What is read as a tree stands for a tree.
-/
namespace Go.Proofs.YthgimpheeemooaaGreat
open Go Go.RowKit
set_option linter.all false
set_option linter.unusedVariables false
set_option linter.unusedSimpArgs false
set_option linter.defProp false
set_option maxRecDepth 1000000

/-- what is read with so much fuel stands for plain data -/
def RdF (P : Program) (t : TypeId) (α : Type) [Ty α] (fuel : Nat) : Prop := ∀ {H : Type} (enc : TypeId × Value → H) (W : World) (sp : Nat → Bool) (cs : List Value) (x : DataW H × List MemPlace),
  DataW.trod enc P W 0 sp true fuel t cs = some x → wOk P t x.1 → ∃ y : α, Ty.rep (whole W) cs y

theorem rd_listF {P : Program} {t : TypeId} {α : Type} [Ty α] {e : TypeId} (ht : P.underlying t = some (.slice e)) (hc : P.cellsOf e = Ty.sz α) (hpos : 0 < Ty.sz α) (hby : 0 < P.bytesOf e) {fuel : Nat} (he : ∀ n, n < fuel → RdF P e α n) : RdF P t (List α) fuel := by
  intro H enc W sp cs x h hwt
  rcases DataW.trod_slice ht h with ⟨rfl, _⟩ | ⟨a, len, cap, elems, rest, n, hfu, rfl, rfl, hb, hlc, hm, hlen, hel, hsp, hns⟩
  · exact ⟨[], none, 0, rfl, by simp, trivial, fun i hi => by simp at hi⟩
  · simp only [wOk, DataW.weights, ht, List.mem_cons, List.mem_append] at hwt
    have hsz : len ≤ reachBytes := by
      have h1 := hwt _ (.inl rfl)
      simp only [List.length_map] at h1
      have h2 : len * 1 ≤ (elems.length + rest.length) * P.bytesOf e := Nat.mul_le_mul (by omega) hby
      omega
    have hwe := wOk_all (fun n hn => hwt n (.inr (.inl hn)))
    have hall : ∀ i, i < len → ∃ y : α, ∃ b off vs, some a = some (⟨b, off, none⟩ : Addr) ∧ hcells (whole W) b (off + i * Ty.sz α) (Ty.sz α) = some vs ∧ Ty.rep (whole W) vs y := by
      intro i hi
      have hget : ∀ i, (hi : i < len) → ∃ cs', W.cells? 0 (a.add (i * P.cellsOf e)) (P.cellsOf e) = some cs' ∧ DataW.trod enc P W 0 sp true n e cs' = some (elems[i]'(by omega)) := by
        intro i hi
        have h1 := hel i hi
        rw [List.getElem?_eq_getElem (by omega)] at h1
        exact Option.bind_eq_some_iff.1 h1
      obtain ⟨cs', h1, h2⟩ := hget i hi
      obtain ⟨y, hy⟩ := he n (by omega) enc W sp cs' _ h2 (hwe _ (List.mem_map.2 ⟨_, List.getElem_mem (by omega), rfl⟩))
      obtain ⟨b, off, spot⟩ := a
      rw [hc] at h1
      have h0 : spot = none := by
        cases spot with
        | none => rfl
        | some s =>
          obtain ⟨cs0, g1, _⟩ := hget 0 (by omega)
          rw [hc] at g1
          simp only [Nat.zero_mul, Addr.add, if_true] at g1
          rw [cells_spot hpos] at g1
          simp at g1
      subst h0
      rw [addr_add0] at h1
      exact ⟨y, b, off, cs', rfl, cells_whole h1, hy⟩
    have hch : ∃ l : List α, l.length = len ∧ ∀ i (hi : i < l.length), ∃ b off vs, some a = some (⟨b, off, none⟩ : Addr) ∧ hcells (whole W) b (off + i * Ty.sz α) (Ty.sz α) = some vs ∧ Ty.rep (whole W) vs l[i] := by
      refine ⟨(List.finRange len).map fun i => Classical.choose (hall i.1 i.2), by simp, fun i hi => ?_⟩
      have hi' : i < len := by simpa using hi
      have := Classical.choose_spec (hall i hi')
      simpa using this
    obtain ⟨l, hl, hr⟩ := hch
    refine ⟨l, some a, cap, by rw [hl], ⟨by omega, ?_⟩, trivial, hr⟩
    have : reachBytes < 4611686018427387904 := by decide
    omega
end Go.Proofs.YthgimpheeemooaaGreat

/-
  The statements of laws, out of the laws as calls. Printed by a program.
-/
namespace Go.Proofs.YthgimpheeemooaaGreat
open Go Go.RowKit Go.ChangeShapes
set_option linter.all false
set_option linter.unusedVariables false
set_option linter.unusedSimpArgs false
set_option linter.defProp false
set_option maxRecDepth 1000000

theorem laid : laidOutB Tryz.prog = true := by kernel_rfl
theorem own0 : ownKnob Tryz.prog.godebug = none := by kernel_rfl

theorem rdF_Exq : ∀ fuel, RdF Tryz.prog 50 Exq fuel := by
  intro fuel
  induction fuel using Nat.strongRecOn with
  | _ fuel ih =>
  intro H enc W sp cs x h hwt
  obtain ⟨xs, n, hfu, rfl, hlen, hxs, hf⟩ := DataW.trod_struct Tryz.underlying50 h
  rw [show Tryz.prog.cellsOf 50 = 3 from by kernel_rfl] at hlen
  simp only [wOk, DataW.weights, Tryz.underlying50] at hwt
  have hw := wOk_each hwt
  have hxs : xs.length = 3 := hxs
  have F0 : ∃ y : Int, Ty.rep (whole W) ((cs.drop 0).take 1) y := by
    have h1 := hf 0 _ rfl
    rw [show Tryz.prog.cellsOf _ = 1 from by kernel_rfl, List.getElem?_eq_getElem (by omega : 0 < xs.length)] at h1
    exact rd_int Tryz.underlying3 enc W sp n _ _ h1 (hw 0 _ _ rfl (by simp [hxs]))
  have F1 : ∃ y : Int, Ty.rep (whole W) ((cs.drop 1).take 1) y := by
    have h1 := hf 1 _ rfl
    rw [show Tryz.prog.cellsOf _ = 1 from by kernel_rfl, List.getElem?_eq_getElem (by omega : 1 < xs.length)] at h1
    exact rd_int Tryz.underlying3 enc W sp n _ _ h1 (hw 1 _ _ rfl (by simp [hxs]))
  have F2 : ∃ y : List Exq, Ty.rep (whole W) ((cs.drop 2).take 1) y := by
    have h1 := hf 2 _ rfl
    rw [show Tryz.prog.cellsOf _ = 1 from by kernel_rfl, List.getElem?_eq_getElem (by omega : 2 < xs.length)] at h1
    exact rd_listF (α := Exq) Tryz.underlying48 (by kernel_rfl) (by decide) (by rw [show Tryz.prog.bytesOf 50 = 40 from by kernel_rfl]; decide) (fun m hm => ih m (by omega)) enc W sp _ _ h1 (hw 2 _ _ rfl (by simp [hxs]))
  have G2 : ∃ y : List Exq, Ty.rep (whole W) (cs.drop 2) y := by
    rw [List.take_of_length_le (by simp; omega)] at F2
    exact F2
  have G1 : ∃ y : Int × List Exq, Ty.rep (whole W) (cs.drop 1) y := rd_two F1 (by rw [List.drop_drop]; exact G2)
  have G0 : ∃ y : Int × Int × List Exq, Ty.rep (whole W) (cs.drop 0) y := rd_two F0 (by rw [List.drop_drop]; exact G1)
  obtain ⟨z, hz⟩ := G0
  exact ⟨Exq.mk z.1 z.2.1 z.2.2, Exq.rep_iff.2 hz⟩
theorem rd_Exq : RdT Tryz.prog 50 Exq := fun enc W sp fuel cs x h hw => rdF_Exq fuel enc W sp cs x h hw

theorem rd_Ed : RdT Tryz.prog 149 Ed := by
  intro H enc W sp fuel cs x h hwt
  obtain ⟨xs, n, rfl, rfl, hlen, hxs, hf⟩ := DataW.trod_struct Tryz.underlying149 h
  rw [show Tryz.prog.cellsOf 149 = 10 from by kernel_rfl] at hlen
  simp only [wOk, DataW.weights, Tryz.underlying149] at hwt
  have hw := wOk_each hwt
  have hxs : xs.length = 6 := hxs
  have F0 : ∃ y : Int, Ty.rep (whole W) ((cs.drop 0).take 1) y := by
    have h1 := hf 0 _ rfl
    rw [show Tryz.prog.cellsOf _ = 1 from by kernel_rfl, List.getElem?_eq_getElem (by omega : 0 < xs.length)] at h1
    exact rd_int Tryz.underlying3 enc W sp n _ _ h1 (hw 0 _ _ rfl (by simp [hxs]))
  have F1 : ∃ y : Int, Ty.rep (whole W) ((cs.drop 1).take 1) y := by
    have h1 := hf 1 _ rfl
    rw [show Tryz.prog.cellsOf _ = 1 from by kernel_rfl, List.getElem?_eq_getElem (by omega : 1 < xs.length)] at h1
    exact rd_int Tryz.underlying3 enc W sp n _ _ h1 (hw 1 _ _ rfl (by simp [hxs]))
  have F2 : ∃ y : Exq, Ty.rep (whole W) ((cs.drop 2).take 3) y := by
    have h1 := hf 2 _ rfl
    rw [show Tryz.prog.cellsOf _ = 3 from by kernel_rfl, List.getElem?_eq_getElem (by omega : 2 < xs.length)] at h1
    exact rd_Exq enc W sp n _ _ h1 (hw 2 _ _ rfl (by simp [hxs]))
  have F3 : ∃ y : Int, Ty.rep (whole W) ((cs.drop 5).take 1) y := by
    have h1 := hf 3 _ rfl
    rw [show Tryz.prog.cellsOf _ = 1 from by kernel_rfl, List.getElem?_eq_getElem (by omega : 3 < xs.length)] at h1
    exact rd_int Tryz.underlying3 enc W sp n _ _ h1 (hw 3 _ _ rfl (by simp [hxs]))
  have F4 : ∃ y : Exq, Ty.rep (whole W) ((cs.drop 6).take 3) y := by
    have h1 := hf 4 _ rfl
    rw [show Tryz.prog.cellsOf _ = 3 from by kernel_rfl, List.getElem?_eq_getElem (by omega : 4 < xs.length)] at h1
    exact rd_Exq enc W sp n _ _ h1 (hw 4 _ _ rfl (by simp [hxs]))
  have F5 : ∃ y : Int, Ty.rep (whole W) ((cs.drop 9).take 1) y := by
    have h1 := hf 5 _ rfl
    rw [show Tryz.prog.cellsOf _ = 1 from by kernel_rfl, List.getElem?_eq_getElem (by omega : 5 < xs.length)] at h1
    exact rd_int Tryz.underlying3 enc W sp n _ _ h1 (hw 5 _ _ rfl (by simp [hxs]))
  have G5 : ∃ y : Int, Ty.rep (whole W) (cs.drop 9) y := by
    rw [List.take_of_length_le (by simp; omega)] at F5
    exact F5
  have G4 : ∃ y : Exq × Int, Ty.rep (whole W) (cs.drop 6) y := rd_two F4 (by rw [List.drop_drop]; exact G5)
  have G3 : ∃ y : Int × Exq × Int, Ty.rep (whole W) (cs.drop 5) y := rd_two F3 (by rw [List.drop_drop]; exact G4)
  have G2 : ∃ y : Exq × Int × Exq × Int, Ty.rep (whole W) (cs.drop 2) y := rd_two F2 (by rw [List.drop_drop]; exact G3)
  have G1 : ∃ y : Int × Exq × Int × Exq × Int, Ty.rep (whole W) (cs.drop 1) y := rd_two F1 (by rw [List.drop_drop]; exact G2)
  have G0 : ∃ y : Int × Int × Exq × Int × Exq × Int, Ty.rep (whole W) (cs.drop 0) y := rd_two F0 (by rw [List.drop_drop]; exact G1)
  obtain ⟨z, hz⟩ := G0
  exact ⟨⟨z.1, z.2.1, z.2.2.1, z.2.2.2.1, z.2.2.2.2.1, z.2.2.2.2.2⟩, hz⟩

theorem rd_Pr : RdT Tryz.prog 106 Pr := by
  intro H enc W sp fuel cs x h hwt
  obtain ⟨xs, n, rfl, rfl, hlen, hxs, hf⟩ := DataW.trod_struct Tryz.underlying106 h
  rw [show Tryz.prog.cellsOf 106 = 2 from by kernel_rfl] at hlen
  simp only [wOk, DataW.weights, Tryz.underlying106] at hwt
  have hw := wOk_each hwt
  have hxs : xs.length = 2 := hxs
  have F0 : ∃ y : Int, Ty.rep (whole W) ((cs.drop 0).take 1) y := by
    have h1 := hf 0 _ rfl
    rw [show Tryz.prog.cellsOf _ = 1 from by kernel_rfl, List.getElem?_eq_getElem (by omega : 0 < xs.length)] at h1
    exact rd_int Tryz.underlying3 enc W sp n _ _ h1 (hw 0 _ _ rfl (by simp [hxs]))
  have F1 : ∃ y : List (Ed), Ty.rep (whole W) ((cs.drop 1).take 1) y := by
    have h1 := hf 1 _ rfl
    rw [show Tryz.prog.cellsOf _ = 1 from by kernel_rfl, List.getElem?_eq_getElem (by omega : 1 < xs.length)] at h1
    exact rd_list (α := Ed) Tryz.underlying104 (by kernel_rfl) (by decide) (by rw [show Tryz.prog.bytesOf 149 = 112 from by kernel_rfl]; decide) (rd_Ed) enc W sp n _ _ h1 (hw 1 _ _ rfl (by simp [hxs]))
  have G1 : ∃ y : (List (Ed)), Ty.rep (whole W) (cs.drop 1) y := by
    rw [List.take_of_length_le (by simp; omega)] at F1
    exact F1
  have G0 : ∃ y : Int × (List (Ed)), Ty.rep (whole W) (cs.drop 0) y := rd_two F0 (by rw [List.drop_drop]; exact G1)
  obtain ⟨z, hz⟩ := G0
  exact ⟨⟨z.1, z.2⟩, hz⟩

theorem rd_Sy : RdT Tryz.prog 25 Sy := by
  intro H enc W sp fuel cs x h hwt
  obtain ⟨xs, n, rfl, rfl, hlen, hxs, hf⟩ := DataW.trod_struct Tryz.underlying25 h
  rw [show Tryz.prog.cellsOf 25 = 2 from by kernel_rfl] at hlen
  simp only [wOk, DataW.weights, Tryz.underlying25] at hwt
  have hw := wOk_each hwt
  have hxs : xs.length = 2 := hxs
  have F0 : ∃ y : List (Int), Ty.rep (whole W) ((cs.drop 0).take 1) y := by
    have h1 := hf 0 _ rfl
    rw [show Tryz.prog.cellsOf _ = 1 from by kernel_rfl, List.getElem?_eq_getElem (by omega : 0 < xs.length)] at h1
    exact rd_list (α := Int) Tryz.underlying22 (by kernel_rfl) (by decide) (by rw [show Tryz.prog.bytesOf 3 = 8 from by kernel_rfl]; decide) (rd_int Tryz.underlying3) enc W sp n _ _ h1 (hw 0 _ _ rfl (by simp [hxs]))
  have F1 : ∃ y : List (Pr), Ty.rep (whole W) ((cs.drop 1).take 1) y := by
    have h1 := hf 1 _ rfl
    rw [show Tryz.prog.cellsOf _ = 1 from by kernel_rfl, List.getElem?_eq_getElem (by omega : 1 < xs.length)] at h1
    exact rd_list (α := Pr) Tryz.underlying23 (by kernel_rfl) (by decide) (by rw [show Tryz.prog.bytesOf 106 = 32 from by kernel_rfl]; decide) (rd_Pr) enc W sp n _ _ h1 (hw 1 _ _ rfl (by simp [hxs]))
  have G1 : ∃ y : (List (Pr)), Ty.rep (whole W) (cs.drop 1) y := by
    rw [List.take_of_length_le (by simp; omega)] at F1
    exact F1
  have G0 : ∃ y : (List (Int)) × (List (Pr)), Ty.rep (whole W) (cs.drop 0) y := rd_two F0 (by rw [List.drop_drop]; exact G1)
  obtain ⟨z, hz⟩ := G0
  exact ⟨⟨z.1, z.2⟩, hz⟩

end Go.Proofs.YthgimpheeemooaaGreat

/-
  The numbers of the functions.
-/
namespace Go.Proofs.YthgimpheeemooaaGreat
open Go
set_option linter.all false
set_option linter.defProp false
set_option maxRecDepth 1000000

abbrev fn_main_main : Nat := 0
abbrev fn_gosem_cut : Nat := 1
abbrev fn_gosem_cut_init : Nat := 2
abbrev fn_laws_FnExactDeadEdges : Nat := 3
abbrev fn_laws_FnExactBuildGraph : Nat := 4
abbrev fn_laws_FnExactCheckInvariant : Nat := 5
abbrev fn_laws_FnExactCheckDeadlock : Nat := 6
abbrev fn_laws_szSystem : Nat := 7
abbrev fn_spec_DeadEdges : Nat := 8
abbrev fn_laws_toSystem : Nat := 9
abbrev fn_impl_DeadEdges : Nat := 10
abbrev fn_laws_eqBoolS : Nat := 11
abbrev fn_laws_eqSystem : Nat := 12
abbrev fn_laws_markSystem : Nat := 13
abbrev fn_laws_markBoolS : Nat := 14
abbrev fn_laws_heldBoolS : Nat := 15
abbrev fn_spec_BuildGraph : Nat := 16
abbrev fn_impl_BuildGraph : Nat := 17
abbrev fn_laws_eqGraph : Nat := 18
abbrev fn_laws_markGraph : Nat := 19
abbrev fn_laws_heldGraph : Nat := 20
abbrev fn_laws_szExpr : Nat := 21
abbrev fn_spec_CheckInvariant : Nat := 22
abbrev fn_laws_toExpr : Nat := 23
abbrev fn_impl_CheckInvariant : Nat := 24
abbrev fn_laws_eqStateS : Nat := 25
abbrev fn_laws_eqExpr : Nat := 26
abbrev fn_laws_markExpr : Nat := 27
abbrev fn_laws_markStateS : Nat := 28
abbrev fn_laws_heldStateS : Nat := 29
abbrev fn_spec_CheckDeadlock : Nat := 30
abbrev fn_impl_CheckDeadlock : Nat := 31
abbrev fn_laws_szIntS : Nat := 32
abbrev fn_laws_szProcessS : Nat := 33
abbrev fn_spec_l3Steps : Nat := 34
abbrev fn_laws_toIntS : Nat := 35
abbrev fn_laws_toProcessS : Nat := 36
abbrev fn_impl_in : Nat := 37
abbrev fn_impl_System_enabled : Nat := 38
abbrev fn_laws_eqIntS : Nat := 39
abbrev fn_laws_eqProcessS : Nat := 40
abbrev fn_laws_markIntS : Nat := 41
abbrev fn_laws_markProcessS : Nat := 42
abbrev fn_spec_InitialState : Nat := 43
abbrev fn_spec_l3Apply : Nat := 44
abbrev fn_spec_l4Find : Nat := 45
abbrev fn_spec_l4In : Nat := 46
abbrev fn_impl_SystemValid : Nat := 47
abbrev fn_impl_System_build : Nat := 48
abbrev fn_laws_eqIntSS : Nat := 49
abbrev fn_laws_markIntSS : Nat := 50
abbrev fn_laws_heldIntSS : Nat := 51
abbrev fn_laws_szExprS : Nat := 52
abbrev fn_spec_SystemValid : Nat := 53
abbrev fn_spec_ExprValid : Nat := 54
abbrev fn_spec_l1Eval : Nat := 55
abbrev fn_spec_l4First : Nat := 56
abbrev fn_laws_toExprS : Nat := 57
abbrev fn_impl_check : Nat := 58
abbrev fn_impl_ExprValid : Nat := 59
abbrev fn_impl_CheckInvariant_1 : Nat := 60
abbrev fn_impl_Expr_eval : Nat := 61
abbrev fn_laws_eqState : Nat := 62
abbrev fn_laws_eqExprS : Nat := 63
abbrev fn_laws_markExprS : Nat := 64
abbrev fn_laws_heldIntS : Nat := 65
abbrev fn_spec_IsDeadlock : Nat := 66
abbrev fn_impl_CheckDeadlock_1 : Nat := 67
abbrev fn_laws_szProcess : Nat := 68
abbrev fn_spec_l3Ready : Nat := 69
abbrev fn_spec_l3Partners : Nat := 70
abbrev fn_laws_toProcess : Nat := 71
abbrev fn_impl_System_ready : Nat := 72
abbrev fn_slices_Clip_S_impl_Step_impl_Step : Nat := 73
abbrev fn_laws_eqProcess : Nat := 74
abbrev fn_laws_markEdgeS : Nat := 75
abbrev fn_spec_l3Take : Nat := 76
abbrev fn_spec_StateSame : Nat := 77
abbrev fn_impl_valsOk : Nat := 78
abbrev fn_slices_ContainsFunc_S_impl_Edge_impl_Edge : Nat := 79
abbrev fn_impl_SystemValid_1 : Nat := 80
abbrev fn_impl_EdgeValid : Nat := 81
abbrev fn_impl_System_initial : Nat := 82
abbrev fn_impl_System_after : Nat := 83
abbrev fn_slices_IndexFunc_S_impl_State_impl_State : Nat := 84
abbrev fn_impl_System_build_1 : Nat := 85
abbrev fn_impl_StateSame : Nat := 86
abbrev fn_slices_Contains_S_int_int : Nat := 87
abbrev fn_slices_Clip_S_int_int : Nat := 88
abbrev fn_slices_Clip_S_impl_State_impl_State : Nat := 89
abbrev fn_slices_Clip_S_S_int_S_int : Nat := 90
abbrev fn_spec_l2Process : Nat := 91
abbrev fn_spec_l1Vals : Nat := 92
abbrev fn_spec_l1Shape : Nat := 93
abbrev fn_spec_l1Count : Nat := 94
abbrev fn_spec_l1Bool : Nat := 95
abbrev fn_spec_l4Search : Nat := 96
abbrev fn_spec_l4States : Nat := 97
abbrev fn_spec_l4Path : Nat := 98
abbrev fn_impl_Graph_statesOf : Nat := 99
abbrev fn_impl_Graph_path : Nat := 100
abbrev fn_impl_ExprNodes : Nat := 101
abbrev fn_impl_truth : Nat := 102
abbrev fn_spec_StateValid : Nat := 103
abbrev fn_laws_szEdgeS : Nat := 104
abbrev fn_laws_toEdgeS : Nat := 105
abbrev fn_laws_eqEdgeS : Nat := 106
abbrev fn_spec_l2Ints : Nat := 107
abbrev fn_slices_ContainsFunc_S_int_int : Nat := 108
abbrev fn_impl_valsOk_1 : Nat := 109
abbrev fn_slices_IndexFunc_S_impl_Edge_impl_Edge : Nat := 110
abbrev fn_impl_ExprSame : Nat := 111
abbrev fn_impl_clone_int : Nat := 112
abbrev fn_impl_State_copyOf : Nat := 113
abbrev fn_impl_State_take : Nat := 114
abbrev fn_slices_Equal_S_int_int : Nat := 115
abbrev fn_slices_Index_S_int_int : Nat := 116
abbrev fn_spec_EdgeValid : Nat := 117
abbrev fn_spec_l1Arity : Nat := 118
abbrev fn_impl_shortest : Nat := 119
abbrev fn_impl_Graph_path_1 : Nat := 120
abbrev fn_impl_Expr_walk : Nat := 121
abbrev fn_laws_szEdge : Nat := 122
abbrev fn_laws_toEdge : Nat := 123
abbrev fn_laws_eqEdge : Nat := 124
abbrev fn_slices_IndexFunc_S_int_int : Nat := 125
abbrev fn_slices_EqualFunc_S_impl_Expr_S_impl_Expr_impl_Expr_impl_Expr : Nat := 126
abbrev fn_slices_Clone_S_int_int : Nat := 127
abbrev fn_spec_l2None : Nat := 128
abbrev fn_slices_Reverse_S_int_int : Nat := 129
abbrev fn_slices_ContainsFunc_S_impl_Expr_impl_Expr : Nat := 130
abbrev fn_impl_Expr_walk_1 : Nat := 131
abbrev fn_slices_IndexFunc_S_impl_Expr_impl_Expr : Nat := 132
abbrev fn_runtime_boundsError_Error : Nat := 133
abbrev fn_runtime_boundsError_RuntimeError : Nat := 134
abbrev fn_runtime_errorString_Error : Nat := 135
abbrev fn_runtime_errorString_RuntimeError : Nat := 136
abbrev fn_runtime_plainError_Error : Nat := 137
abbrev fn_runtime_plainError_RuntimeError : Nat := 138
abbrev fn_runtime_errorAddressString_Error : Nat := 139
abbrev fn_runtime_errorAddressString_RuntimeError : Nat := 140
abbrev fn_runtime_TypeAssertionError_Error : Nat := 141
abbrev fn_runtime_TypeAssertionError_RuntimeError : Nat := 142
abbrev fn_runtime_PanicNilError_Error : Nat := 143
abbrev fn_runtime_PanicNilError_RuntimeError : Nat := 144
abbrev fn_internal_abi_Type_Align : Nat := 145
abbrev fn_internal_runtime_maps_unhashableTypeError_Error : Nat := 146
abbrev fn_internal_runtime_maps_unhashableTypeError_RuntimeError : Nat := 147
abbrev fn_impl_System_copyOf : Nat := 148
abbrev fn_impl_Graph_every : Nat := 149
abbrev fn_impl_Expr_text : Nat := 150
abbrev fn_impl_Process_reach : Nat := 151
abbrev fn_impl_Edge_same : Nat := 152
abbrev fn_internal_abi_Kind_String : Nat := 153

end Go.Proofs.YthgimpheeemooaaGreat

/-
  Bodies of functions in the small language, as a program printed them, and that each is what the translation gives.
-/
namespace Go.Proofs.YthgimpheeemooaaGreat
open Go
set_option linter.all false
set_option linter.defProp false
set_option maxRecDepth 1000000

def H_impl_CheckDeadlock : Hint := ⟨[(0, false), (1, false), (2, false), (3, false)], []⟩
def K31_1 : Pl := .st (.act none (.px (some 7) (.extract 0 (.v 6)))) <|
    .st (.act none (.px (some 8) (.extract 1 (.v 6)))) <|
    .st (.act none (.px (some 2) (.mv (.v 7)))) <|
    .st (.act none (.px (some 3) (.mv (.v 8)))) .done
@[simp] def W31_1 := @Pl.wpe _ _ K31_1.eq_1
def K31_2 : C := .seq (.pl <| .st (.ext 4 5) <|
    .st (.act none (.ld (some 4) (.v 1) (some 2))) <|
    .st (.act none (.px (some 5) (.mkf (.func fn_impl_CheckDeadlock_1) [] [.v 1]))) <|
    .st (.act none (.ex (some 6) (.call fn_impl_check [.v 4, .c (.bool true), .v 5]))) K31_1) (.ret)
@[simp] def W31_2 := @C.wpe _ _ K31_2.eq_1
def K31_3 : Pl := .st (.act none (.px (some 2) (.mv (.c (.int .i64 0))))) <|
    .st (.act none (.px (some 3) (.mv (.c (.slice none 0 0))))) .done
@[simp] def W31_3 := @Pl.wpe _ _ K31_3.eq_1
def B_impl_CheckDeadlock : C := .seq (.pl <| .st (.ext 4 0) <|
    .st (.act none (.ex (some 1) (.alloc (.v 0)))) K31_3) K31_2
@[simp] def WB_impl_CheckDeadlock := @C.wpe _ _ B_impl_CheckDeadlock.eq_1
def R_impl_CheckDeadlock : FIR := ⟨B_impl_CheckDeadlock, 4, [(2, none), (3, none)]⟩
theorem IR_impl_CheckDeadlock : cfun Tryz.prog H_impl_CheckDeadlock Tryz.f31 = some R_impl_CheckDeadlock := by kernel_rfl
theorem EN_impl_CheckDeadlock {args : List Value} {h : Heap} {k : Value → Heap → Prop} (hargs : args.length = 1) (hw : B_impl_CheckDeadlock.wp Tryz.prog (retQ [(2, none), (3, none)] k) (env0 args 4) h) : CallE Tryz.prog fn_impl_CheckDeadlock args h k := enter Tryz.func31 rfl IR_impl_CheckDeadlock hargs hw

def H_impl_CheckDeadlock_1 : Hint := ⟨[(0, false), (1, false), (2, true), (3, false)], []⟩
def K67_1 : Pl := .st (.act none (.px (some 7) (.lenV (.v 6)))) <|
    .st (.act none (.px (some 8) (.bin .eql (.v 7) (.c (.int .i64 0))))) <|
    .st (.act none (.px (some 3) (.mv (.v 8)))) .done
@[simp] def W67_1 := @Pl.wpe _ _ K67_1.eq_1
def K67_2 : C := .seq (.pl <| .st (.ext 4 5) <|
    .st (.act none (.ld (some 4) (.v 1) (some 2))) <|
    .st (.act none (.pget (some 5) none 2 0 (some 2))) <|
    .st (.act none (.ex (some 6) (.call fn_impl_System_enabled [.v 4, .v 5]))) K67_1) (.ret)
@[simp] def W67_2 := @C.wpe _ _ K67_2.eq_1
def B_impl_CheckDeadlock_1 : C := .seq (.pl <| .st (.ext 4 0) <|
    .st (.act none (.pnew 2 (.v 0) [])) <|
    .st (.act none (.px (some 3) (.mv (.c (.bool false))))) .done) K67_2
@[simp] def WB_impl_CheckDeadlock_1 := @C.wpe _ _ B_impl_CheckDeadlock_1.eq_1
def R_impl_CheckDeadlock_1 : FIR := ⟨B_impl_CheckDeadlock_1, 4, [(3, none)]⟩
theorem IR_impl_CheckDeadlock_1 : cfun Tryz.prog H_impl_CheckDeadlock_1 Tryz.f67 = some R_impl_CheckDeadlock_1 := by kernel_rfl
theorem EN_impl_CheckDeadlock_1 {args : List Value} {h : Heap} {k : Value → Heap → Prop} (hargs : args.length = 2) (hw : B_impl_CheckDeadlock_1.wp Tryz.prog (retQ [(3, none)] k) (env0 args 4) h) : CallE Tryz.prog fn_impl_CheckDeadlock_1 args h k := enter Tryz.func67 rfl IR_impl_CheckDeadlock_1 hargs hw

def H_laws_FnExactCheckDeadlock : Hint := ⟨[(0, false), (1, true), (2, false), (3, false), (4, false), (5, false), (6, true), (7, false), (8, false), (9, false), (10, false), (11, false), (12, false), (13, false)], []⟩
def K6_1 : C := .seq (.pl <| .st (.ext 14 0) <|
    .st (.act none (.px (some 2) (.mv (.c (.bool true))))) .done) (.ret)
@[simp] def W6_1 := @C.wpe _ _ K6_1.eq_1
def K6_2 : C := .seq (.pl <| .st (.ext 14 0) <|
    .st (.act none (.px (some 2) (.mv (.c (.bool false))))) .done) (.ret)
@[simp] def W6_2 := @C.wpe _ _ K6_2.eq_1
def K6_3 : C := .cond 14 (.v 16) K6_2 (.skip)
@[simp] def W6_3 := @C.wpe _ _ K6_3.eq_1
def K6_4 : C := .seq (.seq (.pl <| .st (.ext 14 3) <|
    .st (.act none (.px (some 14) (.mv (.v 11)))) <|
    .st (.act none (.px (some 15) (.mv (.v 10)))) <|
    .st (.act none (.px (some 16) (.bin .neq (.v 14) (.v 15)))) .done) K6_3) K6_1
@[simp] def W6_4 := @C.wpe _ _ K6_4.eq_1
def K6_5 : C := .seq (.pl <| .st (.ext 14 0) <|
    .st (.act none (.px (some 2) (.mv (.c (.bool false))))) .done) (.ret)
@[simp] def W6_5 := @C.wpe _ _ K6_5.eq_1
def K6_6 : C := .cond 14 (.v 15) K6_5 (.skip)
@[simp] def W6_6 := @C.wpe _ _ K6_6.eq_1
def K6_7 : C := .seq (.seq (.pl <| .st (.ext 14 2) <|
    .st (.act none (.px (some 14) (.mv (.v 11)))) <|
    .st (.act none (.px (some 15) (.bin .lss (.v 14) (.c (.int .i64 0))))) .done) K6_6) K6_4
@[simp] def W6_7 := @C.wpe _ _ K6_7.eq_1
def K6_8 : Pl := .st (.act none (.px (some 11) (.mv (.v 16)))) .done
@[simp] def W6_8 := @Pl.wpe _ _ K6_8.eq_1
def K6_9 : C := .seq (.pl <| .st (.ext 14 3) <|
    .st (.act none (.px (some 14) (.mv (.v 8)))) <|
    .st (.act none (.px (some 15) (.mv (.v 11)))) <|
    .st (.act none (.ex (some 16) (.call fn_laws_heldStateS [.v 14, .v 15]))) K6_8) K6_7
@[simp] def W6_9 := @C.wpe _ _ K6_9.eq_1
def K6_10 : C := .seq (.pl <| .st (.ext 14 0) <|
    .st (.act none (.px (some 11) (.mv (.c (.int .i64 1))))) .done) K6_9
@[simp] def W6_10 := @C.wpe _ _ K6_10.eq_1
def K6_11 : C := .seq (.pl <| .st (.ext 14 0) <|
    .st (.act none (.px (some 2) (.mv (.c (.bool false))))) .done) (.ret)
@[simp] def W6_11 := @C.wpe _ _ K6_11.eq_1
def K6_12 : C := .cond 14 (.v 22) K6_11 (.skip)
@[simp] def W6_12 := @C.wpe _ _ K6_12.eq_1
def K6_13 : Pl := .st (.act (some (.v 17, false)) (.px (some 21) (.un .not (.v 20)))) <|
    .st (.act none (.px (some 22) (.pick (.v 17) (.c (.bool true)) (.v 21)))) .done
@[simp] def W6_13 := @Pl.wpe _ _ K6_13.eq_1
def K6_14 : C := .seq (.seq (.pl <| .st (.ext 14 9) <|
    .st (.act none (.px (some 14) (.mv (.v 12)))) <|
    .st (.act none (.px (some 15) (.mv (.v 4)))) <|
    .st (.act none (.px (some 16) (.bin .neq (.v 14) (.v 15)))) <|
    .st (.act none (.px (some 17) (.mv (.v 16)))) <|
    .st (.act (some (.v 17, false)) (.px (some 18) (.mv (.v 13)))) <|
    .st (.act (some (.v 17, false)) (.px (some 19) (.mv (.v 5)))) <|
    .st (.act (some (.v 17, false)) (.ex (some 20) (.call fn_laws_eqStateS [.v 18, .v 19]))) K6_13) K6_12) K6_10
@[simp] def W6_14 := @C.wpe _ _ K6_14.eq_1
def K6_15 : Pl := .st (.act none (.px (some 17) (.mv (.v 16)))) <|
    .st (.act none (.px (some 18) (.extract 0 (.v 17)))) <|
    .st (.act none (.px (some 19) (.extract 1 (.v 17)))) <|
    .st (.act none (.px (some 12) (.mv (.v 18)))) <|
    .st (.act none (.px (some 13) (.mv (.v 19)))) .done
@[simp] def W6_15 := @Pl.wpe _ _ K6_15.eq_1
def K6_16 : Pl := .st (.act none (.ex (some 16) (.call fn_impl_CheckDeadlock [.v 15]))) K6_15
@[simp] def W6_16 := @Pl.wpe _ _ K6_16.eq_1
def K6_17 : C := .seq (.pl <| .st (.ext 14 6) <|
    .st (.act none (.pget (some 14) none 1 0 (some 2))) <|
    .st (.act none (.ex (some 15) (.call fn_laws_toSystem [.v 14]))) K6_16) K6_14
@[simp] def W6_17 := @C.wpe _ _ K6_17.eq_1
def K6_18 : C := .seq (.pl <| .st (.ext 14 0) <|
    .st (.act none (.px (some 2) (.mv (.c (.bool false))))) .done) (.ret)
@[simp] def W6_18 := @C.wpe _ _ K6_18.eq_1
def K6_19 : C := .cond 14 (.v 16) K6_18 (.skip)
@[simp] def W6_19 := @C.wpe _ _ K6_19.eq_1
def K6_20 : C := .seq (.seq (.pl <| .st (.ext 14 3) <|
    .st (.act none (.px (some 14) (.mv (.v 11)))) <|
    .st (.act none (.px (some 15) (.mv (.v 10)))) <|
    .st (.act none (.px (some 16) (.bin .neq (.v 14) (.v 15)))) .done) K6_19) K6_17
@[simp] def W6_20 := @C.wpe _ _ K6_20.eq_1
def K6_21 : C := .seq (.pl <| .st (.ext 14 0) <|
    .st (.act none (.px (some 2) (.mv (.c (.bool false))))) .done) (.ret)
@[simp] def W6_21 := @C.wpe _ _ K6_21.eq_1
def K6_22 : C := .cond 14 (.v 15) K6_21 (.skip)
@[simp] def W6_22 := @C.wpe _ _ K6_22.eq_1
def K6_23 : C := .seq (.seq (.pl <| .st (.ext 14 2) <|
    .st (.act none (.px (some 14) (.mv (.v 11)))) <|
    .st (.act none (.px (some 15) (.bin .lss (.v 14) (.c (.int .i64 0))))) .done) K6_22) K6_20
@[simp] def W6_23 := @C.wpe _ _ K6_23.eq_1
def K6_24 : Pl := .st (.act none (.px (some 11) (.mv (.v 16)))) .done
@[simp] def W6_24 := @Pl.wpe _ _ K6_24.eq_1
def K6_25 : C := .seq (.pl <| .st (.ext 14 3) <|
    .st (.act none (.px (some 14) (.mv (.v 8)))) <|
    .st (.act none (.px (some 15) (.mv (.v 11)))) <|
    .st (.act none (.ex (some 16) (.call fn_laws_heldStateS [.v 14, .v 15]))) K6_24) K6_23
@[simp] def W6_25 := @C.wpe _ _ K6_25.eq_1
def K6_26 : C := .seq (.pl <| .st (.ext 14 0) <|
    .st (.act none (.px (some 11) (.mv (.c (.int .i64 1))))) .done) K6_25
@[simp] def W6_26 := @C.wpe _ _ K6_26.eq_1
def K6_27 : Pl := .st (.act none (.px (some 10) (.mv (.v 16)))) .done
@[simp] def W6_27 := @Pl.wpe _ _ K6_27.eq_1
def K6_28 : C := .seq (.pl <| .st (.ext 14 3) <|
    .st (.act none (.px (some 14) (.mv (.v 8)))) <|
    .st (.act none (.px (some 15) (.mv (.v 10)))) <|
    .st (.act none (.ex (some 16) (.call fn_laws_markStateS [.v 14, .v 15]))) K6_27) K6_26
@[simp] def W6_28 := @C.wpe _ _ K6_28.eq_1
def K6_29 : C := .seq (.pl <| .st (.ext 14 0) <|
    .st (.act none (.px (some 10) (.mv (.c (.int .i64 1))))) .done) K6_28
@[simp] def W6_29 := @C.wpe _ _ K6_29.eq_1
def K6_30 : C := .seq (.pl <| .st (.ext 14 0) <|
    .st (.act none (.px (some 2) (.mv (.c (.bool false))))) .done) (.ret)
@[simp] def W6_30 := @C.wpe _ _ K6_30.eq_1
def K6_31 : C := .cond 14 (.v 26) K6_30 (.skip)
@[simp] def W6_31 := @C.wpe _ _ K6_31.eq_1
def K6_32 : Pl := .st (.act (some (.v 21, false)) (.px (some 25) (.un .not (.v 24)))) <|
    .st (.act none (.px (some 26) (.pick (.v 21) (.c (.bool true)) (.v 25)))) .done
@[simp] def W6_32 := @Pl.wpe _ _ K6_32.eq_1
def K6_33 : C := .seq (.seq (.pl <| .st (.ext 14 13) <|
    .st (.act none (.px (some 14) (.mv (.v 9)))) <|
    .st (.act none (.px (some 15) (.bin .lss (.v 14) (.c (.int .i64 0))))) <|
    .st (.act none (.px (some 16) (.mv (.v 15)))) <|
    .st (.act (some (.v 16, false)) (.px (some 17) (.mv (.v 7)))) <|
    .st (.act (some (.v 16, false)) (.px (some 18) (.mv (.v 4)))) <|
    .st (.act (some (.v 16, false)) (.px (some 19) (.bin .neq (.v 17) (.v 18)))) <|
    .st (.act none (.px (some 20) (.pick (.v 16) (.c (.bool true)) (.v 19)))) <|
    .st (.act none (.px (some 21) (.mv (.v 20)))) <|
    .st (.act (some (.v 21, false)) (.px (some 22) (.mv (.v 8)))) <|
    .st (.act (some (.v 21, false)) (.px (some 23) (.mv (.v 5)))) <|
    .st (.act (some (.v 21, false)) (.ex (some 24) (.call fn_laws_eqStateS [.v 22, .v 23]))) K6_32) K6_31) K6_29
@[simp] def W6_33 := @C.wpe _ _ K6_33.eq_1
def K6_34 : Pl := .st (.act none (.px (some 9) (.mv (.v 16)))) .done
@[simp] def W6_34 := @Pl.wpe _ _ K6_34.eq_1
def K6_35 : C := .seq (.pl <| .st (.ext 14 3) <|
    .st (.act none (.pget (some 14) none 6 0 (some 2))) <|
    .st (.act none (.px (some 15) (.mv (.v 9)))) <|
    .st (.act none (.ex (some 16) (.call fn_laws_markSystem [.v 14, .v 15]))) K6_34) K6_33
@[simp] def W6_35 := @C.wpe _ _ K6_35.eq_1
def K6_36 : C := .seq (.pl <| .st (.ext 14 0) <|
    .st (.act none (.px (some 9) (.mv (.c (.int .i64 1))))) .done) K6_35
@[simp] def W6_36 := @C.wpe _ _ K6_36.eq_1
def K6_37 : C := .seq (.pl <| .st (.ext 14 0) <|
    .st (.act none (.px (some 2) (.mv (.c (.bool false))))) .done) (.ret)
@[simp] def W6_37 := @C.wpe _ _ K6_37.eq_1
def K6_38 : C := .cond 14 (.v 18) K6_37 (.skip)
@[simp] def W6_38 := @C.wpe _ _ K6_38.eq_1
def K6_39 : Pl := .st (.act none (.px (some 18) (.un .not (.v 17)))) .done
@[simp] def W6_39 := @Pl.wpe _ _ K6_39.eq_1
def K6_40 : Pl := .st (.act none (.ex (some 17) (.call fn_laws_eqSystem [.v 14, .v 16]))) K6_39
@[simp] def W6_40 := @Pl.wpe _ _ K6_40.eq_1
def K6_41 : C := .seq (.seq (.pl <| .st (.ext 14 5) <|
    .st (.act none (.pget (some 14) none 6 0 (some 2))) <|
    .st (.act none (.pget (some 15) none 1 0 (some 2))) <|
    .st (.act none (.ex (some 16) (.call fn_laws_toSystem [.v 15]))) K6_40) K6_38) K6_36
@[simp] def W6_41 := @C.wpe _ _ K6_41.eq_1
def K6_42 : C := .seq (.pl <| .st (.ext 14 0) <|
    .st (.act none (.px (some 2) (.mv (.c (.bool false))))) .done) (.ret)
@[simp] def W6_42 := @C.wpe _ _ K6_42.eq_1
def K6_43 : C := .cond 14 (.v 22) K6_42 (.skip)
@[simp] def W6_43 := @C.wpe _ _ K6_43.eq_1
def K6_44 : Pl := .st (.act (some (.v 17, false)) (.px (some 21) (.un .not (.v 20)))) <|
    .st (.act none (.px (some 22) (.pick (.v 17) (.c (.bool true)) (.v 21)))) .done
@[simp] def W6_44 := @Pl.wpe _ _ K6_44.eq_1
def K6_45 : C := .seq (.seq (.pl <| .st (.ext 14 9) <|
    .st (.act none (.px (some 14) (.mv (.v 7)))) <|
    .st (.act none (.px (some 15) (.mv (.v 4)))) <|
    .st (.act none (.px (some 16) (.bin .neq (.v 14) (.v 15)))) <|
    .st (.act none (.px (some 17) (.mv (.v 16)))) <|
    .st (.act (some (.v 17, false)) (.px (some 18) (.mv (.v 8)))) <|
    .st (.act (some (.v 17, false)) (.px (some 19) (.mv (.v 5)))) <|
    .st (.act (some (.v 17, false)) (.ex (some 20) (.call fn_laws_eqStateS [.v 18, .v 19]))) K6_44) K6_43) K6_41
@[simp] def W6_45 := @C.wpe _ _ K6_45.eq_1
def K6_46 : Pl := .st (.act none (.px (some 16) (.mv (.v 15)))) <|
    .st (.act none (.px (some 17) (.extract 0 (.v 16)))) <|
    .st (.act none (.px (some 18) (.extract 1 (.v 16)))) <|
    .st (.act none (.px (some 7) (.mv (.v 17)))) <|
    .st (.act none (.px (some 8) (.mv (.v 18)))) .done
@[simp] def W6_46 := @Pl.wpe _ _ K6_46.eq_1
def K6_47 : C := .seq (.pl <| .st (.ext 14 5) <|
    .st (.act none (.pget (some 14) none 6 0 (some 2))) <|
    .st (.act none (.ex (some 15) (.call fn_impl_CheckDeadlock [.v 14]))) K6_46) K6_45
@[simp] def W6_47 := @C.wpe _ _ K6_47.eq_1
def K6_48 : Pl := .st (.act none (.pnew 6 (.c (.agg #[.slice none 0 0, .slice none 0 0])) [])) <|
    .st (.act none (.pset none 6 0 2 (.v 15))) .done
@[simp] def W6_48 := @Pl.wpe _ _ K6_48.eq_1
def K6_49 : C := .seq (.pl <| .st (.ext 14 2) <|
    .st (.act none (.pget (some 14) none 1 0 (some 2))) <|
    .st (.act none (.ex (some 15) (.call fn_laws_toSystem [.v 14]))) K6_48) K6_47
@[simp] def W6_49 := @C.wpe _ _ K6_49.eq_1
def K6_50 : Pl := .st (.act none (.px (some 17) (.mv (.v 16)))) <|
    .st (.act none (.px (some 18) (.extract 0 (.v 17)))) <|
    .st (.act none (.px (some 19) (.extract 1 (.v 17)))) <|
    .st (.act none (.px (some 4) (.mv (.v 18)))) <|
    .st (.act none (.px (some 5) (.mv (.v 19)))) .done
@[simp] def W6_50 := @Pl.wpe _ _ K6_50.eq_1
def K6_51 : Pl := .st (.act none (.ex (some 16) (.call fn_spec_CheckDeadlock [.v 15]))) K6_50
@[simp] def W6_51 := @Pl.wpe _ _ K6_51.eq_1
def K6_52 : C := .seq (.pl <| .st (.ext 14 6) <|
    .st (.act none (.pget (some 14) none 1 0 (some 2))) <|
    .st (.act none (.ex (some 15) (.call fn_laws_toSystem [.v 14]))) K6_51) K6_49
@[simp] def W6_52 := @C.wpe _ _ K6_52.eq_1
def K6_53 : C := .seq (.pl <| .st (.ext 14 0) <|
    .st (.act none (.px (some 2) (.mv (.c (.bool true))))) .done) (.ret)
@[simp] def W6_53 := @C.wpe _ _ K6_53.eq_1
def K6_54 : C := .cond 14 (.v 15) K6_53 (.skip)
@[simp] def W6_54 := @C.wpe _ _ K6_54.eq_1
def K6_55 : C := .seq (.seq (.pl <| .st (.ext 14 2) <|
    .st (.act none (.px (some 14) (.mv (.v 3)))) <|
    .st (.act none (.px (some 15) (.bin .lss (.v 14) (.c (.int .i64 0))))) .done) K6_54) K6_52
@[simp] def W6_55 := @C.wpe _ _ K6_55.eq_1
def K6_56 : Pl := .st (.act none (.px (some 3) (.mv (.v 16)))) .done
@[simp] def W6_56 := @Pl.wpe _ _ K6_56.eq_1
def K6_57 : C := .seq (.pl <| .st (.ext 14 3) <|
    .st (.act none (.pget (some 14) none 1 0 (some 2))) <|
    .st (.act none (.px (some 15) (.mv (.v 3)))) <|
    .st (.act none (.ex (some 16) (.call fn_laws_szSystem [.v 14, .v 15]))) K6_56) K6_55
@[simp] def W6_57 := @C.wpe _ _ K6_57.eq_1
def K6_58 : C := .seq (.pl <| .st (.ext 14 0) <|
    .st (.act none (.px (some 3) (.mv (.c (.int .i64 1048576))))) .done) K6_57
@[simp] def W6_58 := @C.wpe _ _ K6_58.eq_1
def B_laws_FnExactCheckDeadlock : C := .seq (.pl <| .st (.ext 14 0) <|
    .st (.act none (.pnew 1 (.v 0) [])) <|
    .st (.act none (.px (some 2) (.mv (.c (.bool false))))) .done) K6_58
@[simp] def WB_laws_FnExactCheckDeadlock := @C.wpe _ _ B_laws_FnExactCheckDeadlock.eq_1
def R_laws_FnExactCheckDeadlock : FIR := ⟨B_laws_FnExactCheckDeadlock, 14, [(2, none)]⟩
theorem IR_laws_FnExactCheckDeadlock : cfun Tryz.prog H_laws_FnExactCheckDeadlock Tryz.f6 = some R_laws_FnExactCheckDeadlock := by kernel_rfl
theorem EN_laws_FnExactCheckDeadlock {args : List Value} {h : Heap} {k : Value → Heap → Prop} (hargs : args.length = 1) (hw : B_laws_FnExactCheckDeadlock.wp Tryz.prog (retQ [(2, none)] k) (env0 args 14) h) : CallE Tryz.prog fn_laws_FnExactCheckDeadlock args h k := enter Tryz.func6 rfl IR_laws_FnExactCheckDeadlock hargs hw

def H_spec_CheckDeadlock : Hint := ⟨[(0, false), (1, true), (2, false), (3, false), (4, true), (5, false), (6, false), (7, false)], [[0, 2, 3, 5]]⟩
def K30_1 : Pl := .st (.act none (.px (some 11) (.extract 0 (.v 10)))) <|
    .st (.act none (.px (some 12) (.extract 1 (.v 10)))) <|
    .st (.act none (.px (some 2) (.mv (.v 11)))) <|
    .st (.act none (.px (some 3) (.mv (.v 12)))) .done
@[simp] def W30_1 := @Pl.wpe _ _ K30_1.eq_1
def K30_2 : C := .seq (.pl <| .st (.ext 8 5) <|
    .st (.act none (.pget (some 8) none 4 0 (some 2))) <|
    .st (.act none (.px (some 9) (.mv (.v 6)))) <|
    .st (.act none (.ex (some 10) (.call fn_spec_l4First [.v 8, .v 9]))) K30_1) (.ret)
@[simp] def W30_2 := @C.wpe _ _ K30_2.eq_1
def K30_3 : C := .pl <| .st (.ext 8 2) <|
    .st (.act none (.px (some 8) (.mv (.v 7)))) <|
    .st (.act none (.px (some 9) (.bin .add (.v 8) (.c (.int .i64 1))))) <|
    .st (.act none (.px (some 7) (.mv (.v 9)))) .done
@[simp] def W30_3 := @C.wpe _ _ K30_3.eq_1
def K30_4 : Pl := .st (.act none (.px (some 6) (.mv (.v 17)))) .done
@[simp] def W30_4 := @Pl.wpe _ _ K30_4.eq_1
def K30_5 : Pl := .st (.act none (.psl 16 [.bool false] [(0, 1, .v 15)])) <|
    .st (.act none (.ex (some 17) (.app 1 1 [.bool false] (.o (.v 8)) (.p 1 16)))) K30_4
@[simp] def W30_5 := @Pl.wpe _ _ K30_5.eq_1
def K30_6 : C := .seq (.block 1 (.pl <| .st (.ext 8 10) <|
    .st (.act none (.px (some 8) (.mv (.v 6)))) <|
    .st (.act none (.pget (some 9) none 1 0 (some 2))) <|
    .st (.act none (.als 10 none 4)) <|
    .st (.act none (.pget (some 11) (some 10) 4 0 none)) <|
    .st (.act none (.px (some 12) (.mv (.v 7)))) <|
    .st (.act none (.px (some 13) (.ia 2 (.v 11) (.v 12)))) <|
    .st (.act none (.ld (some 14) (.v 13) (some 2))) <|
    .st (.act none (.ex (some 15) (.call fn_spec_IsDeadlock [.v 9, .v 14]))) K30_5)) K30_3
@[simp] def W30_6 := @C.wpe _ _ K30_6.eq_1
def K30_7 : C := .cond 8 (.v 12) (.skip) (.exit 0)
@[simp] def W30_7 := @C.wpe _ _ K30_7.eq_1
def K30_8 : C := .seq (.seq (.pl <| .st (.ext 8 5) <|
    .st (.act none (.px (some 8) (.mv (.v 7)))) <|
    .st (.act none (.als 9 none 4)) <|
    .st (.act none (.pget (some 10) (some 9) 4 0 none)) <|
    .st (.act none (.px (some 11) (.lenV (.v 10)))) <|
    .st (.act none (.px (some 12) (.bin .lss (.v 8) (.v 11)))) .done) K30_7) K30_6
@[simp] def W30_8 := @C.wpe _ _ K30_8.eq_1
def K30_9 : C := .block 0 (.loop 8 [0, 2, 3, 5] K30_8)
@[simp] def W30_9 := @C.wpe _ _ K30_9.eq_1
def K30_10 : C := .seq (.seq (.pl <| .st (.ext 8 0) <|
    .st (.act none (.px (some 7) (.mv (.c (.int .i64 0))))) .done) K30_9) K30_2
@[simp] def W30_10 := @C.wpe _ _ K30_10.eq_1
def K30_11 : Pl := .st (.act none (.px (some 6) (.mv (.v 8)))) .done
@[simp] def W30_11 := @Pl.wpe _ _ K30_11.eq_1
def K30_12 : C := .seq (.pl <| .st (.ext 8 1) <|
    .st (.act none (.ex (some 8) (.bls 1 0 [.bool false] []))) K30_11) K30_10
@[simp] def W30_12 := @C.wpe _ _ K30_12.eq_1
def K30_13 : Pl := .st (.act none (.px (some 2) (.mv (.c (.int .i64 2))))) <|
    .st (.act none (.px (some 3) (.mv (.v 8)))) .done
@[simp] def W30_13 := @Pl.wpe _ _ K30_13.eq_1
def K30_14 : C := .seq (.pl <| .st (.ext 8 1) <|
    .st (.act none (.ex (some 8) (.bls 2 0 [.slice none 0 0, .slice none 0 0] []))) K30_13) (.ret)
@[simp] def W30_14 := @C.wpe _ _ K30_14.eq_1
def K30_15 : C := .cond 8 (.v 9) K30_14 (.skip)
@[simp] def W30_15 := @C.wpe _ _ K30_15.eq_1
def K30_16 : C := .seq (.seq (.pl <| .st (.ext 8 2) <|
    .st (.act none (.px (some 8) (.mv (.v 5)))) <|
    .st (.act none (.px (some 9) (.un .not (.v 8)))) .done) K30_15) K30_12
@[simp] def W30_16 := @C.wpe _ _ K30_16.eq_1
def K30_17 : Pl := .st (.act none (.px (some 10) (.mv (.v 9)))) <|
    .st (.act none (.px (some 11) (.extract 0 (.v 10)))) <|
    .st (.act none (.px (some 12) (.extract 1 (.v 10)))) <|
    .st (.act none (.pnew 4 (.c (.agg #[.slice none 0 0, .slice none 0 0])) [])) <|
    .st (.act none (.pset none 4 0 2 (.v 11))) <|
    .st (.act none (.px (some 5) (.mv (.v 12)))) .done
@[simp] def W30_17 := @Pl.wpe _ _ K30_17.eq_1
def K30_18 : C := .seq (.pl <| .st (.ext 8 5) <|
    .st (.act none (.pget (some 8) none 1 0 (some 2))) <|
    .st (.act none (.ex (some 9) (.call fn_spec_BuildGraph [.v 8]))) K30_17) K30_16
@[simp] def W30_18 := @C.wpe _ _ K30_18.eq_1
def K30_19 : Pl := .st (.act none (.px (some 2) (.mv (.c (.int .i64 3))))) <|
    .st (.act none (.px (some 3) (.mv (.v 8)))) .done
@[simp] def W30_19 := @Pl.wpe _ _ K30_19.eq_1
def K30_20 : C := .seq (.pl <| .st (.ext 8 1) <|
    .st (.act none (.ex (some 8) (.bls 2 0 [.slice none 0 0, .slice none 0 0] []))) K30_19) (.ret)
@[simp] def W30_20 := @C.wpe _ _ K30_20.eq_1
def K30_21 : C := .cond 8 (.v 10) K30_20 (.skip)
@[simp] def W30_21 := @C.wpe _ _ K30_21.eq_1
def K30_22 : Pl := .st (.act none (.px (some 10) (.un .not (.v 9)))) .done
@[simp] def W30_22 := @Pl.wpe _ _ K30_22.eq_1
def K30_23 : C := .seq (.seq (.pl <| .st (.ext 8 3) <|
    .st (.act none (.pget (some 8) none 1 0 (some 2))) <|
    .st (.act none (.ex (some 9) (.call fn_spec_SystemValid [.v 8]))) K30_22) K30_21) K30_18
@[simp] def W30_23 := @C.wpe _ _ K30_23.eq_1
def B_spec_CheckDeadlock : C := .seq (.pl <| .st (.ext 8 0) <|
    .st (.act none (.pnew 1 (.v 0) [])) <|
    .st (.act none (.px (some 2) (.mv (.c (.int .i64 0))))) <|
    .st (.act none (.px (some 3) (.mv (.c (.slice none 0 0))))) .done) K30_23
@[simp] def WB_spec_CheckDeadlock := @C.wpe _ _ B_spec_CheckDeadlock.eq_1
def R_spec_CheckDeadlock : FIR := ⟨B_spec_CheckDeadlock, 8, [(2, none), (3, none)]⟩
theorem IR_spec_CheckDeadlock : cfun Tryz.prog H_spec_CheckDeadlock Tryz.f30 = some R_spec_CheckDeadlock := by kernel_rfl
theorem EN_spec_CheckDeadlock {args : List Value} {h : Heap} {k : Value → Heap → Prop} (hargs : args.length = 1) (hw : B_spec_CheckDeadlock.wp Tryz.prog (retQ [(2, none), (3, none)] k) (env0 args 8) h) : CallE Tryz.prog fn_spec_CheckDeadlock args h k := enter Tryz.func30 rfl IR_spec_CheckDeadlock hargs hw

def H_spec_IsDeadlock : Hint := ⟨[(0, false), (1, false), (2, true), (3, true), (4, false)], []⟩
def K66_1 : Pl := .st (.act (some (.v 8, true)) (.px (some 12) (.lenV (.v 11)))) <|
    .st (.act (some (.v 8, true)) (.px (some 13) (.bin .eql (.v 12) (.c (.int .i64 0))))) <|
    .st (.act none (.px (some 14) (.pick (.v 8) (.v 13) (.c (.bool false))))) <|
    .st (.act none (.px (some 4) (.mv (.v 14)))) .done
@[simp] def W66_1 := @Pl.wpe _ _ K66_1.eq_1
def K66_2 : Pl := .st (.act none (.px (some 8) (.mv (.v 7)))) <|
    .st (.act (some (.v 8, true)) (.pget (some 9) none 2 0 (some 2))) <|
    .st (.act (some (.v 8, true)) (.pget (some 10) none 3 0 (some 2))) <|
    .st (.act (some (.v 8, true)) (.ex (some 11) (.call fn_spec_l3Steps [.v 9, .v 10]))) K66_1
@[simp] def W66_2 := @Pl.wpe _ _ K66_2.eq_1
def K66_3 : C := .seq (.pl <| .st (.ext 5 10) <|
    .st (.act none (.pget (some 5) none 2 0 (some 2))) <|
    .st (.act none (.pget (some 6) none 3 0 (some 2))) <|
    .st (.act none (.ex (some 7) (.call fn_spec_StateValid [.v 5, .v 6]))) K66_2) (.ret)
@[simp] def W66_3 := @C.wpe _ _ K66_3.eq_1
def B_spec_IsDeadlock : C := .seq (.pl <| .st (.ext 5 0) <|
    .st (.act none (.pnew 2 (.v 0) [])) <|
    .st (.act none (.pnew 3 (.v 1) [])) <|
    .st (.act none (.px (some 4) (.mv (.c (.bool false))))) .done) K66_3
@[simp] def WB_spec_IsDeadlock := @C.wpe _ _ B_spec_IsDeadlock.eq_1
def R_spec_IsDeadlock : FIR := ⟨B_spec_IsDeadlock, 5, [(4, none)]⟩
theorem IR_spec_IsDeadlock : cfun Tryz.prog H_spec_IsDeadlock Tryz.f66 = some R_spec_IsDeadlock := by kernel_rfl
theorem EN_spec_IsDeadlock {args : List Value} {h : Heap} {k : Value → Heap → Prop} (hargs : args.length = 2) (hw : B_spec_IsDeadlock.wp Tryz.prog (retQ [(4, none)] k) (env0 args 5) h) : CallE Tryz.prog fn_spec_IsDeadlock args h k := enter Tryz.func66 rfl IR_spec_IsDeadlock hargs hw

def H_spec_StateValid : Hint := ⟨[(0, false), (1, false), (2, true), (3, true), (4, false), (5, false)], [[0, 1, 4]]⟩
def K103_1 : C := .seq (.pl <| .st (.ext 6 0) <|
    .st (.act none (.px (some 4) (.mv (.c (.bool true))))) .done) (.ret)
@[simp] def W103_1 := @C.wpe _ _ K103_1.eq_1
def K103_2 : C := .pl <| .st (.ext 6 2) <|
    .st (.act none (.px (some 6) (.mv (.v 5)))) <|
    .st (.act none (.px (some 7) (.bin .add (.v 6) (.c (.int .i64 1))))) <|
    .st (.act none (.px (some 5) (.mv (.v 7)))) .done
@[simp] def W103_2 := @C.wpe _ _ K103_2.eq_1
def K103_3 : C := .seq (.pl <| .st (.ext 6 0) <|
    .st (.act none (.px (some 4) (.mv (.c (.bool false))))) .done) (.ret)
@[simp] def W103_3 := @C.wpe _ _ K103_3.eq_1
def K103_4 : C := .cond 6 (.v 25) K103_3 (.skip)
@[simp] def W103_4 := @C.wpe _ _ K103_4.eq_1
def K103_5 : C := .seq (.block 1 (.seq (.pl <| .st (.ext 6 20) <|
    .st (.act none (.als 6 none 3)) <|
    .st (.act none (.pget (some 7) (some 6) 3 0 none)) <|
    .st (.act none (.px (some 8) (.mv (.v 5)))) <|
    .st (.act none (.px (some 9) (.ia 1 (.v 7) (.v 8)))) <|
    .st (.act none (.ld (some 10) (.v 9) none)) <|
    .st (.act none (.px (some 11) (.bin .lss (.v 10) (.c (.int .i64 0))))) <|
    .st (.act none (.px (some 12) (.mv (.v 11)))) <|
    .st (.act (some (.v 12, false)) (.als 13 none 3)) <|
    .st (.act (some (.v 12, false)) (.pget (some 14) (some 13) 3 0 none)) <|
    .st (.act (some (.v 12, false)) (.px (some 15) (.mv (.v 5)))) <|
    .st (.act (some (.v 12, false)) (.px (some 16) (.ia 1 (.v 14) (.v 15)))) <|
    .st (.act (some (.v 12, false)) (.ld (some 17) (.v 16) none)) <|
    .st (.act (some (.v 12, false)) (.als 18 none 2)) <|
    .st (.act (some (.v 12, false)) (.pget (some 19) (some 18) 2 1 none)) <|
    .st (.act (some (.v 12, false)) (.px (some 20) (.mv (.v 5)))) <|
    .st (.act (some (.v 12, false)) (.px (some 21) (.ia 2 (.v 19) (.v 20)))) <|
    .st (.act (some (.v 12, false)) (.px (some 22) (.fa 0 (.v 21)))) <|
    .st (.act (some (.v 12, false)) (.ld (some 23) (.v 22) none)) <|
    .st (.act (some (.v 12, false)) (.px (some 24) (.bin .geq (.v 17) (.v 23)))) <|
    .st (.act none (.px (some 25) (.pick (.v 12) (.c (.bool true)) (.v 24)))) .done) K103_4)) K103_2
@[simp] def W103_5 := @C.wpe _ _ K103_5.eq_1
def K103_6 : C := .cond 6 (.v 10) (.skip) (.exit 0)
@[simp] def W103_6 := @C.wpe _ _ K103_6.eq_1
def K103_7 : C := .seq (.seq (.pl <| .st (.ext 6 5) <|
    .st (.act none (.px (some 6) (.mv (.v 5)))) <|
    .st (.act none (.als 7 none 3)) <|
    .st (.act none (.pget (some 8) (some 7) 3 0 none)) <|
    .st (.act none (.px (some 9) (.lenV (.v 8)))) <|
    .st (.act none (.px (some 10) (.bin .lss (.v 6) (.v 9)))) .done) K103_6) K103_5
@[simp] def W103_7 := @C.wpe _ _ K103_7.eq_1
def K103_8 : C := .block 0 (.loop 6 [0, 1, 4] K103_7)
@[simp] def W103_8 := @C.wpe _ _ K103_8.eq_1
def K103_9 : C := .seq (.seq (.pl <| .st (.ext 6 0) <|
    .st (.act none (.px (some 5) (.mv (.c (.int .i64 0))))) .done) K103_8) K103_1
@[simp] def W103_9 := @C.wpe _ _ K103_9.eq_1
def K103_10 : C := .seq (.pl <| .st (.ext 6 0) <|
    .st (.act none (.px (some 4) (.mv (.c (.bool false))))) .done) (.ret)
@[simp] def W103_10 := @C.wpe _ _ K103_10.eq_1
def K103_11 : C := .cond 6 (.v 23) K103_10 (.skip)
@[simp] def W103_11 := @C.wpe _ _ K103_11.eq_1
def K103_12 : Pl := .st (.act (some (.v 18, false)) (.px (some 22) (.un .not (.v 21)))) <|
    .st (.act none (.px (some 23) (.pick (.v 18) (.c (.bool true)) (.v 22)))) .done
@[simp] def W103_12 := @Pl.wpe _ _ K103_12.eq_1
def K103_13 : Pl := .st (.act none (.px (some 8) (.un .not (.v 7)))) <|
    .st (.act none (.px (some 9) (.mv (.v 8)))) <|
    .st (.act (some (.v 9, false)) (.als 10 none 3)) <|
    .st (.act (some (.v 9, false)) (.pget (some 11) (some 10) 3 0 none)) <|
    .st (.act (some (.v 9, false)) (.px (some 12) (.lenV (.v 11)))) <|
    .st (.act (some (.v 9, false)) (.als 13 none 2)) <|
    .st (.act (some (.v 9, false)) (.pget (some 14) (some 13) 2 1 none)) <|
    .st (.act (some (.v 9, false)) (.px (some 15) (.lenV (.v 14)))) <|
    .st (.act (some (.v 9, false)) (.px (some 16) (.bin .neq (.v 12) (.v 15)))) <|
    .st (.act none (.px (some 17) (.pick (.v 9) (.c (.bool true)) (.v 16)))) <|
    .st (.act none (.px (some 18) (.mv (.v 17)))) <|
    .st (.act (some (.v 18, false)) (.als 19 none 3)) <|
    .st (.act (some (.v 18, false)) (.pget (some 20) (some 19) 3 1 none)) <|
    .st (.act (some (.v 18, false)) (.ex (some 21) (.call fn_spec_l1Vals [.v 20]))) K103_12
@[simp] def W103_13 := @Pl.wpe _ _ K103_13.eq_1
def K103_14 : C := .seq (.seq (.pl <| .st (.ext 6 18) <|
    .st (.act none (.pget (some 6) none 2 0 (some 2))) <|
    .st (.act none (.ex (some 7) (.call fn_spec_SystemValid [.v 6]))) K103_13) K103_11) K103_9
@[simp] def W103_14 := @C.wpe _ _ K103_14.eq_1
def B_spec_StateValid : C := .seq (.pl <| .st (.ext 6 0) <|
    .st (.act none (.pnew 2 (.v 0) [])) <|
    .st (.act none (.pnew 3 (.v 1) [])) <|
    .st (.act none (.px (some 4) (.mv (.c (.bool false))))) .done) K103_14
@[simp] def WB_spec_StateValid := @C.wpe _ _ B_spec_StateValid.eq_1
def R_spec_StateValid : FIR := ⟨B_spec_StateValid, 6, [(4, none)]⟩
theorem IR_spec_StateValid : cfun Tryz.prog H_spec_StateValid Tryz.f103 = some R_spec_StateValid := by kernel_rfl
theorem EN_spec_StateValid {args : List Value} {h : Heap} {k : Value → Heap → Prop} (hargs : args.length = 2) (hw : B_spec_StateValid.wp Tryz.prog (retQ [(4, none)] k) (env0 args 6) h) : CallE Tryz.prog fn_spec_StateValid args h k := enter Tryz.func103 rfl IR_spec_StateValid hargs hw


end Go.Proofs.YthgimpheeemooaaGreat

/-
  Bodies of functions in the small language, as a program printed them, and that each is what the translation gives.
-/
namespace Go.Proofs.YthgimpheeemooaaGreat
open Go
set_option linter.all false
set_option linter.defProp false
set_option maxRecDepth 1000000

end Go.Proofs.YthgimpheeemooaaGreat
