/-
  Texts of this proof, one behind the other.
-/
import Derived.Test.YtonjglbachhdcaaRows
import Derived.Test.YtonjglbachhdcaaM2
/-
  How the weakest preconditions are computed; what a value stands for; the memory as a list of pieces that are owned.
-/
namespace Go.Proofs.Ytonjglbachhdcaa
open Go
set_option linter.all false
set_option linter.unusedVariables false
set_option linter.unusedSimpArgs false
set_option linter.defProp false
set_option maxRecDepth 1000000
universe u

/-- what must hold where a function ends -/
def retQ (res : List (Nat × Option (Option Nat))) (k : Value → Heap → Prop) (x : Ex) (e : Env) (h : Heap) : Prop :=
  match x with
  | .exit _ => False
  | _ => ∃ vs, resV e res = some vs ∧ ∃ h2, h2.le h ∧ k (tupV vs) h2

/-- what is returned; a part of the heap may be forgotten -/
def RetK (k : Value → Heap → Prop) (v : Value) (h : Heap) : Prop := ∃ h2, h2.le h ∧ k v h2
theorem RetK.keep {k : Value → Heap → Prop} {v : Value} {h : Heap} (hk : k v h) : RetK k v h := ⟨h, fun _ _ hb => hb, hk⟩
theorem RetK.drop {k : Value → Heap → Prop} {v : Value} {h h2 : Heap} (hl : h2.le h) (hk : k v h2) : RetK k v h := ⟨h2, hl, hk⟩

/-- a value that must be there, and what holds of it: the simplifier goes into the latter only when the value is known -/
def ExW {α : Type} (x : Option α) (k : α → Prop) : Prop := ∃ v, x = some v ∧ k v
@[simp] theorem ExW_some {α : Type} {v : α} {k : α → Prop} : ExW (some v) k = k v := by simp [ExW]
theorem ExW.mk {α : Type} {x : Option α} {k : α → Prop} {v : α} (hx : x = some v) (hk : k v) : ExW x k := ⟨v, hx, hk⟩
/-- a condition, and what holds behind it -/
def AndW (p A : Prop) : Prop := p ∧ A
@[simp] theorem AndW_true {A : Prop} : AndW True A = A := by simp [AndW]
theorem AndW.mk {p A : Prop} (hp : p) (hA : A) : AndW p A := ⟨hp, hA⟩
/-- the function that a value stands for -/
def fnOf : Value → Option (FuncId × List Value × List Value)
  | .func (.func f) first cap => some (f, first.toList, cap.toList)
  | _ => none

/-- two ways -/
def IteW (p A B : Prop) : Prop := (p → A) ∧ (¬ p → B)
theorem IteW.mk {p A B : Prop} (h1 : p → A) (h2 : ¬ p → B) : IteW p A B := ⟨h1, h2⟩
@[simp] theorem IteW_true {A B : Prop} : IteW True A B = A := by simp [IteW]
@[simp] theorem IteW_false {A B : Prop} : IteW False A B = B := by simp [IteW]
@[simp] theorem IteW_not {p A B : Prop} : IteW (¬ p) A B = IteW p B A := by simp [IteW, And.comm]
def condW (v : Option Value) (A B : Prop) : Prop := ∃ t, v = some (.bool t) ∧ IteW (t = true) A B
@[simp] theorem condW_bool {b : Bool} {A B : Prop} : condW (some (.bool b)) A B = IteW (b = true) A B := by simp [condW]

theorem A.wp_mono {P : Program} {k k' : Env → Heap → Prop} (hk : ∀ e h, k e h → k' e h) {e : Env} {h : Heap} {x : A} (hx : x.wp P k e h) : x.wp P k' e h := by
  cases x <;> simp only [A.wp] at hx ⊢
  case px => obtain ⟨v, h1, h2⟩ := hx; exact ⟨v, h1, hk _ _ h2⟩
  case ld => obtain ⟨v, h1, h2⟩ := hx; exact ⟨v, h1, hk _ _ h2⟩
  case ex => exact EX.wp_mono (fun v h' ⟨h2, hl, h3⟩ => ⟨h2, hl, hk _ _ h3⟩) hx
  case pnew => obtain ⟨v, h1, h2⟩ := hx; exact ⟨v, h1, hk _ _ h2⟩
  case pget => obtain ⟨v, h1, h2⟩ := hx; exact ⟨v, h1, hk _ _ h2⟩
  case pset => obtain ⟨h0, v, h1, h2⟩ := hx; exact ⟨h0, v, h1, hk _ _ h2⟩
  case als => exact ⟨hx.1, hx.2.1, hk _ _ hx.2.2⟩
  case psl => obtain ⟨v, h1, h2⟩ := hx; exact ⟨v, h1, hk _ _ h2⟩

theorem S.wp_mono {P : Program} {k k' : Env → Heap → Prop} (hk : ∀ e h, k e h → k' e h) {e : Env} {h : Heap} {s : S} (hx : s.wp P k e h) : s.wp P k' e h := by
  cases s with
  | act g x =>
    cases g with
    | none => exact A.wp_mono hk hx
    | some g =>
      simp only [S.wp] at hx ⊢
      obtain ⟨b, h1, h2⟩ := hx
      refine ⟨b, h1, ?_⟩
      cases hv : x.val e h with
      | none => rw [hv] at h2; exact ⟨fun hb => A.wp_mono hk (h2.1 hb), fun hb => hk _ _ (h2.2 hb)⟩
      | some dv => rw [hv] at h2; exact ⟨h2.1, hk _ _ h2.2⟩
  | re d a sz g =>
    cases g with
    | none => exact ⟨hx.1, hk _ _ hx.2⟩
    | some g => obtain ⟨b, h1, h2, h3⟩ := hx; exact ⟨b, h1, h2, hk _ _ h3⟩
  | ext n m => exact hk _ _ hx

theorem Pl.wp_mono {P : Program} {k k' : Env → Heap → Prop} (hk : ∀ e h, k e h → k' e h) : ∀ (p : Pl) {e : Env} {h : Heap}, p.wp P k e h → p.wp P k' e h
  | .done, _, _, hx => hk _ _ hx
  | .st _ n, _, _, hx => S.wp_mono (fun _ _ => Pl.wp_mono hk n) hx
  | .both a b, _, _, hx => ⟨Pl.wp_mono hk a hx.1, Pl.wp_mono hk b hx.2⟩

theorem C.wp_mono {P : Program} : ∀ (c : C) {Q Q' : Ex → Env → Heap → Prop} (_ : ∀ x e h, Q x e h → Q' x e h) {e : Env} {h : Heap}, c.wp P Q e h → c.wp P Q' e h
  | .skip, _, _, hQ, _, _, hx => hQ _ _ _ hx
  | .pl p, _, _, hQ, _, _, hx => Pl.wp_mono (hQ .nrm) p hx
  | .seq a b, _, _, hQ, _, _, hx => C.wp_mono a (fun x e h => by cases x <;> first | exact hQ _ _ _ | exact C.wp_mono b hQ) hx
  | .cond n o a b, _, _, hQ, _, _, ⟨t, h1, h2, h3⟩ => ⟨t, h1, fun ht => C.wp_mono a hQ (h2 ht), fun ht => C.wp_mono b hQ (h3 ht)⟩
  | .block id a, _, _, hQ, _, _, hx => C.wp_mono a (fun x e h hx => by
      cases x with
      | exit i =>
        by_cases hi : i = id
        · simp only [if_pos hi] at hx ⊢; exact hQ _ _ _ hx
        · simp only [if_neg hi] at hx ⊢; exact hQ _ _ _ hx
      | nrm => exact hQ _ _ _ hx
      | ret => exact hQ _ _ _ hx) hx
  | .loop n fg a, _, _, hQ, _, _, ⟨I, h0, hs⟩ => ⟨I, h0, fun m e h hI => C.wp_mono a (fun x e h hx => by
      cases x with
      | nrm => exact hx
      | exit i => exact hQ _ _ _ hx
      | ret => exact hQ _ _ _ hx) (hs m e h hI)⟩
  | .exit _, _, _, hQ, _, _, hx => hQ _ _ _ hx
  | .ret, _, _, hQ, _, _, hx => hQ _ _ _ hx

section
variable {P : Program} {Q : Ex → Env → Heap → Prop} {e : Env} {h : Heap}

def seqQ (P : Program) (b : C) (Q : Ex → Env → Heap → Prop) (x : Ex) (e : Env) (h : Heap) : Prop :=
  match x with
  | .nrm => b.wp P Q e h
  | x => Q x e h
def blockQ (id : Nat) (Q : Ex → Env → Heap → Prop) (x : Ex) (e : Env) (h : Heap) : Prop :=
  match x with
  | .exit i => if i = id then Q .nrm e h else Q (.exit i) e h
  | x => Q x e h
def loopQ (n : Nat) (fg : List Nat) (I : Env → Heap → Prop) (Q : Ex → Env → Heap → Prop) (x : Ex) (e : Env) (h : Heap) : Prop :=
  match x with
  | .nrm => I (efgt (e.take n) fg) h
  | x => Q x e h

@[simp] theorem seqQ_nrm {b : C} : seqQ P b Q .nrm e h = b.wp P Q e h := rfl
@[simp] theorem seqQ_ret {b : C} : seqQ P b Q .ret e h = Q .ret e h := rfl
@[simp] theorem seqQ_exit {b : C} {i : Nat} : seqQ P b Q (.exit i) e h = Q (.exit i) e h := rfl
@[simp] theorem blockQ_nrm {i : Nat} : blockQ i Q .nrm e h = Q .nrm e h := rfl
@[simp] theorem blockQ_ret {i : Nat} : blockQ i Q .ret e h = Q .ret e h := rfl
@[simp] theorem blockQ_exit {i j : Nat} : blockQ i Q (.exit j) e h = if j = i then Q .nrm e h else Q (.exit j) e h := rfl
@[simp] theorem loopQ_nrm {n : Nat} {fg : List Nat} {I : Env → Heap → Prop} : loopQ n fg I Q .nrm e h = I (efgt (e.take n) fg) h := rfl
@[simp] theorem loopQ_ret {n : Nat} {fg : List Nat} {I : Env → Heap → Prop} : loopQ n fg I Q .ret e h = Q .ret e h := rfl
@[simp] theorem loopQ_exit {n : Nat} {fg : List Nat} {I : Env → Heap → Prop} {i : Nat} : loopQ n fg I Q (.exit i) e h = Q (.exit i) e h := rfl
@[simp] theorem retQ_nrm {res : List (Nat × Option (Option Nat))} {k : Value → Heap → Prop} : retQ res k .nrm e h = ExW (resV e res) (fun vs => RetK k (tupV vs) h) := rfl
@[simp] theorem retQ_ret {res : List (Nat × Option (Option Nat))} {k : Value → Heap → Prop} : retQ res k .ret e h = ExW (resV e res) (fun vs => RetK k (tupV vs) h) := rfl
@[simp] theorem retQ_exit {res : List (Nat × Option (Option Nat))} {k : Value → Heap → Prop} {i : Nat} : retQ res k (.exit i) e h = False := rfl

theorem wp_skip : C.skip.wp P Q e h = Q .nrm e h := rfl
theorem wp_pl {p : Pl} : (C.pl p).wp P Q e h = p.wp P (Q .nrm) e h := rfl
theorem wp_seq {a b : C} : (C.seq a b).wp P Q e h = a.wp P (seqQ P b Q) e h := by
  simp only [C.wp]
  congr 1
theorem wp_cond {n : Nat} {o : O} {a b : C} : (C.cond n o a b).wp P Q e h = condW (o.get e) (a.wp P Q (e.take n) h) (b.wp P Q (e.take n) h) := by
  simp [C.wp, condW, IteW]
theorem wp_block {i : Nat} {a : C} : (C.block i a).wp P Q e h = a.wp P (blockQ i Q) e h := by
  simp only [C.wp]
  congr 1
theorem wp_exit {i : Nat} : (C.exit i).wp P Q e h = Q (.exit i) e h := rfl
theorem wp_ret : C.ret.wp P Q e h = Q .ret e h := rfl

/-- THE RULE OF THE LOOP -/
theorem wp_loop {n : Nat} {fg : List Nat} {a : C} (I : Nat → Env → Heap → Prop) (h0 : ∃ m, I m (efgt (e.take n) fg) h)
    (hs : ∀ (I' : Env → Heap → Prop) m e h, (∀ m' e h, m' < m → I m' e h → I' e h) → I m e h → a.wp P (loopQ n fg I' Q) e h) : (C.loop n fg a).wp P Q e h := by
  refine ⟨I, h0, fun m e h hI => ?_⟩
  have h1 := hs (fun e' h' => ∃ m', m' < m ∧ I m' e' h') m e h (fun m' e h hm hI => ⟨m', hm, hI⟩) hI
  have h2 : (fun (x : Ex) (e' : Env) (h' : Heap) => match x with
        | .nrm => ∃ m', m' < m ∧ I m' (efgt (e'.take n) fg) h'
        | x => Q x e' h') = loopQ n fg (fun e' h' => ∃ m', m' < m ∧ I m' e' h') Q := by
    funext x e' h'
    cases x <;> rfl
  exact h2 ▸ h1

/-- a loop that counts up to a bound -/
theorem wp_count {n : Nat} {fg : List Nat} {a : C} (N : Nat) (J : Nat → Env → Heap → Prop) (h0 : J 0 (efgt (e.take n) fg) h)
    (hs : ∀ (J' : Env → Heap → Prop) i e h, (∀ e h, i < N → J (i + 1) e h → J' e h) → i ≤ N → J i e h → a.wp P (loopQ n fg J' Q) e h) : (C.loop n fg a).wp P Q e h := by
  refine wp_loop (fun m e h => ∃ i, i ≤ N ∧ m = N - i ∧ J i e h) ⟨N, 0, by omega, by omega, h0⟩ ?_
  rintro I' m e h hI ⟨i, hi, rfl, hJ⟩
  exact hs I' i e h (fun e h hlt hJ => hI (N - (i + 1)) e h (by omega) ⟨i + 1, hlt, rfl, hJ⟩) hi hJ

theorem pl_done {k : Env → Heap → Prop} : Pl.done.wp P k e h = k e h := rfl
theorem pl_st {s : S} {n : Pl} {k : Env → Heap → Prop} : (Pl.st s n).wp P k e h = s.wp P (n.wp P k) e h := rfl
theorem s_act {x : A} {k : Env → Heap → Prop} : (S.act none x).wp P k e h = x.wp P k e h := rfl
/-- two ways by a guard: the guard's value is simplified, the two ways are not, until the guard is known -/
def gvw (w : Bool) : Option Value → Option Bool
  | some (.bool b) => some (b == w)
  | some _ => some false
  | none => none
def guardW (v : Option Value) (w : Bool) (A B : Prop) : Prop := ∃ b, gvw w v = some b ∧ (b = true → A) ∧ (b = false → B)
@[congr] theorem guardW_congr {v v' : Option Value} {w : Bool} {A B : Prop} (hv : v = v') : guardW v w A B = guardW v' w A B := by rw [hv]
@[simp] theorem guardW_tt {A B : Prop} : guardW (some (.bool true)) true A B = A := by simp [guardW, gvw]
@[simp] theorem guardW_ff {A B : Prop} : guardW (some (.bool false)) false A B = A := by simp [guardW, gvw]
@[simp] theorem guardW_tf {A B : Prop} : guardW (some (.bool true)) false A B = B := by simp [guardW, gvw]
@[simp] theorem guardW_ft {A B : Prop} : guardW (some (.bool false)) true A B = B := by simp [guardW, gvw]
@[simp] theorem guardW_undef {w : Bool} {A B : Prop} : guardW (some undef) w A B = B := by simp [guardW, gvw, undef]
theorem gcond_gvw {o : O} {w : Bool} : gcond e (some (o, w)) = gvw w (o.get e) := by
  simp only [gcond]
  cases o.get e with
  | none => rfl
  | some v => cases v <;> rfl
theorem s_gp {v : Option Value} {d : Option Nat} {b : Bool} {k : Env → Heap → Prop} : ((b = true → v.isSome = true) ∧ k (dput d (gval b v) e) h) ↔ ((b = true → ∃ u, v = some u ∧ k (dput d (some u) e) h) ∧ (b = false → k (dput d (some undef) e) h)) := by
  cases b
  · simp [gval]
  · cases v <;> simp [gval]
theorem s_g {o : O} {w : Bool} {x : A} {k : Env → Heap → Prop} : (S.act (some (o, w)) x).wp P k e h = guardW (o.get e) w (x.wp P k e h) (k (dput x.dst (some undef) e) h) := by
  have key : ∀ b : Bool, (match x.val e h with
    | some (d, v) => (b = true → v.isSome = true) ∧ k (dput d (gval b v) e) h
    | none => (b = true → x.wp P k e h) ∧ (b = false → k (dput x.dst (some undef) e) h)) ↔ (b = true → x.wp P k e h) ∧ (b = false → k (dput x.dst (some undef) e) h) := by
    intro b
    cases x
    case px => exact s_gp
    case ld => exact s_gp
    case pget => exact s_gp
    all_goals exact Iff.rfl
  apply propext
  constructor
  · rintro ⟨b, h1, h2⟩; exact ⟨b, gcond_gvw ▸ h1, (key b).1 h2⟩
  · rintro ⟨b, h1, h2⟩; exact ⟨b, gcond_gvw ▸ h1, (key b).2 h2⟩
theorem s_re {d : Nat} {a : O} {sz : Option Nat} {k : Env → Heap → Prop} : (S.re d a sz none).wp P k e h = AndW (hload h (a.get e) sz = eget e d) (k e h) := rfl
theorem s_reg {d : Nat} {a : O} {sz : Option Nat} {g : O × Bool} {k : Env → Heap → Prop} : (S.re d a sz (some g)).wp P k e h =
    ∃ b, gcond e (some g) = some b ∧ (b = true → hload h (a.get e) sz = eget e d) ∧ k e h := rfl
theorem s_ext {n m : Nat} {k : Env → Heap → Prop} : (S.ext n m).wp P k e h = k (eext n m e) h := rfl

theorem a_px {d : Option Nat} {x : PX} {k : Env → Heap → Prop} : (A.px d x).wp P k e h = ExW (x.ev e) (fun v => k (dput d (some v) e) h) := rfl
theorem a_ld {d : Option Nat} {a : O} {sz : Option Nat} {k : Env → Heap → Prop} : (A.ld d a sz).wp P k e h = ExW (hload h (a.get e) sz) (fun v => k (dput d (some v) e) h) := rfl
theorem a_pnew {i : Nat} {x : O} {cl : List Nat} {k : Env → Heap → Prop} : (A.pnew i x cl).wp P k e h = ExW (x.get e) (fun v => k (efgt (eset e i (some v)) cl) h) := rfl
theorem a_pget {d c : Option Nat} {i off : Nat} {sz : Option Nat} {k : Env → Heap → Prop} : (A.pget d c i off sz).wp P k e h = ExW (pgetC e c i off sz) (fun v => k (dput d (some v) e) h) := rfl
theorem a_pset {c : Option Nat} {i off sz : Nat} {x : O} {k : Env → Heap → Prop} : (A.pset c i off sz x).wp P k e h = AndW (aok e c = true) (ExW (psetV (eget e i) off sz (x.get e)) (fun v => k (eset e i (some v)) h)) := rfl
theorem a_als {d : Nat} {c : Option Nat} {i : Nat} {k : Env → Heap → Prop} : (A.als d c i).wp P k e h = AndW (aok e c = true) (AndW ((eget e i).isSome = true) (k (eset e d (some (.bool true))) h)) := rfl
theorem a_psl {d : Nat} {z : List Value} {ps : List (Nat × Nat × O)} {k : Env → Heap → Prop} : (A.psl d z ps).wp P k e h = ExW (fillP e z ps) (fun cs => k (eset e d (some (.agg cs.toArray))) h) := rfl

/- effects -/
theorem a_call {d : Option Nat} {f : FuncId} {args : List O} {k : Env → Heap → Prop} : (A.ex d (.call f args)).wp P k e h = ExW (ogets e args) (fun vs => CallE P f vs h fun v h' => Fgt k (dput d (some v) e) h') := rfl
theorem a_callv {d : Option Nat} {fo : O} {args : List O} {k : Env → Heap → Prop} : (A.ex d (.callv fo args)).wp P k e h =
    ExW ((fo.get e).bind fnOf) (fun c => ExW (ogets e args) (fun vs => CallE P c.1 (c.2.1 ++ vs ++ c.2.2) h fun v h' => Fgt k (dput d (some v) e) h')) := by
  apply propext
  constructor
  · rintro ⟨f, first, cap, vs, h1, h2, h3⟩
    exact ⟨(f, first.toList, cap.toList), by rw [h1]; rfl, vs, h2, h3⟩
  · rintro ⟨⟨f, first, cap⟩, h1, vs, h2, h3⟩
    cases hf : fo.get e with
    | none => rw [hf] at h1; simp at h1
    | some v =>
      rw [hf] at h1
      simp only [Option.bind_some] at h1
      unfold fnOf at h1
      split at h1
      · simp only [Option.some.injEq, Prod.mk.injEq] at h1
        obtain ⟨rfl, rfl, rfl⟩ := h1
        exact ⟨_, _, _, vs, hf, h2, h3⟩
      · simp at h1
@[simp] theorem fnOf_func {f : FuncId} {a b : Array Value} : fnOf (.func (.func f) a b) = some (f, a.toList, b.toList) := rfl
/- the environment -/
@[simp] theorem eget_zero {x : Option Value} {l : Env} : eget (x :: l) 0 = x := rfl
@[simp] theorem eget_succ {x : Option Value} {l : Env} {n : Nat} : eget (x :: l) (n + 1) = eget l n := rfl
@[simp] theorem eset_zero {x v : Option Value} {l : Env} : eset (x :: l) 0 v = v :: l := rfl
@[simp] theorem eset_succ {x v : Option Value} {l : Env} {n : Nat} : eset (x :: l) (n + 1) v = x :: eset l n v := rfl
@[simp] theorem efgt_nil {l : Env} : efgt l [] = l := rfl
@[simp] theorem efgt_cons {l : Env} {i : Nat} {r : List Nat} : efgt l (i :: r) = efgt (eset l i none) r := rfl
@[simp] theorem eext_zero {m : Nat} {l : Env} : eext 0 m l = List.replicate m none := rfl
@[simp] theorem eext_succ {n m : Nat} {x : Option Value} {l : Env} : eext (n + 1) m (x :: l) = x :: eext n m l := rfl
@[simp] theorem get_v {i : Nat} : (O.v i).get e = eget e i := rfl
@[simp] theorem get_c {x : Value} : (O.c x).get e = some x := rfl
@[simp] theorem ogets_nil : ogets e [] = some [] := rfl
@[simp] theorem dput_none {v : Option Value} : dput none v e = e := rfl
@[simp] theorem dput_some {i : Nat} {v : Option Value} : dput (some i) v e = eset e i v := rfl
@[simp] theorem gval_true {v : Option Value} : gval true v = v := rfl
@[simp] theorem gval_false {v : Option Value} : gval false v = some undef := rfl
@[simp] theorem tupV_one {v : Value} : tupV [v] = v := rfl
@[simp] theorem tupV_two {v u : Value} {l : List Value} : tupV (v :: u :: l) = .tuple (v :: u :: l).toArray := rfl

theorem le_refl' : h.le h := fun _ _ hb => hb
theorem Fgt.keep {k : Env → Heap → Prop} (hk : k e h) : Fgt k e h := ⟨h, le_refl', hk⟩
theorem Fgt.drop {k : Env → Heap → Prop} {h' : Heap} (hl : h'.le h) (hk : k e h') : Fgt k e h := ⟨h', hl, hk⟩

theorem wrap64 {n : Int} (h1 : -9223372036854775808 ≤ n) (h2 : n < 9223372036854775808) : IntKind.i64.wrap n = n := by
  rw [IntKind.wrap_i64]; omega
end

/- values in private boxes -/
def allOne : List Value → Bool
  | [] => true
  | v :: l => v.oneCell' && allOne l
@[simp] theorem allOne_nil : allOne [] = true := rfl
@[simp] theorem allOne_cons {v : Value} {l : List Value} : allOne (v :: l) = (v.oneCell' && allOne l) := rfl
theorem allOne_eq : ∀ l, List.all l Value.oneCell' = allOne l
  | [] => rfl
  | v :: l => by simp [allOne, allOne_eq l]
@[simp] theorem cells_agg {c : Array Value} : (Value.agg c).cells = c := rfl
@[simp] theorem cells_int {k : IntKind} {n : Int} : (Value.int k n).cells = #[.int k n] := rfl
@[simp] theorem cells_bool {b : Bool} : (Value.bool b).cells = #[.bool b] := rfl
@[simp] theorem cells_string {b : ByteArray} : (Value.string b).cells = #[.string b] := rfl
@[simp] theorem cells_slice {p : Option Addr} {n c : Nat} : (Value.slice p n c).cells = #[.slice p n c] := rfl
@[simp] theorem cells_pointer {p : Option Addr} : (Value.pointer p).cells = #[.pointer p] := rfl
@[simp] theorem cells_map {p : Option Nat} : (Value.map p).cells = #[.map p] := rfl
@[simp] theorem cells_func {f : Fn} {a b : Array Value} : (Value.func f a b).cells = #[.func f a b] := rfl
@[simp] theorem cells_nilFunc : Value.nilFunc.cells = #[.nilFunc] := rfl
@[simp] theorem pgetV_agg {c : Array Value} {off : Nat} : pgetV (some (.agg c)) off none = c.toList[off]? := rfl
@[simp] theorem pgetV_aggs {c : Array Value} {off n : Nat} : pgetV (some (.agg c)) off (some n) = if off = 0 ∧ c.size = n then some (.agg c) else partV c.toList off (some n) := rfl
@[simp] theorem pgetV_int {k : IntKind} {n : Int} : pgetV (some (.int k n)) 0 none = some (.int k n) := rfl
@[simp] theorem pgetV_bool {b : Bool} : pgetV (some (.bool b)) 0 none = some (.bool b) := rfl
@[simp] theorem pgetV_string {b : ByteArray} : pgetV (some (.string b)) 0 none = some (.string b) := rfl
@[simp] theorem pgetV_slice {p : Option Addr} {n c : Nat} : pgetV (some (.slice p n c)) 0 none = some (.slice p n c) := rfl
@[simp] theorem psetV_agg {c : Array Value} {off sz : Nat} {x : Value} : psetV (some (.agg c)) off sz (some x) = if x.cells.size = sz ∧ off + sz ≤ c.size ∧ allOne x.cells.toList = true then
    some (if off = 0 ∧ sz = c.size then .agg x.cells else .agg (setC c.toList off x.cells.toList).toArray) else none := by
  rw [← allOne_eq]; rfl
@[simp] theorem psetV_int {k : IntKind} {n : Int} {x : Value} : psetV (some (.int k n)) 0 1 (some x) = if x.cells.size = 1 ∧ allOne x.cells.toList = true then x.cells[0]? else none := by
  rw [← allOne_eq]
  simp only [psetV, cells_int]
  simp
@[simp] theorem psetV_bool {b : Bool} {x : Value} : psetV (some (.bool b)) 0 1 (some x) = if x.cells.size = 1 ∧ allOne x.cells.toList = true then x.cells[0]? else none := by
  rw [← allOne_eq]
  simp only [psetV, cells_bool]
  simp
@[simp] theorem psetV_string {b : ByteArray} {x : Value} : psetV (some (.string b)) 0 1 (some x) = if x.cells.size = 1 ∧ allOne x.cells.toList = true then x.cells[0]? else none := by
  rw [← allOne_eq]
  simp only [psetV, cells_string]
  simp
@[simp] theorem psetV_slice {p : Option Addr} {n c : Nat} {x : Value} : psetV (some (.slice p n c)) 0 1 (some x) = if x.cells.size = 1 ∧ allOne x.cells.toList = true then x.cells[0]? else none := by
  rw [← allOne_eq]
  simp only [psetV, cells_slice]
  simp
@[simp] theorem one_int {k : IntKind} {n : Int} : (Value.int k n).oneCell' = true := rfl
@[simp] theorem one_bool {b : Bool} : (Value.bool b).oneCell' = true := rfl
@[simp] theorem one_string {b : ByteArray} : (Value.string b).oneCell' = true := rfl
@[simp] theorem one_slice {p : Option Addr} {n c : Nat} : (Value.slice p n c).oneCell' = true := rfl
@[simp] theorem one_pointer {p : Option Addr} : (Value.pointer p).oneCell' = true := rfl
@[simp] theorem one_map {p : Option Nat} : (Value.map p).oneCell' = true := rfl
@[simp] theorem one_func {f : Fn} {a b : Array Value} : (Value.func f a b).oneCell' = true := rfl
@[simp] theorem one_nilFunc : Value.nilFunc.oneCell' = true := rfl

attribute [simp] wp_skip wp_pl wp_seq wp_cond wp_block wp_exit wp_ret pl_done pl_st s_act s_g A.dst s_re s_reg s_ext
  a_px a_ld a_pnew a_pget a_pset a_als a_psl a_call a_callv PX.ev gcond env0 binV intV strV unV resV ogets pgetC aok eqB eqL fillP partV
/-- what is to be shown of a call, kept closed while the body is walked -/
theorem CallE.gen {P : Program} {f : FuncId} {args : List Value} {h : Heap} {Q : Value → Heap → Prop} (hg : ∀ k : Value → Heap → Prop, (∀ v h', Q v h' → k v h') → CallE P f args h k) : CallE P f args h Q := hg Q fun _ _ hq => hq
theorem CallE.to {P : Program} {f : FuncId} {args : List Value} {h : Heap} {Q k : Value → Heap → Prop} (hc : CallE P f args h Q) (hk : ∀ v h', Q v h' → k v h') : CallE P f args h k := CallE.mono hk hc

def Heap.nil : Heap := fun _ => none
def Heap.one (b : Nat) (o : Obj) : Heap := fun x => if x = b then some o else none
/-- what stands where two parts of a heap clash: never met where they are apart -/
def clash : Obj := .map #[] 0
def oplus : Option Obj → Option Obj → Option Obj
  | none, y => y
  | some x, none => some x
  | some _, some _ => some clash
def Heap.add (h r : Heap) : Heap := fun b => oplus (h b) (r b)
/-- apart -/
def Dj (h r : Heap) : Prop := ∀ b, h b = none ∨ r b = none

section
variable {a b c h h' r r' : Heap}

@[simp] theorem oplus_none {x : Option Obj} : oplus x none = x := by cases x <;> rfl
@[simp] theorem none_oplus {x : Option Obj} : oplus none x = x := rfl
@[simp] theorem oplus_eq_none {x y : Option Obj} : oplus x y = none ↔ x = none ∧ y = none := by cases x <;> cases y <;> simp [oplus]
@[simp] theorem add_nil : h.add Heap.nil = h := by funext b; simp [Heap.add, Heap.nil]
@[simp] theorem nil_add : Heap.nil.add h = h := by funext b; simp [Heap.add, Heap.nil]
theorem add_assoc : (a.add b).add c = a.add (b.add c) := by
  funext x
  simp only [Heap.add]
  cases a x <;> cases b x <;> cases c x <;> rfl
theorem add_comm : a.add b = b.add a := by
  funext x
  simp only [Heap.add]
  cases a x <;> cases b x <;> rfl
instance : Std.Associative Heap.add := ⟨fun _ _ _ => add_assoc⟩
instance : Std.Commutative Heap.add := ⟨fun _ _ => add_comm⟩
theorem Dj.symm (d : Dj a b) : Dj b a := fun x => (d x).symm
theorem Dj.comm (_ : Dj a b) : a.add b = b.add a := add_comm
@[simp] theorem Dj_nil : Dj h Heap.nil := fun _ => .inr rfl
@[simp] theorem nil_Dj : Dj Heap.nil h := fun _ => .inl rfl
theorem Dj_add : Dj h (a.add b) ↔ Dj h a ∧ Dj h b := by
  constructor
  · intro d
    constructor <;> intro x <;> rcases d x with h1 | h1
    · exact .inl h1
    · simp only [Heap.add, oplus_eq_none] at h1; exact .inr h1.1
    · exact .inl h1
    · simp only [Heap.add, oplus_eq_none] at h1; exact .inr h1.2
  · rintro ⟨d1, d2⟩ x
    rcases d1 x with h1 | h1
    · exact .inl h1
    · rcases d2 x with h2 | h2
      · exact .inl h2
      · exact .inr (by simp [Heap.add, h1, h2])
theorem add_Dj : Dj (a.add b) h ↔ Dj a h ∧ Dj b h :=
  ⟨fun d => ⟨(Dj_add.1 d.symm).1.symm, (Dj_add.1 d.symm).2.symm⟩, fun d => (Dj_add.2 ⟨d.1.symm, d.2.symm⟩).symm⟩
theorem Dj_one {b : Nat} {o : Obj} : Dj h (Heap.one b o) ↔ h b = none := by
  constructor
  · intro d
    rcases d b with h1 | h1
    · exact h1
    · simp [Heap.one] at h1
  · intro h1 x
    by_cases hx : x = b
    · subst hx; exact .inl h1
    · exact .inr (by simp [Heap.one, hx])
theorem one_Dj {b : Nat} {o : Obj} : Dj (Heap.one b o) h ↔ h b = none := ⟨fun d => Dj_one.1 d.symm, fun d => (Dj_one.2 d).symm⟩
theorem set_new {b : Nat} {o : Obj} (hb : h b = none) : h.set b o = h.add (Heap.one b o) := by
  funext x
  by_cases hx : x = b
  · subst hx; simp [Heap.set, Heap.add, Heap.one, hb]
  · simp [Heap.set, Heap.add, Heap.one, hx]
theorem set_one {b : Nat} {o o' : Obj} (hb : h b = none) : (h.add (Heap.one b o)).set b o' = h.add (Heap.one b o') := by
  funext x
  by_cases hx : x = b
  · subst hx; simp [Heap.set, Heap.add, Heap.one, hb]
  · simp [Heap.set, Heap.add, Heap.one, hx]
theorem add_one_set {b : Nat} {o o' : Obj} (hb : h b = none) (hr : r b = none) : (h.add ((Heap.one b o).add r)).set b o' = h.add ((Heap.one b o').add r) := by
  funext x
  by_cases hx : x = b
  · subst hx; simp [Heap.set, Heap.add, Heap.one, hb, hr]
  · simp [Heap.set, Heap.add, Heap.one, hx]

theorem Heap.le.refl (h : Heap) : h.le h := fun _ _ hb => hb
theorem Heap.le.trans (h1 : a.le b) (h2 : b.le c) : a.le c := fun x o hb => h2 x o (h1 x o hb)
theorem le_add (d : Dj h r) : h.le (h.add r) := fun x o hb => by
  rcases d x with h1 | h1
  · rw [h1] at hb; simp at hb
  · simp [Heap.add, h1, hb]
theorem le_add' (d : Dj h r) : r.le (h.add r) := add_comm (a := h) ▸ le_add d.symm
theorem le_drop (d0 : Dj h r) (d : Dj r c) : (h.add c).le ((h.add r).add c) := by
  intro x o hb
  simp only [Heap.add] at hb ⊢
  rcases d x with h1 | h1
  · simpa [h1] using hb
  · rcases d0 x with h2 | h2
    · rw [h1, h2] at hb; simp at hb
    · simpa [h2] using hb
theorem add_swap (_ : Dj a b) : (h.add a).add b = (h.add b).add a := by rw [add_assoc, add_comm (a := a), add_assoc]
theorem Dj.le (d : Dj h r) (hl : h'.le h) : Dj h' r := fun x => by
  rcases d x with h1 | h1
  · cases hx : h' x with
    | none => exact .inl rfl
    | some o => rw [hl x o hx] at h1; simp at h1
  · exact .inr h1
theorem hcell_le {i off : Nat} {v : Value} (hl : h.le h') (hc : hcell h i off = some v) : hcell h' i off = some v := by
  unfold hcell at hc ⊢
  split at hc
  · rename_i c el fr hb
    rw [hl _ _ hb]
    exact hc
  · simp at hc
theorem hcells_le {i : Nat} : ∀ {n off : Nat} {l : List Value} (_ : h.le h') (_ : hcells h i off n = some l), hcells h' i off n = some l
  | 0, _, _, _, hc => hc
  | n + 1, off, l, hl, hc => by
    simp only [hcells] at hc ⊢
    split at hc
    · rename_i v r hv hr
      rw [hcell_le hl hv, hcells_le hl hr]
      exact hc
    · simp at hc
theorem hload_le {p : Option Value} {sz : Option Nat} {v : Value} (hl : h.le h') (hc : hload h p sz = some v) : hload h' p sz = some v := by
  unfold hload at hc ⊢
  split at hc
  · split at hc
    · exact hcell_le hl hc
    · simp only [Option.map_eq_some_iff] at hc ⊢
      obtain ⟨l, h1, h2⟩ := hc
      exact ⟨l, hcells_le hl h1, h2⟩
  · simp at hc
theorem hcells_mk {i : Nat} {c : Array Value} {el : TypeId} {fr : Nat × Nat} (hb : h i = some (.cells c el fr)) : ∀ {n off : Nat}, off + n ≤ c.size → hcells h i off n = some ((c.toList.drop off).take n)
  | 0, _, _ => by simp [hcells]
  | n + 1, off, ho => by
    simp only [hcells]
    rw [hcells_mk hb (n := n) (off := off + 1) (by omega)]
    have h1 : hcell h i off = some c[off] := by simp [hcell, hb]
    rw [h1]
    simp only [Option.some.injEq]
    rw [List.drop_eq_getElem_cons (by simp; omega : off < c.toList.length)]
    simp
end

/-- PLAIN DATA: how a piece of it is laid out in cells. 'rep': what it reaches is only read. 'own': the part of the heap holds just what it reaches -/
class Ty (α : Type) where
  agg : Bool
  sz : Nat
  rep : Heap → List Value → α → Prop
  own : Heap → List Value → α → Prop
  one : agg = false → sz = 1
  len : ∀ {h cs x}, rep h cs x → cs.length = sz
  cell : ∀ {h cs x}, rep h cs x → ∀ v ∈ cs, v.oneCell' = true
  mono : ∀ {h h' cs x}, Heap.le h h' → rep h cs x → rep h' cs x
  own_rep : ∀ {r cs x}, own r cs x → rep r cs x

/-- the value of some cells -/
def valC (agg : Bool) (cs : List Value) : Value := if agg then .agg cs.toArray else cs.headD undef
def Rep {α : Type} [Ty α] (h : Heap) (v : Value) (x : α) : Prop := ∃ cs, v = valC (Ty.agg α) cs ∧ Ty.rep h cs x
def Own {α : Type} [Ty α] (r : Heap) (v : Value) (x : α) : Prop := ∃ cs, v = valC (Ty.agg α) cs ∧ Ty.own r cs x
def szo (α : Type) [Ty α] : Option Nat := if Ty.agg α then some (Ty.sz α) else none

section
variable {α : Type} [Ty α] {h h' r : Heap} {v : Value} {x : α}
theorem Rep.le (hr : Rep h v x) (hl : h.le h') : Rep h' v x := by
  obtain ⟨cs, h1, h2⟩ := hr
  exact ⟨cs, h1, Ty.mono hl h2⟩
theorem Own.rep (ho : Own r v x) : Rep r v x := by
  obtain ⟨cs, h1, h2⟩ := ho
  exact ⟨cs, h1, Ty.own_rep h2⟩
theorem Own.rep' (ho : Own r v x) (d : Dj h r) : Rep (h.add r) v x := ho.rep.le (le_add' d)
theorem Rep.add (hr : Rep h v x) (d : Dj h r) : Rep (h.add r) v x := hr.le (le_add d)
theorem valC_cells {cs : List Value} (h1 : Ty.agg α = false → cs.length = 1) (h2 : ∀ v ∈ cs, v.oneCell' = true) : (valC (Ty.agg α) cs).cells.toList = cs := by
  unfold valC
  cases ha : Ty.agg α with
  | true => rfl
  | false =>
    have := h1 ha
    match cs, this with
    | [u], _ =>
      have h3 := h2 u (by simp)
      cases u <;> first | rfl | simp [Value.oneCell'] at h3
theorem rep_cells {cs : List Value} (hr : Ty.rep h cs x) : (valC (Ty.agg α) cs).cells.toList = cs :=
  valC_cells (fun ha => by rw [Ty.len hr, Ty.one ha]) (Ty.cell hr)
end

/-- owned elements, one behind the other -/
def ownL {α : Type} [Ty α] : List α → List Value → Heap → Prop
  | [], _, r => r = Heap.nil
  | x :: l, cs, r => ∃ r1 r2, r = r1.add r2 ∧ Dj r1 r2 ∧ Ty.own r1 (cs.take (Ty.sz α)) x ∧ ownL l (cs.drop (Ty.sz α)) r2

def okP (p : Option Addr) : Prop := p = none ∨ ∃ b off, p = some ⟨b, off, none⟩

section
variable {α : Type} [Ty α]
/-- elements that are only read -/
def repL (h : Heap) (p : Option Addr) (l : List α) : Prop := ∀ i (hi : i < l.length), ∃ b off vs, p = some ⟨b, off, none⟩ ∧ hcells h b (off + i * Ty.sz α) (Ty.sz α) = some vs ∧ Ty.rep h vs l[i]

theorem repL_le {h h' : Heap} {p : Option Addr} {l : List α} (hl : h.le h') (hr : repL h p l) : repL h' p l := fun i hi => by
  obtain ⟨b, off, vs, h1, h2, h3⟩ := hr i hi
  exact ⟨b, off, vs, h1, hcells_le hl h2, Ty.mono hl h3⟩

theorem ownL_at : ∀ {l : List α} {cs : List Value} {r : Heap}, ownL l cs r → ∀ i (hi : i < l.length), ∃ r1 r2, r = r1.add r2 ∧ Dj r1 r2 ∧ Ty.own r1 ((cs.drop (i * Ty.sz α)).take (Ty.sz α)) l[i] ∧
    ∀ r1' c' y, Dj r1' r2 → Ty.own r1' c' y → ownL (l.set i y) (setC cs (i * Ty.sz α) c') (r1'.add r2)
  | [], _, _, _, i, hi => by simp at hi
  | x :: l, cs, r, ho, 0, _ => by
    obtain ⟨r1, r2, h1, h2, h3, h4⟩ := ho
    refine ⟨r1, r2, h1, h2, by simpa using h3, ?_⟩
    intro r1' c' y d o'
    have hlen := Ty.len (Ty.own_rep o')
    refine ⟨r1', r2, rfl, d, ?_, ?_⟩
    · simpa [setC, List.take_append, hlen] using o'
    · simpa [setC, List.drop_append, hlen] using h4
  | x :: l, cs, r, ho, i + 1, hi => by
    obtain ⟨r1, r2, h1, h2, h3, h4⟩ := ho
    obtain ⟨s1, s2, g1, g2, g3, g4⟩ := ownL_at h4 i (by simpa using hi)
    subst h1; subst g1
    obtain ⟨d1, d2⟩ := Dj_add.1 h2
    refine ⟨s1, r1.add s2, ?_, ?_, ?_, ?_⟩
    · rw [← add_assoc, d1.comm, add_assoc]
    · exact Dj_add.2 ⟨d1.symm, g2⟩
    · simpa [List.drop_drop, Nat.add_mul, Nat.add_comm] using g3
    · intro r1' c' y d o'
      obtain ⟨e1, e2⟩ := Dj_add.1 d
      have hlen := Ty.len (Ty.own_rep h3)
      have hlen' := Ty.len (Ty.own_rep o')
      have hcs : Ty.sz α ≤ cs.length := by
        have := hlen
        simp at this
        omega
      have ha : (i + 1) * Ty.sz α = Ty.sz α + i * Ty.sz α := by rw [Nat.add_mul]; omega
      refine ⟨r1, r1'.add s2, ?_, Dj_add.2 ⟨e1.symm, d2⟩, ?_, ?_⟩
      · rw [← add_assoc, e1.comm, add_assoc]
      · have : (setC cs ((i + 1) * Ty.sz α) c').take (Ty.sz α) = cs.take (Ty.sz α) := by
          rw [setC, ha, List.append_assoc, List.take_append_of_le_length (by simp; omega), List.take_take]
          congr 1; omega
        rw [this]; exact h3
      · have : (setC cs ((i + 1) * Ty.sz α) c').drop (Ty.sz α) = setC (cs.drop (Ty.sz α)) (i * Ty.sz α) c' := by
          unfold setC
          rw [ha, List.append_assoc, List.drop_append_of_le_length (by simp; omega), List.drop_take, List.append_assoc, List.drop_drop]
          congr 2
          · omega
          · congr 1; omega
        rw [this]
        exact g4 r1' c' y e2 o'

theorem ownL_sub {l : List α} {cs : List Value} {r : Heap} (ho : ownL l cs r) (i : Nat) (hi : i < l.length) : Ty.rep r ((cs.drop (i * Ty.sz α)).take (Ty.sz α)) l[i] := by
  obtain ⟨r1, r2, h1, h2, h3, _⟩ := ownL_at ho i hi
  subst h1
  exact Ty.mono (le_add h2) (Ty.own_rep h3)

theorem ownL_len : ∀ {l : List α} {cs : List Value} {r : Heap}, ownL l cs r → l.length * Ty.sz α ≤ cs.length
  | [], _, _, _ => by simp
  | x :: l, cs, r, ho => by
    obtain ⟨r1, r2, h1, h2, h3, h4⟩ := ho
    have := ownL_len h4
    have hlen := Ty.len (Ty.own_rep h3)
    simp at this hlen ⊢
    rw [Nat.add_mul]
    omega

theorem ownL_congr : ∀ {l : List α} {cs cs' : List Value} {r : Heap}, ownL l cs r → cs.take (l.length * Ty.sz α) = cs'.take (l.length * Ty.sz α) → ownL l cs' r
  | [], _, _, _, ho, _ => ho
  | x :: l, cs, cs', r, ho, he => by
    obtain ⟨r1, r2, h1, h2, h3, h4⟩ := ho
    have ha : (x :: l).length * Ty.sz α = Ty.sz α + l.length * Ty.sz α := by simp [Nat.add_mul]; omega
    rw [ha] at he
    refine ⟨r1, r2, h1, h2, ?_, ?_⟩
    · have := congrArg (List.take (Ty.sz α)) he
      rw [List.take_take, List.take_take, Nat.min_eq_left (by omega)] at this
      rw [← this]; exact h3
    · refine ownL_congr h4 ?_
      have := congrArg (List.drop (Ty.sz α)) he
      rw [List.drop_take, List.drop_take] at this
      simpa using this

theorem ownL_append : ∀ {l l2 : List α} {cs cs2 : List Value} {r r2 : Heap}, ownL l cs r → cs.length = l.length * Ty.sz α → ownL l2 cs2 r2 → Dj r r2 → ownL (l ++ l2) (cs ++ cs2) (r.add r2)
  | [], l2, cs, cs2, r, r2, ho, hc, h2, _ => by
    have : cs = [] := by simpa using hc
    subst this
    have hr : r = Heap.nil := ho
    subst hr
    simpa using h2
  | x :: l, l2, cs, cs2, r, r2, ho, hc, h2, d => by
    obtain ⟨s1, s2, e1, e2, e3, e4⟩ := ho
    subst e1
    obtain ⟨d1, d2⟩ := add_Dj.1 d
    have hlen := Ty.len (Ty.own_rep e3)
    have ha : cs.length = Ty.sz α + l.length * Ty.sz α := by rw [hc]; simp [Nat.add_mul]; omega
    refine ⟨s1, s2.add r2, by rw [add_assoc], Dj_add.2 ⟨e2, d1⟩, ?_, ?_⟩
    · rw [List.take_append_of_le_length (by omega)]; exact e3
    · rw [List.drop_append_of_le_length (by omega)]
      exact ownL_append e4 (by simp; omega) h2 d2

theorem ownL_reps {z : List Value} {y : α} (hz : Ty.own Heap.nil z y) : ∀ n, ownL (List.replicate n y) (reps n z) Heap.nil
  | 0 => rfl
  | n + 1 => by
    have hlen := Ty.len (Ty.own_rep hz)
    refine ⟨Heap.nil, Heap.nil, by simp, by simp, ?_, ?_⟩
    · simpa [reps, List.replicate_succ, List.take_append, hlen] using hz
    · simpa [reps, List.replicate_succ, List.drop_append, hlen] using ownL_reps hz n
end

section
variable {α : Type} [Ty α]

def repS (h : Heap) (cs : List Value) (l : List α) : Prop := ∃ p cap, cs = [.slice p l.length cap] ∧ (l.length ≤ cap ∧ l.length < 4611686018427387904) ∧ True ∧ repL h p l
def ownS (r : Heap) (cs : List Value) (l : List α) : Prop :=
  (∃ p, cs = [.slice p 0 0] ∧ l = [] ∧ r = Heap.nil ∧ okP p) ∨
  ∃ (b off cap : Nat) (cells : List Value) (el : TypeId) (r' : Heap), cs = [.slice (some ⟨b, off, none⟩) l.length cap] ∧ (l.length ≤ cap ∧ l.length < 4611686018427387904) ∧ off + cap * Ty.sz α ≤ cells.length ∧
    r = (Heap.one b (.cells cells.toArray el (0, 0))).add r' ∧ r' b = none ∧ ownL l (cells.drop off) r'

theorem ownS_rep {r : Heap} {cs : List Value} {l : List α} (ho : ownS r cs l) : repS r cs l := by
  rcases ho with ⟨p, h1, h2, h3, h4⟩ | ⟨b, off, cap, cells, el, r', h1, h2, h3, h4, h5, h6⟩
  · subst h2
    exact ⟨p, 0, h1, by simp, trivial, fun i hi => by simp at hi⟩
  · refine ⟨_, cap, h1, h2, trivial, ?_⟩
    intro i hi
    subst h4
    have hb : ((Heap.one b (.cells cells.toArray el (0, 0))).add r') b = some (.cells cells.toArray el (0, 0)) := by simp [Heap.add, Heap.one, h5]
    have hsz : i * Ty.sz α + Ty.sz α ≤ cap * Ty.sz α := by
      rw [← Nat.succ_mul]
      exact Nat.mul_le_mul_right _ (by have := h2.1; omega)
    refine ⟨b, off, _, rfl, hcells_mk hb (by simp; omega), ?_⟩
    have := ownL_sub h6 i hi
    rw [List.drop_drop] at this
    exact Ty.mono (le_add' (one_Dj.2 h5)) this

instance instTyList : Ty (List α) where
  agg := false
  sz := 1
  rep := repS
  own := ownS
  one := fun _ => rfl
  len := by rintro h cs x ⟨p, cap, rfl, _⟩; rfl
  cell := by rintro h cs x ⟨p, cap, rfl, _⟩ v hv; simp at hv; subst hv; rfl
  mono := by
    rintro h h' cs x hl ⟨p, cap, h1, h2, h3, h4⟩
    exact ⟨p, cap, h1, h2, h3, repL_le hl h4⟩
  own_rep := ownS_rep
end

instance instTyInt : Ty Int where
  agg := false
  sz := 1
  rep := fun _ cs n => cs = [.int .i64 n] ∧ -9223372036854775808 ≤ n ∧ n < 9223372036854775808
  own := fun r cs n => r = Heap.nil ∧ cs = [.int .i64 n] ∧ -9223372036854775808 ≤ n ∧ n < 9223372036854775808
  one := fun _ => rfl
  len := by rintro h cs x ⟨rfl, _⟩; rfl
  cell := by rintro h cs x ⟨rfl, _⟩ v hv; simp at hv; subst hv; rfl
  mono := fun _ hr => hr
  own_rep := fun ho => ho.2

instance instTyBool : Ty Bool where
  agg := false
  sz := 1
  rep := fun _ cs n => cs = [.bool n]
  own := fun r cs n => r = Heap.nil ∧ cs = [.bool n]
  one := fun _ => rfl
  len := by rintro h cs x rfl; rfl
  cell := by rintro h cs x rfl v hv; simp at hv; subst hv; rfl
  mono := fun _ hr => hr
  own_rep := fun ho => ho.2

instance instTyStr : Ty ByteArray where
  agg := false
  sz := 1
  rep := fun _ cs n => cs = [.string n]
  own := fun r cs n => r = Heap.nil ∧ cs = [.string n]
  one := fun _ => rfl
  len := by rintro h cs x rfl; rfl
  cell := by rintro h cs x rfl v hv; simp at hv; subst hv; rfl
  mono := fun _ hr => hr
  own_rep := fun ho => ho.2

/-- words of 64 bits -/
instance instTyU64 : Ty (BitVec 64) where
  agg := false
  sz := 1
  rep := fun _ cs n => cs = [.int .u64 n.toNat]
  own := fun r cs n => r = Heap.nil ∧ cs = [.int .u64 n.toNat]
  one := fun _ => rfl
  len := by rintro h cs x rfl; rfl
  cell := by rintro h cs x rfl v hv; simp at hv; subst hv; rfl
  mono := fun _ hr => hr
  own_rep := fun ho => ho.2

instance instTyProd {α β : Type} [Ty α] [Ty β] : Ty (α × β) where
  agg := true
  sz := Ty.sz α + Ty.sz β
  rep := fun h cs x => ∃ c1 c2, cs = c1 ++ c2 ∧ Ty.rep h c1 x.1 ∧ Ty.rep h c2 x.2
  own := fun r cs x => ∃ c1 c2 r1 r2, cs = c1 ++ c2 ∧ r = r1.add r2 ∧ Dj r1 r2 ∧ Ty.own r1 c1 x.1 ∧ Ty.own r2 c2 x.2
  one := fun h => by simp at h
  len := by rintro h cs x ⟨c1, c2, rfl, h1, h2⟩; simp [Ty.len h1, Ty.len h2]
  cell := by
    rintro h cs x ⟨c1, c2, rfl, h1, h2⟩ v hv
    rcases List.mem_append.1 hv with h3 | h3
    · exact Ty.cell h1 v h3
    · exact Ty.cell h2 v h3
  mono := by rintro h h' cs x hl ⟨c1, c2, h0, h1, h2⟩; exact ⟨c1, c2, h0, Ty.mono hl h1, Ty.mono hl h2⟩
  own_rep := by
    rintro r cs x ⟨c1, c2, r1, r2, h0, rfl, d, h1, h2⟩
    exact ⟨c1, c2, h0, Ty.mono (le_add d) (Ty.own_rep h1), Ty.mono (le_add' d) (Ty.own_rep h2)⟩

/-- a structure, by the tuple of its fields -/
@[reducible] def Ty.via {α β : Type} [Ty β] (f : α → β) : Ty α where
  agg := true
  sz := Ty.sz β
  rep := fun h cs x => Ty.rep h cs (f x)
  own := fun r cs x => Ty.own r cs (f x)
  one := fun h => by simp at h
  len := fun h => Ty.len h
  cell := fun h => Ty.cell h
  mono := fun hl h => Ty.mono hl h
  own_rep := fun h => Ty.own_rep h

/-- DATA WITHOUT MEMORY OF ITS OWN -/
class Flat (α : Type) [Ty α] where
  enc : α → List Value
  ok : α → Prop
  rep_iff : ∀ {h cs} {x : α}, Ty.rep h cs x ↔ cs = enc x ∧ ok x
  own_iff : ∀ {r cs} {x : α}, Ty.own r cs x ↔ r = Heap.nil ∧ cs = enc x ∧ ok x

instance : Flat Int := ⟨fun n => [.int .i64 n], fun n => -9223372036854775808 ≤ n ∧ n < 9223372036854775808, Iff.rfl, Iff.rfl⟩
instance : Flat Bool := ⟨fun n => [.bool n], fun _ => True, by simp [Ty.rep], by simp [Ty.own]⟩
instance : Flat ByteArray := ⟨fun n => [.string n], fun _ => True, by simp [Ty.rep], by simp [Ty.own]⟩
instance : Flat (BitVec 64) := ⟨fun n => [.int .u64 n.toNat], fun _ => True, by simp [Ty.rep], by simp [Ty.own]⟩
instance {α β : Type} [Ty α] [Ty β] [Flat α] [Flat β] : Flat (α × β) := ⟨fun x => Flat.enc x.1 ++ Flat.enc x.2, fun x => Flat.ok x.1 ∧ Flat.ok x.2, by
    intro h cs x
    simp only [Ty.rep, Flat.rep_iff]
    constructor
    · rintro ⟨c1, c2, rfl, ⟨rfl, h1⟩, rfl, h2⟩; exact ⟨rfl, h1, h2⟩
    · rintro ⟨rfl, h1, h2⟩; exact ⟨_, _, rfl, ⟨rfl, h1⟩, rfl, h2⟩, by
    intro h cs x
    simp only [Ty.own, Flat.own_iff]
    constructor
    · rintro ⟨c1, c2, r1, r2, rfl, rfl, _, ⟨rfl, rfl, h1⟩, rfl, rfl, h2⟩; exact ⟨by simp, rfl, h1, h2⟩
    · rintro ⟨rfl, rfl, h1, h2⟩; exact ⟨_, _, Heap.nil, Heap.nil, rfl, by simp, by simp, ⟨rfl, rfl, h1⟩, rfl, rfl, h2⟩⟩
@[reducible] def Flat.via {α β : Type} [Ty β] [Flat β] (f : α → β) : @Flat α (Ty.via f) :=
  let _ := Ty.via f
  ⟨fun x => Flat.enc (f x), fun x => Flat.ok (f x), fun {_ _ x} => Flat.rep_iff (x := f x), fun {_ _ x} => Flat.own_iff (x := f x)⟩

/-- the place of an element -/
def elp (sz : Nat) (v : Value) (i : Nat) : Value :=
  match v with
  | .slice (some p) _ _ => .pointer (some (p.add (i * sz)))
  | _ => undef

theorem srcV_slice {h : Heap} {b off n cap esz : Nat} {l : List Value} (hc : hcells h b off (n * esz) = some l) : srcV h esz (some (.slice (some ⟨b, off, none⟩) n cap)) = some (n, l) := by
  cases n with
  | zero => simp [hcells] at hc; subst hc; rfl
  | succ n => simp only [srcV, hc]; rfl

theorem add_none (b off n : Nat) : (⟨b, off, none⟩ : Addr).add n = ⟨b, off + n, none⟩ := by
  unfold Addr.add
  split
  · next hn => simp [hn]
  · rfl

section
variable {α : Type} [Ty α] {h h' g r : Heap} {v : Value} {l : List α}

theorem Rep_list : Rep h v l ↔ ∃ p cap, v = .slice p l.length cap ∧ (l.length ≤ cap ∧ l.length < 4611686018427387904) ∧ True ∧ repL h p l := by
  constructor
  · rintro ⟨cs, rfl, p, cap, rfl, h1, h2, h3⟩; exact ⟨p, cap, rfl, h1, h2, h3⟩
  · rintro ⟨p, cap, rfl, h1, h2, h3⟩; exact ⟨_, rfl, p, cap, rfl, h1, h2, h3⟩

theorem Own_list : Own r v l ↔ (∃ p, v = .slice p 0 0 ∧ l = [] ∧ r = Heap.nil ∧ okP p) ∨
    ∃ (b off cap : Nat) (cells : List Value) (el : TypeId) (r' : Heap), v = .slice (some ⟨b, off, none⟩) l.length cap ∧ (l.length ≤ cap ∧ l.length < 4611686018427387904) ∧ off + cap * Ty.sz α ≤ cells.length ∧
    r = (Heap.one b (.cells cells.toArray el (0, 0))).add r' ∧ r' b = none ∧ ownL l (cells.drop off) r' := by
  constructor
  · rintro ⟨cs, rfl, ⟨p, rfl, h1, h2, h3⟩ | ⟨b, off, cap, cells, el, r', rfl, h1, h2, h3, h4, h5⟩⟩
    · exact .inl ⟨p, rfl, h1, h2, h3⟩
    · exact .inr ⟨b, off, cap, cells, el, r', rfl, h1, h2, h3, h4, h5⟩
  · rintro (⟨p, rfl, h1, h2, h3⟩ | ⟨b, off, cap, cells, el, r', rfl, h1, h2, h3, h4, h5⟩)
    · exact ⟨_, rfl, .inl ⟨p, rfl, h1, h2, h3⟩⟩
    · exact ⟨_, rfl, .inr ⟨b, off, cap, cells, el, r', rfl, h1, h2, h3, h4, h5⟩⟩

theorem Rep.len (hr : Rep h v l) : lenVV v = some (.int .i64 l.length) := by
  obtain ⟨p, cap, rfl, _⟩ := Rep_list.1 hr
  rfl

theorem Rep.lt (hr : Rep h v l) : l.length < 4611686018427387904 := by
  obtain ⟨p, cap, rfl, h1, _⟩ := Rep_list.1 hr
  exact h1.2

theorem Rep.cells (hr : Rep h v l) : v.cells = #[v] := by
  obtain ⟨p, cap, rfl, h1, _⟩ := Rep_list.1 hr
  rfl
theorem Rep.one (hr : Rep h v l) : v.oneCell' = true := by
  obtain ⟨p, cap, rfl, h1, _⟩ := Rep_list.1 hr
  rfl

theorem Rep.ia (hr : Rep h v l) {k : IntKind} {i : Int} (h0 : 0 ≤ i) (h1 : i < l.length) : iaV (Ty.sz α) v (.int k i) = some (elp (Ty.sz α) v i.toNat) := by
  obtain ⟨p, cap, rfl, hc, hp, hl⟩ := Rep_list.1 hr
  obtain ⟨b, off, vs, rfl, _⟩ := hl i.toNat (by omega)
  simp [iaV, elp, h0, h1]

theorem Rep.ld (hr : Rep h v l) {i : Nat} (hi : i < l.length) : ∃ u, hload h (some (elp (Ty.sz α) v i)) (szo α) = some u ∧ Rep h u l[i] := by
  obtain ⟨p, cap, rfl, hc, hp, hl⟩ := Rep_list.1 hr
  obtain ⟨b, off, vs, rfl, h1, h2⟩ := hl i hi
  refine ⟨valC (Ty.agg α) vs, ?_, vs, rfl, h2⟩
  simp only [elp, add_none, hload, szo, valC]
  cases ha : Ty.agg α with
  | true => simp [h1]
  | false =>
    have h3 := Ty.one ha
    rw [h3] at h1
    simp only [hcells] at h1
    rw [h3]
    simp only [Bool.false_eq_true, if_false]
    split at h1
    · rename_i v r hv hr
      simp only [Option.some.injEq] at h1
      subst h1
      simpa using hv
    · simp at h1

theorem Rep.ia' {n : Nat} (hr : Rep h v l) (hn : n = Ty.sz α) {k : IntKind} {i : Int} (h0 : 0 ≤ i) (h1 : i < l.length) : iaV n v (.int k i) = some (elp n v i.toNat) := by
  subst hn; exact hr.ia h0 h1

theorem Rep.ian {n : Nat} (hr : Rep h v l) (hn : n = Ty.sz α) {k : IntKind} {i : Nat} (h1 : i < l.length) : iaV n v (.int k i) = some (elp n v i) := by
  have := hr.ia' hn (k := k) (i := (i : Int)) (by omega) (by omega)
  simpa using this

/-- elements of a slice, for the simplifier, where their values can be told from what they stand for -/
theorem Rep.ldF [Flat α] (hr : Rep h v l) {i : Nat} (hi : i < l.length) : hload h (some (elp (Ty.sz α) v i)) (szo α) = some (valC (Ty.agg α) (Flat.enc l[i])) := by
  obtain ⟨u, h1, cs, h2, h3⟩ := hr.ld hi
  rw [h1, h2, (Flat.rep_iff.1 h3).1]
theorem Rep.okF [Flat α] (hr : Rep h v l) {i : Nat} (hi : i < l.length) : Flat.ok l[i] := by
  obtain ⟨u, h1, cs, h2, h3⟩ := hr.ld hi
  exact (Flat.rep_iff.1 h3).2
end

theorem Rep.ldI {h : Heap} {v : Value} {l : List Int} (hr : Rep h v l) {i : Nat} (hi : i < l.length) : hload h (some (elp 1 v i)) none = some (.int .i64 l[i]) := hr.ldF hi
theorem Rep.ldB {h : Heap} {v : Value} {l : List Bool} (hr : Rep h v l) {i : Nat} (hi : i < l.length) : hload h (some (elp 1 v i)) none = some (.bool l[i]) := hr.ldF hi
theorem Rep.ldS {h : Heap} {v : Value} {l : List ByteArray} (hr : Rep h v l) {i : Nat} (hi : i < l.length) : hload h (some (elp 1 v i)) none = some (.string l[i]) := hr.ldF hi
theorem Rep.okI {h : Heap} {v : Value} {l : List Int} (hr : Rep h v l) {i : Nat} (hi : i < l.length) : -9223372036854775808 ≤ l[i] ∧ l[i] < 9223372036854775808 := hr.okF hi

theorem own_zero {n : Int} (h1 : -9223372036854775808 ≤ n) (h2 : n < 9223372036854775808) : Ty.own Heap.nil [.int .i64 n] n := ⟨rfl, rfl, h1, h2⟩
theorem own_false {b : Bool} : Ty.own Heap.nil [.bool b] b := ⟨rfl, rfl⟩
theorem own_nils {α : Type} [Ty α] : Ty.own (α := List α) Heap.nil [.slice none 0 0] [] := .inl ⟨none, rfl, rfl, rfl, .inl rfl⟩
theorem Own_nils {α : Type} [Ty α] : Own (α := List α) Heap.nil (.slice none 0 0) [] := ⟨_, rfl, own_nils⟩
theorem Rep_int {h : Heap} {v : Value} {n : Int} : Rep h v n ↔ v = .int .i64 n ∧ -9223372036854775808 ≤ n ∧ n < 9223372036854775808 :=
  ⟨fun ⟨_, h1, h2, h3⟩ => by subst h2; exact ⟨h1, h3⟩, fun ⟨h1, h2⟩ => ⟨[.int .i64 n], h1, rfl, h2⟩⟩
theorem take_set_succ {α : Type} {x y : List α} {i : Nat} (h1 : y.take i = x.take i) (hi : i < x.length) (hl : y.length = x.length) : (y.set i x[i]).take (i + 1) = x.take (i + 1) := by
  rw [List.take_add_one, List.take_add_one, List.take_set_of_le (Nat.le_refl i), h1]
  simp [hi, hl]
theorem eq_of_take {α : Type} {x y : List α} {i : Nat} (h1 : y.take i = x.take i) (hi : x.length ≤ i) (hl : y.length = x.length) : y = x := by
  rwa [List.take_of_length_le (by omega), List.take_of_length_le hi] at h1
/-- a slice of which one element has been taken away -/
def Hole {α : Type} [Ty α] (r : Heap) (v : Value) (l : List α) (i : Nat) (u : Value) : Prop :=
  ∃ (b off cap : Nat) (cells : List Value) (el : TypeId) (r' : Heap), v = .slice (some ⟨b, off, none⟩) l.length cap ∧ i < l.length ∧ (l.length ≤ cap ∧ l.length < 4611686018427387904) ∧ off + cap * Ty.sz α ≤ cells.length ∧
    r = (Heap.one b (.cells cells.toArray el (0, 0))).add r' ∧ r' b = none ∧ u = valC (Ty.agg α) (((cells.drop off).drop (i * Ty.sz α)).take (Ty.sz α)) ∧
    ∀ r1' c' y, Dj r1' r' → Ty.own r1' c' y → ownL (l.set i y) (setC (cells.drop off) (i * Ty.sz α) c') (r1'.add r')

theorem setC_self {cs c : List Value} {n m : Nat} (h1 : (cs.drop n).take m = c) (hc : c.length = m) : setC cs n c = cs := by
  subst h1
  simp at hc
  unfold setC
  conv => rhs; rw [← List.take_append_drop n cs]
  rw [List.append_assoc]
  congr 1
  rw [List.length_take, List.length_drop]
  conv => rhs; rw [← List.take_append_drop m (cs.drop n)]
  rw [List.drop_drop]
  congr 2
  omega

section
variable {α : Type} [Ty α] {h h' g r r2 ru : Heap} {v u : Value} {l : List α} {i : Nat}

theorem valC_inj {c : List Value} {c' : List Value} (h1 : Ty.agg α = false → c.length = 1) (h2 : Ty.agg α = false → c'.length = 1) (hv : valC (Ty.agg α) c = valC (Ty.agg α) c') : c = c' := by
  unfold valC at hv
  cases ha : Ty.agg α with
  | true => rw [ha] at hv; simpa using hv
  | false =>
    rw [ha] at hv
    have e1 := h1 ha
    have e2 := h2 ha
    match c, c', e1, e2 with
    | [x], [y], _, _ => simpa using hv

theorem slot_le {i n c s : Nat} (h1 : i < n) (h2 : n ≤ c) : i * s + s ≤ c * s := by
  rw [← Nat.succ_mul]
  exact Nat.mul_le_mul_right _ (by omega)

theorem Own.take (O : Own r v l) (hi : i < l.length) : ∃ u r1 r2, r = r1.add r2 ∧ Dj r1 r2 ∧ Own r1 u l[i] ∧ Hole r2 v l i u := by
  rcases Own_list.1 O with ⟨p, _, rfl, _⟩ | ⟨b, off, cap, cells, el, r', rfl, ⟨h1, hM⟩, h2, rfl, h4, h5⟩
  · simp at hi
  · obtain ⟨s1, s2, g1, g2, g3, g4⟩ := ownL_at h5 i hi
    subst g1
    obtain ⟨n1, n2⟩ : s1 b = none ∧ s2 b = none := by simpa [Heap.add] using h4
    refine ⟨_, s1, (Heap.one b (.cells cells.toArray el (0, 0))).add s2, ?_, Dj_add.2 ⟨Dj_one.2 n1, g2⟩, ⟨_, rfl, g3⟩, b, off, cap, cells, el, s2, rfl, hi, ⟨h1, hM⟩, h2, rfl, n2, rfl, g4⟩
    rw [← add_assoc, ← add_assoc, (one_Dj.2 n1).comm]

theorem Hole.put {r1 : Heap} {y : α} (H : Hole r2 v l i u) (d : Dj r1 r2) (O : Own r1 u y) : Own (r1.add r2) v (l.set i y) := by
  obtain ⟨b, off, cap, cells, el, r', rfl, hi, ⟨h1, hM⟩, h2, rfl, h4, h5, h6⟩ := H
  obtain ⟨c, hc, ho⟩ := O
  obtain ⟨d1, d2⟩ := Dj_add.1 d
  have hs := slot_le (s := Ty.sz α) hi h1
  have hl : ((((cells.drop off).drop (i * Ty.sz α)).take (Ty.sz α))).length = Ty.sz α := by simp; omega
  have hlen := Ty.len (Ty.own_rep ho)
  have e1 : c = ((cells.drop off).drop (i * Ty.sz α)).take (Ty.sz α) := valC_inj (α := α) (fun ha => by rw [hlen, Ty.one ha]) (fun ha => by rw [hl, Ty.one ha]) (by rw [← hc, h5])
  have h7 := h6 r1 c y d2 ho
  rw [setC_self e1.symm hlen] at h7
  refine Own_list.2 (.inr ⟨b, off, cap, cells, el, r1.add r', by simp, ⟨by simpa using h1, by simpa using hM⟩, h2, ?_, ?_, h7⟩)
  · rw [← add_assoc, ← add_assoc, d1.comm]
  · simp [Heap.add, h4]; exact Dj_one.1 d1

theorem Hole.ld (H : Hole r2 v l i u) : hload r2 (some (elp (Ty.sz α) v i)) (szo α) = some u := by
  obtain ⟨b, off, cap, cells, el, r', rfl, hi, ⟨h1, hM⟩, h2, rfl, h4, h5, h6⟩ := H
  have hs := slot_le (s := Ty.sz α) hi h1
  have hb : ((Heap.one b (.cells cells.toArray el (0, 0))).add r') b = some (.cells cells.toArray el (0, 0)) := by simp [Heap.add, Heap.one, h4]
  have hc := hcells_mk hb (n := Ty.sz α) (off := off + i * Ty.sz α) (by simp; omega)
  simp only [elp, add_none, hload, szo]
  rw [List.drop_drop] at h5
  cases ha : Ty.agg α with
  | true => simp only [if_true, hc]; rw [h5]; simp [valC, ha]
  | false =>
    have h3 := Ty.one ha
    rw [h3] at hc h5 h2
    rw [ha] at h5
    simp only [Bool.false_eq_true, if_false]
    rw [h3] at hs ⊢
    have hlt : off + i * 1 < cells.length := by omega
    rw [List.drop_eq_getElem_cons hlt] at h5
    simp only [valC, List.take_succ_cons, Bool.false_eq_true, if_false, List.headD_cons] at h5
    rw [h5]
    simp only [hcell, hb]
    simp at hlt ⊢

theorem Hole.len (H : Hole r2 v l i u) : lenVV v = some (.int .i64 l.length) := by
  obtain ⟨b, off, cap, cells, el, r', rfl, _⟩ := H
  rfl

theorem Hole.ia (H : Hole r2 v l i u) {k : IntKind} {n : Int} (h0 : 0 ≤ n) (h1 : n < l.length) : iaV (Ty.sz α) v (.int k n) = some (elp (Ty.sz α) v n.toNat) := by
  obtain ⟨b, off, cap, cells, el, r', rfl, _⟩ := H
  simp [iaV, elp, h0, h1]

theorem drop_setC {cs c : List Value} {a n : Nat} (h : a + n + c.length ≤ cs.length) : (setC cs (a + n) c).drop a = setC (cs.drop a) n c := by
  unfold setC
  rw [List.append_assoc, List.drop_append_of_le_length (by simp; omega), List.drop_take, List.append_assoc, List.drop_drop]
  congr 2
  · omega
  · congr 1; omega

theorem setC_length {cs c : List Value} {n : Nat} (h : n + c.length ≤ cs.length) : (setC cs n c).length = cs.length := by
  unfold setC; simp; omega

/-- what is written where an element was taken away -/
theorem Hole.store {y : α} (H : Hole r v l i u) {u' : Value} (d : Dj g r) (d2 : Dj (g.add r) ru) (Ou : Own ru u' y) :
    ∃ b off h', elp (Ty.sz α) v i = .pointer (some ⟨b, off, none⟩) ∧ u'.cells.size = Ty.sz α ∧ hstore ((g.add r).add ru) b off u'.cells.toList = some h' ∧ ∃ r', h' = g.add r' ∧ Dj g r' ∧ Own r' v (l.set i y) := by
  obtain ⟨b, off, cap, cells, el, r', rfl, hi, ⟨h1, hM⟩, h2, rfl, h4, h5, h6⟩ := H
  obtain ⟨c, rfl, ho⟩ := Ou
  have hlen := Ty.len (Ty.own_rep ho)
  have hcell := Ty.cell (Ty.own_rep ho)
  have hcs := rep_cells (Ty.own_rep ho)
  have hs := slot_le (s := Ty.sz α) hi h1
  obtain ⟨d3, d4⟩ := Dj_add.1 d
  obtain ⟨d5, d6⟩ := add_Dj.1 d2
  obtain ⟨d7, d8⟩ := add_Dj.1 d6
  have hb : (((g.add ((Heap.one b (.cells cells.toArray el (0, 0))).add r')).add ru)) b = some (.cells cells.toArray el (0, 0)) := by
    have := Dj_one.1 d3
    simp [Heap.add, Heap.one, this, h4, one_Dj.1 d7]
  refine ⟨b, off + i * Ty.sz α, g.add ((Heap.one b (.cells (setC cells (off + i * Ty.sz α) c).toArray el (0, 0))).add (r'.add ru)), by simp [elp, add_none], ?_, ?_, ?_⟩
  · have := congrArg List.length hcs
    simpa [hlen] using this
  · unfold hstore
    rw [hb]
    simp only [hcs]
    rw [if_pos (by refine ⟨trivial, ?_, by simpa using hcell⟩; simp [hlen]; omega)]
    rw [add_assoc (a := g), add_assoc (b := r'), add_one_set (Dj_one.1 d3) (by simp [Heap.add, h4, one_Dj.1 d7])]
  · refine ⟨(Heap.one b (.cells (setC cells (off + i * Ty.sz α) c).toArray el (0, 0))).add (r'.add ru), ?_, ?_, ?_⟩
    · rfl
    · exact Dj_add.2 ⟨Dj_one.2 (Dj_one.1 d3), Dj_add.2 ⟨d4, d5⟩⟩
    · have h7 := h6 ru c y d8.symm ho
      refine Own_list.2 (.inr ⟨b, off, cap, _, el, _, by simp, ⟨by simpa using h1, by simpa using hM⟩, ?_, rfl, ?_, ?_⟩)
      · rw [setC_length (by rw [hlen]; omega)]; exact h2
      · simp [Heap.add, h4]; exact one_Dj.1 d7
      · rw [drop_setC (by rw [hlen]; omega), d8.comm]; exact h7
end

section
variable {α : Type} [Ty α] {P : Program} {k : Env → Heap → Prop} {e : Env} {h h' g r r2 ru rs : Heap} {v u : Value} {l l2 : List α} {i : Nat}

theorem a_store {sz : Nat} {a x : O} {y : α} {u' : Value} (O : Own r v l) (hi : i < l.length) (Ou : Own ru u' y) (d : Dj g r) (d2 : Dj (g.add r) ru) (hh : h = (g.add r).add ru) (hp : a.get e = some (elp (Ty.sz α) v i)) (hx : x.get e = some u') (hsz : sz = Ty.sz α)
    (K : ∀ r', Dj g r' → Own r' v (l.set i y) → k e (g.add r')) : (A.ex none (.store sz a x)).wp P k e h := by
  subst hh; subst hsz
  obtain ⟨u, r1, r2, rfl, d3, O1, H⟩ := O.take hi
  obtain ⟨d4, d5⟩ := Dj_add.1 d
  obtain ⟨d6, d7⟩ := add_Dj.1 d2
  obtain ⟨d8, d9⟩ := add_Dj.1 d7
  -- the element's own part stays behind
  have hd : Dj (g.add r1) r2 := add_Dj.2 ⟨d5, d3⟩
  have hd2 : Dj ((g.add r1).add r2) ru := by rw [add_assoc]; exact d2
  obtain ⟨b, off, h', h1, h2, h3, r', rfl, h4, h5⟩ := H.store hd hd2 Ou
  refine ⟨b, off, u', _, by rw [hp, h1], hx, h2, by rw [← add_assoc]; exact h3, ?_⟩
  obtain ⟨d10, d11⟩ := add_Dj.1 h4
  exact Fgt.drop (le_drop d4 d11) (K r' d10 h5)

theorem Own_flat [Flat α] {y : α} : Own r u y ↔ r = Heap.nil ∧ u = valC (Ty.agg α) (Flat.enc y) ∧ Flat.ok y := by
  constructor
  · rintro ⟨cs, rfl, ho⟩
    obtain ⟨h1, rfl, h2⟩ := Flat.own_iff.1 ho
    exact ⟨h1, rfl, h2⟩
  · rintro ⟨rfl, rfl, h1⟩
    exact ⟨_, rfl, Flat.own_iff.2 ⟨rfl, rfl, h1⟩⟩

theorem a_storeF [Flat α] {sz : Nat} {a x : O} (y : α) (O : Own r v l) (hi : i < l.length) (d : Dj g r) (hh : h = g.add r) (hp : a.get e = some (elp (Ty.sz α) v i)) (hx : x.get e = some (valC (Ty.agg α) (Flat.enc y))) (hy : Flat.ok y) (hsz : sz = Ty.sz α)
    (K : ∀ r', Dj g r' → Own r' v (l.set i y) → k e (g.add r')) : (A.ex none (.store sz a x)).wp P k e h :=
  a_store O hi (Own_flat.2 ⟨rfl, rfl, hy⟩) d Dj_nil (by simp [hh]) hp hx hsz K

/-- MAKING A SLICE -/
theorem a_mks {bytes esz : Nat} {zero : List Value} {len cap : O} {j j' : IntKind} {n c : Nat} {dst : Nat} {z : α} (hl : len.get e = some (.int j n)) (hc : cap.get e = some (.int j' c)) (hz : Ty.own Heap.nil zero z) (h1 : n ≤ c) (h2 : c < 2 ^ 62) (h3 : bytes * c ≤ 2 ^ 48)
    (K : ∀ v r, Dj h r → Own r v (List.replicate n z) → k (eset e dst (some v)) (h.add r)) : (A.ex (some dst) (.mks bytes esz zero len cap)).wp P k e h := by
  refine ⟨n, c, j, j', hl, hc, h1, h2, h3, fun b el hb => Fgt.keep ?_⟩
  rw [set_new hb]
  refine K _ _ (Dj_one.2 hb) (Own_list.2 (.inr ⟨b, 0, c, reps c zero, el, Heap.nil, by simp, ⟨by simpa using h1, by simp; omega⟩, ?_, by simp, rfl, ?_⟩))
  · have := ownL_len (ownL_reps hz c)
    simpa using this
  · have hlen := Ty.len (Ty.own_rep hz)
    refine ownL_congr (ownL_reps hz n) ?_
    simp only [List.length_replicate, List.drop_zero]
    rw [show reps c zero = reps n zero ++ reps (c - n) zero by
      rw [reps, reps, reps, ← List.flatten_append, List.replicate_append_replicate]; congr 3; omega]
    have : (reps n zero).length = n * Ty.sz α := by simp [reps, hlen]
    rw [List.take_append_of_le_length (by omega)]

theorem ownL_cell : ∀ {l : List α} {cs : List Value} {r : Heap}, ownL l cs r → ∀ v ∈ cs.take (l.length * Ty.sz α), v.oneCell' = true
  | [], _, _, _, v, hv => by simp at hv
  | x :: l, cs, r, ⟨r1, r2, h1, h2, h3, h4⟩, v, hv => by
    have ha : (x :: l).length * Ty.sz α = Ty.sz α + l.length * Ty.sz α := by simp [Nat.add_mul]; omega
    rw [ha, List.take_add] at hv
    rcases List.mem_append.1 hv with h5 | h5
    · exact Ty.cell (Ty.own_rep h3) v h5
    · exact ownL_cell h4 v h5

/-- APPENDING to a slice that is owned -/
theorem a_app {bytes esz : Nat} {zero : List Value} {a : O} {b : AO} {dst : Nat} {cs : List Value} (O : Own r v l) (ha : a.get e = some v) (hs : b.src h e esz = some (l2.length, cs)) (hcs : cs.length = l2.length * Ty.sz α) (Os : ownL l2 cs rs)
    (d : Dj g r) (d2 : Dj (g.add r) rs) (hh : h = (g.add r).add rs) (hsz : esz = Ty.sz α) (hz : zero.length = Ty.sz α) (hb : (l.length + l2.length) * bytes ≤ 140737488355328) (hn : l.length + l2.length < 2 ^ 62)
    (K : ∀ v' r', Dj g r' → Own r' v' (l ++ l2) → k (eset e dst (some v')) (g.add r')) : (A.ex (some dst) (.app bytes esz zero (.o a) b)).wp P k e h := by
  subst hsz
  obtain ⟨d5, d6⟩ := add_Dj.1 d2
  have hcell : cs.all Value.oneCell' = true := by
    have := ownL_cell Os
    rw [← hcs, List.take_length] at this
    simpa using this
  refine ⟨l2.length, cs, hs, ?_⟩
  rcases Own_list.1 O with ⟨p, rfl, rfl, rfl, hp⟩ | ⟨bb, off, cap, cells, el, r', rfl, ⟨h1, hM⟩, h2, rfl, h4, h5⟩
  · refine ⟨p, 0, 0, ha, ?_, ?_⟩
    · intro h1
      have hl2 : l2 = [] := by cases l2 with
        | nil => rfl
        | cons _ _ => simp at h1
      subst hl2
      have hcs0 : cs = [] := by simpa using hcs
      have hrs : rs = Heap.nil := Os
      subst hrs
      have hk : ∀ p, okP p → Fgt k (eset e dst (some (.slice p (0 + ([] : List α).length) 0))) h := by
        intro p hp
        subst hh
        refine Fgt.keep ?_
        simpa using K (.slice p 0 0) Heap.nil Dj_nil (Own_list.2 (.inl ⟨p, rfl, rfl, rfl, hp⟩))
      rcases hp with rfl | ⟨b', o', rfl⟩
      · exact ⟨hcs0, hk _ (.inl rfl)⟩
      · exact .inl ⟨hcs0, hk _ (.inr ⟨b', o', rfl⟩)⟩
    · intro h1
      refine ⟨0, [], ?_, ?_, by simpa using hn, ?_⟩
      · rcases hp with rfl | ⟨b', o', rfl⟩
        · rfl
        · simp [srcV, hcells]
      · exact growslice_fits h1 (by simpa using hb)
      · intro b' el c hb' hc
        subst hh
        rw [set_new hb']
        simp only [add_nil] at hb' ⊢
        have n1 : g b' = none ∧ rs b' = none := by simpa [Heap.add] using hb'
        refine Fgt.keep ?_
        rw [add_assoc]
        simp only [List.length_nil, Nat.zero_add] at hn ⊢
        refine K _ _ (Dj_add.2 ⟨d5, Dj_one.2 n1.1⟩) ?_
        rw [(Dj_one.2 n1.2).comm]
        refine Own_list.2 (.inr ⟨b', 0, c, _, el, rs, by simp, ⟨by simpa using hc, by simpa using hn⟩, ?_, rfl, n1.2, ?_⟩)
        · simp [reps, hz, hcs]
          rw [← Nat.add_mul]
          exact Nat.mul_le_mul_right _ (by simp at hc; omega)
        · refine ownL_congr Os ?_
          simp only [List.drop_zero, List.nil_append]
          exact (List.take_append_of_le_length (by rw [hcs]; exact Nat.le_refl _)).symm
  · have hbk : ((g.add ((Heap.one bb (.cells cells.toArray el (0, 0))).add r')).add rs) bb = some (.cells cells.toArray el (0, 0)) := by
      have := Dj_one.1 (Dj_add.1 d).1
      simp [Heap.add, Heap.one, this, h4, one_Dj.1 (add_Dj.1 d6).1]
    obtain ⟨d3, d4⟩ := Dj_add.1 d
    obtain ⟨d7, d8⟩ := add_Dj.1 d6
    have hll := ownL_len h5
    have hfit : l.length * Ty.sz α ≤ cap * Ty.sz α := Nat.mul_le_mul_right _ h1
    have hold : ownL l ((cells.drop off).take (l.length * Ty.sz α)) r' := by
      refine ownL_congr h5 ?_
      rw [List.take_take, Nat.min_self]
    refine ⟨_, l.length, cap, ha, ?_, ?_⟩
    · intro hle
      right
      have hf2 : l.length * Ty.sz α + l2.length * Ty.sz α ≤ cap * Ty.sz α := by rw [← Nat.add_mul]; exact Nat.mul_le_mul_right _ hle
      refine ⟨g.add ((Heap.one bb (.cells (setC cells (off + l.length * Ty.sz α) cs).toArray el (0, 0))).add (r'.add rs)), ?_, Fgt.keep ?_⟩
      · unfold hstore
        rw [hh, hbk]
        simp only
        rw [if_pos (by refine ⟨trivial, ?_, hcell⟩; simp [hcs]; omega)]
        rw [add_assoc (a := g), add_assoc (b := r'), add_one_set (Dj_one.1 d3) (by simp [Heap.add, h4, one_Dj.1 d7])]
      · refine K _ _ (Dj_add.2 ⟨Dj_one.2 (Dj_one.1 d3), Dj_add.2 ⟨d4, d5⟩⟩) ?_
        refine Own_list.2 (.inr ⟨bb, off, cap, _, el, _, by simp, ⟨by simpa using hle, by simpa using hn⟩, ?_, rfl, ?_, ?_⟩)
        · rw [setC_length (by rw [hcs]; omega)]; exact h2
        · simp [Heap.add, h4]; exact one_Dj.1 d7
        · rw [drop_setC (by rw [hcs]; omega)]
          have h9 := ownL_append hold (by simp; omega) Os d8
          refine ownL_congr h9 ?_
          rw [List.length_append, Nat.add_mul]
          exact (List.take_append_of_le_length (by rw [List.length_append, List.length_take, Nat.min_eq_left hll, hcs]; exact Nat.le_refl _)).symm
    · intro hlt
      refine ⟨l.length, (cells.drop off).take (l.length * Ty.sz α), ?_, growslice_fits hlt hb, hn, ?_⟩
      · rw [srcV_slice (l := (cells.drop off).take (l.length * Ty.sz α))]
        rw [hh, hcells_mk hbk (by simp; omega)]
      · intro b' el' c hb' hc
        subst hh
        rw [set_new hb']
        have n1 : g b' = none ∧ r' b' = none ∧ rs b' = none := by
          simp only [Heap.add, oplus_eq_none] at hb'
          exact ⟨hb'.1.1, hb'.1.2.2, hb'.2⟩
        have hne : Dj (Heap.one bb (.cells cells.toArray el (0, 0))) ((r'.add rs).add (Heap.one b' (.cells ((cells.drop off).take (l.length * Ty.sz α) ++ cs ++ reps (c - (l.length + l2.length)) zero).toArray el' (0, 0)))) := by
          refine Dj_add.2 ⟨Dj_add.2 ⟨one_Dj.2 h4, d7⟩, Dj_one.2 ?_⟩
          simp only [Heap.add, oplus_eq_none] at hb'
          exact hb'.1.2.1
        refine Fgt.drop (h' := g.add ((r'.add rs).add (Heap.one b' (.cells ((cells.drop off).take (l.length * Ty.sz α) ++ cs ++ reps (c - (l.length + l2.length)) zero).toArray el' (0, 0))))) ?_ ?_
        · have := le_drop d3 hne
          simpa [add_assoc] using this
        · refine K _ _ (Dj_add.2 ⟨Dj_add.2 ⟨d4, d5⟩, Dj_one.2 n1.1⟩) ?_
          rw [(Dj_one.2 (show (r'.add rs) b' = none by simp [Heap.add, n1.2])).comm]
          refine Own_list.2 (.inr ⟨b', 0, c, _, el', r'.add rs, by simp, ⟨by simpa using hc, by simpa using hn⟩, ?_, rfl, by simp [Heap.add, n1.2], ?_⟩)
          · have : (l.length + l2.length) * Ty.sz α + (c - (l.length + l2.length)) * Ty.sz α = c * Ty.sz α := by
              rw [← Nat.add_mul]; congr 1; omega
            rw [Nat.add_mul] at this
            simp [reps, hz, hcs]
            omega
          · have h9 := ownL_append hold (by simp; omega) Os d8
            refine ownL_congr h9 ?_
            rw [List.drop_zero, List.length_append, Nat.add_mul]
            exact (List.take_append_of_le_length (by rw [List.length_append, List.length_take, Nat.min_eq_left hll, hcs]; exact Nat.le_refl _)).symm

/-- APPENDING to a private slice without elements -/
theorem a_appP {bytes esz : Nat} {zero : List Value} {j : Nat} {b : AO} {dst : Nat} {cs : List Value} {c0 : Array Value} (hp : eget e j = some (.agg c0)) (hs : b.src h e esz = some (l2.length, cs)) (hcs : cs.length = l2.length * Ty.sz α) (Os : ownL l2 cs rs)
    (d : Dj g rs) (hh : h = g.add rs) (hz : zero.length = Ty.sz α) (hb : l2.length * bytes ≤ 140737488355328) (hn : l2.length < 2 ^ 62)
    (K : ∀ v' r', Dj g r' → Own r' v' l2 → k (eset e dst (some v')) (g.add r')) : (A.ex (some dst) (.app bytes esz zero (.p 0 j) b)).wp P k e h := by
  refine ⟨l2.length, cs, hs, rfl, ⟨c0, hp⟩, ?_, ?_⟩
  · intro hl2 b'
    have hl2 : l2 = [] := by simpa using hl2
    subst hl2
    have hrs : rs = Heap.nil := Os
    subst hrs
    subst hh
    refine Fgt.keep ?_
    simpa using K _ Heap.nil Dj_nil (Own_list.2 (.inl ⟨some ⟨b', 0, none⟩, rfl, rfl, rfl, .inr ⟨b', 0, rfl⟩⟩))
  · intro hpos
    refine ⟨growslice_fits hpos (by simpa using hb), hn, ?_⟩
    intro b' el c hb' hc
    subst hh
    rw [set_new hb']
    have n1 : g b' = none ∧ rs b' = none := by simpa [Heap.add] using hb'
    refine Fgt.keep ?_
    rw [add_assoc]
    refine K _ _ (Dj_add.2 ⟨d, Dj_one.2 n1.1⟩) ?_
    rw [(Dj_one.2 n1.2).comm]
    refine Own_list.2 (.inr ⟨b', 0, c, _, el, rs, rfl, ⟨hc, by omega⟩, ?_, rfl, n1.2, ?_⟩)
    · simp [reps, hz, hcs]
      rw [← Nat.add_mul]
      exact Nat.mul_le_mul_right _ (by omega)
    · refine ownL_congr Os ?_
      simp only [List.drop_zero]
      exact (List.take_append_of_le_length (by rw [hcs]; exact Nat.le_refl _)).symm

/-- the cells of a list without memory of its own -/
def encL [Flat α] (l : List α) : List Value := (l.map Flat.enc).flatten

theorem flat_len [Flat α] {x : α} (hx : Flat.ok x) : (Flat.enc x).length = Ty.sz α := Ty.len (h := Heap.nil) (Flat.rep_iff.2 ⟨rfl, hx⟩)
theorem encL_len [Flat α] : ∀ {l : List α}, (∀ x ∈ l, Flat.ok x) → (encL l).length = l.length * Ty.sz α
  | [], _ => by simp [encL]
  | x :: l, h => by
    have := encL_len (l := l) (fun y hy => h y (by simp [hy]))
    simp only [encL, List.map_cons, List.flatten_cons, List.length_append, flat_len (h x (by simp)), List.length_cons] at this ⊢
    rw [this, Nat.add_mul]; omega
theorem ownL_enc [Flat α] : ∀ {l : List α}, (∀ x ∈ l, Flat.ok x) → ownL l (encL l) Heap.nil
  | [], _ => rfl
  | x :: l, h => by
    have hx := flat_len (h x (by simp))
    refine ⟨Heap.nil, Heap.nil, by simp, by simp, ?_, ?_⟩
    · rw [show encL (x :: l) = Flat.enc x ++ encL l from rfl, ← hx, List.take_left]
      exact Flat.own_iff.2 ⟨rfl, rfl, h x (by simp)⟩
    · rw [show encL (x :: l) = Flat.enc x ++ encL l from rfl, ← hx, List.drop_left]
      exact ownL_enc (fun y hy => h y (by simp [hy]))

theorem hcells_add {h : Heap} {b : Nat} : ∀ {n m off : Nat} {c1 c2 : List Value}, hcells h b off n = some c1 → hcells h b (off + n) m = some c2 → hcells h b off (n + m) = some (c1 ++ c2)
  | 0, m, off, c1, c2, h1, h2 => by simp [hcells] at h1; subst h1; simpa using h2
  | n + 1, m, off, c1, c2, h1, h2 => by
    rw [show n + 1 + m = (n + m) + 1 by omega]
    simp only [hcells] at h1 ⊢
    split at h1
    · rename_i v r hv hr
      simp only [Option.some.injEq] at h1
      subst h1
      rw [hv, hcells_add hr (by rw [← h2]; congr 1; omega)]
      rfl
    · simp at h1

theorem repL_enc [Flat α] {h : Heap} {b off : Nat} : ∀ {l : List α}, repL h (some ⟨b, off, none⟩) l → hcells h b off (l.length * Ty.sz α) = some (encL l)
  | l, hr => by
    have key : ∀ n, n ≤ l.length → hcells h b off (n * Ty.sz α) = some (encL (l.take n)) := by
      intro n
      induction n with
      | zero => intro _; simp [hcells, encL]
      | succ n ih =>
        intro hn
        obtain ⟨b', off', vs, h1, h2, h3⟩ := hr n (by omega)
        simp only [Option.some.injEq, Addr.mk.injEq] at h1
        obtain ⟨rfl, rfl, _⟩ := h1
        have h4 := hcells_add (ih (by omega)) h2
        rw [show (n + 1) * Ty.sz α = n * Ty.sz α + Ty.sz α by rw [Nat.add_mul]; omega, h4]
        rw [List.take_add_one, List.getElem?_eq_getElem (by omega)]
        rw [encL, encL, List.map_append, List.flatten_append, (Flat.rep_iff.1 h3).1]
        simp
    have := key l.length (Nat.le_refl _)
    rwa [List.take_length] at this

theorem Rep.okL [Flat α] {h : Heap} {v : Value} {l : List α} (hr : Rep h v l) : ∀ x ∈ l, Flat.ok x := by
  intro x hx
  obtain ⟨i, hi, rfl⟩ := List.mem_iff_getElem.1 hx
  exact hr.okF hi

theorem Rep.src [Flat α] {h : Heap} {v : Value} {l : List α} (hr : Rep h v l) : srcV h (Ty.sz α) (some v) = some (l.length, encL l) := by
  obtain ⟨p, cap, rfl, h1, h2, h3⟩ := Rep_list.1 hr
  cases l with
  | nil => rfl
  | cons x l =>
    obtain ⟨b, off, vs, rfl, _⟩ := h3 0 (by simp)
    have h4 := repL_enc h3
    simp only [List.length_cons] at h4 ⊢
    simp only [srcV, h4]
    rfl

/-- APPENDING a list that is only read -/
theorem a_appPL [Flat α] {bytes esz : Nat} {zero : List Value} {j : Nat} {x : O} {dst : Nat} {c0 : Array Value} {u : Value} (hp : eget e j = some (.agg c0)) (hx : x.get e = some u) (hr : Rep h u l2) (hsz : esz = Ty.sz α) (hz : zero.length = Ty.sz α) (hb : l2.length * bytes ≤ 140737488355328)
    (K : ∀ v' r', Dj h r' → Own r' v' l2 → k (eset e dst (some v')) (h.add r')) : (A.ex (some dst) (.app bytes esz zero (.p 0 j) (.o x))).wp P k e h := by
  subst hsz
  refine a_appP (rs := Heap.nil) (l2 := l2) hp ?_ (encL_len hr.okL) (ownL_enc hr.okL) Dj_nil (by simp) hz hb (by have := hr.lt; omega) K
  simp only [AO.src, hx]
  exact hr.src
theorem a_appL [Flat α] {bytes esz : Nat} {zero : List Value} {a x : O} {dst : Nat} {u : Value} (O : Own r v l) (ha : a.get e = some v) (hx : x.get e = some u) (hr : Rep h u l2) (d : Dj g r) (hh : h = g.add r) (hsz : esz = Ty.sz α) (hz : zero.length = Ty.sz α)
    (hb : (l.length + l2.length) * bytes ≤ 140737488355328) (hn : l.length + l2.length < 2 ^ 62)
    (K : ∀ v' r', Dj g r' → Own r' v' (l ++ l2) → k (eset e dst (some v')) (g.add r')) : (A.ex (some dst) (.app bytes esz zero (.o a) (.o x))).wp P k e h := by
  subst hsz
  refine a_app (rs := Heap.nil) (l2 := l2) O ha ?_ (encL_len hr.okL) (ownL_enc hr.okL) d Dj_nil (by simp [hh]) rfl hz hb hn K
  simp only [AO.src, hx]
  exact hr.src
/-- APPENDING the elements of a private slice: one element and more, each without memory of its own -/
theorem a_appF [Flat α] {bytes esz : Nat} {zero : List Value} {a : O} {n j : Nat} {dst : Nat} {c0 : Array Value} (O : Own r v l) (ha : a.get e = some v) (hp : eget e j = some (.agg c0)) (hn : n = l2.length) (hc : c0.toList = encL l2) (hok : ∀ x ∈ l2, Flat.ok x) (d : Dj g r) (hh : h = g.add r) (hsz : esz = Ty.sz α) (hz : zero.length = Ty.sz α)
    (hb : (l.length + l2.length) * bytes ≤ 140737488355328) (hn2 : l.length + l2.length < 2 ^ 62)
    (K : ∀ v' r', Dj g r' → Own r' v' (l ++ l2) → k (eset e dst (some v')) (g.add r')) : (A.ex (some dst) (.app bytes esz zero (.o a) (.p n j))).wp P k e h := by
  subst hsz hn
  refine a_app (rs := Heap.nil) (l2 := l2) O ha ?_ (encL_len hok) (ownL_enc hok) d Dj_nil (by simp [hh]) rfl hz hb hn2 K
  have h1 := encL_len hok
  have h2 : c0.size = l2.length * Ty.sz α := by rw [← h1, ← hc]; simp
  simp only [AO.src, hp, h2, if_true, hc]
end

/-- the place of a field of an element -/
def elpo (sz : Nat) (v : Value) (i fo : Nat) : Value :=
  match v with
  | .slice (some p) _ _ => .pointer (some ((p.add (i * sz)).add fo))
  | _ => undef

section
variable {α : Type} [Ty α] {P : Program} {k : Env → Heap → Prop} {e : Env} {h g r : Heap} {v : Value} {l : List α} {i : Nat}

theorem Rep.fa {n : Nat} (hr : Rep h v l) (hi : i < l.length) {fo : Nat} : faV fo (elp n v i) = some (elpo n v i fo) := by
  obtain ⟨p, cap, rfl, hc, hp, hl⟩ := Rep_list.1 hr
  obtain ⟨b, off, vs, rfl, _⟩ := hl i hi
  rfl

end

/- what the simplifier does not go into: 'same' makes it take these laws for a step, so that it does not fall back on its own -/
def same {α : Sort u} (x : α) : α := x
@[simp] theorem same_eq {α : Sort u} (x : α) : same x = x := Eq.trans (Eq.refl x) (Eq.refl x)
section
variable {P : Program} {e e' : Env} {h : Heap} {Q : Ex → Env → Heap → Prop} {k : Env → Heap → Prop}
@[congr] theorem C.wp_congr {c : C} (he : same e = e') : C.wp P c Q e h = C.wp P c Q e' h := by rw [← he, same_eq]
@[congr] theorem Pl.wp_congr {p : Pl} (he : same e = e') : Pl.wp P k p e h = Pl.wp P k p e' h := by rw [← he, same_eq]
@[congr] theorem S.wp_congr {s : S} (he : same e = e') : S.wp P k e h s = S.wp P k e' h s := by rw [← he, same_eq]
@[congr] theorem A.wp_congr {x : A} (he : same e = e') : A.wp P k e h x = A.wp P k e' h x := by rw [← he, same_eq]
@[congr] theorem seqQ_congr {b : C} {x x' : Ex} (hx : x = x') (he : same e = e') : seqQ P b Q x e h = seqQ P b Q x' e' h := by rw [hx, ← he, same_eq]
@[congr] theorem blockQ_congr {i : Nat} {x x' : Ex} (hx : x = x') (he : same e = e') : blockQ i Q x e h = blockQ i Q x' e' h := by rw [hx, ← he, same_eq]
@[congr] theorem loopQ_congr {n : Nat} {fg : List Nat} {I : Env → Heap → Prop} {x x' : Ex} (hx : x = x') (he : same e = e') : loopQ n fg I Q x e h = loopQ n fg I Q x' e' h := by rw [hx, ← he, same_eq]
@[congr] theorem Fgt_congr (he : same e = e') : Fgt k e h = Fgt k e' h := by rw [← he, same_eq]
@[congr] theorem RetK_congr {k : Value → Heap → Prop} {v v' : Value} (hv : same v = v') : RetK k v h = RetK k v' h := by rw [← hv, same_eq]
@[congr] theorem CallE_congr {f f' : FuncId} {a a' : List Value} {q : Value → Heap → Prop} (hf : f = f') (ha : same a = a') : CallE P f a h q = CallE P f' a' h q := by rw [hf, ← ha, same_eq]
@[congr] theorem IteW_congr {p p' A B : Prop} (hp : same p = p') : IteW p A B = IteW p' A B := by rw [← hp, same_eq]
@[congr] theorem condW_congr {v v' : Option Value} {A B : Prop} (hv : same v = v') : condW v A B = condW v' A B := by rw [← hv, same_eq]
@[congr] theorem guardW_congr' {v v' : Option Value} {w : Bool} {A B : Prop} (hv : same v = v') : guardW v w A B = guardW v' w A B := by rw [← hv, same_eq]
@[congr] theorem ExW_congr {α : Type} {x x' : Option α} {k : α → Prop} (hx : same x = x') : ExW x k = ExW x' k := by rw [← hx, same_eq]
@[congr] theorem AndW_congr {p p' A : Prop} (hp : same p = p') : AndW p A = AndW p' A := by rw [← hp, same_eq]
attribute [simp] List.getElem?_cons_zero List.getElem?_cons_succ List.getElem_cons_zero List.getElem_cons_succ
theorem C.wpe {c c' : C} (hc : c = c') {P : Program} {Q : Ex → Env → Heap → Prop} {e : Env} {h : Heap} : C.wp P c Q e h = C.wp P c' Q e h := by rw [hc]
theorem Pl.wpe {c c' : Pl} (hc : c = c') {P : Program} {k : Env → Heap → Prop} {e : Env} {h : Heap} : Pl.wp P k c e h = Pl.wp P k c' e h := by rw [hc]
end

theorem CallE.go {P : Program} {f : FuncId} {args : List Value} {h : Heap} {Q : Value → Heap → Prop} {k : Env → Heap → Prop} {d : Option Nat} {e : Env} (hc : CallE P f args h Q) (hk : ∀ v h', Q v h' → k (dput d (some v) e) h') :
    CallE P f args h fun v h' => Fgt k (dput d (some v) e) h' := CallE.mono (fun v h' hq => Fgt.keep (hk v h' hq)) hc

abbrev HP := Heap → Prop
def HS : Heap → List HP → Heap → Prop
  | g, [], h => g.le h
  | g, p :: Γ, h => ∃ g' r, h = g'.add r ∧ Dj g' r ∧ p r ∧ HS g Γ g'

def Heap.minus (h r : Heap) : Heap := fun b => match r b with
  | none => h b
  | some _ => none

section
variable {g h h' r : Heap}
theorem minus_add (hl : r.le h) : (h.minus r).add r = h := by
  funext b
  simp only [Heap.add, Heap.minus]
  cases hr : r b with
  | none => simp
  | some o => simp [hl b o hr]
theorem minus_Dj : Dj (h.minus r) r := fun b => by
  cases hr : r b with
  | none => exact .inr rfl
  | some o => exact .inl (by simp [Heap.minus, hr])
theorem le_minus (hl : g.le h) (d : Dj g r) : g.le (h.minus r) := fun b o hb => by
  rcases d b with h1 | h1
  · rw [h1] at hb; simp at hb
  · simp [Heap.minus, h1, hl b o hb]

def ow {α : Type} [Ty α] (v : Value) (x : α) : HP := fun r => Own r v x
def hole {α : Type} [Ty α] (v : Value) (l : List α) (i : Nat) (u : Value) : HP := fun r => Hole r v l i u
/-- a box of its own: so many cells -/
def bx (b : Nat) (c : List Value) : HP := fun r => ∃ el, r = Heap.one b (.cells c.toArray el (0, 0))

theorem HS.le : ∀ {Γ : List HP} {h h' : Heap}, HS g Γ h → h.le h' → HS g Γ h'
  | [], _, _, H, hl => Heap.le.trans H hl
  | _ :: _, _, h', ⟨g', r, e, d, hp, H⟩, hl => by
    subst e
    have h1 : r.le h' := (le_add' d).trans hl
    have h2 : g'.le h' := (le_add d).trans hl
    exact ⟨h'.minus r, r, (minus_add h1).symm, minus_Dj, hp, H.le (le_minus h2 d)⟩

theorem HS.base : ∀ {Γ : List HP} {h : Heap}, HS g Γ h → g.le h
  | [], _, H => H
  | _ :: _, _, ⟨_, _, e, d, _, H⟩ => by subst e; exact H.base.trans (le_add d)

theorem HS.init : HS h [] h := Heap.le.refl h
theorem HS.drop {p : HP} {Γ : List HP} (H : HS g (p :: Γ) h) : HS g Γ h := by
  obtain ⟨g', r, rfl, d, hp, H⟩ := H
  exact H.le (le_add d)

theorem HS.app : ∀ {Δ Γ : List HP} {h h' : Heap}, HS h Δ h' → HS g Γ h → HS g (Δ ++ Γ) h'
  | [], _, _, _, H1, H => H.le H1
  | _ :: _, _, _, _, ⟨g', r, e, d, hp, H1⟩, H => ⟨g', r, e, d, hp, H1.app H⟩

theorem HS.sw1 {p q : HP} {Γ : List HP} (H : HS g (p :: q :: Γ) h) : HS g (q :: p :: Γ) h := by
  obtain ⟨g1, r1, rfl, d1, hp, g2, r2, rfl, d2, hq, H⟩ := H
  obtain ⟨d3, d4⟩ := add_Dj.1 d1
  exact ⟨g2.add r1, r2, add_swap d4, add_Dj.2 ⟨d2, d4.symm⟩, hq, g2, r1, rfl, d3, hp, H⟩
theorem HS.under {p : HP} {Γ Γ' : List HP} (hH : ∀ h, HS g Γ h → HS g Γ' h) (H : HS g (p :: Γ) h) : HS g (p :: Γ') h := by
  obtain ⟨g', r, rfl, d, hp, H⟩ := H
  exact ⟨g', r, rfl, d, hp, hH _ H⟩
theorem HS.imp {p q : HP} {Γ : List HP} (H : HS g (p :: Γ) h) (hpq : ∀ r, p r → q r) : HS g (q :: Γ) h := by
  obtain ⟨g', r, e, d, hp, H⟩ := H
  exact ⟨g', r, e, d, hpq r hp, H⟩
/- the n-th to the front -/
theorem HS.sw2 {a b c : HP} {Γ : List HP} (H : HS g (a :: b :: c :: Γ) h) : HS g (c :: a :: b :: Γ) h := (H.under fun _ => HS.sw1).sw1
theorem HS.sw3 {a b c d : HP} {Γ : List HP} (H : HS g (a :: b :: c :: d :: Γ) h) : HS g (d :: a :: b :: c :: Γ) h := (H.under fun _ => HS.sw2).sw1
theorem HS.sw4 {a b c d f : HP} {Γ : List HP} (H : HS g (a :: b :: c :: d :: f :: Γ) h) : HS g (f :: a :: b :: c :: d :: Γ) h := (H.under fun _ => HS.sw3).sw1
theorem HS.sw5 {a b c d f f' : HP} {Γ : List HP} (H : HS g (a :: b :: c :: d :: f :: f' :: Γ) h) : HS g (f' :: a :: b :: c :: d :: f :: Γ) h := (H.under fun _ => HS.sw4).sw1
theorem HS.sw6 {a b c d f f' f2 : HP} {Γ : List HP} (H : HS g (a :: b :: c :: d :: f :: f' :: f2 :: Γ) h) : HS g (f2 :: a :: b :: c :: d :: f :: f' :: Γ) h := (H.under fun _ => HS.sw5).sw1
theorem HS.bk1 {a b : HP} {Γ : List HP} (H : HS g (a :: b :: Γ) h) : HS g (b :: a :: Γ) h := H.sw1
/- the first one back to where the n-th stood -/
theorem HS.bk2 {a b c : HP} {Γ : List HP} (H : HS g (c :: a :: b :: Γ) h) : HS g (a :: b :: c :: Γ) h := H.sw2.sw2
theorem HS.bk3 {a b c d : HP} {Γ : List HP} (H : HS g (d :: a :: b :: c :: Γ) h) : HS g (a :: b :: c :: d :: Γ) h := H.sw3.sw3.sw3
theorem HS.of {α : Type} [Ty α] {v : Value} {x : α} (H : ∃ r, Dj h r ∧ h' = h.add r ∧ Own r v x) : HS h [ow v x] h' := by
  obtain ⟨r, d, rfl, O⟩ := H
  exact ⟨h, r, rfl, d, O, HS.init⟩
theorem HS.rep {α : Type} [Ty α] {v : Value} {x : α} {Γ : List HP} (H : HS g (ow v x :: Γ) h) : Rep h v x := by
  obtain ⟨g', r, rfl, d, O, _⟩ := H
  exact Own.rep' O d
theorem Rep.on {α : Type} [Ty α] {v : Value} {x : α} {Γ : List HP} (R : Rep g v x) (H : HS g Γ h) : Rep h v x := R.le H.base
end

section
variable {α : Type} [Ty α] {P : Program} {k : Env → Heap → Prop} {e : Env} {g h : Heap} {Γ : List HP} {v u : Value} {l l2 : List α} {i : Nat}

theorem HS.storeF [Flat α] (H : HS g (ow v l :: Γ) h) (y : α) {sz : Nat} {a x : O} (hi : i < l.length) (hp : a.get e = some (elp (Ty.sz α) v i)) (hx : x.get e = some (valC (Ty.agg α) (Flat.enc y))) (hy : Flat.ok y) (hsz : sz = Ty.sz α)
    (K : ∀ h', HS g (ow v (l.set i y) :: Γ) h' → k e h') : (A.ex none (.store sz a x)).wp P k e h := by
  obtain ⟨g', r, rfl, d, O, H⟩ := H
  exact a_storeF y O hi d rfl hp hx hy hsz fun r' d' O' => K _ ⟨g', r', rfl, d', O', H⟩

/-- writing an element that is owned itself -/
theorem HS.store {y : α} {u' : Value} (H : HS g (ow u' y :: ow v l :: Γ) h) {sz : Nat} {a x : O} (hi : i < l.length) (hp : a.get e = some (elp (Ty.sz α) v i)) (hx : x.get e = some u') (hsz : sz = Ty.sz α)
    (K : ∀ h', HS g (ow v (l.set i y) :: Γ) h' → k e h') : (A.ex none (.store sz a x)).wp P k e h := by
  obtain ⟨g1, ru, rfl, d2, Ou, g', r, rfl, d, O, H⟩ := H
  exact a_store O hi Ou d d2 rfl hp hx hsz fun r' d' O' => K _ ⟨g', r', rfl, d', O', H⟩

/-- an element is taken away -/
theorem HS.take (H : HS g (ow v l :: Γ) h) (hi : i < l.length) : ∃ u, hload h (some (elp (Ty.sz α) v i)) (szo α) = some u ∧ HS g (ow u l[i] :: hole v l i u :: Γ) h := by
  obtain ⟨g', r, rfl, d, O, H⟩ := H
  obtain ⟨u, r1, r2, rfl, d1, O1, Ho⟩ := Own.take O hi
  obtain ⟨d2, d3⟩ := Dj_add.1 d
  refine ⟨u, hload_le (Heap.le.trans (le_add' d1) (le_add' d)) Ho.ld, g'.add r2, r1, ?_, add_Dj.2 ⟨d2, d1.symm⟩, O1, g', r2, rfl, d3, Ho, H⟩
  rw [add_assoc, d1.comm]
/-- an element is put back -/
theorem HS.put {y : α} (H : HS g (ow u y :: hole v l i u :: Γ) h) : HS g (ow v (l.set i y) :: Γ) h := by
  obtain ⟨g1, r1, rfl, d1, O1, g', r2, rfl, d2, Ho, H⟩ := H
  obtain ⟨d3, d4⟩ := add_Dj.1 d1
  refine ⟨g', r1.add r2, ?_, Dj_add.2 ⟨d3, d2⟩, Ho.put d4.symm O1, H⟩
  rw [add_assoc, d4.comm]
theorem HS.holeld (H : HS g (hole v l i u :: Γ) h) : hload h (some (elp (Ty.sz α) v i)) (szo α) = some u := by
  obtain ⟨g', r, rfl, d, Ho, H⟩ := H
  exact hload_le (le_add' d) (Hole.ld Ho)
theorem HS.holeia (H : HS g (hole v l i u :: Γ) h) {n : Nat} (hn : n = Ty.sz α) {kd : IntKind} {j : Nat} (hj : j < l.length) : iaV n v (.int kd j) = some (elp n v j) := by
  obtain ⟨g', r, rfl, d, Ho, H⟩ := H
  subst hn
  simpa using Hole.ia Ho (k := kd) (n := (j : Int)) (by omega) (by omega)

theorem HS.mks (H : HS g Γ h) {bytes esz : Nat} {zero : List Value} {len cap : O} {j j' : IntKind} {n c : Nat} {dst : Nat} {z : α} (hl : len.get e = some (.int j n)) (hc : cap.get e = some (.int j' c)) (hz : Ty.own Heap.nil zero z) (h1 : n ≤ c) (h2 : c < 2 ^ 62) (h3 : bytes * c ≤ 2 ^ 48)
    (K : ∀ v h', HS g (ow v (List.replicate n z) :: Γ) h' → k (eset e dst (some v)) h') : (A.ex (some dst) (.mks bytes esz zero len cap)).wp P k e h :=
  a_mks hl hc hz h1 h2 h3 fun v r d O => K _ _ ⟨h, r, rfl, d, O, H⟩

/-- appending elements without memory of their own, out of a private slice -/
theorem HS.appF [Flat α] (H : HS g (ow v l :: Γ) h) (l2 : List α) {bytes esz : Nat} {zero : List Value} {a : O} {n j : Nat} {dst : Nat} {c0 : Array Value} (ha : a.get e = some v) (hp : eget e j = some (.agg c0)) (hn : n = l2.length) (hc : c0.toList = encL l2) (hok : ∀ x ∈ l2, Flat.ok x) (hsz : esz = Ty.sz α) (hz : zero.length = Ty.sz α)
    (hb : (l.length + l2.length) * bytes ≤ 140737488355328) (hn2 : l.length + l2.length < 2 ^ 62)
    (K : ∀ v' h', HS g (ow v' (l ++ l2) :: Γ) h' → k (eset e dst (some v')) h') : (A.ex (some dst) (.app bytes esz zero (.o a) (.p n j))).wp P k e h := by
  obtain ⟨g', r, rfl, d, O, H⟩ := H
  exact a_appF O ha hp hn hc hok d rfl hsz hz hb hn2 fun v' r' d' O' => K _ _ ⟨g', r', rfl, d', O', H⟩
theorem HS.app1 [Flat α] (H : HS g (ow v l :: Γ) h) (y : α) {bytes esz : Nat} {zero : List Value} {a : O} {j : Nat} {dst : Nat} {c0 : Array Value} (ha : a.get e = some v) (hp : eget e j = some (.agg c0)) (hc : c0.toList = Flat.enc y) (hok : Flat.ok y) (hsz : esz = Ty.sz α) (hz : zero.length = Ty.sz α)
    (hb : (l.length + 1) * bytes ≤ 140737488355328) (hl1 : l.length + 1 < 2 ^ 62)
    (K : ∀ v' h', HS g (ow v' (l ++ [y]) :: Γ) h' → k (eset e dst (some v')) h') : (A.ex (some dst) (.app bytes esz zero (.o a) (.p 1 j))).wp P k e h := by
  refine H.appF [y] ha hp rfl (by simpa [encL] using hc) (by simpa using hok) hsz hz (by simpa using hb) ?_ K
  exact hl1
/-- appending one element that is owned itself -/
theorem HS.appO {y : α} (H : HS g (ow u y :: ow v l :: Γ) h) {bytes esz : Nat} {zero : List Value} {a : O} {j : Nat} {dst : Nat} {c0 : Array Value} (ha : a.get e = some v) (hp : eget e j = some (.agg c0)) (hc : c0.toList = u.cells.toList) (hsz : esz = Ty.sz α) (hz : zero.length = Ty.sz α)
    (hb : (l.length + 1) * bytes ≤ 140737488355328) (hl1 : l.length + 1 < 2 ^ 62)
    (K : ∀ v' h', HS g (ow v' (l ++ [y]) :: Γ) h' → k (eset e dst (some v')) h') : (A.ex (some dst) (.app bytes esz zero (.o a) (.p 1 j))).wp P k e h := by
  obtain ⟨g1, ru, rfl, d2, ⟨cs, rfl, ho⟩, g', r, rfl, d, O, H⟩ := H
  have h1 := Ty.len (Ty.own_rep ho)
  rw [rep_cells (Ty.own_rep ho)] at hc
  have h2 : c0.size = 1 * esz := by rw [hsz, Nat.one_mul, ← h1, ← hc]; simp
  refine a_app (l2 := [y]) (cs := cs) (rs := ru) O ha ?_ (by simpa using h1) ⟨ru, Heap.nil, by simp, by simp, by simpa [← h1] using ho, rfl⟩ d d2 rfl hsz hz (by simpa using hb) hl1 fun v' r' d' O' => K _ _ ⟨g', r', rfl, d', O', H⟩
  simp only [AO.src, hp, h2, if_true, hc, List.length_singleton]
/-- appending the elements of a list that is only read -/
theorem HS.appL [Flat α] (H : HS g (ow v l :: Γ) h) {bytes esz : Nat} {zero : List Value} {a x : O} {dst : Nat} (ha : a.get e = some v) (hx : x.get e = some u) (hr : Rep h u l2) (hsz : esz = Ty.sz α) (hz : zero.length = Ty.sz α)
    (hb : (l.length + l2.length) * bytes ≤ 140737488355328) (hn : l.length + l2.length < 2 ^ 62)
    (K : ∀ v' h', HS g (ow v' (l ++ l2) :: Γ) h' → k (eset e dst (some v')) h') : (A.ex (some dst) (.app bytes esz zero (.o a) (.o x))).wp P k e h := by
  obtain ⟨g', r, rfl, d, O, H⟩ := H
  exact a_appL O ha hx hr d rfl hsz hz hb hn fun v' r' d' O' => K _ _ ⟨g', r', rfl, d', O', H⟩
/-- the same, to a private slice without elements -/
theorem HS.appPL [Flat α] (H : HS g Γ h) {bytes esz : Nat} {zero : List Value} {j : Nat} {x : O} {dst : Nat} {c0 : Array Value} (hp : eget e j = some (.agg c0)) (hx : x.get e = some u) (hr : Rep h u l2) (hsz : esz = Ty.sz α) (hz : zero.length = Ty.sz α) (hb : l2.length * bytes ≤ 140737488355328)
    (K : ∀ v' h', HS g (ow v' l2 :: Γ) h' → k (eset e dst (some v')) h') : (A.ex (some dst) (.app bytes esz zero (.p 0 j) (.o x))).wp P k e h :=
  a_appPL hp hx hr hsz hz hb fun v' r' d' O' => K _ _ ⟨h, r', rfl, d', O', H⟩
/-- the same, with elements out of a private slice -/
theorem HS.nil_ow (H : HS g Γ h) : HS g (ow (.slice none 0 0) ([] : List α) :: Γ) h := ⟨h, Heap.nil, by simp, by simp, Own_nils, H⟩

/-- a slice that is written out -/
theorem HS.bls [Flat α] (H : HS g Γ h) (l2 : List α) {esz len : Nat} {zero : List Value} {parts : List (Nat × Nat × O)} {dst : Nat} (hf : fillP e (reps len zero) parts = some (encL l2)) (hn : len = l2.length) (hok : ∀ x ∈ l2, Flat.ok x) (hl : len < 4611686018427387904)
    (K : ∀ v' h', HS g (ow v' l2 :: Γ) h' → k (eset e dst (some v')) h') : (A.ex (some dst) (.bls esz len zero parts)).wp P k e h := by
  subst hn
  refine ⟨_, hf, fun b el hb => Fgt.keep ?_⟩
  rw [set_new hb]
  refine K _ _ ⟨h, _, rfl, Dj_one.2 hb, Own_list.2 (.inr ⟨b, 0, l2.length, encL l2, el, Heap.nil, rfl, ⟨Nat.le_refl _, hl⟩, ?_, by simp, rfl, by simpa using ownL_enc hok⟩), H⟩
  rw [encL_len hok]; omega
end

section
variable {P : Program} {k : Env → Heap → Prop} {e : Env} {g h : Heap} {Γ : List HP}
/- boxes -/
theorem HS.alloc (H : HS g Γ h) {x : O} {dst : Nat} {u : Value} (hx : x.get e = some u) (K : ∀ b h', HS g (bx b u.cells.toList :: Γ) h' → k (eset e dst (some (.pointer (some ⟨b, 0, none⟩)))) h') : (A.ex (some dst) (.alloc x)).wp P k e h := by
  refine ⟨u, hx, fun b el hb => Fgt.keep ?_⟩
  rw [set_new hb]
  exact K _ _ ⟨h, _, rfl, Dj_one.2 hb, ⟨el, rfl⟩, H⟩
theorem HS.bxld {b : Nat} {c : List Value} (H : HS g (bx b c :: Γ) h) {o : Nat} {u : Value} (ho : c[o]? = some u) : hload h (some (.pointer (some ⟨b, o, none⟩))) none = some u := by
  obtain ⟨g', r, rfl, d, ⟨el, rfl⟩, H⟩ := H
  refine hload_le (le_add' d) ?_
  simp [hload, hcell, Heap.one, ho]
theorem HS.bxld0 {b : Nat} {u : Value} (H : HS g (bx b [u] :: Γ) h) : hload h (some (.pointer (some ⟨b, 0, none⟩))) none = some u := H.bxld rfl
theorem HS.bxlds {b : Nat} {c : List Value} (H : HS g (bx b c :: Γ) h) {o n : Nat} (ho : o + n ≤ c.length) : hload h (some (.pointer (some ⟨b, o, none⟩))) (some n) = some (.agg ((c.drop o).take n).toArray) := by
  obtain ⟨g', r, rfl, d, ⟨el, rfl⟩, H⟩ := H
  refine hload_le (le_add' d) ?_
  have hb : (Heap.one b (.cells c.toArray el (0, 0))) b = some (.cells c.toArray el (0, 0)) := by simp [Heap.one]
  simp only [hload]
  rw [hcells_mk hb (by simpa using ho)]
  rfl
theorem HS.bxst {b : Nat} {c : List Value} (H : HS g (bx b c :: Γ) h) {o sz : Nat} {a x : O} {u : Value} (hp : a.get e = some (.pointer (some ⟨b, o, none⟩))) (hx : x.get e = some u) (hu : u.cells.size = sz) (hu1 : allOne u.cells.toList = true) (ho : o + sz ≤ c.length)
    (K : ∀ h', HS g (bx b (setC c o u.cells.toList) :: Γ) h' → k e h') : (A.ex none (.store sz a x)).wp P k e h := by
  obtain ⟨g', r, rfl, d, ⟨el, rfl⟩, H⟩ := H
  have hn := Dj_one.1 d
  refine ⟨b, o, u, g'.add (Heap.one b (.cells (setC c o u.cells.toList).toArray el (0, 0))), hp, hx, hu, ?_, Fgt.keep (K _ ⟨g', _, rfl, Dj_one.2 hn, ⟨el, rfl⟩, H⟩)⟩
  have hb : (g'.add (Heap.one b (.cells c.toArray el (0, 0)))) b = some (.cells c.toArray el (0, 0)) := by simp [Heap.add, Heap.one, hn]
  unfold hstore
  rw [hb]
  simp only
  rw [if_pos ⟨trivial, by simpa [hu] using ho, by rw [allOne_eq]; exact hu1⟩, set_one hn]
end

end Go.Proofs.Ytonjglbachhdcaa

/-
  The numbers of the functions.
-/
namespace Go.Proofs.Ytonjglbachhdcaa
open Go
set_option linter.all false
set_option linter.defProp false
set_option maxRecDepth 1000000

abbrev fn_main_main : Nat := 0
abbrev fn_gosem_cut : Nat := 1
abbrev fn_gosem_cut_init : Nat := 2
abbrev fn_laws_FnStepsCommute : Nat := 3
abbrev fn_laws_FnDeadRemoved : Nat := 4
abbrev fn_laws_FnProjectState : Nat := 5
abbrev fn_laws_FnProjectStep : Nat := 6
abbrev fn_laws_FnSliceStates : Nat := 7
abbrev fn_spec_DrawEnabledSteps : Nat := 8
abbrev fn_impl_EnabledSteps : Nat := 9
abbrev fn_spec_EnabledSteps : Nat := 10
abbrev fn_laws_wpIndependent : Nat := 11
abbrev fn_impl_ApplyStep : Nat := 12
abbrev fn_impl_StateSame : Nat := 13
abbrev fn_spec_DrawDeadEdges : Nat := 14
abbrev fn_impl_DeadEdges : Nat := 15
abbrev fn_spec_DeadEdges : Nat := 16
abbrev fn_laws_wpBools : Nat := 17
abbrev fn_impl_BuildGraph : Nat := 18
abbrev fn_impl_GraphSame : Nat := 19
abbrev fn_spec_DrawProjectState : Nat := 20
abbrev fn_impl_ProjectState : Nat := 21
abbrev fn_spec_ProjectState : Nat := 22
abbrev fn_impl_LabelState : Nat := 23
abbrev fn_laws_wpInts : Nat := 24
abbrev fn_impl_SliceSystem : Nat := 25
abbrev fn_spec_DrawSliceSystem : Nat := 26
abbrev fn_spec_SliceSystem : Nat := 27
abbrev fn_impl_SystemSame : Nat := 28
abbrev fn_laws_wpState : Nat := 29
abbrev fn_spec_DrawStateValid : Nat := 30
abbrev fn_impl_StateValid : Nat := 31
abbrev fn_impl_System_enabled : Nat := 32
abbrev fn_spec_StateValid : Nat := 33
abbrev fn_spec_l3Steps : Nat := 34
abbrev fn_laws_wpOccurs : Nat := 35
abbrev fn_slices_Contains_S_impl_Step_impl_Step : Nat := 36
abbrev fn_impl_System_after : Nat := 37
abbrev fn_slices_Equal_S_int_int : Nat := 38
abbrev fn_spec_l16Open : Nat := 39
abbrev fn_spec_l2Mutate : Nat := 40
abbrev fn_spec_l2System : Nat := 41
abbrev fn_spec_l16Rd_num : Nat := 42
abbrev fn_impl_in : Nat := 43
abbrev fn_spec_BuildGraph : Nat := 44
abbrev fn_impl_SystemValid : Nat := 45
abbrev fn_impl_System_build : Nat := 46
abbrev fn_slices_EqualFunc_S_impl_State_S_impl_State_impl_State_impl_State : Nat := 47
abbrev fn_slices_EqualFunc_S_S_int_S_S_int_S_int_S_int : Nat := 48
abbrev fn_spec_l14Labels : Nat := 49
abbrev fn_spec_l14System : Nat := 50
abbrev fn_spec_l3Mutate : Nat := 51
abbrev fn_spec_l3State : Nat := 52
abbrev fn_impl_RelevantVars : Nat := 53
abbrev fn_impl_System_has : Nat := 54
abbrev fn_impl_State_copyOf : Nat := 55
abbrev fn_spec_RelevantVars : Nat := 56
abbrev fn_impl_LabelsValid : Nat := 57
abbrev fn_impl_valsOk : Nat := 58
abbrev fn_impl_letter : Nat := 59
abbrev fn_impl_System_copyOf : Nat := 60
abbrev fn_spec_DrawRelevantVars : Nat := 61
abbrev fn_spec_l2Copy : Nat := 62
abbrev fn_slices_EqualFunc_S_impl_Process_S_impl_Process_impl_Process_impl_Process : Nat := 63
abbrev fn_impl_SystemSame_1 : Nat := 64
abbrev fn_slices_EqualFunc_S_impl_Edge_S_impl_Edge_impl_Edge_impl_Edge : Nat := 65
abbrev fn_impl_Edge_same : Nat := 66
abbrev fn_impl_System_ready : Nat := 67
abbrev fn_slices_Clip_S_impl_Step_impl_Step : Nat := 68
abbrev fn_spec_SystemValid : Nat := 69
abbrev fn_spec_l1Vals : Nat := 70
abbrev fn_spec_l3Ready : Nat := 71
abbrev fn_spec_l3Partners : Nat := 72
abbrev fn_impl_ExprVars : Nat := 73
abbrev fn_slices_Index_S_impl_Step_impl_Step : Nat := 74
abbrev fn_impl_State_take : Nat := 75
abbrev fn_spec_l16Rd_pick : Nat := 76
abbrev fn_spec_l1Mutate : Nat := 77
abbrev fn_spec_l1Expr : Nat := 78
abbrev fn_spec_l2DrawEdge : Nat := 79
abbrev fn_spec_InitialState : Nat := 80
abbrev fn_spec_l3Apply : Nat := 81
abbrev fn_spec_l4Find : Nat := 82
abbrev fn_spec_l4In : Nat := 83
abbrev fn_slices_ContainsFunc_S_impl_Edge_impl_Edge : Nat := 84
abbrev fn_impl_SystemValid_1 : Nat := 85
abbrev fn_impl_EdgeValid : Nat := 86
abbrev fn_impl_System_initial : Nat := 87
abbrev fn_slices_IndexFunc_S_impl_State_impl_State : Nat := 88
abbrev fn_impl_System_build_1 : Nat := 89
abbrev fn_slices_Contains_S_int_int : Nat := 90
abbrev fn_slices_Clip_S_int_int : Nat := 91
abbrev fn_slices_Clip_S_impl_State_impl_State : Nat := 92
abbrev fn_slices_Clip_S_S_int_S_int : Nat := 93
abbrev fn_spec_l8Labels : Nat := 94
abbrev fn_impl_System_relevant : Nat := 95
abbrev fn_impl_clone_int : Nat := 96
abbrev fn_spec_LabelsValid : Nat := 97
abbrev fn_spec_l1Mark : Nat := 98
abbrev fn_slices_ContainsFunc_S_impl_Expr_impl_Expr : Nat := 99
abbrev fn_impl_LabelsValid_1 : Nat := 100
abbrev fn_impl_ExprValid : Nat := 101
abbrev fn_slices_ContainsFunc_S_int_int : Nat := 102
abbrev fn_impl_valsOk_1 : Nat := 103
abbrev fn_impl_Expr_eval : Nat := 104
abbrev fn_impl_clone_impl_Process : Nat := 105
abbrev fn_impl_clone_impl_Edge : Nat := 106
abbrev fn_impl_Expr_copyOf : Nat := 107
abbrev fn_spec_l1Subst : Nat := 108
abbrev fn_impl_ExprSame : Nat := 109
abbrev fn_spec_l2Process : Nat := 110
abbrev fn_spec_l1Eval : Nat := 111
abbrev fn_impl_Expr_vars : Nat := 112
abbrev fn_spec_l1Random : Nat := 113
abbrev fn_spec_ExprValid : Nat := 114
abbrev fn_spec_l2Guard : Nat := 115
abbrev fn_spec_l3Take : Nat := 116
abbrev fn_spec_StateSame : Nat := 117
abbrev fn_slices_IndexFunc_S_impl_Edge_impl_Edge : Nat := 118
abbrev fn_slices_Index_S_int_int : Nat := 119
abbrev fn_slices_Clone_S_int_int : Nat := 120
abbrev fn_slices_IndexFunc_S_impl_Expr_impl_Expr : Nat := 121
abbrev fn_impl_ExprNodes : Nat := 122
abbrev fn_slices_IndexFunc_S_int_int : Nat := 123
abbrev fn_impl_truth : Nat := 124
abbrev fn_slices_Clip_S_impl_Process_impl_Process : Nat := 125
abbrev fn_slices_Clone_S_impl_Process_impl_Process : Nat := 126
abbrev fn_slices_Clip_S_impl_Edge_impl_Edge : Nat := 127
abbrev fn_slices_Clone_S_impl_Edge_impl_Edge : Nat := 128
abbrev fn_impl_clone_impl_Expr : Nat := 129
abbrev fn_slices_EqualFunc_S_impl_Expr_S_impl_Expr_impl_Expr_impl_Expr : Nat := 130
abbrev fn_spec_EdgeValid : Nat := 131
abbrev fn_spec_l1Bool : Nat := 132
abbrev fn_spec_l1Arity : Nat := 133
abbrev fn_spec_l1Shape : Nat := 134
abbrev fn_spec_l1Count : Nat := 135
abbrev fn_spec_l2Ints : Nat := 136
abbrev fn_impl_Expr_walk : Nat := 137
abbrev fn_slices_Clip_S_impl_Expr_impl_Expr : Nat := 138
abbrev fn_slices_Clone_S_impl_Expr_impl_Expr : Nat := 139
abbrev fn_spec_l2None : Nat := 140
abbrev fn_impl_Expr_walk_1 : Nat := 141
abbrev fn_runtime_boundsError_Error : Nat := 142
abbrev fn_runtime_boundsError_RuntimeError : Nat := 143
abbrev fn_runtime_errorString_Error : Nat := 144
abbrev fn_runtime_errorString_RuntimeError : Nat := 145
abbrev fn_runtime_plainError_Error : Nat := 146
abbrev fn_runtime_plainError_RuntimeError : Nat := 147
abbrev fn_runtime_errorAddressString_Error : Nat := 148
abbrev fn_runtime_errorAddressString_RuntimeError : Nat := 149
abbrev fn_runtime_TypeAssertionError_Error : Nat := 150
abbrev fn_runtime_TypeAssertionError_RuntimeError : Nat := 151
abbrev fn_runtime_PanicNilError_Error : Nat := 152
abbrev fn_runtime_PanicNilError_RuntimeError : Nat := 153
abbrev fn_internal_abi_Type_Align : Nat := 154
abbrev fn_internal_runtime_maps_unhashableTypeError_Error : Nat := 155
abbrev fn_internal_runtime_maps_unhashableTypeError_RuntimeError : Nat := 156
abbrev fn_impl_Expr_text : Nat := 157
abbrev fn_impl_Process_reach : Nat := 158
abbrev fn_impl_Graph_every : Nat := 159
abbrev fn_spec_l16Rd_word : Nat := 160
abbrev fn_internal_abi_Kind_String : Nat := 161

end Go.Proofs.Ytonjglbachhdcaa

/-
  Bodies of functions in the small language, as a program printed them, and that each is what the translation gives.
-/
namespace Go.Proofs.Ytonjglbachhdcaa
open Go
set_option linter.all false
set_option linter.defProp false
set_option maxRecDepth 1000000

def H_impl_EdgeValid : Hint := ⟨[(0, false), (1, false), (2, true), (4, false)], []⟩
def K86_1 : Pl := .st (.act none (.px (some 55) (.pick (.v 51) (.v 54) (.c (.bool false))))) <|
    .st (.act none (.px (some 3) (.mv (.v 55)))) .done
@[simp] def W86_1 := @Pl.wpe _ _ K86_1.eq_1
def K86_2 : Pl := .st (.act (some (.v 39, false)) (.px (some 48) (.pick (.v 43) (.v 47) (.c (.bool false))))) <|
    .st (.act (some (.v 30, true)) (.px (some 49) (.pick (.v 39) (.c (.bool true)) (.v 48)))) <|
    .st (.act none (.px (some 50) (.pick (.v 30) (.v 49) (.c (.bool false))))) <|
    .st (.act none (.px (some 51) (.mv (.v 50)))) <|
    .st (.act (some (.v 51, true)) (.als 52 none 2)) <|
    .st (.act (some (.v 51, true)) (.pget (some 53) (some 52) 2 9 none)) <|
    .st (.act (some (.v 51, true)) (.ex (some 54) (.call fn_impl_in [.v 53, .c (.int .i64 (-2)), .c (.int .i64 2)]))) K86_1
@[simp] def W86_2 := @Pl.wpe _ _ K86_2.eq_1
def K86_3 : Pl := .st (.act (some (.v 30, true)) (.px (some 38) (.pick (.v 34) (.v 37) (.c (.bool false))))) <|
    .st (.act (some (.v 30, true)) (.px (some 39) (.mv (.v 38)))) <|
    .st (.act (some (.v 39, false)) (.als 40 none 2)) <|
    .st (.act (some (.v 39, false)) (.pget (some 41) (some 40) 2 5 none)) <|
    .st (.act (some (.v 39, false)) (.px (some 42) (.bin .lss (.v 41) (.c (.int .i64 0))))) <|
    .st (.act (some (.v 39, false)) (.px (some 43) (.mv (.v 42)))) <|
    .st (.act (some (.v 43, true)) (.als 44 none 2)) <|
    .st (.act (some (.v 43, true)) (.pget (some 45) (some 44) 2 6 (some 3))) <|
    .st (.act (some (.v 43, true)) (.px (some 46) (.build [.int .i64 0, .int .i64 0, .slice none 0 0] []))) <|
    .st (.act (some (.v 43, true)) (.ex (some 47) (.call fn_impl_ExprSame [.v 45, .v 46]))) K86_2
@[simp] def W86_3 := @Pl.wpe _ _ K86_3.eq_1
def K86_4 : Pl := .st (.act none (.px (some 29) (.pick (.v 25) (.v 28) (.c (.bool false))))) <|
    .st (.act none (.px (some 30) (.mv (.v 29)))) <|
    .st (.act (some (.v 30, true)) (.als 31 none 2)) <|
    .st (.act (some (.v 30, true)) (.pget (some 32) (some 31) 2 5 none)) <|
    .st (.act (some (.v 30, true)) (.px (some 33) (.bin .geq (.v 32) (.c (.int .i64 0))))) <|
    .st (.act (some (.v 30, true)) (.px (some 34) (.mv (.v 33)))) <|
    .st (.act (some (.v 34, true)) (.als 35 none 2)) <|
    .st (.act (some (.v 34, true)) (.pget (some 36) (some 35) 2 6 (some 3))) <|
    .st (.act (some (.v 34, true)) (.ex (some 37) (.call fn_impl_ExprValid [.v 36]))) K86_3
@[simp] def W86_4 := @Pl.wpe _ _ K86_4.eq_1
def K86_5 : Pl := .st (.act none (.px (some 24) (.pick (.v 20) (.v 23) (.c (.bool false))))) <|
    .st (.act none (.px (some 25) (.mv (.v 24)))) <|
    .st (.act (some (.v 25, true)) (.als 26 none 2)) <|
    .st (.act (some (.v 25, true)) (.pget (some 27) (some 26) 2 5 none)) <|
    .st (.act (some (.v 25, true)) (.ex (some 28) (.call fn_impl_in [.v 27, .c (.int .i64 (-1)), .c (.int .i64 2)]))) K86_4
@[simp] def W86_5 := @Pl.wpe _ _ K86_5.eq_1
def K86_6 : Pl := .st (.act none (.px (some 19) (.pick (.v 13) (.v 18) (.c (.bool false))))) <|
    .st (.act none (.px (some 20) (.mv (.v 19)))) <|
    .st (.act (some (.v 20, true)) (.als 21 none 2)) <|
    .st (.act (some (.v 20, true)) (.pget (some 22) (some 21) 2 2 (some 3))) <|
    .st (.act (some (.v 20, true)) (.ex (some 23) (.call fn_impl_ExprValid [.v 22]))) K86_5
@[simp] def W86_6 := @Pl.wpe _ _ K86_6.eq_1
def K86_7 : Pl := .st (.act none (.px (some 12) (.pick (.v 6) (.v 11) (.c (.bool false))))) <|
    .st (.act none (.px (some 13) (.mv (.v 12)))) <|
    .st (.act (some (.v 13, true)) (.als 14 none 2)) <|
    .st (.act (some (.v 13, true)) (.pget (some 15) (some 14) 2 1 none)) <|
    .st (.act (some (.v 13, true)) (.px (some 16) (.mv (.v 1)))) <|
    .st (.act (some (.v 13, true)) (.px (some 17) (.bin .sub (.v 16) (.c (.int .i64 1))))) <|
    .st (.act (some (.v 13, true)) (.ex (some 18) (.call fn_impl_in [.v 15, .c (.int .i64 0), .v 17]))) K86_6
@[simp] def W86_7 := @Pl.wpe _ _ K86_7.eq_1
def K86_8 : Pl := .st (.act none (.px (some 6) (.mv (.v 5)))) <|
    .st (.act (some (.v 6, true)) (.als 7 none 2)) <|
    .st (.act (some (.v 6, true)) (.pget (some 8) (some 7) 2 0 none)) <|
    .st (.act (some (.v 6, true)) (.px (some 9) (.mv (.v 1)))) <|
    .st (.act (some (.v 6, true)) (.px (some 10) (.bin .sub (.v 9) (.c (.int .i64 1))))) <|
    .st (.act (some (.v 6, true)) (.ex (some 11) (.call fn_impl_in [.v 8, .c (.int .i64 0), .v 10]))) K86_7
@[simp] def W86_8 := @Pl.wpe _ _ K86_8.eq_1
def K86_9 : C := .seq (.pl <| .st (.ext 4 52) <|
    .st (.act none (.px (some 4) (.mv (.v 1)))) <|
    .st (.act none (.ex (some 5) (.call fn_impl_in [.v 4, .c (.int .i64 1), .c (.int .i64 4)]))) K86_8) (.ret)
@[simp] def W86_9 := @C.wpe _ _ K86_9.eq_1
def B_impl_EdgeValid : C := .seq (.pl <| .st (.ext 4 0) <|
    .st (.act none (.pnew 2 (.v 0) [])) <|
    .st (.act none (.px (some 3) (.mv (.c (.bool false))))) .done) K86_9
@[simp] def WB_impl_EdgeValid := @C.wpe _ _ B_impl_EdgeValid.eq_1
def R_impl_EdgeValid : FIR := ⟨B_impl_EdgeValid, 4, [(3, none)]⟩
theorem IR_impl_EdgeValid : cfun Try.prog H_impl_EdgeValid Try.f86 = some R_impl_EdgeValid := by kernel_rfl
theorem EN_impl_EdgeValid {args : List Value} {h : Heap} {k : Value → Heap → Prop} (hargs : args.length = 2) (hw : B_impl_EdgeValid.wp Try.prog (retQ [(3, none)] k) (env0 args 4) h) : CallE Try.prog fn_impl_EdgeValid args h k := enter Try.func86 rfl IR_impl_EdgeValid hargs hw

def H_impl_ExprNodes : Hint := ⟨[(0, false), (1, true), (2, false), (3, false)], []⟩
def K122_1 : C := .seq (.pl <| .st (.ext 4 1) <|
    .st (.act none (.ld (some 4) (.v 3) none)) <|
    .st (.act none (.px (some 2) (.mv (.v 4)))) .done) (.ret)
@[simp] def W122_1 := @C.wpe _ _ K122_1.eq_1
def K122_2 : C := .seq (.pl <| .st (.ext 4 0) <|
    .st (.act none (.px (some 2) (.mv (.c (.int .i64 0))))) .done) (.ret)
@[simp] def W122_2 := @C.wpe _ _ K122_2.eq_1
def K122_3 : C := .cond 4 (.v 6) K122_2 (.skip)
@[simp] def W122_3 := @C.wpe _ _ K122_3.eq_1
def K122_4 : Pl := .st (.act none (.px (some 6) (.un .not (.v 5)))) .done
@[simp] def W122_4 := @Pl.wpe _ _ K122_4.eq_1
def K122_5 : C := .seq (.seq (.pl <| .st (.ext 4 3) <|
    .st (.act none (.pget (some 4) none 1 0 (some 3))) <|
    .st (.act none (.ex (some 5) (.call fn_impl_Expr_walk [.v 4, .c (.int .i64 1), .v 3]))) K122_4) K122_3) K122_1
@[simp] def W122_5 := @C.wpe _ _ K122_5.eq_1
def K122_6 : Pl := .st (.act none (.ex none (.store 1 (.v 3) (.c (.int .i64 0))))) .done
@[simp] def W122_6 := @Pl.wpe _ _ K122_6.eq_1
def K122_7 : C := .seq (.pl <| .st (.ext 4 0) <|
    .st (.act none (.ex (some 3) (.alloc (.c (.int .i64 0))))) K122_6) K122_5
@[simp] def W122_7 := @C.wpe _ _ K122_7.eq_1
def B_impl_ExprNodes : C := .seq (.pl <| .st (.ext 4 0) <|
    .st (.act none (.pnew 1 (.v 0) [])) <|
    .st (.act none (.px (some 2) (.mv (.c (.int .i64 0))))) .done) K122_7
@[simp] def WB_impl_ExprNodes := @C.wpe _ _ B_impl_ExprNodes.eq_1
def R_impl_ExprNodes : FIR := ⟨B_impl_ExprNodes, 4, [(2, none)]⟩
theorem IR_impl_ExprNodes : cfun Try.prog H_impl_ExprNodes Try.f122 = some R_impl_ExprNodes := by kernel_rfl
theorem EN_impl_ExprNodes {args : List Value} {h : Heap} {k : Value → Heap → Prop} (hargs : args.length = 1) (hw : B_impl_ExprNodes.wp Try.prog (retQ [(2, none)] k) (env0 args 4) h) : CallE Try.prog fn_impl_ExprNodes args h k := enter Try.func122 rfl IR_impl_ExprNodes hargs hw

def H_impl_ExprSame : Hint := ⟨[(0, false), (1, false), (2, true), (3, true), (4, false)], []⟩
def K109_1 : Pl := .st (.act none (.px (some 23) (.pick (.v 17) (.v 22) (.c (.bool false))))) <|
    .st (.act none (.px (some 4) (.mv (.v 23)))) .done
@[simp] def W109_1 := @Pl.wpe _ _ K109_1.eq_1
def K109_2 : C := .seq (.pl <| .st (.ext 5 19) <|
    .st (.act none (.als 5 none 2)) <|
    .st (.act none (.pget (some 6) (some 5) 2 0 none)) <|
    .st (.act none (.als 7 none 3)) <|
    .st (.act none (.pget (some 8) (some 7) 3 0 none)) <|
    .st (.act none (.px (some 9) (.bin .eql (.v 6) (.v 8)))) <|
    .st (.act none (.px (some 10) (.mv (.v 9)))) <|
    .st (.act (some (.v 10, true)) (.als 11 none 2)) <|
    .st (.act (some (.v 10, true)) (.pget (some 12) (some 11) 2 1 none)) <|
    .st (.act (some (.v 10, true)) (.als 13 none 3)) <|
    .st (.act (some (.v 10, true)) (.pget (some 14) (some 13) 3 1 none)) <|
    .st (.act (some (.v 10, true)) (.px (some 15) (.bin .eql (.v 12) (.v 14)))) <|
    .st (.act none (.px (some 16) (.pick (.v 10) (.v 15) (.c (.bool false))))) <|
    .st (.act none (.px (some 17) (.mv (.v 16)))) <|
    .st (.act (some (.v 17, true)) (.als 18 none 2)) <|
    .st (.act (some (.v 17, true)) (.pget (some 19) (some 18) 2 2 none)) <|
    .st (.act (some (.v 17, true)) (.als 20 none 3)) <|
    .st (.act (some (.v 17, true)) (.pget (some 21) (some 20) 3 2 none)) <|
    .st (.act (some (.v 17, true)) (.ex (some 22) (.call fn_slices_EqualFunc_S_impl_Expr_S_impl_Expr_impl_Expr_impl_Expr [.v 19, .v 21, .c (.func (.func 109) #[] #[])]))) K109_1) (.ret)
@[simp] def W109_2 := @C.wpe _ _ K109_2.eq_1
def B_impl_ExprSame : C := .seq (.pl <| .st (.ext 5 0) <|
    .st (.act none (.pnew 2 (.v 0) [])) <|
    .st (.act none (.pnew 3 (.v 1) [])) <|
    .st (.act none (.px (some 4) (.mv (.c (.bool false))))) .done) K109_2
@[simp] def WB_impl_ExprSame := @C.wpe _ _ B_impl_ExprSame.eq_1
def R_impl_ExprSame : FIR := ⟨B_impl_ExprSame, 5, [(4, none)]⟩
theorem IR_impl_ExprSame : cfun Try.prog H_impl_ExprSame Try.f109 = some R_impl_ExprSame := by kernel_rfl
theorem EN_impl_ExprSame {args : List Value} {h : Heap} {k : Value → Heap → Prop} (hargs : args.length = 2) (hw : B_impl_ExprSame.wp Try.prog (retQ [(4, none)] k) (env0 args 5) h) : CallE Try.prog fn_impl_ExprSame args h k := enter Try.func109 rfl IR_impl_ExprSame hargs hw

def H_impl_ExprValid : Hint := ⟨[(0, false), (1, true), (2, false)], []⟩
def K101_1 : Pl := .st (.act none (.px (some 5) (.bin .gtr (.v 4) (.c (.int .i64 0))))) <|
    .st (.act none (.px (some 2) (.mv (.v 5)))) .done
@[simp] def W101_1 := @Pl.wpe _ _ K101_1.eq_1
def K101_2 : C := .seq (.pl <| .st (.ext 3 3) <|
    .st (.act none (.pget (some 3) none 1 0 (some 3))) <|
    .st (.act none (.ex (some 4) (.call fn_impl_ExprNodes [.v 3]))) K101_1) (.ret)
@[simp] def W101_2 := @C.wpe _ _ K101_2.eq_1
def B_impl_ExprValid : C := .seq (.pl <| .st (.ext 3 0) <|
    .st (.act none (.pnew 1 (.v 0) [])) <|
    .st (.act none (.px (some 2) (.mv (.c (.bool false))))) .done) K101_2
@[simp] def WB_impl_ExprValid := @C.wpe _ _ B_impl_ExprValid.eq_1
def R_impl_ExprValid : FIR := ⟨B_impl_ExprValid, 3, [(2, none)]⟩
theorem IR_impl_ExprValid : cfun Try.prog H_impl_ExprValid Try.f101 = some R_impl_ExprValid := by kernel_rfl
theorem EN_impl_ExprValid {args : List Value} {h : Heap} {k : Value → Heap → Prop} (hargs : args.length = 1) (hw : B_impl_ExprValid.wp Try.prog (retQ [(2, none)] k) (env0 args 3) h) : CallE Try.prog fn_impl_ExprValid args h k := enter Try.func101 rfl IR_impl_ExprValid hargs hw

def H_impl_Expr_eval : Hint := ⟨[(0, false), (1, false), (2, true), (4, false), (5, false), (6, false), (8, false), (39, false)], []⟩
def K104_1 : C := .seq (.pl <| .st (.ext 8 6) <|
    .st (.act none (.px (some 8) (.mv (.v 4)))) <|
    .st (.act none (.px (some 9) (.mv (.v 5)))) <|
    .st (.act none (.px (some 10) (.bin .sub (.v 8) (.v 9)))) <|
    .st (.act none (.px (some 11) (.bin .add (.v 10) (.c (.int .i64 3))))) <|
    .st (.act none (.px (some 12) (.bin .add (.v 11) (.c (.int .i64 1))))) <|
    .st (.act none (.px (some 13) (.bin .rem (.v 12) (.c (.int .i64 4))))) <|
    .st (.act none (.px (some 3) (.mv (.v 13)))) .done) (.ret)
@[simp] def W104_1 := @C.wpe _ _ K104_1.eq_1
def K104_2 : Pl := .st (.act none (.px (some 3) (.mv (.v 14)))) .done
@[simp] def W104_2 := @Pl.wpe _ _ K104_2.eq_1
def K104_3 : C := .seq (.pl <| .st (.ext 8 7) <|
    .st (.act none (.px (some 8) (.mv (.v 4)))) <|
    .st (.act none (.px (some 9) (.bin .neq (.v 8) (.c (.int .i64 0))))) <|
    .st (.act none (.px (some 10) (.mv (.v 9)))) <|
    .st (.act (some (.v 10, true)) (.px (some 11) (.mv (.v 5)))) <|
    .st (.act (some (.v 10, true)) (.px (some 12) (.bin .neq (.v 11) (.c (.int .i64 0))))) <|
    .st (.act none (.px (some 13) (.pick (.v 10) (.v 12) (.c (.bool false))))) <|
    .st (.act none (.ex (some 14) (.call fn_impl_truth [.v 13]))) K104_2) (.ret)
@[simp] def W104_3 := @C.wpe _ _ K104_3.eq_1
def K104_4 : Pl := .st (.act none (.px (some 3) (.mv (.v 14)))) .done
@[simp] def W104_4 := @Pl.wpe _ _ K104_4.eq_1
def K104_5 : C := .seq (.pl <| .st (.ext 8 7) <|
    .st (.act none (.px (some 8) (.mv (.v 4)))) <|
    .st (.act none (.px (some 9) (.bin .neq (.v 8) (.c (.int .i64 0))))) <|
    .st (.act none (.px (some 10) (.mv (.v 9)))) <|
    .st (.act (some (.v 10, false)) (.px (some 11) (.mv (.v 5)))) <|
    .st (.act (some (.v 10, false)) (.px (some 12) (.bin .neq (.v 11) (.c (.int .i64 0))))) <|
    .st (.act none (.px (some 13) (.pick (.v 10) (.c (.bool true)) (.v 12)))) <|
    .st (.act none (.ex (some 14) (.call fn_impl_truth [.v 13]))) K104_4) (.ret)
@[simp] def W104_5 := @C.wpe _ _ K104_5.eq_1
def K104_6 : Pl := .st (.act none (.px (some 3) (.mv (.v 11)))) .done
@[simp] def W104_6 := @Pl.wpe _ _ K104_6.eq_1
def K104_7 : C := .seq (.pl <| .st (.ext 8 4) <|
    .st (.act none (.px (some 8) (.mv (.v 4)))) <|
    .st (.act none (.px (some 9) (.mv (.v 5)))) <|
    .st (.act none (.px (some 10) (.bin .eql (.v 8) (.v 9)))) <|
    .st (.act none (.ex (some 11) (.call fn_impl_truth [.v 10]))) K104_6) (.ret)
@[simp] def W104_7 := @C.wpe _ _ K104_7.eq_1
def K104_8 : Pl := .st (.act none (.px (some 3) (.mv (.v 11)))) .done
@[simp] def W104_8 := @Pl.wpe _ _ K104_8.eq_1
def K104_9 : C := .seq (.pl <| .st (.ext 8 4) <|
    .st (.act none (.px (some 8) (.mv (.v 4)))) <|
    .st (.act none (.px (some 9) (.mv (.v 5)))) <|
    .st (.act none (.px (some 10) (.bin .lss (.v 8) (.v 9)))) <|
    .st (.act none (.ex (some 11) (.call fn_impl_truth [.v 10]))) K104_8) (.ret)
@[simp] def W104_9 := @C.wpe _ _ K104_9.eq_1
def K104_10 : C := .seq (.pl <| .st (.ext 8 4) <|
    .st (.act none (.px (some 8) (.mv (.v 4)))) <|
    .st (.act none (.px (some 9) (.mv (.v 5)))) <|
    .st (.act none (.px (some 10) (.bin .add (.v 8) (.v 9)))) <|
    .st (.act none (.px (some 11) (.bin .rem (.v 10) (.c (.int .i64 4))))) <|
    .st (.act none (.px (some 3) (.mv (.v 11)))) .done) (.ret)
@[simp] def W104_10 := @C.wpe _ _ K104_10.eq_1
def K104_11 : C := .cond 8 (.v 9) K104_10 (.skip)
@[simp] def W104_11 := @C.wpe _ _ K104_11.eq_1
def K104_12 : C := .seq (.pl <| .st (.ext 8 2) <|
    .st (.act none (.px (some 8) (.bin .eql (.v 7) (.c (.int .i64 8))))) <|
    .st (.act none (.px (some 9) (.mv (.v 8)))) .done) K104_11
@[simp] def W104_12 := @C.wpe _ _ K104_12.eq_1
def K104_13 : C := .cond 8 (.v 9) K104_9 K104_12
@[simp] def W104_13 := @C.wpe _ _ K104_13.eq_1
def K104_14 : C := .seq (.pl <| .st (.ext 8 2) <|
    .st (.act none (.px (some 8) (.bin .eql (.v 7) (.c (.int .i64 7))))) <|
    .st (.act none (.px (some 9) (.mv (.v 8)))) .done) K104_13
@[simp] def W104_14 := @C.wpe _ _ K104_14.eq_1
def K104_15 : C := .cond 8 (.v 9) K104_7 K104_14
@[simp] def W104_15 := @C.wpe _ _ K104_15.eq_1
def K104_16 : C := .seq (.pl <| .st (.ext 8 2) <|
    .st (.act none (.px (some 8) (.bin .eql (.v 7) (.c (.int .i64 6))))) <|
    .st (.act none (.px (some 9) (.mv (.v 8)))) .done) K104_15
@[simp] def W104_16 := @C.wpe _ _ K104_16.eq_1
def K104_17 : C := .cond 8 (.v 9) K104_5 K104_16
@[simp] def W104_17 := @C.wpe _ _ K104_17.eq_1
def K104_18 : C := .seq (.pl <| .st (.ext 8 2) <|
    .st (.act none (.px (some 8) (.bin .eql (.v 7) (.c (.int .i64 5))))) <|
    .st (.act none (.px (some 9) (.mv (.v 8)))) .done) K104_17
@[simp] def W104_18 := @C.wpe _ _ K104_18.eq_1
def K104_19 : C := .cond 8 (.v 9) K104_3 K104_18
@[simp] def W104_19 := @C.wpe _ _ K104_19.eq_1
def K104_20 : C := .block 1 (.seq (.pl <| .st (.ext 8 2) <|
    .st (.act none (.px (some 8) (.bin .eql (.v 7) (.c (.int .i64 4))))) <|
    .st (.act none (.px (some 9) (.mv (.v 8)))) .done) K104_19)
@[simp] def W104_20 := @C.wpe _ _ K104_20.eq_1
def K104_21 : C := .seq (.seq (.pl <| .st (.ext 8 1) <|
    .st (.act none (.als 8 none 2)) <|
    .st (.act none (.pget (some 7) (some 8) 2 0 none)) .done) K104_20) K104_1
@[simp] def W104_21 := @C.wpe _ _ K104_21.eq_1
def K104_22 : Pl := .st (.act none (.px (some 5) (.mv (.v 13)))) .done
@[simp] def W104_22 := @Pl.wpe _ _ K104_22.eq_1
def K104_23 : C := .seq (.pl <| .st (.ext 8 6) <|
    .st (.act none (.als 8 none 2)) <|
    .st (.act none (.pget (some 9) (some 8) 2 2 none)) <|
    .st (.act none (.px (some 10) (.ia 3 (.v 9) (.c (.int .i64 1))))) <|
    .st (.act none (.ld (some 11) (.v 10) (some 3))) <|
    .st (.act none (.px (some 12) (.mv (.v 1)))) <|
    .st (.act none (.ex (some 13) (.call fn_impl_Expr_eval [.v 11, .v 12]))) K104_22) K104_21
@[simp] def W104_23 := @C.wpe _ _ K104_23.eq_1
def K104_24 : Pl := .st (.act none (.px (some 3) (.mv (.v 10)))) .done
@[simp] def W104_24 := @Pl.wpe _ _ K104_24.eq_1
def K104_25 : C := .seq (.pl <| .st (.ext 8 3) <|
    .st (.act none (.px (some 8) (.mv (.v 4)))) <|
    .st (.act none (.px (some 9) (.bin .eql (.v 8) (.c (.int .i64 0))))) <|
    .st (.act none (.ex (some 10) (.call fn_impl_truth [.v 9]))) K104_24) (.ret)
@[simp] def W104_25 := @C.wpe _ _ K104_25.eq_1
def K104_26 : C := .cond 8 (.v 10) K104_25 (.skip)
@[simp] def W104_26 := @C.wpe _ _ K104_26.eq_1
def K104_27 : C := .seq (.seq (.pl <| .st (.ext 8 3) <|
    .st (.act none (.als 8 none 2)) <|
    .st (.act none (.pget (some 9) (some 8) 2 0 none)) <|
    .st (.act none (.px (some 10) (.bin .eql (.v 9) (.c (.int .i64 3))))) .done) K104_26) K104_23
@[simp] def W104_27 := @C.wpe _ _ K104_27.eq_1
def K104_28 : Pl := .st (.act none (.px (some 4) (.mv (.v 13)))) .done
@[simp] def W104_28 := @Pl.wpe _ _ K104_28.eq_1
def K104_29 : C := .seq (.pl <| .st (.ext 8 6) <|
    .st (.act none (.als 8 none 2)) <|
    .st (.act none (.pget (some 9) (some 8) 2 2 none)) <|
    .st (.act none (.px (some 10) (.ia 3 (.v 9) (.c (.int .i64 0))))) <|
    .st (.act none (.ld (some 11) (.v 10) (some 3))) <|
    .st (.act none (.px (some 12) (.mv (.v 1)))) <|
    .st (.act none (.ex (some 13) (.call fn_impl_Expr_eval [.v 11, .v 12]))) K104_28) K104_27
@[simp] def W104_29 := @C.wpe _ _ K104_29.eq_1
def K104_30 : C := .seq (.pl <| .st (.ext 8 2) <|
    .st (.act none (.als 8 none 2)) <|
    .st (.act none (.pget (some 9) (some 8) 2 1 none)) <|
    .st (.act none (.px (some 3) (.mv (.v 9)))) .done) (.ret)
@[simp] def W104_30 := @C.wpe _ _ K104_30.eq_1
def K104_31 : C := .seq (.pl <| .st (.ext 8 5) <|
    .st (.act none (.px (some 8) (.mv (.v 1)))) <|
    .st (.act none (.als 9 none 2)) <|
    .st (.act none (.pget (some 10) (some 9) 2 1 none)) <|
    .st (.act none (.px (some 11) (.ia 1 (.v 8) (.v 10)))) <|
    .st (.act none (.ld (some 12) (.v 11) none)) <|
    .st (.act none (.px (some 3) (.mv (.v 12)))) .done) (.ret)
@[simp] def W104_31 := @C.wpe _ _ K104_31.eq_1
def K104_32 : C := .cond 8 (.v 9) K104_31 (.skip)
@[simp] def W104_32 := @C.wpe _ _ K104_32.eq_1
def K104_33 : C := .seq (.pl <| .st (.ext 8 2) <|
    .st (.act none (.px (some 8) (.bin .eql (.v 6) (.c (.int .i64 2))))) <|
    .st (.act none (.px (some 9) (.mv (.v 8)))) .done) K104_32
@[simp] def W104_33 := @C.wpe _ _ K104_33.eq_1
def K104_34 : C := .cond 8 (.v 9) K104_30 K104_33
@[simp] def W104_34 := @C.wpe _ _ K104_34.eq_1
def K104_35 : C := .block 0 (.seq (.pl <| .st (.ext 8 2) <|
    .st (.act none (.px (some 8) (.bin .eql (.v 6) (.c (.int .i64 1))))) <|
    .st (.act none (.px (some 9) (.mv (.v 8)))) .done) K104_34)
@[simp] def W104_35 := @C.wpe _ _ K104_35.eq_1
def K104_36 : C := .seq (.seq (.pl <| .st (.ext 8 1) <|
    .st (.act none (.als 8 none 2)) <|
    .st (.act none (.pget (some 6) (some 8) 2 0 none)) .done) K104_35) K104_29
@[simp] def W104_36 := @C.wpe _ _ K104_36.eq_1
def B_impl_Expr_eval : C := .seq (.pl <| .st (.ext 8 0) <|
    .st (.act none (.pnew 2 (.v 0) [])) <|
    .st (.act none (.px (some 3) (.mv (.c (.int .i64 0))))) .done) K104_36
@[simp] def WB_impl_Expr_eval := @C.wpe _ _ B_impl_Expr_eval.eq_1
def R_impl_Expr_eval : FIR := ⟨B_impl_Expr_eval, 8, [(3, none)]⟩
theorem IR_impl_Expr_eval : cfun Try.prog H_impl_Expr_eval Try.f104 = some R_impl_Expr_eval := by kernel_rfl
theorem EN_impl_Expr_eval {args : List Value} {h : Heap} {k : Value → Heap → Prop} (hargs : args.length = 2) (hw : B_impl_Expr_eval.wp Try.prog (retQ [(3, none)] k) (env0 args 8) h) : CallE Try.prog fn_impl_Expr_eval args h k := enter Try.func104 rfl IR_impl_Expr_eval hargs hw

def H_impl_Expr_walk : Hint := ⟨[(0, false), (1, false), (2, false), (3, true), (4, false), (5, false), (6, false), (7, false), (8, false), (15, false)], []⟩
def K137_1 : Pl := .st (.act none (.px (some 14) (.un .not (.v 13)))) <|
    .st (.act none (.px (some 6) (.mv (.v 14)))) .done
@[simp] def W137_1 := @Pl.wpe _ _ K137_1.eq_1
def K137_2 : C := .seq (.pl <| .st (.ext 10 5) <|
    .st (.act none (.als 10 none 3)) <|
    .st (.act none (.pget (some 11) (some 10) 3 2 none)) <|
    .st (.act none (.px (some 12) (.mkf (.func fn_impl_Expr_walk_1) [] [.v 4, .v 5]))) <|
    .st (.act none (.ex (some 13) (.call fn_slices_ContainsFunc_S_impl_Expr_impl_Expr [.v 11, .v 12]))) K137_1) (.ret)
@[simp] def W137_2 := @C.wpe _ _ K137_2.eq_1
def K137_3 : C := .seq (.pl <| .st (.ext 10 0) <|
    .st (.act none (.px (some 6) (.mv (.c (.bool false))))) .done) (.ret)
@[simp] def W137_3 := @C.wpe _ _ K137_3.eq_1
def K137_4 : C := .cond 10 (.v 37) K137_3 (.skip)
@[simp] def W137_4 := @C.wpe _ _ K137_4.eq_1
def K137_5 : Pl := .st (.act (some (.v 24, false)) (.px (some 29) (.un .not (.v 28)))) <|
    .st (.act none (.px (some 30) (.pick (.v 24) (.c (.bool true)) (.v 29)))) <|
    .st (.act none (.px (some 31) (.mv (.v 30)))) <|
    .st (.act (some (.v 31, false)) (.als 32 none 3)) <|
    .st (.act (some (.v 31, false)) (.pget (some 33) (some 32) 3 2 none)) <|
    .st (.act (some (.v 31, false)) (.px (some 34) (.lenV (.v 33)))) <|
    .st (.act (some (.v 31, false)) (.px (some 35) (.mv (.v 7)))) <|
    .st (.act (some (.v 31, false)) (.px (some 36) (.bin .neq (.v 34) (.v 35)))) <|
    .st (.act none (.px (some 37) (.pick (.v 31) (.c (.bool true)) (.v 36)))) .done
@[simp] def W137_5 := @Pl.wpe _ _ K137_5.eq_1
def K137_6 : Pl := .st (.act (some (.v 18, false)) (.px (some 22) (.un .not (.v 21)))) <|
    .st (.act none (.px (some 23) (.pick (.v 18) (.c (.bool true)) (.v 22)))) <|
    .st (.act none (.px (some 24) (.mv (.v 23)))) <|
    .st (.act (some (.v 24, false)) (.als 25 none 3)) <|
    .st (.act (some (.v 24, false)) (.pget (some 26) (some 25) 3 1 none)) <|
    .st (.act (some (.v 24, false)) (.px (some 27) (.mv (.v 8)))) <|
    .st (.act (some (.v 24, false)) (.ex (some 28) (.call fn_impl_in [.v 26, .c (.int .i64 0), .v 27]))) K137_5
@[simp] def W137_6 := @Pl.wpe _ _ K137_6.eq_1
def K137_7 : C := .seq (.seq (.pl <| .st (.ext 10 28) <|
    .st (.act none (.ld (some 10) (.v 4) none)) <|
    .st (.act none (.px (some 11) (.bin .gtr (.v 10) (.c (.int .i64 6))))) <|
    .st (.act none (.px (some 12) (.mv (.v 11)))) <|
    .st (.act (some (.v 12, false)) (.ld (some 13) (.v 5) none)) <|
    .st (.act (some (.v 12, false)) (.px (some 14) (.nilc (.v 13)))) <|
    .st (.act (some (.v 12, false)) (.ld (some 15) (.v 14) none)) <|
    .st (.act (some (.v 12, false)) (.px (some 16) (.bin .gtr (.v 15) (.c (.int .i64 15))))) <|
    .st (.act none (.px (some 17) (.pick (.v 12) (.c (.bool true)) (.v 16)))) <|
    .st (.act none (.px (some 18) (.mv (.v 17)))) <|
    .st (.act (some (.v 18, false)) (.als 19 none 3)) <|
    .st (.act (some (.v 18, false)) (.pget (some 20) (some 19) 3 0 none)) <|
    .st (.act (some (.v 18, false)) (.ex (some 21) (.call fn_impl_in [.v 20, .c (.int .i64 1), .c (.int .i64 9)]))) K137_6) K137_4) K137_2
@[simp] def W137_7 := @C.wpe _ _ K137_7.eq_1
def K137_8 : C := .pl <| .st (.ext 10 0) <|
    .st (.act none (.px (some 7) (.mv (.c (.int .i64 0))))) <|
    .st (.act none (.px (some 8) (.mv (.c (.int .i64 3))))) .done
@[simp] def W137_8 := @C.wpe _ _ K137_8.eq_1
def K137_9 : C := .pl <| .st (.ext 10 0) <|
    .st (.act none (.px (some 7) (.mv (.c (.int .i64 0))))) <|
    .st (.act none (.px (some 8) (.mv (.c (.int .i64 2))))) .done
@[simp] def W137_9 := @C.wpe _ _ K137_9.eq_1
def K137_10 : C := .pl <| .st (.ext 10 0) <|
    .st (.act none (.px (some 7) (.mv (.c (.int .i64 1))))) .done
@[simp] def W137_10 := @C.wpe _ _ K137_10.eq_1
def K137_11 : C := .cond 10 (.v 11) K137_10 (.skip)
@[simp] def W137_11 := @C.wpe _ _ K137_11.eq_1
def K137_12 : C := .seq (.pl <| .st (.ext 10 2) <|
    .st (.act none (.px (some 10) (.bin .eql (.v 9) (.c (.int .i64 3))))) <|
    .st (.act none (.px (some 11) (.mv (.v 10)))) .done) K137_11
@[simp] def W137_12 := @C.wpe _ _ K137_12.eq_1
def K137_13 : C := .cond 10 (.v 11) K137_9 K137_12
@[simp] def W137_13 := @C.wpe _ _ K137_13.eq_1
def K137_14 : C := .seq (.pl <| .st (.ext 10 2) <|
    .st (.act none (.px (some 10) (.bin .eql (.v 9) (.c (.int .i64 2))))) <|
    .st (.act none (.px (some 11) (.mv (.v 10)))) .done) K137_13
@[simp] def W137_14 := @C.wpe _ _ K137_14.eq_1
def K137_15 : C := .cond 10 (.v 11) K137_8 K137_14
@[simp] def W137_15 := @C.wpe _ _ K137_15.eq_1
def K137_16 : C := .block 0 (.seq (.pl <| .st (.ext 10 2) <|
    .st (.act none (.px (some 10) (.bin .eql (.v 9) (.c (.int .i64 1))))) <|
    .st (.act none (.px (some 11) (.mv (.v 10)))) .done) K137_15)
@[simp] def W137_16 := @C.wpe _ _ K137_16.eq_1
def K137_17 : C := .seq (.seq (.pl <| .st (.ext 10 1) <|
    .st (.act none (.als 10 none 3)) <|
    .st (.act none (.pget (some 9) (some 10) 3 0 none)) .done) K137_16) K137_7
@[simp] def W137_17 := @C.wpe _ _ K137_17.eq_1
def K137_18 : C := .seq (.pl <| .st (.ext 10 0) <|
    .st (.act none (.px (some 7) (.mv (.c (.int .i64 2))))) <|
    .st (.act none (.px (some 8) (.mv (.c (.int .i64 0))))) .done) K137_17
@[simp] def W137_18 := @C.wpe _ _ K137_18.eq_1
def K137_19 : C := .seq (.pl <| .st (.ext 10 5) <|
    .st (.act none (.ld (some 10) (.v 5) none)) <|
    .st (.act none (.px (some 11) (.nilc (.v 10)))) <|
    .st (.act none (.ld (some 12) (.v 11) none)) <|
    .st (.act none (.px (some 13) (.bin .add (.v 12) (.c (.int .i64 1))))) <|
    .st (.act none (.px (some 14) (.nilc (.v 10)))) <|
    .st (.act none (.ex none (.store 1 (.v 14) (.v 13)))) .done) K137_18
@[simp] def W137_19 := @C.wpe _ _ K137_19.eq_1
def K137_20 : Pl := .st (.act none (.px (some 6) (.mv (.c (.bool false))))) .done
@[simp] def W137_20 := @Pl.wpe _ _ K137_20.eq_1
def K137_21 : Pl := .st (.act none (.ex (some 5) (.alloc (.v 2)))) K137_20
@[simp] def W137_21 := @Pl.wpe _ _ K137_21.eq_1
def B_impl_Expr_walk : C := .seq (.pl <| .st (.ext 10 0) <|
    .st (.act none (.pnew 3 (.v 0) [])) <|
    .st (.act none (.ex (some 4) (.alloc (.v 1)))) K137_21) K137_19
@[simp] def WB_impl_Expr_walk := @C.wpe _ _ B_impl_Expr_walk.eq_1
def R_impl_Expr_walk : FIR := ⟨B_impl_Expr_walk, 10, [(6, none)]⟩
theorem IR_impl_Expr_walk : cfun Try.prog H_impl_Expr_walk Try.f137 = some R_impl_Expr_walk := by kernel_rfl
theorem EN_impl_Expr_walk {args : List Value} {h : Heap} {k : Value → Heap → Prop} (hargs : args.length = 3) (hw : B_impl_Expr_walk.wp Try.prog (retQ [(6, none)] k) (env0 args 10) h) : CallE Try.prog fn_impl_Expr_walk args h k := enter Try.func137 rfl IR_impl_Expr_walk hargs hw

def H_impl_Expr_walk_1 : Hint := ⟨[(0, false), (1, false), (2, false), (3, true), (4, false)], []⟩
def K141_1 : Pl := .st (.act none (.px (some 10) (.un .not (.v 9)))) <|
    .st (.act none (.px (some 4) (.mv (.v 10)))) .done
@[simp] def W141_1 := @Pl.wpe _ _ K141_1.eq_1
def K141_2 : C := .seq (.pl <| .st (.ext 5 6) <|
    .st (.act none (.pget (some 5) none 3 0 (some 3))) <|
    .st (.act none (.ld (some 6) (.v 1) none)) <|
    .st (.act none (.px (some 7) (.bin .add (.v 6) (.c (.int .i64 1))))) <|
    .st (.act none (.ld (some 8) (.v 2) none)) <|
    .st (.act none (.ex (some 9) (.call fn_impl_Expr_walk [.v 5, .v 7, .v 8]))) K141_1) (.ret)
@[simp] def W141_2 := @C.wpe _ _ K141_2.eq_1
def B_impl_Expr_walk_1 : C := .seq (.pl <| .st (.ext 5 0) <|
    .st (.act none (.pnew 3 (.v 0) [])) <|
    .st (.act none (.px (some 4) (.mv (.c (.bool false))))) .done) K141_2
@[simp] def WB_impl_Expr_walk_1 := @C.wpe _ _ B_impl_Expr_walk_1.eq_1
def R_impl_Expr_walk_1 : FIR := ⟨B_impl_Expr_walk_1, 5, [(4, none)]⟩
theorem IR_impl_Expr_walk_1 : cfun Try.prog H_impl_Expr_walk_1 Try.f141 = some R_impl_Expr_walk_1 := by kernel_rfl
theorem EN_impl_Expr_walk_1 {args : List Value} {h : Heap} {k : Value → Heap → Prop} (hargs : args.length = 3) (hw : B_impl_Expr_walk_1.wp Try.prog (retQ [(4, none)] k) (env0 args 5) h) : CallE Try.prog fn_impl_Expr_walk_1 args h k := enter Try.func141 rfl IR_impl_Expr_walk_1 hargs hw

def H_impl_StateSame : Hint := ⟨[(0, false), (1, false), (2, true), (3, true), (4, false)], []⟩
def K13_1 : Pl := .st (.act none (.px (some 16) (.pick (.v 10) (.v 15) (.c (.bool false))))) <|
    .st (.act none (.px (some 4) (.mv (.v 16)))) .done
@[simp] def W13_1 := @Pl.wpe _ _ K13_1.eq_1
def K13_2 : Pl := .st (.act none (.px (some 10) (.mv (.v 9)))) <|
    .st (.act (some (.v 10, true)) (.als 11 none 2)) <|
    .st (.act (some (.v 10, true)) (.pget (some 12) (some 11) 2 1 none)) <|
    .st (.act (some (.v 10, true)) (.als 13 none 3)) <|
    .st (.act (some (.v 10, true)) (.pget (some 14) (some 13) 3 1 none)) <|
    .st (.act (some (.v 10, true)) (.ex (some 15) (.call fn_slices_Equal_S_int_int [.v 12, .v 14]))) K13_1
@[simp] def W13_2 := @Pl.wpe _ _ K13_2.eq_1
def K13_3 : C := .seq (.pl <| .st (.ext 5 12) <|
    .st (.act none (.als 5 none 2)) <|
    .st (.act none (.pget (some 6) (some 5) 2 0 none)) <|
    .st (.act none (.als 7 none 3)) <|
    .st (.act none (.pget (some 8) (some 7) 3 0 none)) <|
    .st (.act none (.ex (some 9) (.call fn_slices_Equal_S_int_int [.v 6, .v 8]))) K13_2) (.ret)
@[simp] def W13_3 := @C.wpe _ _ K13_3.eq_1
def B_impl_StateSame : C := .seq (.pl <| .st (.ext 5 0) <|
    .st (.act none (.pnew 2 (.v 0) [])) <|
    .st (.act none (.pnew 3 (.v 1) [])) <|
    .st (.act none (.px (some 4) (.mv (.c (.bool false))))) .done) K13_3
@[simp] def WB_impl_StateSame := @C.wpe _ _ B_impl_StateSame.eq_1
def R_impl_StateSame : FIR := ⟨B_impl_StateSame, 5, [(4, none)]⟩
theorem IR_impl_StateSame : cfun Try.prog H_impl_StateSame Try.f13 = some R_impl_StateSame := by kernel_rfl
theorem EN_impl_StateSame {args : List Value} {h : Heap} {k : Value → Heap → Prop} (hargs : args.length = 2) (hw : B_impl_StateSame.wp Try.prog (retQ [(4, none)] k) (env0 args 5) h) : CallE Try.prog fn_impl_StateSame args h k := enter Try.func13 rfl IR_impl_StateSame hargs hw

def H_impl_State_copyOf : Hint := ⟨[(0, false), (1, true), (2, true)], []⟩
def K55_1 : Pl := .st (.act none (.px (some 9) (.build [.slice none 0 0, .slice none 0 0] [(0, 1, .v 5), (1, 1, .v 8)]))) <|
    .st (.act none (.pset none 2 0 2 (.v 9))) .done
@[simp] def W55_1 := @Pl.wpe _ _ K55_1.eq_1
def K55_2 : Pl := .st (.act none (.ex (some 8) (.call fn_impl_clone_int [.v 7]))) K55_1
@[simp] def W55_2 := @Pl.wpe _ _ K55_2.eq_1
def K55_3 : C := .seq (.pl <| .st (.ext 3 7) <|
    .st (.act none (.als 3 none 1)) <|
    .st (.act none (.pget (some 4) (some 3) 1 0 none)) <|
    .st (.act none (.als 6 none 1)) <|
    .st (.act none (.pget (some 7) (some 6) 1 1 none)) <|
    .st (.act none (.ex (some 5) (.call fn_impl_clone_int [.v 4]))) K55_2) (.ret)
@[simp] def W55_3 := @C.wpe _ _ K55_3.eq_1
def B_impl_State_copyOf : C := .seq (.pl <| .st (.ext 3 0) <|
    .st (.act none (.pnew 1 (.v 0) [])) <|
    .st (.act none (.pnew 2 (.c (.agg #[.slice none 0 0, .slice none 0 0])) [])) .done) K55_3
@[simp] def WB_impl_State_copyOf := @C.wpe _ _ B_impl_State_copyOf.eq_1
def R_impl_State_copyOf : FIR := ⟨B_impl_State_copyOf, 3, [(2, some (some 2))]⟩
theorem IR_impl_State_copyOf : cfun Try.prog H_impl_State_copyOf Try.f55 = some R_impl_State_copyOf := by kernel_rfl
theorem EN_impl_State_copyOf {args : List Value} {h : Heap} {k : Value → Heap → Prop} (hargs : args.length = 1) (hw : B_impl_State_copyOf.wp Try.prog (retQ [(2, some (some 2))] k) (env0 args 3) h) : CallE Try.prog fn_impl_State_copyOf args h k := enter Try.func55 rfl IR_impl_State_copyOf hargs hw

def H_impl_SystemValid : Hint := ⟨[(0, false), (1, true), (2, false), (4, false), (17, false), (18, false), (19, false)], [[0, 1, 2, 3]]⟩
def K45_1 : C := .seq (.pl <| .st (.ext 7 0) <|
    .st (.act none (.px (some 2) (.mv (.c (.bool true))))) .done) (.ret)
@[simp] def W45_1 := @C.wpe _ _ K45_1.eq_1
def K45_2 : C := .pl <| .st (.ext 7 1) <|
    .st (.act none (.px (some 7) (.bin .add (.v 6) (.c (.int .i64 1))))) <|
    .st (.act none (.px (some 6) (.mv (.v 7)))) .done
@[simp] def W45_2 := @C.wpe _ _ K45_2.eq_1
def K45_3 : C := .seq (.pl <| .st (.ext 7 0) <|
    .st (.act none (.px (some 2) (.mv (.c (.bool false))))) .done) (.ret)
@[simp] def W45_3 := @C.wpe _ _ K45_3.eq_1
def K45_4 : C := .cond 7 (.v 22) K45_3 (.skip)
@[simp] def W45_4 := @C.wpe _ _ K45_4.eq_1
def K45_5 : Pl := .st (.act none (.px (some 22) (.pick (.v 17) (.c (.bool true)) (.v 21)))) .done
@[simp] def W45_5 := @Pl.wpe _ _ K45_5.eq_1
def K45_6 : Pl := .st (.act none (.px (some 10) (.un .not (.v 9)))) <|
    .st (.act none (.px (some 11) (.mv (.v 10)))) <|
    .st (.act (some (.v 11, false)) (.px (some 12) (.fa 1 (.v 3)))) <|
    .st (.act (some (.v 11, false)) (.ld (some 13) (.v 12) none)) <|
    .st (.act (some (.v 11, false)) (.px (some 14) (.lenV (.v 13)))) <|
    .st (.act (some (.v 11, false)) (.px (some 15) (.bin .gtr (.v 14) (.c (.int .i64 6))))) <|
    .st (.act none (.px (some 16) (.pick (.v 11) (.c (.bool true)) (.v 15)))) <|
    .st (.act none (.px (some 17) (.mv (.v 16)))) <|
    .st (.act (some (.v 17, false)) (.px (some 18) (.fa 1 (.v 3)))) <|
    .st (.act (some (.v 17, false)) (.ld (some 19) (.v 18) none)) <|
    .st (.act (some (.v 17, false)) (.px (some 20) (.mkf (.func fn_impl_SystemValid_1) [] [.v 3]))) <|
    .st (.act (some (.v 17, false)) (.ex (some 21) (.call fn_slices_ContainsFunc_S_impl_Edge_impl_Edge [.v 19, .v 20]))) K45_5
@[simp] def W45_6 := @Pl.wpe _ _ K45_6.eq_1
def K45_7 : C := .seq (.pl <| .st (.ext 7 16) <|
    .st (.act none (.px (some 7) (.fa 0 (.v 3)))) <|
    .st (.act none (.ld (some 8) (.v 7) none)) <|
    .st (.act none (.ex (some 9) (.call fn_impl_in [.v 8, .c (.int .i64 1), .c (.int .i64 4)]))) K45_6) K45_4
@[simp] def W45_7 := @C.wpe _ _ K45_7.eq_1
def K45_8 : Pl := .st (.act none (.ex none (.store 2 (.v 3) (.v 8)))) .done
@[simp] def W45_8 := @Pl.wpe _ _ K45_8.eq_1
def K45_9 : C := .seq (.block 1 (.seq (.pl <| .st (.ext 7 2) <|
    .st (.act none (.px (some 7) (.ia 2 (.v 4) (.v 6)))) <|
    .st (.act none (.ld (some 8) (.v 7) (some 2))) <|
    .st (.act none (.ex (some 3) (.alloc (.c (.agg #[.int .i64 0, .slice none 0 0]))))) K45_8) K45_7)) K45_2
@[simp] def W45_9 := @C.wpe _ _ K45_9.eq_1
def K45_10 : C := .seq (.cond 7 (.v 7) (.skip) (.exit 0)) K45_9
@[simp] def W45_10 := @C.wpe _ _ K45_10.eq_1
def K45_11 : C := .seq (.pl <| .st (.ext 7 1) <|
    .st (.act none (.px (some 7) (.bin .lss (.v 6) (.v 5)))) .done) K45_10
@[simp] def W45_11 := @C.wpe _ _ K45_11.eq_1
def K45_12 : C := .block 0 (.loop 7 [0, 1, 2, 3] K45_11)
@[simp] def W45_12 := @C.wpe _ _ K45_12.eq_1
def K45_13 : C := .seq (.seq (.pl <| .st (.ext 7 1) <|
    .st (.act none (.als 7 none 1)) <|
    .st (.act none (.pget (some 4) (some 7) 1 1 none)) <|
    .st (.act none (.px (some 5) (.lenV (.v 4)))) <|
    .st (.act none (.px (some 6) (.mv (.c (.int .i64 0))))) .done) K45_12) K45_1
@[simp] def W45_13 := @C.wpe _ _ K45_13.eq_1
def K45_14 : C := .seq (.pl <| .st (.ext 7 0) <|
    .st (.act none (.px (some 2) (.mv (.c (.bool false))))) .done) (.ret)
@[simp] def W45_14 := @C.wpe _ _ K45_14.eq_1
def K45_15 : C := .cond 7 (.v 17) K45_14 (.skip)
@[simp] def W45_15 := @C.wpe _ _ K45_15.eq_1
def K45_16 : Pl := .st (.act (some (.v 11, false)) (.px (some 16) (.un .not (.v 15)))) <|
    .st (.act none (.px (some 17) (.pick (.v 11) (.c (.bool true)) (.v 16)))) .done
@[simp] def W45_16 := @Pl.wpe _ _ K45_16.eq_1
def K45_17 : Pl := .st (.act none (.px (some 10) (.un .not (.v 9)))) <|
    .st (.act none (.px (some 11) (.mv (.v 10)))) <|
    .st (.act (some (.v 11, false)) (.als 12 none 1)) <|
    .st (.act (some (.v 11, false)) (.pget (some 13) (some 12) 1 1 none)) <|
    .st (.act (some (.v 11, false)) (.px (some 14) (.lenV (.v 13)))) <|
    .st (.act (some (.v 11, false)) (.ex (some 15) (.call fn_impl_in [.v 14, .c (.int .i64 1), .c (.int .i64 3)]))) K45_16
@[simp] def W45_17 := @Pl.wpe _ _ K45_17.eq_1
def K45_18 : C := .seq (.seq (.pl <| .st (.ext 7 11) <|
    .st (.act none (.als 7 none 1)) <|
    .st (.act none (.pget (some 8) (some 7) 1 0 none)) <|
    .st (.act none (.ex (some 9) (.call fn_impl_valsOk [.v 8]))) K45_17) K45_15) K45_13
@[simp] def W45_18 := @C.wpe _ _ K45_18.eq_1
def B_impl_SystemValid : C := .seq (.pl <| .st (.ext 7 0) <|
    .st (.act none (.pnew 1 (.v 0) [])) <|
    .st (.act none (.px (some 2) (.mv (.c (.bool false))))) .done) K45_18
@[simp] def WB_impl_SystemValid := @C.wpe _ _ B_impl_SystemValid.eq_1
def R_impl_SystemValid : FIR := ⟨B_impl_SystemValid, 7, [(2, none)]⟩
theorem IR_impl_SystemValid : cfun Try.prog H_impl_SystemValid Try.f45 = some R_impl_SystemValid := by kernel_rfl
theorem EN_impl_SystemValid {args : List Value} {h : Heap} {k : Value → Heap → Prop} (hargs : args.length = 1) (hw : B_impl_SystemValid.wp Try.prog (retQ [(2, none)] k) (env0 args 7) h) : CallE Try.prog fn_impl_SystemValid args h k := enter Try.func45 rfl IR_impl_SystemValid hargs hw

def H_impl_SystemValid_1 : Hint := ⟨[(0, false), (1, false), (2, true), (3, false)], []⟩
def K85_1 : Pl := .st (.act none (.px (some 8) (.un .not (.v 7)))) <|
    .st (.act none (.px (some 3) (.mv (.v 8)))) .done
@[simp] def W85_1 := @Pl.wpe _ _ K85_1.eq_1
def K85_2 : C := .seq (.pl <| .st (.ext 4 5) <|
    .st (.act none (.pget (some 4) none 2 0 (some 10))) <|
    .st (.act none (.px (some 5) (.fa 0 (.v 1)))) <|
    .st (.act none (.ld (some 6) (.v 5) none)) <|
    .st (.act none (.ex (some 7) (.call fn_impl_EdgeValid [.v 4, .v 6]))) K85_1) (.ret)
@[simp] def W85_2 := @C.wpe _ _ K85_2.eq_1
def B_impl_SystemValid_1 : C := .seq (.pl <| .st (.ext 4 0) <|
    .st (.act none (.pnew 2 (.v 0) [])) <|
    .st (.act none (.px (some 3) (.mv (.c (.bool false))))) .done) K85_2
@[simp] def WB_impl_SystemValid_1 := @C.wpe _ _ B_impl_SystemValid_1.eq_1
def R_impl_SystemValid_1 : FIR := ⟨B_impl_SystemValid_1, 4, [(3, none)]⟩
theorem IR_impl_SystemValid_1 : cfun Try.prog H_impl_SystemValid_1 Try.f85 = some R_impl_SystemValid_1 := by kernel_rfl
theorem EN_impl_SystemValid_1 {args : List Value} {h : Heap} {k : Value → Heap → Prop} (hargs : args.length = 2) (hw : B_impl_SystemValid_1.wp Try.prog (retQ [(3, none)] k) (env0 args 4) h) : CallE Try.prog fn_impl_SystemValid_1 args h k := enter Try.func85 rfl IR_impl_SystemValid_1 hargs hw

def H_impl_clone_int : Hint := ⟨[(0, false), (2, false)], []⟩
def K96_1 : Pl := .st (.act none (.px (some 1) (.mv (.v 4)))) .done
@[simp] def W96_1 := @Pl.wpe _ _ K96_1.eq_1
def K96_2 : Pl := .st (.act none (.ex (some 4) (.call fn_slices_Clip_S_int_int [.v 3]))) K96_1
@[simp] def W96_2 := @Pl.wpe _ _ K96_2.eq_1
def K96_3 : C := .seq (.pl <| .st (.ext 2 3) <|
    .st (.act none (.px (some 2) (.mv (.v 0)))) <|
    .st (.act none (.ex (some 3) (.call fn_slices_Clone_S_int_int [.v 2]))) K96_2) (.ret)
@[simp] def W96_3 := @C.wpe _ _ K96_3.eq_1
def B_impl_clone_int : C := .seq (.pl <| .st (.ext 2 0) <|
    .st (.act none (.px (some 1) (.mv (.c (.slice none 0 0))))) .done) K96_3
@[simp] def WB_impl_clone_int := @C.wpe _ _ B_impl_clone_int.eq_1
def R_impl_clone_int : FIR := ⟨B_impl_clone_int, 2, [(1, none)]⟩
theorem IR_impl_clone_int : cfun Try.prog H_impl_clone_int Try.f96 = some R_impl_clone_int := by kernel_rfl
theorem EN_impl_clone_int {args : List Value} {h : Heap} {k : Value → Heap → Prop} (hargs : args.length = 1) (hw : B_impl_clone_int.wp Try.prog (retQ [(1, none)] k) (env0 args 2) h) : CallE Try.prog fn_impl_clone_int args h k := enter Try.func96 rfl IR_impl_clone_int hargs hw

def H_impl_in : Hint := ⟨[(0, false), (1, false), (2, false), (6, false)], []⟩
def K43_1 : C := .seq (.pl <| .st (.ext 4 8) <|
    .st (.act none (.px (some 4) (.mv (.v 0)))) <|
    .st (.act none (.px (some 5) (.mv (.v 1)))) <|
    .st (.act none (.px (some 6) (.bin .geq (.v 4) (.v 5)))) <|
    .st (.act none (.px (some 7) (.mv (.v 6)))) <|
    .st (.act (some (.v 7, true)) (.px (some 8) (.mv (.v 0)))) <|
    .st (.act (some (.v 7, true)) (.px (some 9) (.mv (.v 2)))) <|
    .st (.act (some (.v 7, true)) (.px (some 10) (.bin .leq (.v 8) (.v 9)))) <|
    .st (.act none (.px (some 11) (.pick (.v 7) (.v 10) (.c (.bool false))))) <|
    .st (.act none (.px (some 3) (.mv (.v 11)))) .done) (.ret)
@[simp] def W43_1 := @C.wpe _ _ K43_1.eq_1
def B_impl_in : C := .seq (.pl <| .st (.ext 4 0) <|
    .st (.act none (.px (some 3) (.mv (.c (.bool false))))) .done) K43_1
@[simp] def WB_impl_in := @C.wpe _ _ B_impl_in.eq_1
def R_impl_in : FIR := ⟨B_impl_in, 4, [(3, none)]⟩
theorem IR_impl_in : cfun Try.prog H_impl_in Try.f43 = some R_impl_in := by kernel_rfl
theorem EN_impl_in {args : List Value} {h : Heap} {k : Value → Heap → Prop} (hargs : args.length = 3) (hw : B_impl_in.wp Try.prog (retQ [(3, none)] k) (env0 args 4) h) : CallE Try.prog fn_impl_in args h k := enter Try.func43 rfl IR_impl_in hargs hw

def H_impl_truth : Hint := ⟨[(0, false), (2, false)], []⟩
def K124_1 : C := .seq (.pl <| .st (.ext 2 0) <|
    .st (.act none (.px (some 1) (.mv (.c (.int .i64 0))))) .done) (.ret)
@[simp] def W124_1 := @C.wpe _ _ K124_1.eq_1
def K124_2 : C := .seq (.pl <| .st (.ext 2 0) <|
    .st (.act none (.px (some 1) (.mv (.c (.int .i64 1))))) .done) (.ret)
@[simp] def W124_2 := @C.wpe _ _ K124_2.eq_1
def K124_3 : C := .cond 2 (.v 2) K124_2 (.skip)
@[simp] def W124_3 := @C.wpe _ _ K124_3.eq_1
def K124_4 : C := .seq (.seq (.pl <| .st (.ext 2 1) <|
    .st (.act none (.px (some 2) (.mv (.v 0)))) .done) K124_3) K124_1
@[simp] def W124_4 := @C.wpe _ _ K124_4.eq_1
def B_impl_truth : C := .seq (.pl <| .st (.ext 2 0) <|
    .st (.act none (.px (some 1) (.mv (.c (.int .i64 0))))) .done) K124_4
@[simp] def WB_impl_truth := @C.wpe _ _ B_impl_truth.eq_1
def R_impl_truth : FIR := ⟨B_impl_truth, 2, [(1, none)]⟩
theorem IR_impl_truth : cfun Try.prog H_impl_truth Try.f124 = some R_impl_truth := by kernel_rfl
theorem EN_impl_truth {args : List Value} {h : Heap} {k : Value → Heap → Prop} (hargs : args.length = 1) (hw : B_impl_truth.wp Try.prog (retQ [(1, none)] k) (env0 args 2) h) : CallE Try.prog fn_impl_truth args h k := enter Try.func124 rfl IR_impl_truth hargs hw

def H_impl_valsOk : Hint := ⟨[(0, false), (2, false)], []⟩
def K58_1 : Pl := .st (.act (some (.v 5, true)) (.px (some 8) (.un .not (.v 7)))) <|
    .st (.act none (.px (some 9) (.pick (.v 5) (.v 8) (.c (.bool false))))) <|
    .st (.act none (.px (some 1) (.mv (.v 9)))) .done
@[simp] def W58_1 := @Pl.wpe _ _ K58_1.eq_1
def K58_2 : C := .seq (.pl <| .st (.ext 2 8) <|
    .st (.act none (.px (some 2) (.mv (.v 0)))) <|
    .st (.act none (.px (some 3) (.lenV (.v 2)))) <|
    .st (.act none (.px (some 4) (.bin .eql (.v 3) (.c (.int .i64 3))))) <|
    .st (.act none (.px (some 5) (.mv (.v 4)))) <|
    .st (.act (some (.v 5, true)) (.px (some 6) (.mv (.v 0)))) <|
    .st (.act (some (.v 5, true)) (.ex (some 7) (.call fn_slices_ContainsFunc_S_int_int [.v 6, .c (.func (.func 103) #[] #[])]))) K58_1) (.ret)
@[simp] def W58_2 := @C.wpe _ _ K58_2.eq_1
def B_impl_valsOk : C := .seq (.pl <| .st (.ext 2 0) <|
    .st (.act none (.px (some 1) (.mv (.c (.bool false))))) .done) K58_2
@[simp] def WB_impl_valsOk := @C.wpe _ _ B_impl_valsOk.eq_1
def R_impl_valsOk : FIR := ⟨B_impl_valsOk, 2, [(1, none)]⟩
theorem IR_impl_valsOk : cfun Try.prog H_impl_valsOk Try.f58 = some R_impl_valsOk := by kernel_rfl
theorem EN_impl_valsOk {args : List Value} {h : Heap} {k : Value → Heap → Prop} (hargs : args.length = 1) (hw : B_impl_valsOk.wp Try.prog (retQ [(1, none)] k) (env0 args 2) h) : CallE Try.prog fn_impl_valsOk args h k := enter Try.func58 rfl IR_impl_valsOk hargs hw

def H_impl_valsOk_1 : Hint := ⟨[(0, false), (2, false)], []⟩
def K103_1 : Pl := .st (.act none (.px (some 4) (.un .not (.v 3)))) <|
    .st (.act none (.px (some 1) (.mv (.v 4)))) .done
@[simp] def W103_1 := @Pl.wpe _ _ K103_1.eq_1
def K103_2 : C := .seq (.pl <| .st (.ext 2 3) <|
    .st (.act none (.px (some 2) (.mv (.v 0)))) <|
    .st (.act none (.ex (some 3) (.call fn_impl_in [.v 2, .c (.int .i64 0), .c (.int .i64 3)]))) K103_1) (.ret)
@[simp] def W103_2 := @C.wpe _ _ K103_2.eq_1
def B_impl_valsOk_1 : C := .seq (.pl <| .st (.ext 2 0) <|
    .st (.act none (.px (some 1) (.mv (.c (.bool false))))) .done) K103_2
@[simp] def WB_impl_valsOk_1 := @C.wpe _ _ B_impl_valsOk_1.eq_1
def R_impl_valsOk_1 : FIR := ⟨B_impl_valsOk_1, 2, [(1, none)]⟩
theorem IR_impl_valsOk_1 : cfun Try.prog H_impl_valsOk_1 Try.f103 = some R_impl_valsOk_1 := by kernel_rfl
theorem EN_impl_valsOk_1 {args : List Value} {h : Heap} {k : Value → Heap → Prop} (hargs : args.length = 1) (hw : B_impl_valsOk_1.wp Try.prog (retQ [(1, none)] k) (env0 args 2) h) : CallE Try.prog fn_impl_valsOk_1 args h k := enter Try.func103 rfl IR_impl_valsOk_1 hargs hw

def H_slices_Clip_S_int_int : Hint := ⟨[(0, false), (2, false)], []⟩
def K91_1 : C := .seq (.pl <| .st (.ext 2 6) <|
    .st (.act none (.px (some 2) (.mv (.v 0)))) <|
    .st (.act none (.px (some 3) (.mv (.v 0)))) <|
    .st (.act none (.px (some 4) (.lenV (.v 3)))) <|
    .st (.act none (.px (some 5) (.mv (.v 0)))) <|
    .st (.act none (.px (some 6) (.lenV (.v 5)))) <|
    .st (.act none (.px (some 7) (.sliceV 1 (.v 2) none (some (.v 4)) (some (.v 6))))) <|
    .st (.act none (.px (some 1) (.mv (.v 7)))) .done) (.ret)
@[simp] def W91_1 := @C.wpe _ _ K91_1.eq_1
def B_slices_Clip_S_int_int : C := .seq (.pl <| .st (.ext 2 0) <|
    .st (.act none (.px (some 1) (.mv (.c (.slice none 0 0))))) .done) K91_1
@[simp] def WB_slices_Clip_S_int_int := @C.wpe _ _ B_slices_Clip_S_int_int.eq_1
def R_slices_Clip_S_int_int : FIR := ⟨B_slices_Clip_S_int_int, 2, [(1, none)]⟩
theorem IR_slices_Clip_S_int_int : cfun Try.prog H_slices_Clip_S_int_int Try.f91 = some R_slices_Clip_S_int_int := by kernel_rfl
theorem EN_slices_Clip_S_int_int {args : List Value} {h : Heap} {k : Value → Heap → Prop} (hargs : args.length = 1) (hw : B_slices_Clip_S_int_int.wp Try.prog (retQ [(1, none)] k) (env0 args 2) h) : CallE Try.prog fn_slices_Clip_S_int_int args h k := enter Try.func91 rfl IR_slices_Clip_S_int_int hargs hw

def H_slices_Clone_S_int_int : Hint := ⟨[(0, false), (2, false)], []⟩
def K120_1 : Pl := .st (.act none (.px (some 1) (.mv (.v 4)))) .done
@[simp] def W120_1 := @Pl.wpe _ _ K120_1.eq_1
def K120_2 : C := .seq (.pl <| .st (.ext 2 3) <|
    .st (.act none (.psl 2 [] [])) <|
    .st (.act none (.px (some 3) (.mv (.v 0)))) <|
    .st (.act none (.ex (some 4) (.app 8 1 [.int .i64 0] (.p 0 2) (.o (.v 3))))) K120_1) (.ret)
@[simp] def W120_2 := @C.wpe _ _ K120_2.eq_1
def K120_3 : C := .seq (.pl <| .st (.ext 2 0) <|
    .st (.act none (.px (some 1) (.mv (.c (.slice none 0 0))))) .done) (.ret)
@[simp] def W120_3 := @C.wpe _ _ K120_3.eq_1
def K120_4 : C := .cond 2 (.v 3) K120_3 (.skip)
@[simp] def W120_4 := @C.wpe _ _ K120_4.eq_1
def K120_5 : C := .seq (.seq (.pl <| .st (.ext 2 2) <|
    .st (.act none (.px (some 2) (.mv (.v 0)))) <|
    .st (.act none (.px (some 3) (.isNil false (.v 2)))) .done) K120_4) K120_2
@[simp] def W120_5 := @C.wpe _ _ K120_5.eq_1
def B_slices_Clone_S_int_int : C := .seq (.pl <| .st (.ext 2 0) <|
    .st (.act none (.px (some 1) (.mv (.c (.slice none 0 0))))) .done) K120_5
@[simp] def WB_slices_Clone_S_int_int := @C.wpe _ _ B_slices_Clone_S_int_int.eq_1
def R_slices_Clone_S_int_int : FIR := ⟨B_slices_Clone_S_int_int, 2, [(1, none)]⟩
theorem IR_slices_Clone_S_int_int : cfun Try.prog H_slices_Clone_S_int_int Try.f120 = some R_slices_Clone_S_int_int := by kernel_rfl
theorem EN_slices_Clone_S_int_int {args : List Value} {h : Heap} {k : Value → Heap → Prop} (hargs : args.length = 1) (hw : B_slices_Clone_S_int_int.wp Try.prog (retQ [(1, none)] k) (env0 args 2) h) : CallE Try.prog fn_slices_Clone_S_int_int args h k := enter Try.func120 rfl IR_slices_Clone_S_int_int hargs hw

def H_slices_ContainsFunc_S_impl_Edge_impl_Edge : Hint := ⟨[(0, false), (1, false), (4, false)], []⟩
def K84_1 : Pl := .st (.act none (.px (some 6) (.bin .geq (.v 5) (.c (.int .i64 0))))) <|
    .st (.act none (.px (some 2) (.mv (.v 6)))) .done
@[simp] def W84_1 := @Pl.wpe _ _ K84_1.eq_1
def K84_2 : C := .seq (.pl <| .st (.ext 3 4) <|
    .st (.act none (.px (some 3) (.mv (.v 0)))) <|
    .st (.act none (.px (some 4) (.mv (.v 1)))) <|
    .st (.act none (.ex (some 5) (.call fn_slices_IndexFunc_S_impl_Edge_impl_Edge [.v 3, .v 4]))) K84_1) (.ret)
@[simp] def W84_2 := @C.wpe _ _ K84_2.eq_1
def B_slices_ContainsFunc_S_impl_Edge_impl_Edge : C := .seq (.pl <| .st (.ext 3 0) <|
    .st (.act none (.px (some 2) (.mv (.c (.bool false))))) .done) K84_2
@[simp] def WB_slices_ContainsFunc_S_impl_Edge_impl_Edge := @C.wpe _ _ B_slices_ContainsFunc_S_impl_Edge_impl_Edge.eq_1
def R_slices_ContainsFunc_S_impl_Edge_impl_Edge : FIR := ⟨B_slices_ContainsFunc_S_impl_Edge_impl_Edge, 3, [(2, none)]⟩
theorem IR_slices_ContainsFunc_S_impl_Edge_impl_Edge : cfun Try.prog H_slices_ContainsFunc_S_impl_Edge_impl_Edge Try.f84 = some R_slices_ContainsFunc_S_impl_Edge_impl_Edge := by kernel_rfl
theorem EN_slices_ContainsFunc_S_impl_Edge_impl_Edge {args : List Value} {h : Heap} {k : Value → Heap → Prop} (hargs : args.length = 2) (hw : B_slices_ContainsFunc_S_impl_Edge_impl_Edge.wp Try.prog (retQ [(2, none)] k) (env0 args 3) h) : CallE Try.prog fn_slices_ContainsFunc_S_impl_Edge_impl_Edge args h k := enter Try.func84 rfl IR_slices_ContainsFunc_S_impl_Edge_impl_Edge hargs hw

def H_slices_ContainsFunc_S_impl_Expr_impl_Expr : Hint := ⟨[(0, false), (1, false), (4, false)], []⟩
def K99_1 : Pl := .st (.act none (.px (some 6) (.bin .geq (.v 5) (.c (.int .i64 0))))) <|
    .st (.act none (.px (some 2) (.mv (.v 6)))) .done
@[simp] def W99_1 := @Pl.wpe _ _ K99_1.eq_1
def K99_2 : C := .seq (.pl <| .st (.ext 3 4) <|
    .st (.act none (.px (some 3) (.mv (.v 0)))) <|
    .st (.act none (.px (some 4) (.mv (.v 1)))) <|
    .st (.act none (.ex (some 5) (.call fn_slices_IndexFunc_S_impl_Expr_impl_Expr [.v 3, .v 4]))) K99_1) (.ret)
@[simp] def W99_2 := @C.wpe _ _ K99_2.eq_1
def B_slices_ContainsFunc_S_impl_Expr_impl_Expr : C := .seq (.pl <| .st (.ext 3 0) <|
    .st (.act none (.px (some 2) (.mv (.c (.bool false))))) .done) K99_2
@[simp] def WB_slices_ContainsFunc_S_impl_Expr_impl_Expr := @C.wpe _ _ B_slices_ContainsFunc_S_impl_Expr_impl_Expr.eq_1
def R_slices_ContainsFunc_S_impl_Expr_impl_Expr : FIR := ⟨B_slices_ContainsFunc_S_impl_Expr_impl_Expr, 3, [(2, none)]⟩
theorem IR_slices_ContainsFunc_S_impl_Expr_impl_Expr : cfun Try.prog H_slices_ContainsFunc_S_impl_Expr_impl_Expr Try.f99 = some R_slices_ContainsFunc_S_impl_Expr_impl_Expr := by kernel_rfl
theorem EN_slices_ContainsFunc_S_impl_Expr_impl_Expr {args : List Value} {h : Heap} {k : Value → Heap → Prop} (hargs : args.length = 2) (hw : B_slices_ContainsFunc_S_impl_Expr_impl_Expr.wp Try.prog (retQ [(2, none)] k) (env0 args 3) h) : CallE Try.prog fn_slices_ContainsFunc_S_impl_Expr_impl_Expr args h k := enter Try.func99 rfl IR_slices_ContainsFunc_S_impl_Expr_impl_Expr hargs hw

def H_slices_ContainsFunc_S_int_int : Hint := ⟨[(0, false), (1, false), (4, false)], []⟩
def K102_1 : Pl := .st (.act none (.px (some 6) (.bin .geq (.v 5) (.c (.int .i64 0))))) <|
    .st (.act none (.px (some 2) (.mv (.v 6)))) .done
@[simp] def W102_1 := @Pl.wpe _ _ K102_1.eq_1
def K102_2 : C := .seq (.pl <| .st (.ext 3 4) <|
    .st (.act none (.px (some 3) (.mv (.v 0)))) <|
    .st (.act none (.px (some 4) (.mv (.v 1)))) <|
    .st (.act none (.ex (some 5) (.call fn_slices_IndexFunc_S_int_int [.v 3, .v 4]))) K102_1) (.ret)
@[simp] def W102_2 := @C.wpe _ _ K102_2.eq_1
def B_slices_ContainsFunc_S_int_int : C := .seq (.pl <| .st (.ext 3 0) <|
    .st (.act none (.px (some 2) (.mv (.c (.bool false))))) .done) K102_2
@[simp] def WB_slices_ContainsFunc_S_int_int := @C.wpe _ _ B_slices_ContainsFunc_S_int_int.eq_1
def R_slices_ContainsFunc_S_int_int : FIR := ⟨B_slices_ContainsFunc_S_int_int, 3, [(2, none)]⟩
theorem IR_slices_ContainsFunc_S_int_int : cfun Try.prog H_slices_ContainsFunc_S_int_int Try.f102 = some R_slices_ContainsFunc_S_int_int := by kernel_rfl
theorem EN_slices_ContainsFunc_S_int_int {args : List Value} {h : Heap} {k : Value → Heap → Prop} (hargs : args.length = 2) (hw : B_slices_ContainsFunc_S_int_int.wp Try.prog (retQ [(2, none)] k) (env0 args 3) h) : CallE Try.prog fn_slices_ContainsFunc_S_int_int args h k := enter Try.func102 rfl IR_slices_ContainsFunc_S_int_int hargs hw

def H_slices_EqualFunc_S_impl_Expr_S_impl_Expr_impl_Expr_impl_Expr : Hint := ⟨[(0, false), (1, false), (2, false), (6, false), (7, false), (8, true), (9, true), (15, false), (16, false), (17, false)], [[0, 3, 4, 5, 6]]⟩
def K130_1 : C := .seq (.pl <| .st (.ext 10 0) <|
    .st (.act none (.px (some 3) (.mv (.c (.bool true))))) .done) (.ret)
@[simp] def W130_1 := @C.wpe _ _ K130_1.eq_1
def K130_2 : C := .pl <| .st (.ext 10 1) <|
    .st (.act none (.px (some 10) (.bin .add (.v 9) (.c (.int .i64 1))))) <|
    .st (.act none (.px (some 9) (.mv (.v 10)))) .done
@[simp] def W130_2 := @C.wpe _ _ K130_2.eq_1
def K130_3 : C := .seq (.pl <| .st (.ext 10 0) <|
    .st (.act none (.px (some 3) (.mv (.c (.bool false))))) .done) (.ret)
@[simp] def W130_3 := @C.wpe _ _ K130_3.eq_1
def K130_4 : C := .cond 10 (.v 14) K130_3 (.skip)
@[simp] def W130_4 := @C.wpe _ _ K130_4.eq_1
def K130_5 : Pl := .st (.act none (.px (some 14) (.un .not (.v 13)))) .done
@[simp] def W130_5 := @Pl.wpe _ _ K130_5.eq_1
def K130_6 : C := .seq (.pl <| .st (.ext 10 5) <|
    .st (.act none (.px (some 10) (.mv (.v 2)))) <|
    .st (.act none (.pget (some 11) none 5 0 (some 3))) <|
    .st (.act none (.pget (some 12) none 6 0 (some 3))) <|
    .st (.act none (.ex (some 13) (.callv (.v 10) [.v 11, .v 12]))) K130_5) K130_4
@[simp] def W130_6 := @C.wpe _ _ K130_6.eq_1
def K130_7 : C := .seq (.pl <| .st (.ext 10 4) <|
    .st (.act none (.px (some 10) (.mv (.v 1)))) <|
    .st (.act none (.px (some 11) (.mv (.v 4)))) <|
    .st (.act none (.px (some 12) (.ia 3 (.v 10) (.v 11)))) <|
    .st (.act none (.ld (some 13) (.v 12) (some 3))) <|
    .st (.act none (.pnew 6 (.c (.agg #[.int .i64 0, .int .i64 0, .slice none 0 0])) [])) <|
    .st (.act none (.pset none 6 0 3 (.v 13))) .done) K130_6
@[simp] def W130_7 := @C.wpe _ _ K130_7.eq_1
def K130_8 : C := .seq (.block 1 (.seq (.pl <| .st (.ext 10 3) <|
    .st (.act none (.px (some 10) (.mv (.v 9)))) <|
    .st (.act none (.px (some 11) (.ia 3 (.v 7) (.v 9)))) <|
    .st (.act none (.ld (some 12) (.v 11) (some 3))) <|
    .st (.act none (.pnew 5 (.c (.agg #[.int .i64 0, .int .i64 0, .slice none 0 0])) [])) <|
    .st (.act none (.px (some 4) (.mv (.v 10)))) <|
    .st (.act none (.pset none 5 0 3 (.v 12))) .done) K130_7)) K130_2
@[simp] def W130_8 := @C.wpe _ _ K130_8.eq_1
def K130_9 : C := .seq (.cond 10 (.v 10) (.skip) (.exit 0)) K130_8
@[simp] def W130_9 := @C.wpe _ _ K130_9.eq_1
def K130_10 : C := .seq (.pl <| .st (.ext 10 1) <|
    .st (.act none (.px (some 10) (.bin .lss (.v 9) (.v 8)))) .done) K130_9
@[simp] def W130_10 := @C.wpe _ _ K130_10.eq_1
def K130_11 : C := .block 0 (.loop 10 [0, 3, 4, 5, 6] K130_10)
@[simp] def W130_11 := @C.wpe _ _ K130_11.eq_1
def K130_12 : C := .seq (.seq (.pl <| .st (.ext 10 0) <|
    .st (.act none (.px (some 7) (.mv (.v 0)))) <|
    .st (.act none (.px (some 8) (.lenV (.v 7)))) <|
    .st (.act none (.px (some 9) (.mv (.c (.int .i64 0))))) .done) K130_11) K130_1
@[simp] def W130_12 := @C.wpe _ _ K130_12.eq_1
def K130_13 : C := .seq (.pl <| .st (.ext 10 0) <|
    .st (.act none (.px (some 3) (.mv (.c (.bool false))))) .done) (.ret)
@[simp] def W130_13 := @C.wpe _ _ K130_13.eq_1
def K130_14 : C := .cond 10 (.v 14) K130_13 (.skip)
@[simp] def W130_14 := @C.wpe _ _ K130_14.eq_1
def K130_15 : C := .seq (.seq (.pl <| .st (.ext 10 5) <|
    .st (.act none (.px (some 10) (.mv (.v 0)))) <|
    .st (.act none (.px (some 11) (.lenV (.v 10)))) <|
    .st (.act none (.px (some 12) (.mv (.v 1)))) <|
    .st (.act none (.px (some 13) (.lenV (.v 12)))) <|
    .st (.act none (.px (some 14) (.bin .neq (.v 11) (.v 13)))) .done) K130_14) K130_12
@[simp] def W130_15 := @C.wpe _ _ K130_15.eq_1
def B_slices_EqualFunc_S_impl_Expr_S_impl_Expr_impl_Expr_impl_Expr : C := .seq (.pl <| .st (.ext 10 0) <|
    .st (.act none (.px (some 3) (.mv (.c (.bool false))))) .done) K130_15
@[simp] def WB_slices_EqualFunc_S_impl_Expr_S_impl_Expr_impl_Expr_impl_Expr := @C.wpe _ _ B_slices_EqualFunc_S_impl_Expr_S_impl_Expr_impl_Expr_impl_Expr.eq_1
def R_slices_EqualFunc_S_impl_Expr_S_impl_Expr_impl_Expr_impl_Expr : FIR := ⟨B_slices_EqualFunc_S_impl_Expr_S_impl_Expr_impl_Expr_impl_Expr, 10, [(3, none)]⟩
theorem IR_slices_EqualFunc_S_impl_Expr_S_impl_Expr_impl_Expr_impl_Expr : cfun Try.prog H_slices_EqualFunc_S_impl_Expr_S_impl_Expr_impl_Expr_impl_Expr Try.f130 = some R_slices_EqualFunc_S_impl_Expr_S_impl_Expr_impl_Expr_impl_Expr := by kernel_rfl
theorem EN_slices_EqualFunc_S_impl_Expr_S_impl_Expr_impl_Expr_impl_Expr {args : List Value} {h : Heap} {k : Value → Heap → Prop} (hargs : args.length = 3) (hw : B_slices_EqualFunc_S_impl_Expr_S_impl_Expr_impl_Expr_impl_Expr.wp Try.prog (retQ [(3, none)] k) (env0 args 10) h) : CallE Try.prog fn_slices_EqualFunc_S_impl_Expr_S_impl_Expr_impl_Expr_impl_Expr args h k := enter Try.func130 rfl IR_slices_EqualFunc_S_impl_Expr_S_impl_Expr_impl_Expr_impl_Expr hargs hw

def H_slices_Equal_S_int_int : Hint := ⟨[(0, false), (1, false), (4, false), (5, false), (12, false), (13, false)], [[2, 3]]⟩
def K38_1 : C := .seq (.pl <| .st (.ext 6 0) <|
    .st (.act none (.px (some 2) (.mv (.c (.bool true))))) .done) (.ret)
@[simp] def W38_1 := @C.wpe _ _ K38_1.eq_1
def K38_2 : C := .pl <| .st (.ext 6 1) <|
    .st (.act none (.px (some 6) (.bin .add (.v 5) (.c (.int .i64 1))))) <|
    .st (.act none (.px (some 5) (.mv (.v 6)))) .done
@[simp] def W38_2 := @C.wpe _ _ K38_2.eq_1
def K38_3 : C := .seq (.pl <| .st (.ext 6 0) <|
    .st (.act none (.px (some 2) (.mv (.c (.bool false))))) .done) (.ret)
@[simp] def W38_3 := @C.wpe _ _ K38_3.eq_1
def K38_4 : C := .cond 6 (.v 14) K38_3 (.skip)
@[simp] def W38_4 := @C.wpe _ _ K38_4.eq_1
def K38_5 : C := .seq (.pl <| .st (.ext 6 9) <|
    .st (.act none (.px (some 6) (.mv (.v 0)))) <|
    .st (.act none (.px (some 7) (.mv (.v 3)))) <|
    .st (.act none (.px (some 8) (.ia 1 (.v 6) (.v 7)))) <|
    .st (.act none (.ld (some 9) (.v 8) none)) <|
    .st (.act none (.px (some 10) (.mv (.v 1)))) <|
    .st (.act none (.px (some 11) (.mv (.v 3)))) <|
    .st (.act none (.px (some 12) (.ia 1 (.v 10) (.v 11)))) <|
    .st (.act none (.ld (some 13) (.v 12) none)) <|
    .st (.act none (.px (some 14) (.bin .neq (.v 9) (.v 13)))) .done) K38_4
@[simp] def W38_5 := @C.wpe _ _ K38_5.eq_1
def K38_6 : C := .seq (.block 1 (.seq (.pl <| .st (.ext 6 1) <|
    .st (.act none (.px (some 6) (.mv (.v 5)))) <|
    .st (.act none (.px (some 3) (.mv (.v 6)))) .done) K38_5)) K38_2
@[simp] def W38_6 := @C.wpe _ _ K38_6.eq_1
def K38_7 : C := .seq (.cond 6 (.v 6) (.skip) (.exit 0)) K38_6
@[simp] def W38_7 := @C.wpe _ _ K38_7.eq_1
def K38_8 : C := .seq (.pl <| .st (.ext 6 1) <|
    .st (.act none (.px (some 6) (.bin .lss (.v 5) (.v 4)))) .done) K38_7
@[simp] def W38_8 := @C.wpe _ _ K38_8.eq_1
def K38_9 : C := .block 0 (.loop 6 [2, 3] K38_8)
@[simp] def W38_9 := @C.wpe _ _ K38_9.eq_1
def K38_10 : C := .seq (.seq (.pl <| .st (.ext 6 1) <|
    .st (.act none (.px (some 6) (.mv (.v 0)))) <|
    .st (.act none (.px (some 4) (.lenV (.v 6)))) <|
    .st (.act none (.px (some 5) (.mv (.c (.int .i64 0))))) .done) K38_9) K38_1
@[simp] def W38_10 := @C.wpe _ _ K38_10.eq_1
def K38_11 : C := .seq (.pl <| .st (.ext 6 0) <|
    .st (.act none (.px (some 2) (.mv (.c (.bool false))))) .done) (.ret)
@[simp] def W38_11 := @C.wpe _ _ K38_11.eq_1
def K38_12 : C := .cond 6 (.v 10) K38_11 (.skip)
@[simp] def W38_12 := @C.wpe _ _ K38_12.eq_1
def K38_13 : C := .seq (.seq (.pl <| .st (.ext 6 5) <|
    .st (.act none (.px (some 6) (.mv (.v 0)))) <|
    .st (.act none (.px (some 7) (.lenV (.v 6)))) <|
    .st (.act none (.px (some 8) (.mv (.v 1)))) <|
    .st (.act none (.px (some 9) (.lenV (.v 8)))) <|
    .st (.act none (.px (some 10) (.bin .neq (.v 7) (.v 9)))) .done) K38_12) K38_10
@[simp] def W38_13 := @C.wpe _ _ K38_13.eq_1
def B_slices_Equal_S_int_int : C := .seq (.pl <| .st (.ext 6 0) <|
    .st (.act none (.px (some 2) (.mv (.c (.bool false))))) .done) K38_13
@[simp] def WB_slices_Equal_S_int_int := @C.wpe _ _ B_slices_Equal_S_int_int.eq_1
def R_slices_Equal_S_int_int : FIR := ⟨B_slices_Equal_S_int_int, 6, [(2, none)]⟩
theorem IR_slices_Equal_S_int_int : cfun Try.prog H_slices_Equal_S_int_int Try.f38 = some R_slices_Equal_S_int_int := by kernel_rfl
theorem EN_slices_Equal_S_int_int {args : List Value} {h : Heap} {k : Value → Heap → Prop} (hargs : args.length = 2) (hw : B_slices_Equal_S_int_int.wp Try.prog (retQ [(2, none)] k) (env0 args 6) h) : CallE Try.prog fn_slices_Equal_S_int_int args h k := enter Try.func38 rfl IR_slices_Equal_S_int_int hargs hw

def H_slices_IndexFunc_S_impl_Edge_impl_Edge : Hint := ⟨[(0, false), (1, false), (4, false), (5, false), (7, false), (8, false)], [[2, 3]]⟩
def K118_1 : C := .seq (.pl <| .st (.ext 6 0) <|
    .st (.act none (.px (some 2) (.mv (.c (.int .i64 (-1)))))) .done) (.ret)
@[simp] def W118_1 := @C.wpe _ _ K118_1.eq_1
def K118_2 : C := .pl <| .st (.ext 6 1) <|
    .st (.act none (.px (some 6) (.bin .add (.v 5) (.c (.int .i64 1))))) <|
    .st (.act none (.px (some 5) (.mv (.v 6)))) .done
@[simp] def W118_2 := @C.wpe _ _ K118_2.eq_1
def K118_3 : C := .seq (.pl <| .st (.ext 6 1) <|
    .st (.act none (.px (some 6) (.mv (.v 3)))) <|
    .st (.act none (.px (some 2) (.mv (.v 6)))) .done) (.ret)
@[simp] def W118_3 := @C.wpe _ _ K118_3.eq_1
def K118_4 : C := .cond 6 (.v 11) K118_3 (.skip)
@[simp] def W118_4 := @C.wpe _ _ K118_4.eq_1
def K118_5 : C := .seq (.pl <| .st (.ext 6 6) <|
    .st (.act none (.px (some 6) (.mv (.v 1)))) <|
    .st (.act none (.px (some 7) (.mv (.v 0)))) <|
    .st (.act none (.px (some 8) (.mv (.v 3)))) <|
    .st (.act none (.px (some 9) (.ia 10 (.v 7) (.v 8)))) <|
    .st (.act none (.ld (some 10) (.v 9) (some 10))) <|
    .st (.act none (.ex (some 11) (.callv (.v 6) [.v 10]))) .done) K118_4
@[simp] def W118_5 := @C.wpe _ _ K118_5.eq_1
def K118_6 : C := .seq (.block 1 (.seq (.pl <| .st (.ext 6 1) <|
    .st (.act none (.px (some 6) (.mv (.v 5)))) <|
    .st (.act none (.px (some 3) (.mv (.v 6)))) .done) K118_5)) K118_2
@[simp] def W118_6 := @C.wpe _ _ K118_6.eq_1
def K118_7 : C := .seq (.cond 6 (.v 6) (.skip) (.exit 0)) K118_6
@[simp] def W118_7 := @C.wpe _ _ K118_7.eq_1
def K118_8 : C := .seq (.pl <| .st (.ext 6 1) <|
    .st (.act none (.px (some 6) (.bin .lss (.v 5) (.v 4)))) .done) K118_7
@[simp] def W118_8 := @C.wpe _ _ K118_8.eq_1
def K118_9 : C := .block 0 (.loop 6 [2, 3] K118_8)
@[simp] def W118_9 := @C.wpe _ _ K118_9.eq_1
def K118_10 : C := .seq (.seq (.pl <| .st (.ext 6 1) <|
    .st (.act none (.px (some 6) (.mv (.v 0)))) <|
    .st (.act none (.px (some 4) (.lenV (.v 6)))) <|
    .st (.act none (.px (some 5) (.mv (.c (.int .i64 0))))) .done) K118_9) K118_1
@[simp] def W118_10 := @C.wpe _ _ K118_10.eq_1
def B_slices_IndexFunc_S_impl_Edge_impl_Edge : C := .seq (.pl <| .st (.ext 6 0) <|
    .st (.act none (.px (some 2) (.mv (.c (.int .i64 0))))) .done) K118_10
@[simp] def WB_slices_IndexFunc_S_impl_Edge_impl_Edge := @C.wpe _ _ B_slices_IndexFunc_S_impl_Edge_impl_Edge.eq_1
def R_slices_IndexFunc_S_impl_Edge_impl_Edge : FIR := ⟨B_slices_IndexFunc_S_impl_Edge_impl_Edge, 6, [(2, none)]⟩
theorem IR_slices_IndexFunc_S_impl_Edge_impl_Edge : cfun Try.prog H_slices_IndexFunc_S_impl_Edge_impl_Edge Try.f118 = some R_slices_IndexFunc_S_impl_Edge_impl_Edge := by kernel_rfl
theorem EN_slices_IndexFunc_S_impl_Edge_impl_Edge {args : List Value} {h : Heap} {k : Value → Heap → Prop} (hargs : args.length = 2) (hw : B_slices_IndexFunc_S_impl_Edge_impl_Edge.wp Try.prog (retQ [(2, none)] k) (env0 args 6) h) : CallE Try.prog fn_slices_IndexFunc_S_impl_Edge_impl_Edge args h k := enter Try.func118 rfl IR_slices_IndexFunc_S_impl_Edge_impl_Edge hargs hw

def H_slices_IndexFunc_S_impl_Expr_impl_Expr : Hint := ⟨[(0, false), (1, false), (4, false), (5, false), (7, false), (8, false)], [[2, 3]]⟩
def K121_1 : C := .seq (.pl <| .st (.ext 6 0) <|
    .st (.act none (.px (some 2) (.mv (.c (.int .i64 (-1)))))) .done) (.ret)
@[simp] def W121_1 := @C.wpe _ _ K121_1.eq_1
def K121_2 : C := .pl <| .st (.ext 6 1) <|
    .st (.act none (.px (some 6) (.bin .add (.v 5) (.c (.int .i64 1))))) <|
    .st (.act none (.px (some 5) (.mv (.v 6)))) .done
@[simp] def W121_2 := @C.wpe _ _ K121_2.eq_1
def K121_3 : C := .seq (.pl <| .st (.ext 6 1) <|
    .st (.act none (.px (some 6) (.mv (.v 3)))) <|
    .st (.act none (.px (some 2) (.mv (.v 6)))) .done) (.ret)
@[simp] def W121_3 := @C.wpe _ _ K121_3.eq_1
def K121_4 : C := .cond 6 (.v 11) K121_3 (.skip)
@[simp] def W121_4 := @C.wpe _ _ K121_4.eq_1
def K121_5 : C := .seq (.pl <| .st (.ext 6 6) <|
    .st (.act none (.px (some 6) (.mv (.v 1)))) <|
    .st (.act none (.px (some 7) (.mv (.v 0)))) <|
    .st (.act none (.px (some 8) (.mv (.v 3)))) <|
    .st (.act none (.px (some 9) (.ia 3 (.v 7) (.v 8)))) <|
    .st (.act none (.ld (some 10) (.v 9) (some 3))) <|
    .st (.act none (.ex (some 11) (.callv (.v 6) [.v 10]))) .done) K121_4
@[simp] def W121_5 := @C.wpe _ _ K121_5.eq_1
def K121_6 : C := .seq (.block 1 (.seq (.pl <| .st (.ext 6 1) <|
    .st (.act none (.px (some 6) (.mv (.v 5)))) <|
    .st (.act none (.px (some 3) (.mv (.v 6)))) .done) K121_5)) K121_2
@[simp] def W121_6 := @C.wpe _ _ K121_6.eq_1
def K121_7 : C := .seq (.cond 6 (.v 6) (.skip) (.exit 0)) K121_6
@[simp] def W121_7 := @C.wpe _ _ K121_7.eq_1
def K121_8 : C := .seq (.pl <| .st (.ext 6 1) <|
    .st (.act none (.px (some 6) (.bin .lss (.v 5) (.v 4)))) .done) K121_7
@[simp] def W121_8 := @C.wpe _ _ K121_8.eq_1
def K121_9 : C := .block 0 (.loop 6 [2, 3] K121_8)
@[simp] def W121_9 := @C.wpe _ _ K121_9.eq_1
def K121_10 : C := .seq (.seq (.pl <| .st (.ext 6 1) <|
    .st (.act none (.px (some 6) (.mv (.v 0)))) <|
    .st (.act none (.px (some 4) (.lenV (.v 6)))) <|
    .st (.act none (.px (some 5) (.mv (.c (.int .i64 0))))) .done) K121_9) K121_1
@[simp] def W121_10 := @C.wpe _ _ K121_10.eq_1
def B_slices_IndexFunc_S_impl_Expr_impl_Expr : C := .seq (.pl <| .st (.ext 6 0) <|
    .st (.act none (.px (some 2) (.mv (.c (.int .i64 0))))) .done) K121_10
@[simp] def WB_slices_IndexFunc_S_impl_Expr_impl_Expr := @C.wpe _ _ B_slices_IndexFunc_S_impl_Expr_impl_Expr.eq_1
def R_slices_IndexFunc_S_impl_Expr_impl_Expr : FIR := ⟨B_slices_IndexFunc_S_impl_Expr_impl_Expr, 6, [(2, none)]⟩
theorem IR_slices_IndexFunc_S_impl_Expr_impl_Expr : cfun Try.prog H_slices_IndexFunc_S_impl_Expr_impl_Expr Try.f121 = some R_slices_IndexFunc_S_impl_Expr_impl_Expr := by kernel_rfl
theorem EN_slices_IndexFunc_S_impl_Expr_impl_Expr {args : List Value} {h : Heap} {k : Value → Heap → Prop} (hargs : args.length = 2) (hw : B_slices_IndexFunc_S_impl_Expr_impl_Expr.wp Try.prog (retQ [(2, none)] k) (env0 args 6) h) : CallE Try.prog fn_slices_IndexFunc_S_impl_Expr_impl_Expr args h k := enter Try.func121 rfl IR_slices_IndexFunc_S_impl_Expr_impl_Expr hargs hw

def H_slices_IndexFunc_S_int_int : Hint := ⟨[(0, false), (1, false), (4, false), (5, false), (7, false), (8, false)], [[2, 3]]⟩
def K123_1 : C := .seq (.pl <| .st (.ext 6 0) <|
    .st (.act none (.px (some 2) (.mv (.c (.int .i64 (-1)))))) .done) (.ret)
@[simp] def W123_1 := @C.wpe _ _ K123_1.eq_1
def K123_2 : C := .pl <| .st (.ext 6 1) <|
    .st (.act none (.px (some 6) (.bin .add (.v 5) (.c (.int .i64 1))))) <|
    .st (.act none (.px (some 5) (.mv (.v 6)))) .done
@[simp] def W123_2 := @C.wpe _ _ K123_2.eq_1
def K123_3 : C := .seq (.pl <| .st (.ext 6 1) <|
    .st (.act none (.px (some 6) (.mv (.v 3)))) <|
    .st (.act none (.px (some 2) (.mv (.v 6)))) .done) (.ret)
@[simp] def W123_3 := @C.wpe _ _ K123_3.eq_1
def K123_4 : C := .cond 6 (.v 11) K123_3 (.skip)
@[simp] def W123_4 := @C.wpe _ _ K123_4.eq_1
def K123_5 : C := .seq (.pl <| .st (.ext 6 6) <|
    .st (.act none (.px (some 6) (.mv (.v 1)))) <|
    .st (.act none (.px (some 7) (.mv (.v 0)))) <|
    .st (.act none (.px (some 8) (.mv (.v 3)))) <|
    .st (.act none (.px (some 9) (.ia 1 (.v 7) (.v 8)))) <|
    .st (.act none (.ld (some 10) (.v 9) none)) <|
    .st (.act none (.ex (some 11) (.callv (.v 6) [.v 10]))) .done) K123_4
@[simp] def W123_5 := @C.wpe _ _ K123_5.eq_1
def K123_6 : C := .seq (.block 1 (.seq (.pl <| .st (.ext 6 1) <|
    .st (.act none (.px (some 6) (.mv (.v 5)))) <|
    .st (.act none (.px (some 3) (.mv (.v 6)))) .done) K123_5)) K123_2
@[simp] def W123_6 := @C.wpe _ _ K123_6.eq_1
def K123_7 : C := .seq (.cond 6 (.v 6) (.skip) (.exit 0)) K123_6
@[simp] def W123_7 := @C.wpe _ _ K123_7.eq_1
def K123_8 : C := .seq (.pl <| .st (.ext 6 1) <|
    .st (.act none (.px (some 6) (.bin .lss (.v 5) (.v 4)))) .done) K123_7
@[simp] def W123_8 := @C.wpe _ _ K123_8.eq_1
def K123_9 : C := .block 0 (.loop 6 [2, 3] K123_8)
@[simp] def W123_9 := @C.wpe _ _ K123_9.eq_1
def K123_10 : C := .seq (.seq (.pl <| .st (.ext 6 1) <|
    .st (.act none (.px (some 6) (.mv (.v 0)))) <|
    .st (.act none (.px (some 4) (.lenV (.v 6)))) <|
    .st (.act none (.px (some 5) (.mv (.c (.int .i64 0))))) .done) K123_9) K123_1
@[simp] def W123_10 := @C.wpe _ _ K123_10.eq_1
def B_slices_IndexFunc_S_int_int : C := .seq (.pl <| .st (.ext 6 0) <|
    .st (.act none (.px (some 2) (.mv (.c (.int .i64 0))))) .done) K123_10
@[simp] def WB_slices_IndexFunc_S_int_int := @C.wpe _ _ B_slices_IndexFunc_S_int_int.eq_1
def R_slices_IndexFunc_S_int_int : FIR := ⟨B_slices_IndexFunc_S_int_int, 6, [(2, none)]⟩
theorem IR_slices_IndexFunc_S_int_int : cfun Try.prog H_slices_IndexFunc_S_int_int Try.f123 = some R_slices_IndexFunc_S_int_int := by kernel_rfl
theorem EN_slices_IndexFunc_S_int_int {args : List Value} {h : Heap} {k : Value → Heap → Prop} (hargs : args.length = 2) (hw : B_slices_IndexFunc_S_int_int.wp Try.prog (retQ [(2, none)] k) (env0 args 6) h) : CallE Try.prog fn_slices_IndexFunc_S_int_int args h k := enter Try.func123 rfl IR_slices_IndexFunc_S_int_int hargs hw

def H_spec_EdgeValid : Hint := ⟨[(0, false), (1, false), (2, true), (4, false)], []⟩
def K131_1 : Pl := .st (.act (some (.v 12, false)) (.px (some 20) (.pick (.v 16) (.v 19) (.c (.bool false))))) <|
    .st (.act none (.px (some 21) (.pick (.v 12) (.c (.bool true)) (.v 20)))) <|
    .st (.act none (.px (some 3) (.mv (.v 21)))) .done
@[simp] def W131_1 := @Pl.wpe _ _ K131_1.eq_1
def K131_2 : Pl := .st (.act none (.px (some 11) (.pick (.v 7) (.v 10) (.c (.bool false))))) <|
    .st (.act none (.px (some 12) (.mv (.v 11)))) <|
    .st (.act (some (.v 12, false)) (.als 13 none 2)) <|
    .st (.act (some (.v 12, false)) (.pget (some 14) (some 13) 2 5 none)) <|
    .st (.act (some (.v 12, false)) (.px (some 15) (.bin .geq (.v 14) (.c (.int .i64 0))))) <|
    .st (.act (some (.v 12, false)) (.px (some 16) (.mv (.v 15)))) <|
    .st (.act (some (.v 16, true)) (.als 17 none 2)) <|
    .st (.act (some (.v 16, true)) (.pget (some 18) (some 17) 2 6 (some 3))) <|
    .st (.act (some (.v 16, true)) (.ex (some 19) (.call fn_spec_ExprValid [.v 18]))) K131_1
@[simp] def W131_2 := @Pl.wpe _ _ K131_2.eq_1
def K131_3 : C := .seq (.pl <| .st (.ext 4 18) <|
    .st (.act none (.als 4 none 2)) <|
    .st (.act none (.pget (some 5) (some 4) 2 5 none)) <|
    .st (.act none (.px (some 6) (.bin .lss (.v 5) (.c (.int .i64 0))))) <|
    .st (.act none (.px (some 7) (.mv (.v 6)))) <|
    .st (.act (some (.v 7, true)) (.als 8 none 2)) <|
    .st (.act (some (.v 7, true)) (.pget (some 9) (some 8) 2 6 (some 3))) <|
    .st (.act (some (.v 7, true)) (.ex (some 10) (.call fn_spec_l2None [.v 9]))) K131_2) (.ret)
@[simp] def W131_3 := @C.wpe _ _ K131_3.eq_1
def K131_4 : C := .seq (.pl <| .st (.ext 4 0) <|
    .st (.act none (.px (some 3) (.mv (.c (.bool false))))) .done) (.ret)
@[simp] def W131_4 := @C.wpe _ _ K131_4.eq_1
def K131_5 : C := .cond 4 (.v 21) K131_4 (.skip)
@[simp] def W131_5 := @C.wpe _ _ K131_5.eq_1
def K131_6 : C := .seq (.seq (.pl <| .st (.ext 4 18) <|
    .st (.act none (.als 4 none 2)) <|
    .st (.act none (.pget (some 5) (some 4) 2 9 none)) <|
    .st (.act none (.px (some 6) (.bin .lss (.v 5) (.c (.int .i64 (-2)))))) <|
    .st (.act none (.px (some 7) (.mv (.v 6)))) <|
    .st (.act (some (.v 7, false)) (.als 8 none 2)) <|
    .st (.act (some (.v 7, false)) (.pget (some 9) (some 8) 2 9 none)) <|
    .st (.act (some (.v 7, false)) (.px (some 10) (.bin .gtr (.v 9) (.c (.int .i64 2))))) <|
    .st (.act none (.px (some 11) (.pick (.v 7) (.c (.bool true)) (.v 10)))) <|
    .st (.act none (.px (some 12) (.mv (.v 11)))) <|
    .st (.act (some (.v 12, false)) (.als 13 none 2)) <|
    .st (.act (some (.v 12, false)) (.pget (some 14) (some 13) 2 5 none)) <|
    .st (.act (some (.v 12, false)) (.px (some 15) (.bin .lss (.v 14) (.c (.int .i64 (-1)))))) <|
    .st (.act none (.px (some 16) (.pick (.v 12) (.c (.bool true)) (.v 15)))) <|
    .st (.act none (.px (some 17) (.mv (.v 16)))) <|
    .st (.act (some (.v 17, false)) (.als 18 none 2)) <|
    .st (.act (some (.v 17, false)) (.pget (some 19) (some 18) 2 5 none)) <|
    .st (.act (some (.v 17, false)) (.px (some 20) (.bin .geq (.v 19) (.c (.int .i64 3))))) <|
    .st (.act none (.px (some 21) (.pick (.v 17) (.c (.bool true)) (.v 20)))) .done) K131_5) K131_3
@[simp] def W131_6 := @C.wpe _ _ K131_6.eq_1
def K131_7 : C := .seq (.pl <| .st (.ext 4 0) <|
    .st (.act none (.px (some 3) (.mv (.c (.bool false))))) .done) (.ret)
@[simp] def W131_7 := @C.wpe _ _ K131_7.eq_1
def K131_8 : C := .cond 4 (.v 33) K131_7 (.skip)
@[simp] def W131_8 := @C.wpe _ _ K131_8.eq_1
def K131_9 : Pl := .st (.act (some (.v 28, false)) (.px (some 32) (.un .not (.v 31)))) <|
    .st (.act none (.px (some 33) (.pick (.v 28) (.c (.bool true)) (.v 32)))) .done
@[simp] def W131_9 := @Pl.wpe _ _ K131_9.eq_1
def K131_10 : C := .seq (.seq (.pl <| .st (.ext 4 30) <|
    .st (.act none (.als 4 none 2)) <|
    .st (.act none (.pget (some 5) (some 4) 2 0 none)) <|
    .st (.act none (.px (some 6) (.bin .lss (.v 5) (.c (.int .i64 0))))) <|
    .st (.act none (.px (some 7) (.mv (.v 6)))) <|
    .st (.act (some (.v 7, false)) (.als 8 none 2)) <|
    .st (.act (some (.v 7, false)) (.pget (some 9) (some 8) 2 0 none)) <|
    .st (.act (some (.v 7, false)) (.px (some 10) (.mv (.v 1)))) <|
    .st (.act (some (.v 7, false)) (.px (some 11) (.bin .geq (.v 9) (.v 10)))) <|
    .st (.act none (.px (some 12) (.pick (.v 7) (.c (.bool true)) (.v 11)))) <|
    .st (.act none (.px (some 13) (.mv (.v 12)))) <|
    .st (.act (some (.v 13, false)) (.als 14 none 2)) <|
    .st (.act (some (.v 13, false)) (.pget (some 15) (some 14) 2 1 none)) <|
    .st (.act (some (.v 13, false)) (.px (some 16) (.bin .lss (.v 15) (.c (.int .i64 0))))) <|
    .st (.act none (.px (some 17) (.pick (.v 13) (.c (.bool true)) (.v 16)))) <|
    .st (.act none (.px (some 18) (.mv (.v 17)))) <|
    .st (.act (some (.v 18, false)) (.als 19 none 2)) <|
    .st (.act (some (.v 18, false)) (.pget (some 20) (some 19) 2 1 none)) <|
    .st (.act (some (.v 18, false)) (.px (some 21) (.mv (.v 1)))) <|
    .st (.act (some (.v 18, false)) (.px (some 22) (.bin .geq (.v 20) (.v 21)))) <|
    .st (.act none (.px (some 23) (.pick (.v 18) (.c (.bool true)) (.v 22)))) <|
    .st (.act none (.px (some 24) (.mv (.v 23)))) <|
    .st (.act (some (.v 24, false)) (.px (some 25) (.mv (.v 1)))) <|
    .st (.act (some (.v 24, false)) (.px (some 26) (.bin .gtr (.v 25) (.c (.int .i64 4))))) <|
    .st (.act none (.px (some 27) (.pick (.v 24) (.c (.bool true)) (.v 26)))) <|
    .st (.act none (.px (some 28) (.mv (.v 27)))) <|
    .st (.act (some (.v 28, false)) (.als 29 none 2)) <|
    .st (.act (some (.v 28, false)) (.pget (some 30) (some 29) 2 2 (some 3))) <|
    .st (.act (some (.v 28, false)) (.ex (some 31) (.call fn_spec_ExprValid [.v 30]))) K131_9) K131_8) K131_6
@[simp] def W131_10 := @C.wpe _ _ K131_10.eq_1
def B_spec_EdgeValid : C := .seq (.pl <| .st (.ext 4 0) <|
    .st (.act none (.pnew 2 (.v 0) [])) <|
    .st (.act none (.px (some 3) (.mv (.c (.bool false))))) .done) K131_10
@[simp] def WB_spec_EdgeValid := @C.wpe _ _ B_spec_EdgeValid.eq_1
def R_spec_EdgeValid : FIR := ⟨B_spec_EdgeValid, 4, [(3, none)]⟩
theorem IR_spec_EdgeValid : cfun Try.prog H_spec_EdgeValid Try.f131 = some R_spec_EdgeValid := by kernel_rfl
theorem EN_spec_EdgeValid {args : List Value} {h : Heap} {k : Value → Heap → Prop} (hargs : args.length = 2) (hw : B_spec_EdgeValid.wp Try.prog (retQ [(3, none)] k) (env0 args 4) h) : CallE Try.prog fn_spec_EdgeValid args h k := enter Try.func131 rfl IR_spec_EdgeValid hargs hw

def H_spec_ExprValid : Hint := ⟨[(0, false), (1, true), (2, false)], []⟩
def K114_1 : Pl := .st (.act (some (.v 5, true)) (.px (some 8) (.bin .leq (.v 7) (.c (.int .i64 15))))) <|
    .st (.act none (.px (some 9) (.pick (.v 5) (.v 8) (.c (.bool false))))) <|
    .st (.act none (.px (some 2) (.mv (.v 9)))) .done
@[simp] def W114_1 := @Pl.wpe _ _ K114_1.eq_1
def K114_2 : Pl := .st (.act none (.px (some 5) (.mv (.v 4)))) <|
    .st (.act (some (.v 5, true)) (.pget (some 6) none 1 0 (some 3))) <|
    .st (.act (some (.v 5, true)) (.ex (some 7) (.call fn_spec_l1Count [.v 6, .c (.int .i64 6)]))) K114_1
@[simp] def W114_2 := @Pl.wpe _ _ K114_2.eq_1
def K114_3 : C := .seq (.pl <| .st (.ext 3 7) <|
    .st (.act none (.pget (some 3) none 1 0 (some 3))) <|
    .st (.act none (.ex (some 4) (.call fn_spec_l1Shape [.v 3, .c (.int .i64 6)]))) K114_2) (.ret)
@[simp] def W114_3 := @C.wpe _ _ K114_3.eq_1
def B_spec_ExprValid : C := .seq (.pl <| .st (.ext 3 0) <|
    .st (.act none (.pnew 1 (.v 0) [])) <|
    .st (.act none (.px (some 2) (.mv (.c (.bool false))))) .done) K114_3
@[simp] def WB_spec_ExprValid := @C.wpe _ _ B_spec_ExprValid.eq_1
def R_spec_ExprValid : FIR := ⟨B_spec_ExprValid, 3, [(2, none)]⟩
theorem IR_spec_ExprValid : cfun Try.prog H_spec_ExprValid Try.f114 = some R_spec_ExprValid := by kernel_rfl
theorem EN_spec_ExprValid {args : List Value} {h : Heap} {k : Value → Heap → Prop} (hargs : args.length = 1) (hw : B_spec_ExprValid.wp Try.prog (retQ [(2, none)] k) (env0 args 3) h) : CallE Try.prog fn_spec_ExprValid args h k := enter Try.func114 rfl IR_spec_ExprValid hargs hw

def H_spec_SystemValid : Hint := ⟨[(0, false), (1, true), (2, false), (3, false)], [[0, 2]]⟩
def K69_1 : Pl := .st (.act none (.px (some 7) (.mv (.v 6)))) <|
    .st (.act (some (.v 7, true)) (.als 8 none 1)) <|
    .st (.act (some (.v 7, true)) (.pget (some 9) (some 8) 1 1 none)) <|
    .st (.act (some (.v 7, true)) (.px (some 10) (.lenV (.v 9)))) <|
    .st (.act (some (.v 7, true)) (.px (some 11) (.bin .geq (.v 10) (.c (.int .i64 1))))) <|
    .st (.act none (.px (some 12) (.pick (.v 7) (.v 11) (.c (.bool false))))) <|
    .st (.act none (.px (some 13) (.mv (.v 12)))) <|
    .st (.act (some (.v 13, true)) (.als 14 none 1)) <|
    .st (.act (some (.v 13, true)) (.pget (some 15) (some 14) 1 1 none)) <|
    .st (.act (some (.v 13, true)) (.px (some 16) (.lenV (.v 15)))) <|
    .st (.act (some (.v 13, true)) (.px (some 17) (.bin .leq (.v 16) (.c (.int .i64 3))))) <|
    .st (.act none (.px (some 18) (.pick (.v 13) (.v 17) (.c (.bool false))))) <|
    .st (.act none (.px (some 2) (.mv (.v 18)))) .done
@[simp] def W69_1 := @Pl.wpe _ _ K69_1.eq_1
def K69_2 : C := .seq (.pl <| .st (.ext 4 15) <|
    .st (.act none (.als 4 none 1)) <|
    .st (.act none (.pget (some 5) (some 4) 1 0 none)) <|
    .st (.act none (.ex (some 6) (.call fn_spec_l1Vals [.v 5]))) K69_1) (.ret)
@[simp] def W69_2 := @C.wpe _ _ K69_2.eq_1
def K69_3 : C := .pl <| .st (.ext 4 2) <|
    .st (.act none (.px (some 4) (.mv (.v 3)))) <|
    .st (.act none (.px (some 5) (.bin .add (.v 4) (.c (.int .i64 1))))) <|
    .st (.act none (.px (some 3) (.mv (.v 5)))) .done
@[simp] def W69_3 := @C.wpe _ _ K69_3.eq_1
def K69_4 : C := .seq (.pl <| .st (.ext 4 0) <|
    .st (.act none (.px (some 2) (.mv (.c (.bool false))))) .done) (.ret)
@[simp] def W69_4 := @C.wpe _ _ K69_4.eq_1
def K69_5 : C := .cond 4 (.v 10) K69_4 (.skip)
@[simp] def W69_5 := @C.wpe _ _ K69_5.eq_1
def K69_6 : Pl := .st (.act none (.px (some 10) (.un .not (.v 9)))) .done
@[simp] def W69_6 := @Pl.wpe _ _ K69_6.eq_1
def K69_7 : C := .seq (.block 1 (.seq (.pl <| .st (.ext 4 7) <|
    .st (.act none (.als 4 none 1)) <|
    .st (.act none (.pget (some 5) (some 4) 1 1 none)) <|
    .st (.act none (.px (some 6) (.mv (.v 3)))) <|
    .st (.act none (.px (some 7) (.ia 2 (.v 5) (.v 6)))) <|
    .st (.act none (.ld (some 8) (.v 7) (some 2))) <|
    .st (.act none (.ex (some 9) (.call fn_spec_l2Process [.v 8]))) K69_6) K69_5)) K69_3
@[simp] def W69_7 := @C.wpe _ _ K69_7.eq_1
def K69_8 : C := .cond 4 (.v 8) (.skip) (.exit 0)
@[simp] def W69_8 := @C.wpe _ _ K69_8.eq_1
def K69_9 : C := .seq (.seq (.pl <| .st (.ext 4 5) <|
    .st (.act none (.px (some 4) (.mv (.v 3)))) <|
    .st (.act none (.als 5 none 1)) <|
    .st (.act none (.pget (some 6) (some 5) 1 1 none)) <|
    .st (.act none (.px (some 7) (.lenV (.v 6)))) <|
    .st (.act none (.px (some 8) (.bin .lss (.v 4) (.v 7)))) .done) K69_8) K69_7
@[simp] def W69_9 := @C.wpe _ _ K69_9.eq_1
def K69_10 : C := .block 0 (.loop 4 [0, 2] K69_9)
@[simp] def W69_10 := @C.wpe _ _ K69_10.eq_1
def K69_11 : C := .seq (.seq (.pl <| .st (.ext 4 0) <|
    .st (.act none (.px (some 3) (.mv (.c (.int .i64 0))))) .done) K69_10) K69_2
@[simp] def W69_11 := @C.wpe _ _ K69_11.eq_1
def B_spec_SystemValid : C := .seq (.pl <| .st (.ext 4 0) <|
    .st (.act none (.pnew 1 (.v 0) [])) <|
    .st (.act none (.px (some 2) (.mv (.c (.bool false))))) .done) K69_11
@[simp] def WB_spec_SystemValid := @C.wpe _ _ B_spec_SystemValid.eq_1
def R_spec_SystemValid : FIR := ⟨B_spec_SystemValid, 4, [(2, none)]⟩
theorem IR_spec_SystemValid : cfun Try.prog H_spec_SystemValid Try.f69 = some R_spec_SystemValid := by kernel_rfl
theorem EN_spec_SystemValid {args : List Value} {h : Heap} {k : Value → Heap → Prop} (hargs : args.length = 1) (hw : B_spec_SystemValid.wp Try.prog (retQ [(2, none)] k) (env0 args 4) h) : CallE Try.prog fn_spec_SystemValid args h k := enter Try.func69 rfl IR_spec_SystemValid hargs hw

def H_spec_l16Open : Hint := ⟨[(0, false), (2, false)], []⟩
def K39_1 : Pl := .st (.act none (.px (some 1) (.mv (.v 4)))) .done
@[simp] def W39_1 := @Pl.wpe _ _ K39_1.eq_1
def K39_2 : C := .seq (.pl <| .st (.ext 2 3) <|
    .st (.act none (.px (some 2) (.mv (.v 0)))) <|
    .st (.act none (.px (some 3) (.build [.slice none 0 0, .int .i64 0] [(0, 1, .v 2)]))) <|
    .st (.act none (.ex (some 4) (.alloc (.v 3)))) K39_1) (.ret)
@[simp] def W39_2 := @C.wpe _ _ K39_2.eq_1
def K39_3 : C := .pl <| .st (.ext 2 2) <|
    .st (.act none (.px (some 2) (.mv (.v 0)))) <|
    .st (.act none (.px (some 3) (.sliceV 1 (.v 2) none (some (.c (.int .i64 2000))) none))) <|
    .st (.act none (.px (some 0) (.mv (.v 3)))) .done
@[simp] def W39_3 := @C.wpe _ _ K39_3.eq_1
def K39_4 : C := .cond 2 (.v 4) K39_3 (.skip)
@[simp] def W39_4 := @C.wpe _ _ K39_4.eq_1
def K39_5 : C := .seq (.seq (.pl <| .st (.ext 2 3) <|
    .st (.act none (.px (some 2) (.mv (.v 0)))) <|
    .st (.act none (.px (some 3) (.lenV (.v 2)))) <|
    .st (.act none (.px (some 4) (.bin .gtr (.v 3) (.c (.int .i64 2000))))) .done) K39_4) K39_2
@[simp] def W39_5 := @C.wpe _ _ K39_5.eq_1
def B_spec_l16Open : C := .seq (.pl <| .st (.ext 2 0) <|
    .st (.act none (.px (some 1) (.mv (.c (.pointer none))))) .done) K39_5
@[simp] def WB_spec_l16Open := @C.wpe _ _ B_spec_l16Open.eq_1
def R_spec_l16Open : FIR := ⟨B_spec_l16Open, 2, [(1, none)]⟩
theorem IR_spec_l16Open : cfun Try.prog H_spec_l16Open Try.f39 = some R_spec_l16Open := by kernel_rfl
theorem EN_spec_l16Open {args : List Value} {h : Heap} {k : Value → Heap → Prop} (hargs : args.length = 1) (hw : B_spec_l16Open.wp Try.prog (retQ [(1, none)] k) (env0 args 2) h) : CallE Try.prog fn_spec_l16Open args h k := enter Try.func39 rfl IR_spec_l16Open hargs hw

def H_spec_l16Rd_num : Hint := ⟨[(0, false), (1, false), (4, false)], []⟩
def K42_1 : Pl := .st (.act none (.px (some 8) (.ia 1 (.v 3) (.v 7)))) <|
    .st (.act none (.ld (some 9) (.v 8) none)) <|
    .st (.act none (.px (some 2) (.mv (.v 9)))) .done
@[simp] def W42_1 := @Pl.wpe _ _ K42_1.eq_1
def K42_2 : C := .seq (.pl <| .st (.ext 3 7) <|
    .st (.act none (.px (some 3) (.mv (.v 1)))) <|
    .st (.act none (.px (some 4) (.mv (.v 0)))) <|
    .st (.act none (.px (some 5) (.mv (.v 1)))) <|
    .st (.act none (.px (some 6) (.lenV (.v 5)))) <|
    .st (.act none (.ex (some 7) (.call fn_spec_l16Rd_pick [.v 4, .v 6]))) K42_1) (.ret)
@[simp] def W42_2 := @C.wpe _ _ K42_2.eq_1
def B_spec_l16Rd_num : C := .seq (.pl <| .st (.ext 3 0) <|
    .st (.act none (.px (some 2) (.mv (.c (.int .i64 0))))) .done) K42_2
@[simp] def WB_spec_l16Rd_num := @C.wpe _ _ B_spec_l16Rd_num.eq_1
def R_spec_l16Rd_num : FIR := ⟨B_spec_l16Rd_num, 3, [(2, none)]⟩
theorem IR_spec_l16Rd_num : cfun Try.prog H_spec_l16Rd_num Try.f42 = some R_spec_l16Rd_num := by kernel_rfl
theorem EN_spec_l16Rd_num {args : List Value} {h : Heap} {k : Value → Heap → Prop} (hargs : args.length = 2) (hw : B_spec_l16Rd_num.wp Try.prog (retQ [(2, none)] k) (env0 args 3) h) : CallE Try.prog fn_spec_l16Rd_num args h k := enter Try.func42 rfl IR_spec_l16Rd_num hargs hw

def H_spec_l16Rd_pick : Hint := ⟨[(0, false), (1, false), (4, false), (5, false), (6, false)], []⟩
def K76_1 : C := .seq (.pl <| .st (.ext 5 3) <|
    .st (.act none (.px (some 5) (.mv (.v 4)))) <|
    .st (.act none (.px (some 6) (.mv (.v 1)))) <|
    .st (.act none (.px (some 7) (.bin .rem (.v 5) (.v 6)))) <|
    .st (.act none (.px (some 2) (.mv (.v 7)))) .done) (.ret)
@[simp] def W76_1 := @C.wpe _ _ K76_1.eq_1
def K76_2 : C := .seq (.pl <| .st (.ext 5 4) <|
    .st (.act none (.px (some 5) (.mv (.v 4)))) <|
    .st (.act none (.px (some 6) (.mv (.v 4)))) <|
    .st (.act none (.px (some 7) (.bin .quo (.v 6) (.c (.int .i64 64))))) <|
    .st (.act none (.px (some 8) (.bin .xor (.v 5) (.v 7)))) <|
    .st (.act none (.px (some 4) (.mv (.v 8)))) .done) K76_1
@[simp] def W76_2 := @C.wpe _ _ K76_2.eq_1
def K76_3 : C := .seq (.pl <| .st (.ext 5 45) <|
    .st (.act none (.px (some 5) (.mv (.v 0)))) <|
    .st (.act none (.px (some 6) (.nilc (.v 5)))) <|
    .st (.act none (.px (some 7) (.fa 0 (.v 6)))) <|
    .st (.act none (.ld (some 8) (.v 7) none)) <|
    .st (.act none (.px (some 9) (.mv (.v 3)))) <|
    .st (.act none (.px (some 10) (.mv (.v 0)))) <|
    .st (.act none (.px (some 11) (.nilc (.v 10)))) <|
    .st (.act none (.px (some 12) (.fa 0 (.v 11)))) <|
    .st (.act none (.ld (some 13) (.v 12) none)) <|
    .st (.act none (.px (some 14) (.lenV (.v 13)))) <|
    .st (.act none (.px (some 15) (.bin .rem (.v 9) (.v 14)))) <|
    .st (.act none (.px (some 16) (.ia 1 (.v 8) (.v 15)))) <|
    .st (.act none (.ld (some 17) (.v 16) none)) <|
    .st (.act none (.px (some 18) (.conv .i64 (.v 17)))) <|
    .st (.act none (.px (some 19) (.bin .mul (.v 18) (.c (.int .i64 131))))) <|
    .st (.act none (.px (some 20) (.mv (.v 0)))) <|
    .st (.act none (.px (some 21) (.nilc (.v 20)))) <|
    .st (.act none (.px (some 22) (.fa 0 (.v 21)))) <|
    .st (.act none (.ld (some 23) (.v 22) none)) <|
    .st (.act none (.px (some 24) (.mv (.v 3)))) <|
    .st (.act none (.px (some 25) (.bin .mul (.v 24) (.c (.int .i64 7))))) <|
    .st (.act none (.px (some 26) (.bin .add (.v 25) (.c (.int .i64 3))))) <|
    .st (.act none (.px (some 27) (.mv (.v 0)))) <|
    .st (.act none (.px (some 28) (.nilc (.v 27)))) <|
    .st (.act none (.px (some 29) (.fa 0 (.v 28)))) <|
    .st (.act none (.ld (some 30) (.v 29) none)) <|
    .st (.act none (.px (some 31) (.lenV (.v 30)))) <|
    .st (.act none (.px (some 32) (.bin .rem (.v 26) (.v 31)))) <|
    .st (.act none (.px (some 33) (.ia 1 (.v 23) (.v 32)))) <|
    .st (.act none (.ld (some 34) (.v 33) none)) <|
    .st (.act none (.px (some 35) (.conv .i64 (.v 34)))) <|
    .st (.act none (.px (some 36) (.bin .mul (.v 35) (.c (.int .i64 1117))))) <|
    .st (.act none (.px (some 37) (.bin .add (.v 19) (.v 36)))) <|
    .st (.act none (.px (some 38) (.mv (.v 3)))) <|
    .st (.act none (.px (some 39) (.bin .mul (.v 38) (.c (.int .i64 29))))) <|
    .st (.act none (.px (some 40) (.bin .add (.v 37) (.v 39)))) <|
    .st (.act none (.px (some 41) (.mv (.v 3)))) <|
    .st (.act none (.px (some 42) (.mv (.v 0)))) <|
    .st (.act none (.px (some 43) (.nilc (.v 42)))) <|
    .st (.act none (.px (some 44) (.fa 0 (.v 43)))) <|
    .st (.act none (.ld (some 45) (.v 44) none)) <|
    .st (.act none (.px (some 46) (.lenV (.v 45)))) <|
    .st (.act none (.px (some 47) (.bin .quo (.v 41) (.v 46)))) <|
    .st (.act none (.px (some 48) (.bin .mul (.v 47) (.c (.int .i64 53))))) <|
    .st (.act none (.px (some 49) (.bin .add (.v 40) (.v 48)))) <|
    .st (.act none (.px (some 4) (.mv (.v 49)))) .done) K76_2
@[simp] def W76_3 := @C.wpe _ _ K76_3.eq_1
def K76_4 : C := .seq (.pl <| .st (.ext 5 10) <|
    .st (.act none (.px (some 5) (.mv (.v 0)))) <|
    .st (.act none (.px (some 6) (.nilc (.v 5)))) <|
    .st (.act none (.px (some 7) (.fa 0 (.v 6)))) <|
    .st (.act none (.ld (some 8) (.v 7) none)) <|
    .st (.act none (.px (some 9) (.mv (.v 3)))) <|
    .st (.act none (.px (some 10) (.ia 1 (.v 8) (.v 9)))) <|
    .st (.act none (.ld (some 11) (.v 10) none)) <|
    .st (.act none (.px (some 12) (.conv .i64 (.v 11)))) <|
    .st (.act none (.px (some 13) (.mv (.v 1)))) <|
    .st (.act none (.px (some 14) (.bin .rem (.v 12) (.v 13)))) <|
    .st (.act none (.px (some 2) (.mv (.v 14)))) .done) (.ret)
@[simp] def W76_4 := @C.wpe _ _ K76_4.eq_1
def K76_5 : C := .cond 5 (.v 11) K76_4 (.skip)
@[simp] def W76_5 := @C.wpe _ _ K76_5.eq_1
def K76_6 : C := .seq (.seq (.pl <| .st (.ext 5 7) <|
    .st (.act none (.px (some 5) (.mv (.v 3)))) <|
    .st (.act none (.px (some 6) (.mv (.v 0)))) <|
    .st (.act none (.px (some 7) (.nilc (.v 6)))) <|
    .st (.act none (.px (some 8) (.fa 0 (.v 7)))) <|
    .st (.act none (.ld (some 9) (.v 8) none)) <|
    .st (.act none (.px (some 10) (.lenV (.v 9)))) <|
    .st (.act none (.px (some 11) (.bin .lss (.v 5) (.v 10)))) .done) K76_5) K76_3
@[simp] def W76_6 := @C.wpe _ _ K76_6.eq_1
def K76_7 : C := .seq (.pl <| .st (.ext 5 5) <|
    .st (.act none (.px (some 5) (.mv (.v 0)))) <|
    .st (.act none (.px (some 6) (.nilc (.v 5)))) <|
    .st (.act none (.px (some 7) (.fa 1 (.v 6)))) <|
    .st (.act none (.ld (some 8) (.v 7) none)) <|
    .st (.act none (.px (some 9) (.bin .sub (.v 8) (.c (.int .i64 1))))) <|
    .st (.act none (.px (some 3) (.mv (.v 9)))) .done) K76_6
@[simp] def W76_7 := @C.wpe _ _ K76_7.eq_1
def K76_8 : C := .seq (.pl <| .st (.ext 5 0) <|
    .st (.act none (.px (some 2) (.mv (.c (.int .i64 0))))) .done) (.ret)
@[simp] def W76_8 := @C.wpe _ _ K76_8.eq_1
def K76_9 : C := .cond 5 (.v 14) K76_8 (.skip)
@[simp] def W76_9 := @C.wpe _ _ K76_9.eq_1
def K76_10 : C := .seq (.seq (.pl <| .st (.ext 5 10) <|
    .st (.act none (.px (some 5) (.mv (.v 1)))) <|
    .st (.act none (.px (some 6) (.bin .lss (.v 5) (.c (.int .i64 1))))) <|
    .st (.act none (.px (some 7) (.mv (.v 6)))) <|
    .st (.act (some (.v 7, false)) (.px (some 8) (.mv (.v 0)))) <|
    .st (.act (some (.v 7, false)) (.px (some 9) (.nilc (.v 8)))) <|
    .st (.act (some (.v 7, false)) (.px (some 10) (.fa 0 (.v 9)))) <|
    .st (.act (some (.v 7, false)) (.ld (some 11) (.v 10) none)) <|
    .st (.act (some (.v 7, false)) (.px (some 12) (.lenV (.v 11)))) <|
    .st (.act (some (.v 7, false)) (.px (some 13) (.bin .eql (.v 12) (.c (.int .i64 0))))) <|
    .st (.act none (.px (some 14) (.pick (.v 7) (.c (.bool true)) (.v 13)))) .done) K76_9) K76_7
@[simp] def W76_10 := @C.wpe _ _ K76_10.eq_1
def K76_11 : C := .seq (.pl <| .st (.ext 5 8) <|
    .st (.act none (.px (some 5) (.mv (.v 0)))) <|
    .st (.act none (.px (some 6) (.mv (.v 0)))) <|
    .st (.act none (.px (some 7) (.nilc (.v 6)))) <|
    .st (.act none (.px (some 8) (.fa 1 (.v 7)))) <|
    .st (.act none (.ld (some 9) (.v 8) none)) <|
    .st (.act none (.px (some 10) (.bin .add (.v 9) (.c (.int .i64 1))))) <|
    .st (.act none (.px (some 11) (.nilc (.v 5)))) <|
    .st (.act none (.px (some 12) (.fa 1 (.v 11)))) <|
    .st (.act none (.ex none (.store 1 (.v 12) (.v 10)))) .done) K76_10
@[simp] def W76_11 := @C.wpe _ _ K76_11.eq_1
def B_spec_l16Rd_pick : C := .seq (.pl <| .st (.ext 5 0) <|
    .st (.act none (.px (some 2) (.mv (.c (.int .i64 0))))) .done) K76_11
@[simp] def WB_spec_l16Rd_pick := @C.wpe _ _ B_spec_l16Rd_pick.eq_1
def R_spec_l16Rd_pick : FIR := ⟨B_spec_l16Rd_pick, 5, [(2, none)]⟩
theorem IR_spec_l16Rd_pick : cfun Try.prog H_spec_l16Rd_pick Try.f76 = some R_spec_l16Rd_pick := by kernel_rfl
theorem EN_spec_l16Rd_pick {args : List Value} {h : Heap} {k : Value → Heap → Prop} (hargs : args.length = 2) (hw : B_spec_l16Rd_pick.wp Try.prog (retQ [(2, none)] k) (env0 args 5) h) : CallE Try.prog fn_spec_l16Rd_pick args h k := enter Try.func76 rfl IR_spec_l16Rd_pick hargs hw

def H_spec_l1Arity : Hint := ⟨[(0, false), (2, false), (3, false), (4, false)], []⟩
def K133_1 : C := .seq (.pl <| .st (.ext 4 0) <|
    .st (.act none (.px (some 1) (.mv (.c (.int .i64 (-1)))))) .done) (.ret)
@[simp] def W133_1 := @C.wpe _ _ K133_1.eq_1
def K133_2 : C := .seq (.pl <| .st (.ext 4 0) <|
    .st (.act none (.px (some 1) (.mv (.c (.int .i64 2))))) .done) (.ret)
@[simp] def W133_2 := @C.wpe _ _ K133_2.eq_1
def K133_3 : C := .cond 4 (.v 9) K133_2 (.skip)
@[simp] def W133_3 := @C.wpe _ _ K133_3.eq_1
def K133_4 : C := .seq (.seq (.pl <| .st (.ext 4 6) <|
    .st (.act none (.px (some 4) (.mv (.v 0)))) <|
    .st (.act none (.px (some 5) (.bin .geq (.v 4) (.c (.int .i64 4))))) <|
    .st (.act none (.px (some 6) (.mv (.v 5)))) <|
    .st (.act (some (.v 6, true)) (.px (some 7) (.mv (.v 0)))) <|
    .st (.act (some (.v 6, true)) (.px (some 8) (.bin .leq (.v 7) (.c (.int .i64 9))))) <|
    .st (.act none (.px (some 9) (.pick (.v 6) (.v 8) (.c (.bool false))))) .done) K133_3) K133_1
@[simp] def W133_4 := @C.wpe _ _ K133_4.eq_1
def K133_5 : C := .seq (.pl <| .st (.ext 4 0) <|
    .st (.act none (.px (some 1) (.mv (.c (.int .i64 0))))) .done) (.ret)
@[simp] def W133_5 := @C.wpe _ _ K133_5.eq_1
def K133_6 : C := .seq (.pl <| .st (.ext 4 0) <|
    .st (.act none (.px (some 1) (.mv (.c (.int .i64 1))))) .done) (.ret)
@[simp] def W133_6 := @C.wpe _ _ K133_6.eq_1
def K133_7 : C := .cond 4 (.v 5) K133_6 (.skip)
@[simp] def W133_7 := @C.wpe _ _ K133_7.eq_1
def K133_8 : C := .seq (.pl <| .st (.ext 4 2) <|
    .st (.act none (.px (some 4) (.bin .eql (.v 2) (.c (.int .i64 3))))) <|
    .st (.act none (.px (some 5) (.mv (.v 4)))) .done) K133_7
@[simp] def W133_8 := @C.wpe _ _ K133_8.eq_1
def K133_9 : C := .cond 4 (.v 3) K133_5 K133_8
@[simp] def W133_9 := @C.wpe _ _ K133_9.eq_1
def K133_10 : C := .pl <| .st (.ext 4 1) <|
    .st (.act none (.px (some 4) (.bin .eql (.v 2) (.c (.int .i64 2))))) <|
    .st (.act none (.px (some 3) (.mv (.v 4)))) .done
@[simp] def W133_10 := @C.wpe _ _ K133_10.eq_1
def K133_11 : C := .cond 4 (.v 3) (.skip) K133_10
@[simp] def W133_11 := @C.wpe _ _ K133_11.eq_1
def K133_12 : C := .block 0 (.seq (.seq (.pl <| .st (.ext 4 1) <|
    .st (.act none (.px (some 4) (.bin .eql (.v 2) (.c (.int .i64 1))))) <|
    .st (.act none (.px (some 3) (.mv (.v 4)))) .done) K133_11) K133_9)
@[simp] def W133_12 := @C.wpe _ _ K133_12.eq_1
def K133_13 : C := .seq (.seq (.pl <| .st (.ext 4 0) <|
    .st (.act none (.px (some 2) (.mv (.v 0)))) .done) K133_12) K133_4
@[simp] def W133_13 := @C.wpe _ _ K133_13.eq_1
def B_spec_l1Arity : C := .seq (.pl <| .st (.ext 4 0) <|
    .st (.act none (.px (some 1) (.mv (.c (.int .i64 0))))) .done) K133_13
@[simp] def WB_spec_l1Arity := @C.wpe _ _ B_spec_l1Arity.eq_1
def R_spec_l1Arity : FIR := ⟨B_spec_l1Arity, 4, [(1, none)]⟩
theorem IR_spec_l1Arity : cfun Try.prog H_spec_l1Arity Try.f133 = some R_spec_l1Arity := by kernel_rfl
theorem EN_spec_l1Arity {args : List Value} {h : Heap} {k : Value → Heap → Prop} (hargs : args.length = 1) (hw : B_spec_l1Arity.wp Try.prog (retQ [(1, none)] k) (env0 args 4) h) : CallE Try.prog fn_spec_l1Arity args h k := enter Try.func133 rfl IR_spec_l1Arity hargs hw


end Go.Proofs.Ytonjglbachhdcaa

/-
  Bodies of functions in the small language, as a program printed them, and that each is what the translation gives.
-/
namespace Go.Proofs.Ytonjglbachhdcaa
open Go
set_option linter.all false
set_option linter.defProp false
set_option maxRecDepth 1000000

def H_impl_BuildGraph : Hint := ⟨[(0, false), (1, true), (2, true), (3, false)], []⟩
def K18_1 : Pl := .st (.act none (.px (some 6) (.extract 0 (.v 5)))) <|
    .st (.act none (.px (some 7) (.extract 1 (.v 5)))) <|
    .st (.act none (.pset none 2 0 2 (.v 6))) <|
    .st (.act none (.px (some 3) (.mv (.v 7)))) .done
@[simp] def W18_1 := @Pl.wpe _ _ K18_1.eq_1
def K18_2 : C := .seq (.pl <| .st (.ext 4 4) <|
    .st (.act none (.pget (some 4) none 1 0 (some 2))) <|
    .st (.act none (.ex (some 5) (.call fn_impl_System_build [.v 4]))) K18_1) (.ret)
@[simp] def W18_2 := @C.wpe _ _ K18_2.eq_1
def K18_3 : C := .seq (.pl <| .st (.ext 4 1) <|
    .st (.act none (.px (some 4) (.build [.slice none 0 0, .slice none 0 0] []))) <|
    .st (.act none (.pset none 2 0 2 (.v 4))) <|
    .st (.act none (.px (some 3) (.mv (.c (.bool false))))) .done) (.ret)
@[simp] def W18_3 := @C.wpe _ _ K18_3.eq_1
def K18_4 : C := .cond 4 (.v 6) K18_3 (.skip)
@[simp] def W18_4 := @C.wpe _ _ K18_4.eq_1
def K18_5 : Pl := .st (.act none (.px (some 6) (.un .not (.v 5)))) .done
@[simp] def W18_5 := @Pl.wpe _ _ K18_5.eq_1
def K18_6 : C := .seq (.seq (.pl <| .st (.ext 4 3) <|
    .st (.act none (.pget (some 4) none 1 0 (some 2))) <|
    .st (.act none (.ex (some 5) (.call fn_impl_SystemValid [.v 4]))) K18_5) K18_4) K18_2
@[simp] def W18_6 := @C.wpe _ _ K18_6.eq_1
def B_impl_BuildGraph : C := .seq (.pl <| .st (.ext 4 0) <|
    .st (.act none (.pnew 1 (.v 0) [])) <|
    .st (.act none (.pnew 2 (.c (.agg #[.slice none 0 0, .slice none 0 0])) [])) <|
    .st (.act none (.px (some 3) (.mv (.c (.bool false))))) .done) K18_6
@[simp] def WB_impl_BuildGraph := @C.wpe _ _ B_impl_BuildGraph.eq_1
def R_impl_BuildGraph : FIR := ⟨B_impl_BuildGraph, 4, [(2, some (some 2)), (3, none)]⟩
theorem IR_impl_BuildGraph : cfun Try.prog H_impl_BuildGraph Try.f18 = some R_impl_BuildGraph := by kernel_rfl
theorem EN_impl_BuildGraph {args : List Value} {h : Heap} {k : Value → Heap → Prop} (hargs : args.length = 1) (hw : B_impl_BuildGraph.wp Try.prog (retQ [(2, some (some 2)), (3, none)] k) (env0 args 4) h) : CallE Try.prog fn_impl_BuildGraph args h k := enter Try.func18 rfl IR_impl_BuildGraph hargs hw

def H_impl_System_build : Hint := ⟨[(0, false), (1, true), (2, true), (3, false), (4, true), (5, false), (6, false), (8, true), (9, false), (10, false), (28, false), (29, false), (30, false)], [[0, 3, 6, 7, 8, 9, 10, 11, 12], [0, 3, 7, 8, 9]]⟩
def K46_1 : Pl := .st (.act none (.px (some 19) (.build [.slice none 0 0, .slice none 0 0] [(0, 1, .v 15), (1, 1, .v 18)]))) <|
    .st (.act none (.pset none 2 0 2 (.v 19))) <|
    .st (.act none (.px (some 3) (.mv (.c (.bool true))))) .done
@[simp] def W46_1 := @Pl.wpe _ _ K46_1.eq_1
def K46_2 : Pl := .st (.act none (.ex (some 18) (.call fn_slices_Clip_S_S_int_S_int [.v 17]))) K46_1
@[simp] def W46_2 := @Pl.wpe _ _ K46_2.eq_1
def K46_3 : C := .seq (.pl <| .st (.ext 13 7) <|
    .st (.act none (.als 13 none 4)) <|
    .st (.act none (.pget (some 14) (some 13) 4 0 none)) <|
    .st (.act none (.als 16 none 4)) <|
    .st (.act none (.pget (some 17) (some 16) 4 1 none)) <|
    .st (.act none (.ex (some 15) (.call fn_slices_Clip_S_impl_State_impl_State [.v 14]))) K46_2) (.ret)
@[simp] def W46_3 := @C.wpe _ _ K46_3.eq_1
def K46_4 : C := .pl <| .st (.ext 13 2) <|
    .st (.act none (.px (some 13) (.mv (.v 5)))) <|
    .st (.act none (.px (some 14) (.bin .add (.v 13) (.c (.int .i64 1))))) <|
    .st (.act none (.px (some 5) (.mv (.v 14)))) .done
@[simp] def W46_4 := @C.wpe _ _ K46_4.eq_1
def K46_5 : C := .seq (.pl <| .st (.ext 13 1) <|
    .st (.act none (.px (some 13) (.build [.slice none 0 0, .slice none 0 0] []))) <|
    .st (.act none (.pset none 2 0 2 (.v 13))) <|
    .st (.act none (.px (some 3) (.mv (.c (.bool false))))) .done) (.ret)
@[simp] def W46_5 := @C.wpe _ _ K46_5.eq_1
def K46_6 : C := .cond 13 (.v 16) K46_5 (.skip)
@[simp] def W46_6 := @C.wpe _ _ K46_6.eq_1
def K46_7 : C := .seq (.pl <| .st (.ext 13 4) <|
    .st (.act none (.als 13 none 4)) <|
    .st (.act none (.pget (some 14) (some 13) 4 0 none)) <|
    .st (.act none (.px (some 15) (.lenV (.v 14)))) <|
    .st (.act none (.px (some 16) (.bin .gtr (.v 15) (.c (.int .i64 60))))) .done) K46_6
@[simp] def W46_7 := @C.wpe _ _ K46_7.eq_1
def K46_8 : Pl := .st (.act none (.als 19 none 4)) <|
    .st (.act none (.pset (some 19) 4 1 1 (.v 18))) .done
@[simp] def W46_8 := @Pl.wpe _ _ K46_8.eq_1
def K46_9 : Pl := .st (.act none (.psl 17 [.slice none 0 0] [(0, 1, .v 16)])) <|
    .st (.act none (.ex (some 18) (.app 24 1 [.slice none 0 0] (.o (.v 14)) (.p 1 17)))) K46_8
@[simp] def W46_9 := @Pl.wpe _ _ K46_9.eq_1
def K46_10 : C := .seq (.pl <| .st (.ext 13 7) <|
    .st (.act none (.als 13 none 4)) <|
    .st (.act none (.pget (some 14) (some 13) 4 1 none)) <|
    .st (.act none (.px (some 15) (.mv (.v 6)))) <|
    .st (.act none (.ex (some 16) (.call fn_slices_Clip_S_int_int [.v 15]))) K46_9) K46_7
@[simp] def W46_10 := @C.wpe _ _ K46_10.eq_1
def K46_11 : Pl := .st (.act none (.px (some 6) (.mv (.v 14)))) .done
@[simp] def W46_11 := @Pl.wpe _ _ K46_11.eq_1
def K46_12 : C := .pl <| .st (.ext 13 2) <|
    .st (.act none (.px (some 13) (.mv (.v 5)))) <|
    .st (.act none (.ex (some 14) (.bls 1 1 [.int .i64 0] [(0, 1, .v 13)]))) K46_11
@[simp] def W46_12 := @C.wpe _ _ K46_12.eq_1
def K46_13 : C := .cond 13 (.v 15) K46_12 (.skip)
@[simp] def W46_13 := @C.wpe _ _ K46_13.eq_1
def K46_14 : C := .seq (.seq (.pl <| .st (.ext 13 3) <|
    .st (.act none (.px (some 13) (.mv (.v 6)))) <|
    .st (.act none (.px (some 14) (.lenV (.v 13)))) <|
    .st (.act none (.px (some 15) (.bin .eql (.v 14) (.c (.int .i64 0))))) .done) K46_13) K46_10
@[simp] def W46_14 := @C.wpe _ _ K46_14.eq_1
def K46_15 : C := .pl <| .st (.ext 13 1) <|
    .st (.act none (.px (some 13) (.bin .add (.v 12) (.c (.int .i64 1))))) <|
    .st (.act none (.px (some 12) (.mv (.v 13)))) .done
@[simp] def W46_15 := @C.wpe _ _ K46_15.eq_1
def K46_16 : Pl := .st (.act none (.px (some 6) (.mv (.v 16)))) .done
@[simp] def W46_16 := @Pl.wpe _ _ K46_16.eq_1
def K46_17 : C := .pl <| .st (.ext 13 4) <|
    .st (.act none (.px (some 13) (.mv (.v 6)))) <|
    .st (.act none (.px (some 14) (.mv (.v 9)))) <|
    .st (.act none (.psl 15 [.int .i64 0] [(0, 1, .v 14)])) <|
    .st (.act none (.ex (some 16) (.app 8 1 [.int .i64 0] (.o (.v 13)) (.p 1 15)))) K46_16
@[simp] def W46_17 := @C.wpe _ _ K46_17.eq_1
def K46_18 : C := .cond 13 (.v 16) K46_17 (.skip)
@[simp] def W46_18 := @C.wpe _ _ K46_18.eq_1
def K46_19 : Pl := .st (.act none (.px (some 16) (.un .not (.v 15)))) .done
@[simp] def W46_19 := @Pl.wpe _ _ K46_19.eq_1
def K46_20 : C := .seq (.pl <| .st (.ext 13 4) <|
    .st (.act none (.px (some 13) (.mv (.v 6)))) <|
    .st (.act none (.px (some 14) (.mv (.v 9)))) <|
    .st (.act none (.ex (some 15) (.call fn_slices_Contains_S_int_int [.v 13, .v 14]))) K46_19) K46_18
@[simp] def W46_20 := @C.wpe _ _ K46_20.eq_1
def K46_21 : Pl := .st (.act none (.als 18 none 4)) <|
    .st (.act none (.pset (some 18) 4 0 1 (.v 17))) .done
@[simp] def W46_21 := @Pl.wpe _ _ K46_21.eq_1
def K46_22 : C := .pl <| .st (.ext 13 6) <|
    .st (.act none (.als 13 none 4)) <|
    .st (.act none (.pget (some 14) (some 13) 4 0 none)) <|
    .st (.act none (.ld (some 15) (.v 8) (some 2))) <|
    .st (.act none (.psl 16 [.slice none 0 0, .slice none 0 0] [(0, 2, .v 15)])) <|
    .st (.act none (.ex (some 17) (.app 48 2 [.slice none 0 0, .slice none 0 0] (.o (.v 14)) (.p 1 16)))) K46_21
@[simp] def W46_22 := @C.wpe _ _ K46_22.eq_1
def K46_23 : C := .seq (.pl <| .st (.ext 13 3) <|
    .st (.act none (.als 13 none 4)) <|
    .st (.act none (.pget (some 14) (some 13) 4 0 none)) <|
    .st (.act none (.px (some 15) (.lenV (.v 14)))) <|
    .st (.act none (.px (some 9) (.mv (.v 15)))) .done) K46_22
@[simp] def W46_23 := @C.wpe _ _ K46_23.eq_1
def K46_24 : C := .cond 13 (.v 14) K46_23 (.skip)
@[simp] def W46_24 := @C.wpe _ _ K46_24.eq_1
def K46_25 : C := .seq (.seq (.pl <| .st (.ext 13 2) <|
    .st (.act none (.px (some 13) (.mv (.v 9)))) <|
    .st (.act none (.px (some 14) (.bin .lss (.v 13) (.c (.int .i64 0))))) .done) K46_24) K46_20
@[simp] def W46_25 := @C.wpe _ _ K46_25.eq_1
def K46_26 : Pl := .st (.act none (.px (some 9) (.mv (.v 16)))) .done
@[simp] def W46_26 := @Pl.wpe _ _ K46_26.eq_1
def K46_27 : C := .seq (.pl <| .st (.ext 13 4) <|
    .st (.act none (.als 13 none 4)) <|
    .st (.act none (.pget (some 14) (some 13) 4 0 none)) <|
    .st (.act none (.px (some 15) (.mkf (.func fn_impl_System_build_1) [] [.v 8]))) <|
    .st (.act none (.ex (some 16) (.call fn_slices_IndexFunc_S_impl_State_impl_State [.v 14, .v 15]))) K46_26) K46_25
@[simp] def W46_27 := @C.wpe _ _ K46_27.eq_1
def K46_28 : Pl := .st (.re 18 (.v 17) (some 2) none) <|
    .st (.act none (.ex none (.store 2 (.v 8) (.v 20)))) .done
@[simp] def W46_28 := @Pl.wpe _ _ K46_28.eq_1
def K46_29 : Pl := .st (.act none (.ex (some 8) (.alloc (.c (.agg #[.slice none 0 0, .slice none 0 0]))))) K46_28
@[simp] def W46_29 := @Pl.wpe _ _ K46_29.eq_1
def K46_30 : Pl := .st (.act none (.ex (some 20) (.call fn_impl_System_after [.v 13, .v 18, .v 19]))) K46_29
@[simp] def W46_30 := @Pl.wpe _ _ K46_30.eq_1
def K46_31 : Pl := .st (.act none (.ex none (.store 2 (.v 8) (.v 20)))) .done
@[simp] def W46_31 := @Pl.wpe _ _ K46_31.eq_1
def K46_32 : Pl := .st (.re 18 (.v 17) (some 2) none) <|
    .st (.act none (.ex (some 20) (.call fn_impl_System_after [.v 13, .v 18, .v 19]))) K46_31
@[simp] def W46_32 := @Pl.wpe _ _ K46_32.eq_1
def K46_33 : Pl := .st (.act none (.ex (some 8) (.alloc (.c (.agg #[.slice none 0 0, .slice none 0 0]))))) K46_32
@[simp] def W46_33 := @Pl.wpe _ _ K46_33.eq_1
def K46_34 : C := .seq (.pl <| .st (.ext 13 8) <|
    .st (.act none (.pget (some 13) none 1 0 (some 2))) <|
    .st (.act none (.als 14 none 4)) <|
    .st (.act none (.pget (some 15) (some 14) 4 0 none)) <|
    .st (.act none (.px (some 16) (.mv (.v 5)))) <|
    .st (.act none (.px (some 17) (.ia 2 (.v 15) (.v 16)))) <|
    .st (.act none (.ld (some 18) (.v 17) (some 2))) <|
    .st (.act none (.pget (some 19) none 7 0 (some 4))) <|
    .both K46_30 K46_33) K46_27
@[simp] def W46_34 := @C.wpe _ _ K46_34.eq_1
def K46_35 : C := .seq (.block 3 (.seq (.pl <| .st (.ext 13 2) <|
    .st (.act none (.px (some 13) (.ia 4 (.v 10) (.v 12)))) <|
    .st (.act none (.ld (some 14) (.v 13) (some 4))) <|
    .st (.act none (.pnew 7 (.c (.agg #[.int .i64 0, .int .i64 0, .int .i64 0, .int .i64 0])) [])) <|
    .st (.act none (.pset none 7 0 4 (.v 14))) .done) K46_34)) K46_15
@[simp] def W46_35 := @C.wpe _ _ K46_35.eq_1
def K46_36 : C := .seq (.cond 13 (.v 13) (.skip) (.exit 2)) K46_35
@[simp] def W46_36 := @C.wpe _ _ K46_36.eq_1
def K46_37 : C := .seq (.pl <| .st (.ext 13 1) <|
    .st (.act none (.px (some 13) (.bin .lss (.v 12) (.v 11)))) .done) K46_36
@[simp] def W46_37 := @C.wpe _ _ K46_37.eq_1
def K46_38 : C := .block 2 (.loop 13 [0, 3, 7, 8, 9] K46_37)
@[simp] def W46_38 := @C.wpe _ _ K46_38.eq_1
def K46_39 : Pl := .st (.act none (.px (some 11) (.lenV (.v 10)))) <|
    .st (.act none (.px (some 12) (.mv (.c (.int .i64 0))))) <|
    .st (.re 18 (.v 17) (some 2) none) .done
@[simp] def W46_39 := @Pl.wpe _ _ K46_39.eq_1
def K46_40 : Pl := .st (.act none (.px (some 12) (.mv (.c (.int .i64 0))))) <|
    .st (.re 18 (.v 17) (some 2) none) <|
    .st (.act none (.px (some 11) (.lenV (.v 10)))) .done
@[simp] def W46_40 := @Pl.wpe _ _ K46_40.eq_1
def K46_41 : Pl := .both K46_39 K46_40
@[simp] def W46_41 := @Pl.wpe _ _ K46_41.eq_1
def K46_42 : Pl := .st (.act none (.ex (some 10) (.call fn_impl_System_enabled [.v 13, .v 18]))) K46_41
@[simp] def W46_42 := @Pl.wpe _ _ K46_42.eq_1
def K46_43 : Pl := .st (.act none (.px (some 11) (.lenV (.v 10)))) .done
@[simp] def W46_43 := @Pl.wpe _ _ K46_43.eq_1
def K46_44 : Pl := .st (.act none (.px (some 12) (.mv (.c (.int .i64 0))))) <|
    .st (.re 18 (.v 17) (some 2) none) <|
    .st (.act none (.ex (some 10) (.call fn_impl_System_enabled [.v 13, .v 18]))) K46_43
@[simp] def W46_44 := @Pl.wpe _ _ K46_44.eq_1
def K46_45 : C := .seq (.seq (.pl <| .st (.ext 13 6) <|
    .st (.act none (.pget (some 13) none 1 0 (some 2))) <|
    .st (.act none (.als 14 none 4)) <|
    .st (.act none (.pget (some 15) (some 14) 4 0 none)) <|
    .st (.act none (.px (some 16) (.mv (.v 5)))) <|
    .st (.act none (.px (some 17) (.ia 2 (.v 15) (.v 16)))) <|
    .st (.act none (.ld (some 18) (.v 17) (some 2))) <|
    .both K46_42 K46_44) K46_38) K46_14
@[simp] def W46_45 := @C.wpe _ _ K46_45.eq_1
def K46_46 : C := .seq (.block 1 (.seq (.pl <| .st (.ext 13 0) <|
    .st (.act none (.px (some 6) (.mv (.c (.slice none 0 0))))) .done) K46_45)) K46_4
@[simp] def W46_46 := @C.wpe _ _ K46_46.eq_1
def K46_47 : C := .cond 13 (.v 17) (.skip) (.exit 0)
@[simp] def W46_47 := @C.wpe _ _ K46_47.eq_1
def K46_48 : C := .seq (.seq (.pl <| .st (.ext 13 5) <|
    .st (.act none (.px (some 13) (.mv (.v 5)))) <|
    .st (.act none (.als 14 none 4)) <|
    .st (.act none (.pget (some 15) (some 14) 4 0 none)) <|
    .st (.act none (.px (some 16) (.lenV (.v 15)))) <|
    .st (.act none (.px (some 17) (.bin .lss (.v 13) (.v 16)))) .done) K46_47) K46_46
@[simp] def W46_48 := @C.wpe _ _ K46_48.eq_1
def K46_49 : C := .block 0 (.loop 13 [0, 3, 6, 7, 8, 9, 10, 11, 12] K46_48)
@[simp] def W46_49 := @C.wpe _ _ K46_49.eq_1
def K46_50 : C := .seq (.seq (.pl <| .st (.ext 13 0) <|
    .st (.act none (.px (some 5) (.mv (.c (.int .i64 0))))) .done) K46_49) K46_3
@[simp] def W46_50 := @C.wpe _ _ K46_50.eq_1
def K46_51 : Pl := .st (.act none (.px (some 16) (.build [.slice none 0 0, .slice none 0 0] [(0, 1, .v 15)]))) <|
    .st (.act none (.pnew 4 (.c (.agg #[.slice none 0 0, .slice none 0 0])) [])) <|
    .st (.act none (.pset none 4 0 2 (.v 16))) .done
@[simp] def W46_51 := @Pl.wpe _ _ K46_51.eq_1
def K46_52 : Pl := .st (.act none (.ex (some 15) (.bls 2 1 [.slice none 0 0, .slice none 0 0] [(0, 2, .v 14)]))) K46_51
@[simp] def W46_52 := @Pl.wpe _ _ K46_52.eq_1
def K46_53 : C := .seq (.pl <| .st (.ext 13 4) <|
    .st (.act none (.pget (some 13) none 1 0 (some 2))) <|
    .st (.act none (.ex (some 14) (.call fn_impl_System_initial [.v 13]))) K46_52) K46_50
@[simp] def W46_53 := @C.wpe _ _ K46_53.eq_1
def B_impl_System_build : C := .seq (.pl <| .st (.ext 13 0) <|
    .st (.act none (.pnew 1 (.v 0) [])) <|
    .st (.act none (.pnew 2 (.c (.agg #[.slice none 0 0, .slice none 0 0])) [])) <|
    .st (.act none (.px (some 3) (.mv (.c (.bool false))))) .done) K46_53
@[simp] def WB_impl_System_build := @C.wpe _ _ B_impl_System_build.eq_1
def R_impl_System_build : FIR := ⟨B_impl_System_build, 13, [(2, some (some 2)), (3, none)]⟩
theorem IR_impl_System_build : cfun Try.prog H_impl_System_build Try.f46 = some R_impl_System_build := by kernel_rfl
theorem EN_impl_System_build {args : List Value} {h : Heap} {k : Value → Heap → Prop} (hargs : args.length = 1) (hw : B_impl_System_build.wp Try.prog (retQ [(2, some (some 2)), (3, none)] k) (env0 args 13) h) : CallE Try.prog fn_impl_System_build args h k := enter Try.func46 rfl IR_impl_System_build hargs hw

def H_impl_System_build_1 : Hint := ⟨[(0, false), (1, false), (2, true), (3, false)], []⟩
def K89_1 : Pl := .st (.act none (.px (some 3) (.mv (.v 6)))) .done
@[simp] def W89_1 := @Pl.wpe _ _ K89_1.eq_1
def K89_2 : C := .seq (.pl <| .st (.ext 4 3) <|
    .st (.act none (.pget (some 4) none 2 0 (some 2))) <|
    .st (.act none (.ld (some 5) (.v 1) (some 2))) <|
    .st (.act none (.ex (some 6) (.call fn_impl_StateSame [.v 4, .v 5]))) K89_1) (.ret)
@[simp] def W89_2 := @C.wpe _ _ K89_2.eq_1
def B_impl_System_build_1 : C := .seq (.pl <| .st (.ext 4 0) <|
    .st (.act none (.pnew 2 (.v 0) [])) <|
    .st (.act none (.px (some 3) (.mv (.c (.bool false))))) .done) K89_2
@[simp] def WB_impl_System_build_1 := @C.wpe _ _ B_impl_System_build_1.eq_1
def R_impl_System_build_1 : FIR := ⟨B_impl_System_build_1, 4, [(3, none)]⟩
theorem IR_impl_System_build_1 : cfun Try.prog H_impl_System_build_1 Try.f89 = some R_impl_System_build_1 := by kernel_rfl
theorem EN_impl_System_build_1 {args : List Value} {h : Heap} {k : Value → Heap → Prop} (hargs : args.length = 2) (hw : B_impl_System_build_1.wp Try.prog (retQ [(3, none)] k) (env0 args 4) h) : CallE Try.prog fn_impl_System_build_1 args h k := enter Try.func89 rfl IR_impl_System_build_1 hargs hw

def H_impl_System_initial : Hint := ⟨[(0, false), (1, true), (2, true)], []⟩
def K87_1 : Pl := .st (.act none (.px (some 10) (.build [.slice none 0 0, .slice none 0 0] [(0, 1, .v 6), (1, 1, .v 9)]))) <|
    .st (.act none (.pset none 2 0 2 (.v 10))) .done
@[simp] def W87_1 := @Pl.wpe _ _ K87_1.eq_1
def K87_2 : Pl := .st (.act none (.ex (some 9) (.call fn_impl_clone_int [.v 8]))) K87_1
@[simp] def W87_2 := @Pl.wpe _ _ K87_2.eq_1
def K87_3 : Pl := .st (.act none (.ex (some 6) (.mks 8 1 [.int .i64 0] (.v 5) (.v 5)))) K87_2
@[simp] def W87_3 := @Pl.wpe _ _ K87_3.eq_1
def K87_4 : Pl := .st (.act none (.px (some 10) (.build [.slice none 0 0, .slice none 0 0] [(0, 1, .v 6), (1, 1, .v 9)]))) <|
    .st (.act none (.pset none 2 0 2 (.v 10))) .done
@[simp] def W87_4 := @Pl.wpe _ _ K87_4.eq_1
def K87_5 : Pl := .st (.act none (.ex (some 6) (.mks 8 1 [.int .i64 0] (.v 5) (.v 5)))) K87_4
@[simp] def W87_5 := @Pl.wpe _ _ K87_5.eq_1
def K87_6 : Pl := .st (.act none (.ex (some 9) (.call fn_impl_clone_int [.v 8]))) K87_5
@[simp] def W87_6 := @Pl.wpe _ _ K87_6.eq_1
def K87_7 : C := .seq (.pl <| .st (.ext 3 8) <|
    .st (.act none (.als 3 none 1)) <|
    .st (.act none (.pget (some 4) (some 3) 1 1 none)) <|
    .st (.act none (.px (some 5) (.lenV (.v 4)))) <|
    .st (.act none (.als 7 none 1)) <|
    .st (.act none (.pget (some 8) (some 7) 1 0 none)) <|
    .both K87_3 K87_6) (.ret)
@[simp] def W87_7 := @C.wpe _ _ K87_7.eq_1
def B_impl_System_initial : C := .seq (.pl <| .st (.ext 3 0) <|
    .st (.act none (.pnew 1 (.v 0) [])) <|
    .st (.act none (.pnew 2 (.c (.agg #[.slice none 0 0, .slice none 0 0])) [])) .done) K87_7
@[simp] def WB_impl_System_initial := @C.wpe _ _ B_impl_System_initial.eq_1
def R_impl_System_initial : FIR := ⟨B_impl_System_initial, 3, [(2, some (some 2))]⟩
theorem IR_impl_System_initial : cfun Try.prog H_impl_System_initial Try.f87 = some R_impl_System_initial := by kernel_rfl
theorem EN_impl_System_initial {args : List Value} {h : Heap} {k : Value → Heap → Prop} (hargs : args.length = 1) (hw : B_impl_System_initial.wp Try.prog (retQ [(2, some (some 2))] k) (env0 args 3) h) : CallE Try.prog fn_impl_System_initial args h k := enter Try.func87 rfl IR_impl_System_initial hargs hw

def H_slices_Clip_S_S_int_S_int : Hint := ⟨[(0, false), (2, false)], []⟩
def K93_1 : C := .seq (.pl <| .st (.ext 2 6) <|
    .st (.act none (.px (some 2) (.mv (.v 0)))) <|
    .st (.act none (.px (some 3) (.mv (.v 0)))) <|
    .st (.act none (.px (some 4) (.lenV (.v 3)))) <|
    .st (.act none (.px (some 5) (.mv (.v 0)))) <|
    .st (.act none (.px (some 6) (.lenV (.v 5)))) <|
    .st (.act none (.px (some 7) (.sliceV 1 (.v 2) none (some (.v 4)) (some (.v 6))))) <|
    .st (.act none (.px (some 1) (.mv (.v 7)))) .done) (.ret)
@[simp] def W93_1 := @C.wpe _ _ K93_1.eq_1
def B_slices_Clip_S_S_int_S_int : C := .seq (.pl <| .st (.ext 2 0) <|
    .st (.act none (.px (some 1) (.mv (.c (.slice none 0 0))))) .done) K93_1
@[simp] def WB_slices_Clip_S_S_int_S_int := @C.wpe _ _ B_slices_Clip_S_S_int_S_int.eq_1
def R_slices_Clip_S_S_int_S_int : FIR := ⟨B_slices_Clip_S_S_int_S_int, 2, [(1, none)]⟩
theorem IR_slices_Clip_S_S_int_S_int : cfun Try.prog H_slices_Clip_S_S_int_S_int Try.f93 = some R_slices_Clip_S_S_int_S_int := by kernel_rfl
theorem EN_slices_Clip_S_S_int_S_int {args : List Value} {h : Heap} {k : Value → Heap → Prop} (hargs : args.length = 1) (hw : B_slices_Clip_S_S_int_S_int.wp Try.prog (retQ [(1, none)] k) (env0 args 2) h) : CallE Try.prog fn_slices_Clip_S_S_int_S_int args h k := enter Try.func93 rfl IR_slices_Clip_S_S_int_S_int hargs hw

def H_slices_Clip_S_impl_State_impl_State : Hint := ⟨[(0, false), (2, false)], []⟩
def K92_1 : C := .seq (.pl <| .st (.ext 2 6) <|
    .st (.act none (.px (some 2) (.mv (.v 0)))) <|
    .st (.act none (.px (some 3) (.mv (.v 0)))) <|
    .st (.act none (.px (some 4) (.lenV (.v 3)))) <|
    .st (.act none (.px (some 5) (.mv (.v 0)))) <|
    .st (.act none (.px (some 6) (.lenV (.v 5)))) <|
    .st (.act none (.px (some 7) (.sliceV 2 (.v 2) none (some (.v 4)) (some (.v 6))))) <|
    .st (.act none (.px (some 1) (.mv (.v 7)))) .done) (.ret)
@[simp] def W92_1 := @C.wpe _ _ K92_1.eq_1
def B_slices_Clip_S_impl_State_impl_State : C := .seq (.pl <| .st (.ext 2 0) <|
    .st (.act none (.px (some 1) (.mv (.c (.slice none 0 0))))) .done) K92_1
@[simp] def WB_slices_Clip_S_impl_State_impl_State := @C.wpe _ _ B_slices_Clip_S_impl_State_impl_State.eq_1
def R_slices_Clip_S_impl_State_impl_State : FIR := ⟨B_slices_Clip_S_impl_State_impl_State, 2, [(1, none)]⟩
theorem IR_slices_Clip_S_impl_State_impl_State : cfun Try.prog H_slices_Clip_S_impl_State_impl_State Try.f92 = some R_slices_Clip_S_impl_State_impl_State := by kernel_rfl
theorem EN_slices_Clip_S_impl_State_impl_State {args : List Value} {h : Heap} {k : Value → Heap → Prop} (hargs : args.length = 1) (hw : B_slices_Clip_S_impl_State_impl_State.wp Try.prog (retQ [(1, none)] k) (env0 args 2) h) : CallE Try.prog fn_slices_Clip_S_impl_State_impl_State args h k := enter Try.func92 rfl IR_slices_Clip_S_impl_State_impl_State hargs hw

def H_slices_Contains_S_int_int : Hint := ⟨[(0, false), (1, false), (4, false)], []⟩
def K90_1 : Pl := .st (.act none (.px (some 6) (.bin .geq (.v 5) (.c (.int .i64 0))))) <|
    .st (.act none (.px (some 2) (.mv (.v 6)))) .done
@[simp] def W90_1 := @Pl.wpe _ _ K90_1.eq_1
def K90_2 : C := .seq (.pl <| .st (.ext 3 4) <|
    .st (.act none (.px (some 3) (.mv (.v 0)))) <|
    .st (.act none (.px (some 4) (.mv (.v 1)))) <|
    .st (.act none (.ex (some 5) (.call fn_slices_Index_S_int_int [.v 3, .v 4]))) K90_1) (.ret)
@[simp] def W90_2 := @C.wpe _ _ K90_2.eq_1
def B_slices_Contains_S_int_int : C := .seq (.pl <| .st (.ext 3 0) <|
    .st (.act none (.px (some 2) (.mv (.c (.bool false))))) .done) K90_2
@[simp] def WB_slices_Contains_S_int_int := @C.wpe _ _ B_slices_Contains_S_int_int.eq_1
def R_slices_Contains_S_int_int : FIR := ⟨B_slices_Contains_S_int_int, 3, [(2, none)]⟩
theorem IR_slices_Contains_S_int_int : cfun Try.prog H_slices_Contains_S_int_int Try.f90 = some R_slices_Contains_S_int_int := by kernel_rfl
theorem EN_slices_Contains_S_int_int {args : List Value} {h : Heap} {k : Value → Heap → Prop} (hargs : args.length = 2) (hw : B_slices_Contains_S_int_int.wp Try.prog (retQ [(2, none)] k) (env0 args 3) h) : CallE Try.prog fn_slices_Contains_S_int_int args h k := enter Try.func90 rfl IR_slices_Contains_S_int_int hargs hw

def H_slices_IndexFunc_S_impl_State_impl_State : Hint := ⟨[(0, false), (1, false), (4, false), (5, false), (7, false), (8, false)], [[2, 3]]⟩
def K88_1 : C := .seq (.pl <| .st (.ext 6 0) <|
    .st (.act none (.px (some 2) (.mv (.c (.int .i64 (-1)))))) .done) (.ret)
@[simp] def W88_1 := @C.wpe _ _ K88_1.eq_1
def K88_2 : C := .pl <| .st (.ext 6 1) <|
    .st (.act none (.px (some 6) (.bin .add (.v 5) (.c (.int .i64 1))))) <|
    .st (.act none (.px (some 5) (.mv (.v 6)))) .done
@[simp] def W88_2 := @C.wpe _ _ K88_2.eq_1
def K88_3 : C := .seq (.pl <| .st (.ext 6 1) <|
    .st (.act none (.px (some 6) (.mv (.v 3)))) <|
    .st (.act none (.px (some 2) (.mv (.v 6)))) .done) (.ret)
@[simp] def W88_3 := @C.wpe _ _ K88_3.eq_1
def K88_4 : C := .cond 6 (.v 11) K88_3 (.skip)
@[simp] def W88_4 := @C.wpe _ _ K88_4.eq_1
def K88_5 : C := .seq (.pl <| .st (.ext 6 6) <|
    .st (.act none (.px (some 6) (.mv (.v 1)))) <|
    .st (.act none (.px (some 7) (.mv (.v 0)))) <|
    .st (.act none (.px (some 8) (.mv (.v 3)))) <|
    .st (.act none (.px (some 9) (.ia 2 (.v 7) (.v 8)))) <|
    .st (.act none (.ld (some 10) (.v 9) (some 2))) <|
    .st (.act none (.ex (some 11) (.callv (.v 6) [.v 10]))) .done) K88_4
@[simp] def W88_5 := @C.wpe _ _ K88_5.eq_1
def K88_6 : C := .seq (.block 1 (.seq (.pl <| .st (.ext 6 1) <|
    .st (.act none (.px (some 6) (.mv (.v 5)))) <|
    .st (.act none (.px (some 3) (.mv (.v 6)))) .done) K88_5)) K88_2
@[simp] def W88_6 := @C.wpe _ _ K88_6.eq_1
def K88_7 : C := .seq (.cond 6 (.v 6) (.skip) (.exit 0)) K88_6
@[simp] def W88_7 := @C.wpe _ _ K88_7.eq_1
def K88_8 : C := .seq (.pl <| .st (.ext 6 1) <|
    .st (.act none (.px (some 6) (.bin .lss (.v 5) (.v 4)))) .done) K88_7
@[simp] def W88_8 := @C.wpe _ _ K88_8.eq_1
def K88_9 : C := .block 0 (.loop 6 [2, 3] K88_8)
@[simp] def W88_9 := @C.wpe _ _ K88_9.eq_1
def K88_10 : C := .seq (.seq (.pl <| .st (.ext 6 1) <|
    .st (.act none (.px (some 6) (.mv (.v 0)))) <|
    .st (.act none (.px (some 4) (.lenV (.v 6)))) <|
    .st (.act none (.px (some 5) (.mv (.c (.int .i64 0))))) .done) K88_9) K88_1
@[simp] def W88_10 := @C.wpe _ _ K88_10.eq_1
def B_slices_IndexFunc_S_impl_State_impl_State : C := .seq (.pl <| .st (.ext 6 0) <|
    .st (.act none (.px (some 2) (.mv (.c (.int .i64 0))))) .done) K88_10
@[simp] def WB_slices_IndexFunc_S_impl_State_impl_State := @C.wpe _ _ B_slices_IndexFunc_S_impl_State_impl_State.eq_1
def R_slices_IndexFunc_S_impl_State_impl_State : FIR := ⟨B_slices_IndexFunc_S_impl_State_impl_State, 6, [(2, none)]⟩
theorem IR_slices_IndexFunc_S_impl_State_impl_State : cfun Try.prog H_slices_IndexFunc_S_impl_State_impl_State Try.f88 = some R_slices_IndexFunc_S_impl_State_impl_State := by kernel_rfl
theorem EN_slices_IndexFunc_S_impl_State_impl_State {args : List Value} {h : Heap} {k : Value → Heap → Prop} (hargs : args.length = 2) (hw : B_slices_IndexFunc_S_impl_State_impl_State.wp Try.prog (retQ [(2, none)] k) (env0 args 6) h) : CallE Try.prog fn_slices_IndexFunc_S_impl_State_impl_State args h k := enter Try.func88 rfl IR_slices_IndexFunc_S_impl_State_impl_State hargs hw

def H_slices_Index_S_int_int : Hint := ⟨[(0, false), (1, false), (4, false), (5, false), (7, false), (8, false)], [[2, 3]]⟩
def K119_1 : C := .seq (.pl <| .st (.ext 6 0) <|
    .st (.act none (.px (some 2) (.mv (.c (.int .i64 (-1)))))) .done) (.ret)
@[simp] def W119_1 := @C.wpe _ _ K119_1.eq_1
def K119_2 : C := .pl <| .st (.ext 6 1) <|
    .st (.act none (.px (some 6) (.bin .add (.v 5) (.c (.int .i64 1))))) <|
    .st (.act none (.px (some 5) (.mv (.v 6)))) .done
@[simp] def W119_2 := @C.wpe _ _ K119_2.eq_1
def K119_3 : C := .seq (.pl <| .st (.ext 6 1) <|
    .st (.act none (.px (some 6) (.mv (.v 3)))) <|
    .st (.act none (.px (some 2) (.mv (.v 6)))) .done) (.ret)
@[simp] def W119_3 := @C.wpe _ _ K119_3.eq_1
def K119_4 : C := .cond 6 (.v 11) K119_3 (.skip)
@[simp] def W119_4 := @C.wpe _ _ K119_4.eq_1
def K119_5 : C := .seq (.pl <| .st (.ext 6 6) <|
    .st (.act none (.px (some 6) (.mv (.v 1)))) <|
    .st (.act none (.px (some 7) (.mv (.v 0)))) <|
    .st (.act none (.px (some 8) (.mv (.v 3)))) <|
    .st (.act none (.px (some 9) (.ia 1 (.v 7) (.v 8)))) <|
    .st (.act none (.ld (some 10) (.v 9) none)) <|
    .st (.act none (.px (some 11) (.bin .eql (.v 6) (.v 10)))) .done) K119_4
@[simp] def W119_5 := @C.wpe _ _ K119_5.eq_1
def K119_6 : C := .seq (.block 1 (.seq (.pl <| .st (.ext 6 1) <|
    .st (.act none (.px (some 6) (.mv (.v 5)))) <|
    .st (.act none (.px (some 3) (.mv (.v 6)))) .done) K119_5)) K119_2
@[simp] def W119_6 := @C.wpe _ _ K119_6.eq_1
def K119_7 : C := .seq (.cond 6 (.v 6) (.skip) (.exit 0)) K119_6
@[simp] def W119_7 := @C.wpe _ _ K119_7.eq_1
def K119_8 : C := .seq (.pl <| .st (.ext 6 1) <|
    .st (.act none (.px (some 6) (.bin .lss (.v 5) (.v 4)))) .done) K119_7
@[simp] def W119_8 := @C.wpe _ _ K119_8.eq_1
def K119_9 : C := .block 0 (.loop 6 [2, 3] K119_8)
@[simp] def W119_9 := @C.wpe _ _ K119_9.eq_1
def K119_10 : C := .seq (.seq (.pl <| .st (.ext 6 1) <|
    .st (.act none (.px (some 6) (.mv (.v 0)))) <|
    .st (.act none (.px (some 4) (.lenV (.v 6)))) <|
    .st (.act none (.px (some 5) (.mv (.c (.int .i64 0))))) .done) K119_9) K119_1
@[simp] def W119_10 := @C.wpe _ _ K119_10.eq_1
def B_slices_Index_S_int_int : C := .seq (.pl <| .st (.ext 6 0) <|
    .st (.act none (.px (some 2) (.mv (.c (.int .i64 0))))) .done) K119_10
@[simp] def WB_slices_Index_S_int_int := @C.wpe _ _ B_slices_Index_S_int_int.eq_1
def R_slices_Index_S_int_int : FIR := ⟨B_slices_Index_S_int_int, 6, [(2, none)]⟩
theorem IR_slices_Index_S_int_int : cfun Try.prog H_slices_Index_S_int_int Try.f119 = some R_slices_Index_S_int_int := by kernel_rfl
theorem EN_slices_Index_S_int_int {args : List Value} {h : Heap} {k : Value → Heap → Prop} (hargs : args.length = 2) (hw : B_slices_Index_S_int_int.wp Try.prog (retQ [(2, none)] k) (env0 args 6) h) : CallE Try.prog fn_slices_Index_S_int_int args h k := enter Try.func119 rfl IR_slices_Index_S_int_int hargs hw


end Go.Proofs.Ytonjglbachhdcaa

/-
  Bodies of functions in the small language, as a program printed them, and that each is what the translation gives.
-/
namespace Go.Proofs.Ytonjglbachhdcaa
open Go
set_option linter.all false
set_option linter.defProp false
set_option maxRecDepth 1000000

end Go.Proofs.Ytonjglbachhdcaa
