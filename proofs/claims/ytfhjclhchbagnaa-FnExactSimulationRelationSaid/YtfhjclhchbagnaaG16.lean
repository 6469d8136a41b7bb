/-
  How the weakest preconditions of the small language are computed: one equation for each of its forms, for the simplifier.
-/
import Derived.Test.YtfhjclhchbagnaaG15
namespace Go.Proofs.Ytfhjclhchbagnaa
open Go
set_option linter.all false
set_option linter.unusedVariables false
set_option linter.unusedSimpArgs false
set_option linter.defProp false

/-- what must hold where a function ends -/
def retQ (res : List (Nat × Option (Option Nat))) (k : Value → Heap → Prop) (x : Ex) (e : Env) (h : Heap) : Prop :=
  match x with
  | .exit _ => False
  | _ => ∃ vs, resV e res = some vs ∧ ∃ h2, h2.le h ∧ k (tupV vs) h2

/-- what is returned; a part of the heap may be forgotten -/
def RetK (k : Value → Heap → Prop) (v : Value) (h : Heap) : Prop := ∃ h2, h2.le h ∧ k v h2
theorem RetK.keep {k : Value → Heap → Prop} {v : Value} {h : Heap} (hk : k v h) : RetK k v h := ⟨h, fun _ _ hb => hb, hk⟩
theorem RetK.drop {k : Value → Heap → Prop} {v : Value} {h h2 : Heap} (hl : h2.le h) (hk : k v h2) : RetK k v h := ⟨h2, hl, hk⟩

/-- a value that must be there, and what holds of it: the simplifier goes into the latter only when the value is known -/
def ExW {α : Type} (x : Option α) (k : α → Prop) : Prop := ∃ v, x = some v ∧ k v
@[simp] theorem ExW_some {α : Type} {v : α} {k : α → Prop} : ExW (some v) k = k v := by simp [ExW]
theorem ExW.mk {α : Type} {x : Option α} {k : α → Prop} {v : α} (hx : x = some v) (hk : k v) : ExW x k := ⟨v, hx, hk⟩
/-- a condition, and what holds behind it -/
def AndW (p A : Prop) : Prop := p ∧ A
@[simp] theorem AndW_true {A : Prop} : AndW True A = A := by simp [AndW]
theorem AndW.mk {p A : Prop} (hp : p) (hA : A) : AndW p A := ⟨hp, hA⟩
/-- the function that a value stands for -/
def fnOf : Value → Option (FuncId × List Value × List Value)
  | .func (.func f) first cap => some (f, first.toList, cap.toList)
  | _ => none

/-- two ways -/
def IteW (p A B : Prop) : Prop := (p → A) ∧ (¬ p → B)
theorem IteW.mk {p A B : Prop} (h1 : p → A) (h2 : ¬ p → B) : IteW p A B := ⟨h1, h2⟩
@[simp] theorem IteW_true {A B : Prop} : IteW True A B = A := by simp [IteW]
@[simp] theorem IteW_false {A B : Prop} : IteW False A B = B := by simp [IteW]
@[simp] theorem IteW_not {p A B : Prop} : IteW (¬ p) A B = IteW p B A := by simp [IteW, And.comm]
theorem IteW_pos {p A B : Prop} (h : p) : IteW p A B = A := by simp [IteW, h]
theorem IteW_neg {p A B : Prop} (h : ¬ p) : IteW p A B = B := by simp [IteW, h]
def condW (v : Option Value) (A B : Prop) : Prop := ∃ t, v = some (.bool t) ∧ IteW (t = true) A B
@[simp] theorem condW_bool {b : Bool} {A B : Prop} : condW (some (.bool b)) A B = IteW (b = true) A B := by simp [condW]

theorem A.wp_mono {P : Program} {k k' : Env → Heap → Prop} (hk : ∀ e h, k e h → k' e h) {e : Env} {h : Heap} {x : A} (hx : x.wp P k e h) : x.wp P k' e h := by
  cases x <;> simp only [A.wp] at hx ⊢
  case px => obtain ⟨v, h1, h2⟩ := hx; exact ⟨v, h1, hk _ _ h2⟩
  case ld => obtain ⟨v, h1, h2⟩ := hx; exact ⟨v, h1, hk _ _ h2⟩
  case ex => exact EX.wp_mono (fun v h' ⟨h2, hl, h3⟩ => ⟨h2, hl, hk _ _ h3⟩) hx
  case pnew => obtain ⟨v, h1, h2⟩ := hx; exact ⟨v, h1, hk _ _ h2⟩
  case pget => obtain ⟨v, h1, h2⟩ := hx; exact ⟨v, h1, hk _ _ h2⟩
  case pset => obtain ⟨h0, v, h1, h2⟩ := hx; exact ⟨h0, v, h1, hk _ _ h2⟩
  case als => exact ⟨hx.1, hx.2.1, hk _ _ hx.2.2⟩
  case psl => obtain ⟨v, h1, h2⟩ := hx; exact ⟨v, h1, hk _ _ h2⟩

theorem S.wp_mono {P : Program} {k k' : Env → Heap → Prop} (hk : ∀ e h, k e h → k' e h) {e : Env} {h : Heap} {s : S} (hx : s.wp P k e h) : s.wp P k' e h := by
  cases s with
  | act g x =>
    cases g with
    | none => exact A.wp_mono hk hx
    | some g =>
      simp only [S.wp] at hx ⊢
      obtain ⟨b, h1, h2⟩ := hx
      refine ⟨b, h1, ?_⟩
      cases hv : x.val e h with
      | none => rw [hv] at h2; exact ⟨fun hb => A.wp_mono hk (h2.1 hb), fun hb => hk _ _ (h2.2 hb)⟩
      | some dv => rw [hv] at h2; exact ⟨h2.1, hk _ _ h2.2⟩
  | re d a sz g =>
    cases g with
    | none => exact ⟨hx.1, hk _ _ hx.2⟩
    | some g => obtain ⟨b, h1, h2, h3⟩ := hx; exact ⟨b, h1, h2, hk _ _ h3⟩
  | ext n m => exact hk _ _ hx

theorem Pl.wp_mono {P : Program} {k k' : Env → Heap → Prop} (hk : ∀ e h, k e h → k' e h) : ∀ (p : Pl) {e : Env} {h : Heap}, p.wp P k e h → p.wp P k' e h
  | .done, _, _, hx => hk _ _ hx
  | .st _ n, _, _, hx => S.wp_mono (fun _ _ => Pl.wp_mono hk n) hx
  | .both a b, _, _, hx => ⟨Pl.wp_mono hk a hx.1, Pl.wp_mono hk b hx.2⟩

theorem C.wp_mono {P : Program} : ∀ (c : C) {Q Q' : Ex → Env → Heap → Prop} (_ : ∀ x e h, Q x e h → Q' x e h) {e : Env} {h : Heap}, c.wp P Q e h → c.wp P Q' e h
  | .skip, _, _, hQ, _, _, hx => hQ _ _ _ hx
  | .pl p, _, _, hQ, _, _, hx => Pl.wp_mono (hQ .nrm) p hx
  | .seq a b, _, _, hQ, _, _, hx => C.wp_mono a (fun x e h => by cases x <;> first | exact hQ _ _ _ | exact C.wp_mono b hQ) hx
  | .cond n o a b, _, _, hQ, _, _, ⟨t, h1, h2, h3⟩ => ⟨t, h1, fun ht => C.wp_mono a hQ (h2 ht), fun ht => C.wp_mono b hQ (h3 ht)⟩
  | .block id a, _, _, hQ, _, _, hx => C.wp_mono a (fun x e h hx => by
      cases x with
      | exit i =>
        by_cases hi : i = id
        · simp only [if_pos hi] at hx ⊢; exact hQ _ _ _ hx
        · simp only [if_neg hi] at hx ⊢; exact hQ _ _ _ hx
      | nrm => exact hQ _ _ _ hx
      | ret => exact hQ _ _ _ hx) hx
  | .loop n fg a, _, _, hQ, _, _, ⟨I, h0, hs⟩ => ⟨I, h0, fun m e h hI => C.wp_mono a (fun x e h hx => by
      cases x with
      | nrm => exact hx
      | exit i => exact hQ _ _ _ hx
      | ret => exact hQ _ _ _ hx) (hs m e h hI)⟩
  | .exit _, _, _, hQ, _, _, hx => hQ _ _ _ hx
  | .ret, _, _, hQ, _, _, hx => hQ _ _ _ hx

section
variable {P : Program} {Q : Ex → Env → Heap → Prop} {e : Env} {h : Heap}

def seqQ (P : Program) (b : C) (Q : Ex → Env → Heap → Prop) (x : Ex) (e : Env) (h : Heap) : Prop :=
  match x with
  | .nrm => b.wp P Q e h
  | x => Q x e h
def blockQ (id : Nat) (Q : Ex → Env → Heap → Prop) (x : Ex) (e : Env) (h : Heap) : Prop :=
  match x with
  | .exit i => if i = id then Q .nrm e h else Q (.exit i) e h
  | x => Q x e h
def loopQ (n : Nat) (fg : List Nat) (I : Env → Heap → Prop) (Q : Ex → Env → Heap → Prop) (x : Ex) (e : Env) (h : Heap) : Prop :=
  match x with
  | .nrm => I (efgt (e.take n) fg) h
  | x => Q x e h

@[simp] theorem seqQ_nrm {b : C} : seqQ P b Q .nrm e h = b.wp P Q e h := rfl
@[simp] theorem seqQ_ret {b : C} : seqQ P b Q .ret e h = Q .ret e h := rfl
@[simp] theorem seqQ_exit {b : C} {i : Nat} : seqQ P b Q (.exit i) e h = Q (.exit i) e h := rfl
@[simp] theorem blockQ_nrm {i : Nat} : blockQ i Q .nrm e h = Q .nrm e h := rfl
@[simp] theorem blockQ_ret {i : Nat} : blockQ i Q .ret e h = Q .ret e h := rfl
@[simp] theorem blockQ_exit {i j : Nat} : blockQ i Q (.exit j) e h = if j = i then Q .nrm e h else Q (.exit j) e h := rfl
@[simp] theorem loopQ_nrm {n : Nat} {fg : List Nat} {I : Env → Heap → Prop} : loopQ n fg I Q .nrm e h = I (efgt (e.take n) fg) h := rfl
@[simp] theorem loopQ_ret {n : Nat} {fg : List Nat} {I : Env → Heap → Prop} : loopQ n fg I Q .ret e h = Q .ret e h := rfl
@[simp] theorem loopQ_exit {n : Nat} {fg : List Nat} {I : Env → Heap → Prop} {i : Nat} : loopQ n fg I Q (.exit i) e h = Q (.exit i) e h := rfl
@[simp] theorem retQ_nrm {res : List (Nat × Option (Option Nat))} {k : Value → Heap → Prop} : retQ res k .nrm e h = ExW (resV e res) (fun vs => RetK k (tupV vs) h) := rfl
@[simp] theorem retQ_ret {res : List (Nat × Option (Option Nat))} {k : Value → Heap → Prop} : retQ res k .ret e h = ExW (resV e res) (fun vs => RetK k (tupV vs) h) := rfl
@[simp] theorem retQ_exit {res : List (Nat × Option (Option Nat))} {k : Value → Heap → Prop} {i : Nat} : retQ res k (.exit i) e h = False := rfl

theorem wp_skip : C.skip.wp P Q e h = Q .nrm e h := rfl
theorem wp_pl {p : Pl} : (C.pl p).wp P Q e h = p.wp P (Q .nrm) e h := rfl
theorem wp_seq {a b : C} : (C.seq a b).wp P Q e h = a.wp P (seqQ P b Q) e h := by
  simp only [C.wp]
  congr 1
theorem wp_cond {n : Nat} {o : O} {a b : C} : (C.cond n o a b).wp P Q e h = condW (o.get e) (a.wp P Q (e.take n) h) (b.wp P Q (e.take n) h) := by
  simp [C.wp, condW, IteW]
theorem wp_block {i : Nat} {a : C} : (C.block i a).wp P Q e h = a.wp P (blockQ i Q) e h := by
  simp only [C.wp]
  congr 1
theorem wp_exit {i : Nat} : (C.exit i).wp P Q e h = Q (.exit i) e h := rfl
theorem wp_ret : C.ret.wp P Q e h = Q .ret e h := rfl

/-- THE RULE OF THE LOOP -/
theorem wp_loop {n : Nat} {fg : List Nat} {a : C} (I : Nat → Env → Heap → Prop) (h0 : ∃ m, I m (efgt (e.take n) fg) h)
    (hs : ∀ (I' : Env → Heap → Prop) m e h, (∀ m' e h, m' < m → I m' e h → I' e h) → I m e h → a.wp P (loopQ n fg I' Q) e h) : (C.loop n fg a).wp P Q e h := by
  refine ⟨I, h0, fun m e h hI => ?_⟩
  have h1 := hs (fun e' h' => ∃ m', m' < m ∧ I m' e' h') m e h (fun m' e h hm hI => ⟨m', hm, hI⟩) hI
  have h2 : (fun (x : Ex) (e' : Env) (h' : Heap) => match x with
        | .nrm => ∃ m', m' < m ∧ I m' (efgt (e'.take n) fg) h'
        | x => Q x e' h') = loopQ n fg (fun e' h' => ∃ m', m' < m ∧ I m' e' h') Q := by
    funext x e' h'
    cases x <;> rfl
  exact h2 ▸ h1

/-- a loop that counts up to a bound -/
theorem wp_count {n : Nat} {fg : List Nat} {a : C} (N : Nat) (J : Nat → Env → Heap → Prop) (h0 : J 0 (efgt (e.take n) fg) h)
    (hs : ∀ (J' : Env → Heap → Prop) i e h, (∀ e h, i < N → J (i + 1) e h → J' e h) → i ≤ N → J i e h → a.wp P (loopQ n fg J' Q) e h) : (C.loop n fg a).wp P Q e h := by
  refine wp_loop (fun m e h => ∃ i, i ≤ N ∧ m = N - i ∧ J i e h) ⟨N, 0, by omega, by omega, h0⟩ ?_
  rintro I' m e h hI ⟨i, hi, rfl, hJ⟩
  exact hs I' i e h (fun e h hlt hJ => hI (N - (i + 1)) e h (by omega) ⟨i + 1, hlt, rfl, hJ⟩) hi hJ

theorem pl_done {k : Env → Heap → Prop} : Pl.done.wp P k e h = k e h := rfl
theorem pl_st {s : S} {n : Pl} {k : Env → Heap → Prop} : (Pl.st s n).wp P k e h = s.wp P (n.wp P k) e h := rfl
theorem pl_both {a b : Pl} {k : Env → Heap → Prop} : (Pl.both a b).wp P k e h = (a.wp P k e h ∧ b.wp P k e h) := rfl

theorem s_act {x : A} {k : Env → Heap → Prop} : (S.act none x).wp P k e h = x.wp P k e h := rfl
/-- two ways by a guard: the guard's value is simplified, the two ways are not, until the guard is known -/
def gvw (w : Bool) : Option Value → Option Bool
  | some (.bool b) => some (b == w)
  | some _ => some false
  | none => none
def guardW (v : Option Value) (w : Bool) (A B : Prop) : Prop := ∃ b, gvw w v = some b ∧ (b = true → A) ∧ (b = false → B)
@[congr] theorem guardW_congr {v v' : Option Value} {w : Bool} {A B : Prop} (hv : v = v') : guardW v w A B = guardW v' w A B := by rw [hv]
@[simp] theorem guardW_tt {A B : Prop} : guardW (some (.bool true)) true A B = A := by simp [guardW, gvw]
@[simp] theorem guardW_ff {A B : Prop} : guardW (some (.bool false)) false A B = A := by simp [guardW, gvw]
@[simp] theorem guardW_tf {A B : Prop} : guardW (some (.bool true)) false A B = B := by simp [guardW, gvw]
@[simp] theorem guardW_ft {A B : Prop} : guardW (some (.bool false)) true A B = B := by simp [guardW, gvw]
@[simp] theorem guardW_undef {w : Bool} {A B : Prop} : guardW (some undef) w A B = B := by simp [guardW, gvw, undef]
theorem guardW_mk {b w : Bool} {A B : Prop} (h1 : b = w → A) (h2 : b = !w → B) : guardW (some (.bool b)) w A B := by
  cases b <;> cases w <;> simp at h1 h2 ⊢ <;> assumption
theorem gcond_gvw {o : O} {w : Bool} : gcond e (some (o, w)) = gvw w (o.get e) := by
  simp only [gcond]
  cases o.get e with
  | none => rfl
  | some v => cases v <;> rfl
theorem s_gp {v : Option Value} {d : Option Nat} {b : Bool} {k : Env → Heap → Prop} : ((b = true → v.isSome = true) ∧ k (dput d (gval b v) e) h) ↔ ((b = true → ∃ u, v = some u ∧ k (dput d (some u) e) h) ∧ (b = false → k (dput d (some undef) e) h)) := by
  cases b
  · simp [gval]
  · cases v <;> simp [gval]
theorem s_g {o : O} {w : Bool} {x : A} {k : Env → Heap → Prop} : (S.act (some (o, w)) x).wp P k e h = guardW (o.get e) w (x.wp P k e h) (k (dput x.dst (some undef) e) h) := by
  have key : ∀ b : Bool, (match x.val e h with
    | some (d, v) => (b = true → v.isSome = true) ∧ k (dput d (gval b v) e) h
    | none => (b = true → x.wp P k e h) ∧ (b = false → k (dput x.dst (some undef) e) h)) ↔ (b = true → x.wp P k e h) ∧ (b = false → k (dput x.dst (some undef) e) h) := by
    intro b
    cases x
    case px => exact s_gp
    case ld => exact s_gp
    case pget => exact s_gp
    all_goals exact Iff.rfl
  apply propext
  constructor
  · rintro ⟨b, h1, h2⟩; exact ⟨b, gcond_gvw ▸ h1, (key b).1 h2⟩
  · rintro ⟨b, h1, h2⟩; exact ⟨b, gcond_gvw ▸ h1, (key b).2 h2⟩
theorem s_re {d : Nat} {a : O} {sz : Option Nat} {k : Env → Heap → Prop} : (S.re d a sz none).wp P k e h = AndW (hload h (a.get e) sz = eget e d) (k e h) := rfl
theorem s_reg {d : Nat} {a : O} {sz : Option Nat} {g : O × Bool} {k : Env → Heap → Prop} : (S.re d a sz (some g)).wp P k e h =
    ∃ b, gcond e (some g) = some b ∧ (b = true → hload h (a.get e) sz = eget e d) ∧ k e h := rfl
theorem s_ext {n m : Nat} {k : Env → Heap → Prop} : (S.ext n m).wp P k e h = k (eext n m e) h := rfl

theorem a_px {d : Option Nat} {x : PX} {k : Env → Heap → Prop} : (A.px d x).wp P k e h = ExW (x.ev e) (fun v => k (dput d (some v) e) h) := rfl
theorem a_ld {d : Option Nat} {a : O} {sz : Option Nat} {k : Env → Heap → Prop} : (A.ld d a sz).wp P k e h = ExW (hload h (a.get e) sz) (fun v => k (dput d (some v) e) h) := rfl
theorem a_ex {d : Option Nat} {x : EX} {k : Env → Heap → Prop} : (A.ex d x).wp P k e h = x.wp P e h fun v h' => Fgt k (dput d (some v) e) h' := rfl
theorem a_pnew {i : Nat} {x : O} {cl : List Nat} {k : Env → Heap → Prop} : (A.pnew i x cl).wp P k e h = ExW (x.get e) (fun v => k (efgt (eset e i (some v)) cl) h) := rfl
theorem a_pget {d c : Option Nat} {i off : Nat} {sz : Option Nat} {k : Env → Heap → Prop} : (A.pget d c i off sz).wp P k e h = ExW (pgetC e c i off sz) (fun v => k (dput d (some v) e) h) := rfl
theorem a_pset {c : Option Nat} {i off sz : Nat} {x : O} {k : Env → Heap → Prop} : (A.pset c i off sz x).wp P k e h = AndW (aok e c = true) (ExW (psetV (eget e i) off sz (x.get e)) (fun v => k (eset e i (some v)) h)) := rfl
theorem a_als {d : Nat} {c : Option Nat} {i : Nat} {k : Env → Heap → Prop} : (A.als d c i).wp P k e h = AndW (aok e c = true) (AndW ((eget e i).isSome = true) (k (eset e d (some (.bool true))) h)) := rfl
theorem a_psl {d : Nat} {z : List Value} {ps : List (Nat × Nat × O)} {k : Env → Heap → Prop} : (A.psl d z ps).wp P k e h = ExW (fillP e z ps) (fun cs => k (eset e d (some (.agg cs.toArray))) h) := rfl

/- effects -/
theorem x_store {sz : Nat} {a x : O} {k : Value → Heap → Prop} : (EX.store sz a x).wp P e h k =
    ∃ b off v h', a.get e = some (.pointer (some ⟨b, off, none⟩)) ∧ x.get e = some v ∧ v.cells.size = sz ∧ hstore h b off v.cells.toList = some h' ∧ k undef h' := rfl
theorem x_call {f : FuncId} {args : List O} {k : Value → Heap → Prop} : (EX.call f args).wp P e h k = ∃ vs, ogets e args = some vs ∧ CallE P f vs h k := rfl
theorem x_callv {fo : O} {args : List O} {k : Value → Heap → Prop} : (EX.callv fo args).wp P e h k =
    ∃ f first cap vs, fo.get e = some (.func (.func f) first cap) ∧ ogets e args = some vs ∧ CallE P f (first.toList ++ vs ++ cap.toList) h k := rfl
theorem x_alloc {x : O} {k : Value → Heap → Prop} : (EX.alloc x).wp P e h k =
    ∃ v, x.get e = some v ∧ ∀ b el, h b = none → k (.pointer (some ⟨b, 0, none⟩)) (h.set b (.cells v.cells el (0, 0))) := rfl
theorem x_mks {bytes esz : Nat} {z : List Value} {len cap : O} {k : Value → Heap → Prop} : (EX.mks bytes esz z len cap).wp P e h k =
    ∃ l c : Nat, ∃ j j', len.get e = some (.int j l) ∧ cap.get e = some (.int j' c) ∧ l ≤ c ∧ c < 2 ^ 62 ∧ bytes * c ≤ 2 ^ 48 ∧
      ∀ b el, h b = none → k (.slice (some ⟨b, 0, none⟩) l c) (h.set b (.cells (reps c z).toArray el (0, 0))) := rfl
theorem x_bls {esz len : Nat} {z : List Value} {ps : List (Nat × Nat × O)} {k : Value → Heap → Prop} : (EX.bls esz len z ps).wp P e h k =
    ∃ cs, fillP e (reps len z) ps = some cs ∧ ∀ b el, h b = none → k (.slice (some ⟨b, 0, none⟩) len len) (h.set b (.cells cs.toArray el (0, 0))) := rfl

theorem a_call {d : Option Nat} {f : FuncId} {args : List O} {k : Env → Heap → Prop} : (A.ex d (.call f args)).wp P k e h = ExW (ogets e args) (fun vs => CallE P f vs h fun v h' => Fgt k (dput d (some v) e) h') := rfl
theorem a_callv {d : Option Nat} {fo : O} {args : List O} {k : Env → Heap → Prop} : (A.ex d (.callv fo args)).wp P k e h =
    ExW ((fo.get e).bind fnOf) (fun c => ExW (ogets e args) (fun vs => CallE P c.1 (c.2.1 ++ vs ++ c.2.2) h fun v h' => Fgt k (dput d (some v) e) h')) := by
  apply propext
  constructor
  · rintro ⟨f, first, cap, vs, h1, h2, h3⟩
    exact ⟨(f, first.toList, cap.toList), by rw [h1]; rfl, vs, h2, h3⟩
  · rintro ⟨⟨f, first, cap⟩, h1, vs, h2, h3⟩
    cases hf : fo.get e with
    | none => rw [hf] at h1; simp at h1
    | some v =>
      rw [hf] at h1
      simp only [Option.bind_some] at h1
      unfold fnOf at h1
      split at h1
      · simp only [Option.some.injEq, Prod.mk.injEq] at h1
        obtain ⟨rfl, rfl, rfl⟩ := h1
        exact ⟨_, _, _, vs, hf, h2, h3⟩
      · simp at h1
@[simp] theorem fnOf_func {f : FuncId} {a b : Array Value} : fnOf (.func (.func f) a b) = some (f, a.toList, b.toList) := rfl
theorem a_alloc {d : Option Nat} {x : O} {k : Env → Heap → Prop} : (A.ex d (.alloc x)).wp P k e h =
    ∃ v, x.get e = some v ∧ ∀ b el, h b = none → Fgt k (dput d (some (.pointer (some ⟨b, 0, none⟩))) e) (h.set b (.cells v.cells el (0, 0))) := rfl

/- the environment -/
@[simp] theorem eget_zero {x : Option Value} {l : Env} : eget (x :: l) 0 = x := rfl
@[simp] theorem eget_succ {x : Option Value} {l : Env} {n : Nat} : eget (x :: l) (n + 1) = eget l n := rfl
@[simp] theorem eset_zero {x v : Option Value} {l : Env} : eset (x :: l) 0 v = v :: l := rfl
@[simp] theorem eset_succ {x v : Option Value} {l : Env} {n : Nat} : eset (x :: l) (n + 1) v = x :: eset l n v := rfl
@[simp] theorem efgt_nil {l : Env} : efgt l [] = l := rfl
@[simp] theorem efgt_cons {l : Env} {i : Nat} {r : List Nat} : efgt l (i :: r) = efgt (eset l i none) r := rfl
@[simp] theorem eext_zero {m : Nat} {l : Env} : eext 0 m l = List.replicate m none := rfl
@[simp] theorem eext_succ {n m : Nat} {x : Option Value} {l : Env} : eext (n + 1) m (x :: l) = x :: eext n m l := rfl
@[simp] theorem get_v {i : Nat} : (O.v i).get e = eget e i := rfl
@[simp] theorem get_c {x : Value} : (O.c x).get e = some x := rfl
@[simp] theorem ogets_nil : ogets e [] = some [] := rfl
@[simp] theorem dput_none {v : Option Value} : dput none v e = e := rfl
@[simp] theorem dput_some {i : Nat} {v : Option Value} : dput (some i) v e = eset e i v := rfl
@[simp] theorem gval_true {v : Option Value} : gval true v = v := rfl
@[simp] theorem gval_false {v : Option Value} : gval false v = some undef := rfl
@[simp] theorem tupV_one {v : Value} : tupV [v] = v := rfl
@[simp] theorem tupV_two {v u : Value} {l : List Value} : tupV (v :: u :: l) = .tuple (v :: u :: l).toArray := rfl

theorem le_refl' : h.le h := fun _ _ hb => hb
theorem Fgt.keep {k : Env → Heap → Prop} (hk : k e h) : Fgt k e h := ⟨h, le_refl', hk⟩
theorem Fgt.drop {k : Env → Heap → Prop} {h' : Heap} (hl : h'.le h) (hk : k e h') : Fgt k e h := ⟨h', hl, hk⟩

theorem wrap64 {n : Int} (h1 : -9223372036854775808 ≤ n) (h2 : n < 9223372036854775808) : IntKind.i64.wrap n = n := by
  rw [IntKind.wrap_i64]; omega
end

/- values in private boxes -/
def allOne : List Value → Bool
  | [] => true
  | v :: l => v.oneCell' && allOne l
@[simp] theorem allOne_nil : allOne [] = true := rfl
@[simp] theorem allOne_cons {v : Value} {l : List Value} : allOne (v :: l) = (v.oneCell' && allOne l) := rfl
theorem allOne_eq : ∀ l, List.all l Value.oneCell' = allOne l
  | [] => rfl
  | v :: l => by simp [allOne, allOne_eq l]
@[simp] theorem cells_agg {c : Array Value} : (Value.agg c).cells = c := rfl
@[simp] theorem cells_int {k : IntKind} {n : Int} : (Value.int k n).cells = #[.int k n] := rfl
@[simp] theorem cells_bool {b : Bool} : (Value.bool b).cells = #[.bool b] := rfl
@[simp] theorem cells_string {b : ByteArray} : (Value.string b).cells = #[.string b] := rfl
@[simp] theorem cells_slice {p : Option Addr} {n c : Nat} : (Value.slice p n c).cells = #[.slice p n c] := rfl
@[simp] theorem cells_pointer {p : Option Addr} : (Value.pointer p).cells = #[.pointer p] := rfl
@[simp] theorem cells_map {p : Option Nat} : (Value.map p).cells = #[.map p] := rfl
@[simp] theorem cells_func {f : Fn} {a b : Array Value} : (Value.func f a b).cells = #[.func f a b] := rfl
@[simp] theorem cells_nilFunc : Value.nilFunc.cells = #[.nilFunc] := rfl
@[simp] theorem pgetV_agg {c : Array Value} {off : Nat} : pgetV (some (.agg c)) off none = c.toList[off]? := rfl
@[simp] theorem pgetV_aggs {c : Array Value} {off n : Nat} : pgetV (some (.agg c)) off (some n) = if off = 0 ∧ c.size = n then some (.agg c) else partV c.toList off (some n) := rfl
theorem pgetV_one {v : Value} (hv : v.cells = #[v]) : pgetV (some v) 0 none = some v := by simp [pgetV, hv]
@[simp] theorem pgetV_int {k : IntKind} {n : Int} : pgetV (some (.int k n)) 0 none = some (.int k n) := rfl
@[simp] theorem pgetV_bool {b : Bool} : pgetV (some (.bool b)) 0 none = some (.bool b) := rfl
@[simp] theorem pgetV_string {b : ByteArray} : pgetV (some (.string b)) 0 none = some (.string b) := rfl
@[simp] theorem pgetV_slice {p : Option Addr} {n c : Nat} : pgetV (some (.slice p n c)) 0 none = some (.slice p n c) := rfl
@[simp] theorem psetV_agg {c : Array Value} {off sz : Nat} {x : Value} : psetV (some (.agg c)) off sz (some x) = if x.cells.size = sz ∧ off + sz ≤ c.size ∧ allOne x.cells.toList = true then
    some (if off = 0 ∧ sz = c.size then .agg x.cells else .agg (setC c.toList off x.cells.toList).toArray) else none := by
  rw [← allOne_eq]; rfl
theorem psetV_one {v x : Value} (hv : v.cells = #[v]) (ho : v.oneCell' = true) (hx : x.cells = #[x]) (hx1 : x.oneCell' = true) : psetV (some v) 0 1 (some x) = some x := by
  simp [psetV, hv, hx, hx1]
  cases v <;> simp_all [Value.oneCell']
@[simp] theorem psetV_int {k : IntKind} {n : Int} {x : Value} : psetV (some (.int k n)) 0 1 (some x) = if x.cells.size = 1 ∧ allOne x.cells.toList = true then x.cells[0]? else none := by
  rw [← allOne_eq]
  simp only [psetV, cells_int]
  simp
@[simp] theorem psetV_bool {b : Bool} {x : Value} : psetV (some (.bool b)) 0 1 (some x) = if x.cells.size = 1 ∧ allOne x.cells.toList = true then x.cells[0]? else none := by
  rw [← allOne_eq]
  simp only [psetV, cells_bool]
  simp
@[simp] theorem psetV_string {b : ByteArray} {x : Value} : psetV (some (.string b)) 0 1 (some x) = if x.cells.size = 1 ∧ allOne x.cells.toList = true then x.cells[0]? else none := by
  rw [← allOne_eq]
  simp only [psetV, cells_string]
  simp
@[simp] theorem psetV_slice {p : Option Addr} {n c : Nat} {x : Value} : psetV (some (.slice p n c)) 0 1 (some x) = if x.cells.size = 1 ∧ allOne x.cells.toList = true then x.cells[0]? else none := by
  rw [← allOne_eq]
  simp only [psetV, cells_slice]
  simp
@[simp] theorem one_int {k : IntKind} {n : Int} : (Value.int k n).oneCell' = true := rfl
@[simp] theorem one_bool {b : Bool} : (Value.bool b).oneCell' = true := rfl
@[simp] theorem one_string {b : ByteArray} : (Value.string b).oneCell' = true := rfl
@[simp] theorem one_slice {p : Option Addr} {n c : Nat} : (Value.slice p n c).oneCell' = true := rfl
@[simp] theorem one_pointer {p : Option Addr} : (Value.pointer p).oneCell' = true := rfl
@[simp] theorem one_map {p : Option Nat} : (Value.map p).oneCell' = true := rfl
@[simp] theorem one_func {f : Fn} {a b : Array Value} : (Value.func f a b).oneCell' = true := rfl
@[simp] theorem one_nilFunc : Value.nilFunc.oneCell' = true := rfl

attribute [simp] wp_skip wp_pl wp_seq wp_cond wp_block wp_exit wp_ret pl_done pl_st s_act s_g A.dst s_re s_reg s_ext
  a_px a_ld a_pnew a_pget a_pset a_als a_psl a_call a_callv PX.ev gcond env0 binV intV strV unV resV ogets pgetC aok eqB eqL fillP partV
/-- what is to be shown of a call, kept closed while the body is walked -/
theorem CallE.gen {P : Program} {f : FuncId} {args : List Value} {h : Heap} {Q : Value → Heap → Prop} (hg : ∀ k : Value → Heap → Prop, (∀ v h', Q v h' → k v h') → CallE P f args h k) : CallE P f args h Q := hg Q fun _ _ hq => hq
theorem CallE.to {P : Program} {f : FuncId} {args : List Value} {h : Heap} {Q k : Value → Heap → Prop} (hc : CallE P f args h Q) (hk : ∀ v h', Q v h' → k v h') : CallE P f args h k := CallE.mono hk hc
end Go.Proofs.Ytfhjclhchbagnaa
