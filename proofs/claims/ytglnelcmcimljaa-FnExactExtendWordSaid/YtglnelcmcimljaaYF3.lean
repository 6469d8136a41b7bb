/-
  Texts of this proof, one behind the other.
-/
import Derived.WalkKit
import Derived.ProofKit
import Derived.OpenShut
import Derived.Carry
import Derived.Deep.Slices
import Derived.SizedLaws
import Derived.Test.YtglnelcmcimljaaRows
import Derived.Test.YtglnelcmcimljaaYF2
set_option linter.all false
set_option linter.unusedVariables false
set_option linter.unusedSimpArgs false
set_option linter.defProp false
set_option maxRecDepth 1000000
namespace Go.Proofs.Ytglnelcmcimljaa
open Go
universe u
def retQ (res : List (Nat × Option (Option Nat))) (k : Value → Heap → Prop) (x : Ex) (e : Env) (h : Heap) : Prop :=
  match x with
  | .exit _ => False
  | _ => ∃ vs, resV e res = some vs ∧ ∃ h2, h2.le h ∧ k (tupV vs) h2
def RetK (k : Value → Heap → Prop) (v : Value) (h : Heap) : Prop := ∃ h2, h2.le h ∧ k v h2
theorem RetK.keep {k : Value → Heap → Prop} {v : Value} {h : Heap} (hk : k v h) : RetK k v h := ⟨h, fun _ _ hb => hb, hk⟩
theorem RetK.drop {k : Value → Heap → Prop} {v : Value} {h h2 : Heap} (hl : h2.le h) (hk : k v h2) : RetK k v h := ⟨h2, hl, hk⟩
def ExW {α : Type} (x : Option α) (k : α → Prop) : Prop := ∃ v, x = some v ∧ k v
@[simp] theorem ExW_some {α : Type} {v : α} {k : α → Prop} : ExW (some v) k = k v := by simp [ExW]
theorem ExW.mk {α : Type} {x : Option α} {k : α → Prop} {v : α} (hx : x = some v) (hk : k v) : ExW x k := ⟨v, hx, hk⟩
def AndW (p A : Prop) : Prop := p ∧ A
@[simp] theorem AndW_true {A : Prop} : AndW True A = A := by simp [AndW]
theorem AndW.mk {p A : Prop} (hp : p) (hA : A) : AndW p A := ⟨hp, hA⟩
def fnOf : Value → Option (FuncId × List Value × List Value)
  | .func (.func f) first cap => some (f, first.toList, cap.toList)
  | _ => none
def IteW (p A B : Prop) : Prop := (p → A) ∧ (¬ p → B)
theorem IteW.mk {p A B : Prop} (h1 : p → A) (h2 : ¬ p → B) : IteW p A B := ⟨h1, h2⟩
@[simp] theorem IteW_true {A B : Prop} : IteW True A B = A := by simp [IteW]
@[simp] theorem IteW_false {A B : Prop} : IteW False A B = B := by simp [IteW]
@[simp] theorem IteW_not {p A B : Prop} : IteW (¬ p) A B = IteW p B A := by simp [IteW, And.comm]
theorem IteW_neg {p A B : Prop} (h : ¬ p) : IteW p A B = B := by simp [IteW, h]
def condW (v : Option Value) (A B : Prop) : Prop := ∃ t, v = some (.bool t) ∧ IteW (t = true) A B
@[simp] theorem condW_bool {b : Bool} {A B : Prop} : condW (some (.bool b)) A B = IteW (b = true) A B := by simp [condW]
theorem A.wp_mono {P : Program} {k k' : Env → Heap → Prop} (hk : ∀ e h, k e h → k' e h) {e : Env} {h : Heap} {x : A} (hx : x.wp P k e h) : x.wp P k' e h := by
  cases x <;> simp only [A.wp] at hx ⊢
  case px => obtain ⟨v, h1, h2⟩ := hx; exact ⟨v, h1, hk _ _ h2⟩
  case ld => obtain ⟨v, h1, h2⟩ := hx; exact ⟨v, h1, hk _ _ h2⟩
  case ex => exact EX.wp_mono (fun v h' ⟨h2, hl, h3⟩ => ⟨h2, hl, hk _ _ h3⟩) hx
  case pnew => obtain ⟨v, h1, h2⟩ := hx; exact ⟨v, h1, hk _ _ h2⟩
  case pget => obtain ⟨v, h1, h2⟩ := hx; exact ⟨v, h1, hk _ _ h2⟩
  case pset => obtain ⟨h0, v, h1, h2⟩ := hx; exact ⟨h0, v, h1, hk _ _ h2⟩
  case als => exact ⟨hx.1, hx.2.1, hk _ _ hx.2.2⟩
  case psl => obtain ⟨v, h1, h2⟩ := hx; exact ⟨v, h1, hk _ _ h2⟩
theorem S.wp_mono {P : Program} {k k' : Env → Heap → Prop} (hk : ∀ e h, k e h → k' e h) {e : Env} {h : Heap} {s : S} (hx : s.wp P k e h) : s.wp P k' e h := by
  cases s with
  | act g x =>
    cases g with
    | none => exact A.wp_mono hk hx
    | some g =>
      simp only [S.wp] at hx ⊢
      obtain ⟨b, h1, h2⟩ := hx
      refine ⟨b, h1, ?_⟩
      cases hv : x.val e h with
      | none => rw [hv] at h2; exact ⟨fun hb => A.wp_mono hk (h2.1 hb), fun hb => hk _ _ (h2.2 hb)⟩
      | some dv => rw [hv] at h2; exact ⟨h2.1, hk _ _ h2.2⟩
  | re d a sz g =>
    cases g with
    | none => exact ⟨hx.1, hk _ _ hx.2⟩
    | some g => obtain ⟨b, h1, h2, h3⟩ := hx; exact ⟨b, h1, h2, hk _ _ h3⟩
  | ext n m => exact hk _ _ hx
theorem Pl.wp_mono {P : Program} {k k' : Env → Heap → Prop} (hk : ∀ e h, k e h → k' e h) : ∀ (p : Pl) {e : Env} {h : Heap}, p.wp P k e h → p.wp P k' e h
  | .done, _, _, hx => hk _ _ hx
  | .st _ n, _, _, hx => S.wp_mono (fun _ _ => Pl.wp_mono hk n) hx
  | .both a b, _, _, hx => ⟨Pl.wp_mono hk a hx.1, Pl.wp_mono hk b hx.2⟩
theorem C.wp_mono {P : Program} : ∀ (c : C) {Q Q' : Ex → Env → Heap → Prop} (_ : ∀ x e h, Q x e h → Q' x e h) {e : Env} {h : Heap}, c.wp P Q e h → c.wp P Q' e h
  | .skip, _, _, hQ, _, _, hx => hQ _ _ _ hx
  | .pl p, _, _, hQ, _, _, hx => Pl.wp_mono (hQ .nrm) p hx
  | .seq a b, _, _, hQ, _, _, hx => C.wp_mono a (fun x e h => by cases x <;> first | exact hQ _ _ _ | exact C.wp_mono b hQ) hx
  | .cond n o a b, _, _, hQ, _, _, ⟨t, h1, h2, h3⟩ => ⟨t, h1, fun ht => C.wp_mono a hQ (h2 ht), fun ht => C.wp_mono b hQ (h3 ht)⟩
  | .block id a, _, _, hQ, _, _, hx => C.wp_mono a (fun x e h hx => by
      cases x with
      | exit i =>
        by_cases hi : i = id
        · simp only [if_pos hi] at hx ⊢; exact hQ _ _ _ hx
        · simp only [if_neg hi] at hx ⊢; exact hQ _ _ _ hx
      | nrm => exact hQ _ _ _ hx
      | ret => exact hQ _ _ _ hx) hx
  | .loop n fg a, _, _, hQ, _, _, ⟨I, h0, hs⟩ => ⟨I, h0, fun m e h hI => C.wp_mono a (fun x e h hx => by
      cases x with
      | nrm => exact hx
      | exit i => exact hQ _ _ _ hx
      | ret => exact hQ _ _ _ hx) (hs m e h hI)⟩
  | .exit _, _, _, hQ, _, _, hx => hQ _ _ _ hx
  | .ret, _, _, hQ, _, _, hx => hQ _ _ _ hx
section
variable {P : Program} {Q : Ex → Env → Heap → Prop} {e : Env} {h : Heap}
def seqQ (P : Program) (b : C) (Q : Ex → Env → Heap → Prop) (x : Ex) (e : Env) (h : Heap) : Prop :=
  match x with
  | .nrm => b.wp P Q e h
  | x => Q x e h
def blockQ (id : Nat) (Q : Ex → Env → Heap → Prop) (x : Ex) (e : Env) (h : Heap) : Prop :=
  match x with
  | .exit i => if i = id then Q .nrm e h else Q (.exit i) e h
  | x => Q x e h
def loopQ (n : Nat) (fg : List Nat) (I : Env → Heap → Prop) (Q : Ex → Env → Heap → Prop) (x : Ex) (e : Env) (h : Heap) : Prop :=
  match x with
  | .nrm => I (efgt (e.take n) fg) h
  | x => Q x e h
@[simp] theorem seqQ_nrm {b : C} : seqQ P b Q .nrm e h = b.wp P Q e h := rfl
@[simp] theorem seqQ_ret {b : C} : seqQ P b Q .ret e h = Q .ret e h := rfl
@[simp] theorem seqQ_exit {b : C} {i : Nat} : seqQ P b Q (.exit i) e h = Q (.exit i) e h := rfl
@[simp] theorem blockQ_nrm {i : Nat} : blockQ i Q .nrm e h = Q .nrm e h := rfl
@[simp] theorem blockQ_ret {i : Nat} : blockQ i Q .ret e h = Q .ret e h := rfl
@[simp] theorem blockQ_exit {i j : Nat} : blockQ i Q (.exit j) e h = if j = i then Q .nrm e h else Q (.exit j) e h := rfl
@[simp] theorem loopQ_nrm {n : Nat} {fg : List Nat} {I : Env → Heap → Prop} : loopQ n fg I Q .nrm e h = I (efgt (e.take n) fg) h := rfl
@[simp] theorem loopQ_ret {n : Nat} {fg : List Nat} {I : Env → Heap → Prop} : loopQ n fg I Q .ret e h = Q .ret e h := rfl
@[simp] theorem loopQ_exit {n : Nat} {fg : List Nat} {I : Env → Heap → Prop} {i : Nat} : loopQ n fg I Q (.exit i) e h = Q (.exit i) e h := rfl
@[simp] theorem retQ_nrm {res : List (Nat × Option (Option Nat))} {k : Value → Heap → Prop} : retQ res k .nrm e h = ExW (resV e res) (fun vs => RetK k (tupV vs) h) := rfl
@[simp] theorem retQ_ret {res : List (Nat × Option (Option Nat))} {k : Value → Heap → Prop} : retQ res k .ret e h = ExW (resV e res) (fun vs => RetK k (tupV vs) h) := rfl
@[simp] theorem retQ_exit {res : List (Nat × Option (Option Nat))} {k : Value → Heap → Prop} {i : Nat} : retQ res k (.exit i) e h = False := rfl
theorem wp_skip : C.skip.wp P Q e h = Q .nrm e h := rfl
theorem wp_pl {p : Pl} : (C.pl p).wp P Q e h = p.wp P (Q .nrm) e h := rfl
theorem wp_seq {a b : C} : (C.seq a b).wp P Q e h = a.wp P (seqQ P b Q) e h := by
  simp only [C.wp]
  congr 1
theorem wp_cond {n : Nat} {o : O} {a b : C} : (C.cond n o a b).wp P Q e h = condW (o.get e) (a.wp P Q (e.take n) h) (b.wp P Q (e.take n) h) := by
  simp [C.wp, condW, IteW]
theorem wp_block {i : Nat} {a : C} : (C.block i a).wp P Q e h = a.wp P (blockQ i Q) e h := by
  simp only [C.wp]
  congr 1
theorem wp_exit {i : Nat} : (C.exit i).wp P Q e h = Q (.exit i) e h := rfl
theorem wp_ret : C.ret.wp P Q e h = Q .ret e h := rfl
theorem wp_loop {n : Nat} {fg : List Nat} {a : C} (I : Nat → Env → Heap → Prop) (h0 : ∃ m, I m (efgt (e.take n) fg) h)
    (hs : ∀ (I' : Env → Heap → Prop) m e h, (∀ m' e h, m' < m → I m' e h → I' e h) → I m e h → a.wp P (loopQ n fg I' Q) e h) : (C.loop n fg a).wp P Q e h := by
  refine ⟨I, h0, fun m e h hI => ?_⟩
  have h1 := hs (fun e' h' => ∃ m', m' < m ∧ I m' e' h') m e h (fun m' e h hm hI => ⟨m', hm, hI⟩) hI
  have h2 : (fun (x : Ex) (e' : Env) (h' : Heap) => match x with
        | .nrm => ∃ m', m' < m ∧ I m' (efgt (e'.take n) fg) h'
        | x => Q x e' h') = loopQ n fg (fun e' h' => ∃ m', m' < m ∧ I m' e' h') Q := by
    funext x e' h'
    cases x <;> rfl
  exact h2 ▸ h1
theorem wp_count {n : Nat} {fg : List Nat} {a : C} (N : Nat) (J : Nat → Env → Heap → Prop) (h0 : J 0 (efgt (e.take n) fg) h)
    (hs : ∀ (J' : Env → Heap → Prop) i e h, (∀ e h, i < N → J (i + 1) e h → J' e h) → i ≤ N → J i e h → a.wp P (loopQ n fg J' Q) e h) : (C.loop n fg a).wp P Q e h := by
  refine wp_loop (fun m e h => ∃ i, i ≤ N ∧ m = N - i ∧ J i e h) ⟨N, 0, by omega, by omega, h0⟩ ?_
  rintro I' m e h hI ⟨i, hi, rfl, hJ⟩
  exact hs I' i e h (fun e h hlt hJ => hI (N - (i + 1)) e h (by omega) ⟨i + 1, hlt, rfl, hJ⟩) hi hJ
theorem pl_done {k : Env → Heap → Prop} : Pl.done.wp P k e h = k e h := rfl
theorem pl_st {s : S} {n : Pl} {k : Env → Heap → Prop} : (Pl.st s n).wp P k e h = s.wp P (n.wp P k) e h := rfl
theorem s_act {x : A} {k : Env → Heap → Prop} : (S.act none x).wp P k e h = x.wp P k e h := rfl
def gvw (w : Bool) : Option Value → Option Bool
  | some (.bool b) => some (b == w)
  | some _ => some false
  | none => none
def guardW (v : Option Value) (w : Bool) (A B : Prop) : Prop := ∃ b, gvw w v = some b ∧ (b = true → A) ∧ (b = false → B)
@[congr] theorem guardW_congr {v v' : Option Value} {w : Bool} {A B : Prop} (hv : v = v') : guardW v w A B = guardW v' w A B := by rw [hv]
@[simp] theorem guardW_tt {A B : Prop} : guardW (some (.bool true)) true A B = A := by simp [guardW, gvw]
@[simp] theorem guardW_ff {A B : Prop} : guardW (some (.bool false)) false A B = A := by simp [guardW, gvw]
@[simp] theorem guardW_tf {A B : Prop} : guardW (some (.bool true)) false A B = B := by simp [guardW, gvw]
@[simp] theorem guardW_ft {A B : Prop} : guardW (some (.bool false)) true A B = B := by simp [guardW, gvw]
@[simp] theorem guardW_undef {w : Bool} {A B : Prop} : guardW (some undef) w A B = B := by simp [guardW, gvw, undef]
theorem gcond_gvw {o : O} {w : Bool} : gcond e (some (o, w)) = gvw w (o.get e) := by
  simp only [gcond]
  cases o.get e with
  | none => rfl
  | some v => cases v <;> rfl
theorem s_gp {v : Option Value} {d : Option Nat} {b : Bool} {k : Env → Heap → Prop} : ((b = true → v.isSome = true) ∧ k (dput d (gval b v) e) h) ↔ ((b = true → ∃ u, v = some u ∧ k (dput d (some u) e) h) ∧ (b = false → k (dput d (some undef) e) h)) := by
  cases b
  · simp [gval]
  · cases v <;> simp [gval]
theorem s_g {o : O} {w : Bool} {x : A} {k : Env → Heap → Prop} : (S.act (some (o, w)) x).wp P k e h = guardW (o.get e) w (x.wp P k e h) (k (dput x.dst (some undef) e) h) := by
  have key : ∀ b : Bool, (match x.val e h with
    | some (d, v) => (b = true → v.isSome = true) ∧ k (dput d (gval b v) e) h
    | none => (b = true → x.wp P k e h) ∧ (b = false → k (dput x.dst (some undef) e) h)) ↔ (b = true → x.wp P k e h) ∧ (b = false → k (dput x.dst (some undef) e) h) := by
    intro b
    cases x
    case px => exact s_gp
    case ld => exact s_gp
    case pget => exact s_gp
    all_goals exact Iff.rfl
  apply propext
  constructor
  · rintro ⟨b, h1, h2⟩; exact ⟨b, gcond_gvw ▸ h1, (key b).1 h2⟩
  · rintro ⟨b, h1, h2⟩; exact ⟨b, gcond_gvw ▸ h1, (key b).2 h2⟩
theorem s_re {d : Nat} {a : O} {sz : Option Nat} {k : Env → Heap → Prop} : (S.re d a sz none).wp P k e h = AndW (hload h (a.get e) sz = eget e d) (k e h) := rfl
theorem s_reg {d : Nat} {a : O} {sz : Option Nat} {g : O × Bool} {k : Env → Heap → Prop} : (S.re d a sz (some g)).wp P k e h =
    ∃ b, gcond e (some g) = some b ∧ (b = true → hload h (a.get e) sz = eget e d) ∧ k e h := rfl
theorem s_ext {n m : Nat} {k : Env → Heap → Prop} : (S.ext n m).wp P k e h = k (eext n m e) h := rfl
theorem a_px {d : Option Nat} {x : PX} {k : Env → Heap → Prop} : (A.px d x).wp P k e h = ExW (x.ev e) (fun v => k (dput d (some v) e) h) := rfl
theorem a_ld {d : Option Nat} {a : O} {sz : Option Nat} {k : Env → Heap → Prop} : (A.ld d a sz).wp P k e h = ExW (hload h (a.get e) sz) (fun v => k (dput d (some v) e) h) := rfl
theorem a_pnew {i : Nat} {x : O} {cl : List Nat} {k : Env → Heap → Prop} : (A.pnew i x cl).wp P k e h = ExW (x.get e) (fun v => k (efgt (eset e i (some v)) cl) h) := rfl
theorem a_pget {d c : Option Nat} {i off : Nat} {sz : Option Nat} {k : Env → Heap → Prop} : (A.pget d c i off sz).wp P k e h = ExW (pgetC e c i off sz) (fun v => k (dput d (some v) e) h) := rfl
theorem a_pset {c : Option Nat} {i off sz : Nat} {x : O} {k : Env → Heap → Prop} : (A.pset c i off sz x).wp P k e h = AndW (aok e c = true) (ExW (psetV (eget e i) off sz (x.get e)) (fun v => k (eset e i (some v)) h)) := rfl
theorem a_als {d : Nat} {c : Option Nat} {i : Nat} {k : Env → Heap → Prop} : (A.als d c i).wp P k e h = AndW (aok e c = true) (AndW ((eget e i).isSome = true) (k (eset e d (some (.bool true))) h)) := rfl
theorem a_psl {d : Nat} {z : List Value} {ps : List (Nat × Nat × O)} {k : Env → Heap → Prop} : (A.psl d z ps).wp P k e h = ExW (fillP e z ps) (fun cs => k (eset e d (some (.agg cs.toArray))) h) := rfl
theorem a_call {d : Option Nat} {f : FuncId} {args : List O} {k : Env → Heap → Prop} : (A.ex d (.call f args)).wp P k e h = ExW (ogets e args) (fun vs => CallE P f vs h fun v h' => Fgt k (dput d (some v) e) h') := rfl
theorem a_callv {d : Option Nat} {fo : O} {args : List O} {k : Env → Heap → Prop} : (A.ex d (.callv fo args)).wp P k e h =
    ExW ((fo.get e).bind fnOf) (fun c => ExW (ogets e args) (fun vs => CallE P c.1 (c.2.1 ++ vs ++ c.2.2) h fun v h' => Fgt k (dput d (some v) e) h')) := by
  apply propext
  constructor
  · rintro ⟨f, first, cap, vs, h1, h2, h3⟩
    exact ⟨(f, first.toList, cap.toList), by rw [h1]; rfl, vs, h2, h3⟩
  · rintro ⟨⟨f, first, cap⟩, h1, vs, h2, h3⟩
    cases hf : fo.get e with
    | none => rw [hf] at h1; simp at h1
    | some v =>
      rw [hf] at h1
      simp only [Option.bind_some] at h1
      unfold fnOf at h1
      split at h1
      · simp only [Option.some.injEq, Prod.mk.injEq] at h1
        obtain ⟨rfl, rfl, rfl⟩ := h1
        exact ⟨_, _, _, vs, hf, h2, h3⟩
      · simp at h1
@[simp] theorem fnOf_func {f : FuncId} {a b : Array Value} : fnOf (.func (.func f) a b) = some (f, a.toList, b.toList) := rfl
@[simp] theorem eget_zero {x : Option Value} {l : Env} : eget (x :: l) 0 = x := rfl
@[simp] theorem eget_succ {x : Option Value} {l : Env} {n : Nat} : eget (x :: l) (n + 1) = eget l n := rfl
@[simp] theorem eset_zero {x v : Option Value} {l : Env} : eset (x :: l) 0 v = v :: l := rfl
@[simp] theorem eset_succ {x v : Option Value} {l : Env} {n : Nat} : eset (x :: l) (n + 1) v = x :: eset l n v := rfl
@[simp] theorem efgt_nil {l : Env} : efgt l [] = l := rfl
@[simp] theorem efgt_cons {l : Env} {i : Nat} {r : List Nat} : efgt l (i :: r) = efgt (eset l i none) r := rfl
@[simp] theorem eext_zero {m : Nat} {l : Env} : eext 0 m l = List.replicate m none := rfl
@[simp] theorem eext_succ {n m : Nat} {x : Option Value} {l : Env} : eext (n + 1) m (x :: l) = x :: eext n m l := rfl
@[simp] theorem get_v {i : Nat} : (O.v i).get e = eget e i := rfl
@[simp] theorem get_c {x : Value} : (O.c x).get e = some x := rfl
@[simp] theorem ogets_nil : ogets e [] = some [] := rfl
@[simp] theorem dput_none {v : Option Value} : dput none v e = e := rfl
@[simp] theorem dput_some {i : Nat} {v : Option Value} : dput (some i) v e = eset e i v := rfl
@[simp] theorem gval_true {v : Option Value} : gval true v = v := rfl
@[simp] theorem gval_false {v : Option Value} : gval false v = some undef := rfl
@[simp] theorem tupV_one {v : Value} : tupV [v] = v := rfl
@[simp] theorem tupV_two {v u : Value} {l : List Value} : tupV (v :: u :: l) = .tuple (v :: u :: l).toArray := rfl
theorem le_refl' : h.le h := fun _ _ hb => hb
theorem Fgt.keep {k : Env → Heap → Prop} (hk : k e h) : Fgt k e h := ⟨h, le_refl', hk⟩
theorem Fgt.drop {k : Env → Heap → Prop} {h' : Heap} (hl : h'.le h) (hk : k e h') : Fgt k e h := ⟨h', hl, hk⟩
theorem wrap64 {n : Int} (h1 : -9223372036854775808 ≤ n) (h2 : n < 9223372036854775808) : IntKind.i64.wrap n = n := by
  rw [IntKind.wrap_i64]; omega
end
def allOne : List Value → Bool
  | [] => true
  | v :: l => v.oneCell' && allOne l
@[simp] theorem allOne_nil : allOne [] = true := rfl
@[simp] theorem allOne_cons {v : Value} {l : List Value} : allOne (v :: l) = (v.oneCell' && allOne l) := rfl
theorem allOne_eq : ∀ l, List.all l Value.oneCell' = allOne l
  | [] => rfl
  | v :: l => by simp [allOne, allOne_eq l]
@[simp] theorem cells_agg {c : Array Value} : (Value.agg c).cells = c := rfl
@[simp] theorem cells_int {k : IntKind} {n : Int} : (Value.int k n).cells = #[.int k n] := rfl
@[simp] theorem cells_bool {b : Bool} : (Value.bool b).cells = #[.bool b] := rfl
@[simp] theorem cells_string {b : ByteArray} : (Value.string b).cells = #[.string b] := rfl
@[simp] theorem cells_slice {p : Option Addr} {n c : Nat} : (Value.slice p n c).cells = #[.slice p n c] := rfl
@[simp] theorem cells_pointer {p : Option Addr} : (Value.pointer p).cells = #[.pointer p] := rfl
@[simp] theorem cells_map {p : Option Nat} : (Value.map p).cells = #[.map p] := rfl
@[simp] theorem cells_func {f : Fn} {a b : Array Value} : (Value.func f a b).cells = #[.func f a b] := rfl
@[simp] theorem cells_nilFunc : Value.nilFunc.cells = #[.nilFunc] := rfl
@[simp] theorem pgetV_agg {c : Array Value} {off : Nat} : pgetV (some (.agg c)) off none = c.toList[off]? := rfl
@[simp] theorem pgetV_aggs {c : Array Value} {off n : Nat} : pgetV (some (.agg c)) off (some n) = if off = 0 ∧ c.size = n then some (.agg c) else partV c.toList off (some n) := rfl
@[simp] theorem pgetV_int {k : IntKind} {n : Int} : pgetV (some (.int k n)) 0 none = some (.int k n) := rfl
@[simp] theorem pgetV_bool {b : Bool} : pgetV (some (.bool b)) 0 none = some (.bool b) := rfl
@[simp] theorem pgetV_string {b : ByteArray} : pgetV (some (.string b)) 0 none = some (.string b) := rfl
@[simp] theorem pgetV_slice {p : Option Addr} {n c : Nat} : pgetV (some (.slice p n c)) 0 none = some (.slice p n c) := rfl
@[simp] theorem psetV_agg {c : Array Value} {off sz : Nat} {x : Value} : psetV (some (.agg c)) off sz (some x) = if x.cells.size = sz ∧ off + sz ≤ c.size ∧ allOne x.cells.toList = true then
    some (if off = 0 ∧ sz = c.size then .agg x.cells else .agg (setC c.toList off x.cells.toList).toArray) else none := by
  rw [← allOne_eq]; rfl
@[simp] theorem psetV_int {k : IntKind} {n : Int} {x : Value} : psetV (some (.int k n)) 0 1 (some x) = if x.cells.size = 1 ∧ allOne x.cells.toList = true then x.cells[0]? else none := by
  rw [← allOne_eq]
  simp only [psetV, cells_int]
  simp
@[simp] theorem psetV_bool {b : Bool} {x : Value} : psetV (some (.bool b)) 0 1 (some x) = if x.cells.size = 1 ∧ allOne x.cells.toList = true then x.cells[0]? else none := by
  rw [← allOne_eq]
  simp only [psetV, cells_bool]
  simp
@[simp] theorem psetV_string {b : ByteArray} {x : Value} : psetV (some (.string b)) 0 1 (some x) = if x.cells.size = 1 ∧ allOne x.cells.toList = true then x.cells[0]? else none := by
  rw [← allOne_eq]
  simp only [psetV, cells_string]
  simp
@[simp] theorem psetV_slice {p : Option Addr} {n c : Nat} {x : Value} : psetV (some (.slice p n c)) 0 1 (some x) = if x.cells.size = 1 ∧ allOne x.cells.toList = true then x.cells[0]? else none := by
  rw [← allOne_eq]
  simp only [psetV, cells_slice]
  simp
@[simp] theorem one_int {k : IntKind} {n : Int} : (Value.int k n).oneCell' = true := rfl
@[simp] theorem one_bool {b : Bool} : (Value.bool b).oneCell' = true := rfl
@[simp] theorem one_string {b : ByteArray} : (Value.string b).oneCell' = true := rfl
@[simp] theorem one_slice {p : Option Addr} {n c : Nat} : (Value.slice p n c).oneCell' = true := rfl
@[simp] theorem one_pointer {p : Option Addr} : (Value.pointer p).oneCell' = true := rfl
@[simp] theorem one_map {p : Option Nat} : (Value.map p).oneCell' = true := rfl
@[simp] theorem one_func {f : Fn} {a b : Array Value} : (Value.func f a b).oneCell' = true := rfl
@[simp] theorem one_nilFunc : Value.nilFunc.oneCell' = true := rfl
attribute [simp] wp_skip wp_pl wp_seq wp_cond wp_block wp_exit wp_ret pl_done pl_st s_act s_g A.dst s_re s_reg s_ext
  a_px a_ld a_pnew a_pget a_pset a_als a_psl a_call a_callv PX.ev gcond env0 binV intV strV unV resV ogets pgetC aok eqB eqL fillP partV
theorem CallE.gen {P : Program} {f : FuncId} {args : List Value} {h : Heap} {Q : Value → Heap → Prop} (hg : ∀ k : Value → Heap → Prop, (∀ v h', Q v h' → k v h') → CallE P f args h k) : CallE P f args h Q := hg Q fun _ _ hq => hq
theorem CallE.to {P : Program} {f : FuncId} {args : List Value} {h : Heap} {Q k : Value → Heap → Prop} (hc : CallE P f args h Q) (hk : ∀ v h', Q v h' → k v h') : CallE P f args h k := CallE.mono hk hc
def Heap.nil : Heap := fun _ => none
def Heap.one (b : Nat) (o : Obj) : Heap := fun x => if x = b then some o else none
def clash : Obj := .map #[] 0
def oplus : Option Obj → Option Obj → Option Obj
  | none, y => y
  | some x, none => some x
  | some _, some _ => some clash
def Heap.add (h r : Heap) : Heap := fun b => oplus (h b) (r b)
def Dj (h r : Heap) : Prop := ∀ b, h b = none ∨ r b = none
section
variable {a b c h h' r r' : Heap}
@[simp] theorem oplus_none {x : Option Obj} : oplus x none = x := by cases x <;> rfl
@[simp] theorem none_oplus {x : Option Obj} : oplus none x = x := rfl
@[simp] theorem oplus_eq_none {x y : Option Obj} : oplus x y = none ↔ x = none ∧ y = none := by cases x <;> cases y <;> simp [oplus]
@[simp] theorem add_nil : h.add Heap.nil = h := by funext b; simp [Heap.add, Heap.nil]
@[simp] theorem nil_add : Heap.nil.add h = h := by funext b; simp [Heap.add, Heap.nil]
theorem add_assoc : (a.add b).add c = a.add (b.add c) := by
  funext x
  simp only [Heap.add]
  cases a x <;> cases b x <;> cases c x <;> rfl
theorem add_comm : a.add b = b.add a := by
  funext x
  simp only [Heap.add]
  cases a x <;> cases b x <;> rfl
instance : Std.Associative Heap.add := ⟨fun _ _ _ => add_assoc⟩
instance : Std.Commutative Heap.add := ⟨fun _ _ => add_comm⟩
theorem Dj.symm (d : Dj a b) : Dj b a := fun x => (d x).symm
theorem Dj.comm (_ : Dj a b) : a.add b = b.add a := add_comm
@[simp] theorem Dj_nil : Dj h Heap.nil := fun _ => .inr rfl
@[simp] theorem nil_Dj : Dj Heap.nil h := fun _ => .inl rfl
theorem Dj_add : Dj h (a.add b) ↔ Dj h a ∧ Dj h b := by
  constructor
  · intro d
    constructor <;> intro x <;> rcases d x with h1 | h1
    · exact .inl h1
    · simp only [Heap.add, oplus_eq_none] at h1; exact .inr h1.1
    · exact .inl h1
    · simp only [Heap.add, oplus_eq_none] at h1; exact .inr h1.2
  · rintro ⟨d1, d2⟩ x
    rcases d1 x with h1 | h1
    · exact .inl h1
    · rcases d2 x with h2 | h2
      · exact .inl h2
      · exact .inr (by simp [Heap.add, h1, h2])
theorem add_Dj : Dj (a.add b) h ↔ Dj a h ∧ Dj b h :=
  ⟨fun d => ⟨(Dj_add.1 d.symm).1.symm, (Dj_add.1 d.symm).2.symm⟩, fun d => (Dj_add.2 ⟨d.1.symm, d.2.symm⟩).symm⟩
theorem Dj_one {b : Nat} {o : Obj} : Dj h (Heap.one b o) ↔ h b = none := by
  constructor
  · intro d
    rcases d b with h1 | h1
    · exact h1
    · simp [Heap.one] at h1
  · intro h1 x
    by_cases hx : x = b
    · subst hx; exact .inl h1
    · exact .inr (by simp [Heap.one, hx])
theorem one_Dj {b : Nat} {o : Obj} : Dj (Heap.one b o) h ↔ h b = none := ⟨fun d => Dj_one.1 d.symm, fun d => (Dj_one.2 d).symm⟩
theorem set_new {b : Nat} {o : Obj} (hb : h b = none) : h.set b o = h.add (Heap.one b o) := by
  funext x
  by_cases hx : x = b
  · subst hx; simp [Heap.set, Heap.add, Heap.one, hb]
  · simp [Heap.set, Heap.add, Heap.one, hx]
theorem set_one {b : Nat} {o o' : Obj} (hb : h b = none) : (h.add (Heap.one b o)).set b o' = h.add (Heap.one b o') := by
  funext x
  by_cases hx : x = b
  · subst hx; simp [Heap.set, Heap.add, Heap.one, hb]
  · simp [Heap.set, Heap.add, Heap.one, hx]
theorem add_one_set {b : Nat} {o o' : Obj} (hb : h b = none) (hr : r b = none) : (h.add ((Heap.one b o).add r)).set b o' = h.add ((Heap.one b o').add r) := by
  funext x
  by_cases hx : x = b
  · subst hx; simp [Heap.set, Heap.add, Heap.one, hb, hr]
  · simp [Heap.set, Heap.add, Heap.one, hx]
theorem Heap.le.refl (h : Heap) : h.le h := fun _ _ hb => hb
theorem Heap.le.trans (h1 : a.le b) (h2 : b.le c) : a.le c := fun x o hb => h2 x o (h1 x o hb)
theorem le_add (d : Dj h r) : h.le (h.add r) := fun x o hb => by
  rcases d x with h1 | h1
  · rw [h1] at hb; simp at hb
  · simp [Heap.add, h1, hb]
theorem le_add' (d : Dj h r) : r.le (h.add r) := add_comm (a := h) ▸ le_add d.symm
theorem le_drop (d0 : Dj h r) (d : Dj r c) : (h.add c).le ((h.add r).add c) := by
  intro x o hb
  simp only [Heap.add] at hb ⊢
  rcases d x with h1 | h1
  · simpa [h1] using hb
  · rcases d0 x with h2 | h2
    · rw [h1, h2] at hb; simp at hb
    · simpa [h2] using hb
theorem add_swap (_ : Dj a b) : (h.add a).add b = (h.add b).add a := by rw [add_assoc, add_comm (a := a), add_assoc]
theorem Dj.le (d : Dj h r) (hl : h'.le h) : Dj h' r := fun x => by
  rcases d x with h1 | h1
  · cases hx : h' x with
    | none => exact .inl rfl
    | some o => rw [hl x o hx] at h1; simp at h1
  · exact .inr h1
theorem hcell_le {i off : Nat} {v : Value} (hl : h.le h') (hc : hcell h i off = some v) : hcell h' i off = some v := by
  unfold hcell at hc ⊢
  split at hc
  · rename_i c el fr hb
    rw [hl _ _ hb]
    exact hc
  · simp at hc
theorem hcells_le {i : Nat} : ∀ {n off : Nat} {l : List Value} (_ : h.le h') (_ : hcells h i off n = some l), hcells h' i off n = some l
  | 0, _, _, _, hc => hc
  | n + 1, off, l, hl, hc => by
    simp only [hcells] at hc ⊢
    split at hc
    · rename_i v r hv hr
      rw [hcell_le hl hv, hcells_le hl hr]
      exact hc
    · simp at hc
theorem hload_le {p : Option Value} {sz : Option Nat} {v : Value} (hl : h.le h') (hc : hload h p sz = some v) : hload h' p sz = some v := by
  unfold hload at hc ⊢
  split at hc
  · split at hc
    · exact hcell_le hl hc
    · simp only [Option.map_eq_some_iff] at hc ⊢
      obtain ⟨l, h1, h2⟩ := hc
      exact ⟨l, hcells_le hl h1, h2⟩
  · simp at hc
theorem hcells_mk {i : Nat} {c : Array Value} {el : TypeId} {fr : Nat × Nat} (hb : h i = some (.cells c el fr)) : ∀ {n off : Nat}, off + n ≤ c.size → hcells h i off n = some ((c.toList.drop off).take n)
  | 0, _, _ => by simp [hcells]
  | n + 1, off, ho => by
    simp only [hcells]
    rw [hcells_mk hb (n := n) (off := off + 1) (by omega)]
    have h1 : hcell h i off = some c[off] := by simp [hcell, hb]
    rw [h1]
    simp only [Option.some.injEq]
    rw [List.drop_eq_getElem_cons (by simp; omega : off < c.toList.length)]
    simp
end
class Ty (α : Type) where
  agg : Bool
  sz : Nat
  rep : Heap → List Value → α → Prop
  own : Heap → List Value → α → Prop
  one : agg = false → sz = 1
  len : ∀ {h cs x}, rep h cs x → cs.length = sz
  cell : ∀ {h cs x}, rep h cs x → ∀ v ∈ cs, v.oneCell' = true
  mono : ∀ {h h' cs x}, Heap.le h h' → rep h cs x → rep h' cs x
  own_rep : ∀ {r cs x}, own r cs x → rep r cs x
def valC (agg : Bool) (cs : List Value) : Value := if agg then .agg cs.toArray else cs.headD undef
def Rep {α : Type} [Ty α] (h : Heap) (v : Value) (x : α) : Prop := ∃ cs, v = valC (Ty.agg α) cs ∧ Ty.rep h cs x
def Own {α : Type} [Ty α] (r : Heap) (v : Value) (x : α) : Prop := ∃ cs, v = valC (Ty.agg α) cs ∧ Ty.own r cs x
def szo (α : Type) [Ty α] : Option Nat := if Ty.agg α then some (Ty.sz α) else none
section
variable {α : Type} [Ty α] {h h' r : Heap} {v : Value} {x : α}
theorem Rep.le (hr : Rep h v x) (hl : h.le h') : Rep h' v x := by
  obtain ⟨cs, h1, h2⟩ := hr
  exact ⟨cs, h1, Ty.mono hl h2⟩
theorem Own.rep (ho : Own r v x) : Rep r v x := by
  obtain ⟨cs, h1, h2⟩ := ho
  exact ⟨cs, h1, Ty.own_rep h2⟩
theorem Own.rep' (ho : Own r v x) (d : Dj h r) : Rep (h.add r) v x := ho.rep.le (le_add' d)
theorem Rep.add (hr : Rep h v x) (d : Dj h r) : Rep (h.add r) v x := hr.le (le_add d)
theorem valC_cells {cs : List Value} (h1 : Ty.agg α = false → cs.length = 1) (h2 : ∀ v ∈ cs, v.oneCell' = true) : (valC (Ty.agg α) cs).cells.toList = cs := by
  unfold valC
  cases ha : Ty.agg α with
  | true => rfl
  | false =>
    have := h1 ha
    match cs, this with
    | [u], _ =>
      have h3 := h2 u (by simp)
      cases u <;> first | rfl | simp [Value.oneCell'] at h3
theorem rep_cells {cs : List Value} (hr : Ty.rep h cs x) : (valC (Ty.agg α) cs).cells.toList = cs :=
  valC_cells (fun ha => by rw [Ty.len hr, Ty.one ha]) (Ty.cell hr)
end
def ownL {α : Type} [Ty α] : List α → List Value → Heap → Prop
  | [], _, r => r = Heap.nil
  | x :: l, cs, r => ∃ r1 r2, r = r1.add r2 ∧ Dj r1 r2 ∧ Ty.own r1 (cs.take (Ty.sz α)) x ∧ ownL l (cs.drop (Ty.sz α)) r2
def okP (p : Option Addr) : Prop := p = none ∨ ∃ b off, p = some ⟨b, off, none⟩
section
variable {α : Type} [Ty α]
def repL (h : Heap) (p : Option Addr) (l : List α) : Prop := ∀ i (hi : i < l.length), ∃ b off vs, p = some ⟨b, off, none⟩ ∧ hcells h b (off + i * Ty.sz α) (Ty.sz α) = some vs ∧ Ty.rep h vs l[i]
theorem repL_le {h h' : Heap} {p : Option Addr} {l : List α} (hl : h.le h') (hr : repL h p l) : repL h' p l := fun i hi => by
  obtain ⟨b, off, vs, h1, h2, h3⟩ := hr i hi
  exact ⟨b, off, vs, h1, hcells_le hl h2, Ty.mono hl h3⟩
theorem ownL_at : ∀ {l : List α} {cs : List Value} {r : Heap}, ownL l cs r → ∀ i (hi : i < l.length), ∃ r1 r2, r = r1.add r2 ∧ Dj r1 r2 ∧ Ty.own r1 ((cs.drop (i * Ty.sz α)).take (Ty.sz α)) l[i] ∧
    ∀ r1' c' y, Dj r1' r2 → Ty.own r1' c' y → ownL (l.set i y) (setC cs (i * Ty.sz α) c') (r1'.add r2)
  | [], _, _, _, i, hi => by simp at hi
  | x :: l, cs, r, ho, 0, _ => by
    obtain ⟨r1, r2, h1, h2, h3, h4⟩ := ho
    refine ⟨r1, r2, h1, h2, by simpa using h3, ?_⟩
    intro r1' c' y d o'
    have hlen := Ty.len (Ty.own_rep o')
    refine ⟨r1', r2, rfl, d, ?_, ?_⟩
    · simpa [setC, List.take_append, hlen] using o'
    · simpa [setC, List.drop_append, hlen] using h4
  | x :: l, cs, r, ho, i + 1, hi => by
    obtain ⟨r1, r2, h1, h2, h3, h4⟩ := ho
    obtain ⟨s1, s2, g1, g2, g3, g4⟩ := ownL_at h4 i (by simpa using hi)
    subst h1; subst g1
    obtain ⟨d1, d2⟩ := Dj_add.1 h2
    refine ⟨s1, r1.add s2, ?_, ?_, ?_, ?_⟩
    · rw [← add_assoc, d1.comm, add_assoc]
    · exact Dj_add.2 ⟨d1.symm, g2⟩
    · simpa [List.drop_drop, Nat.add_mul, Nat.add_comm] using g3
    · intro r1' c' y d o'
      obtain ⟨e1, e2⟩ := Dj_add.1 d
      have hlen := Ty.len (Ty.own_rep h3)
      have hlen' := Ty.len (Ty.own_rep o')
      have hcs : Ty.sz α ≤ cs.length := by
        have := hlen
        simp at this
        omega
      have ha : (i + 1) * Ty.sz α = Ty.sz α + i * Ty.sz α := by rw [Nat.add_mul]; omega
      refine ⟨r1, r1'.add s2, ?_, Dj_add.2 ⟨e1.symm, d2⟩, ?_, ?_⟩
      · rw [← add_assoc, e1.comm, add_assoc]
      · have : (setC cs ((i + 1) * Ty.sz α) c').take (Ty.sz α) = cs.take (Ty.sz α) := by
          rw [setC, ha, List.append_assoc, List.take_append_of_le_length (by simp; omega), List.take_take]
          congr 1; omega
        rw [this]; exact h3
      · have : (setC cs ((i + 1) * Ty.sz α) c').drop (Ty.sz α) = setC (cs.drop (Ty.sz α)) (i * Ty.sz α) c' := by
          unfold setC
          rw [ha, List.append_assoc, List.drop_append_of_le_length (by simp; omega), List.drop_take, List.append_assoc, List.drop_drop]
          congr 2
          · omega
          · congr 1; omega
        rw [this]
        exact g4 r1' c' y e2 o'
theorem ownL_sub {l : List α} {cs : List Value} {r : Heap} (ho : ownL l cs r) (i : Nat) (hi : i < l.length) : Ty.rep r ((cs.drop (i * Ty.sz α)).take (Ty.sz α)) l[i] := by
  obtain ⟨r1, r2, h1, h2, h3, _⟩ := ownL_at ho i hi
  subst h1
  exact Ty.mono (le_add h2) (Ty.own_rep h3)
theorem ownL_len : ∀ {l : List α} {cs : List Value} {r : Heap}, ownL l cs r → l.length * Ty.sz α ≤ cs.length
  | [], _, _, _ => by simp
  | x :: l, cs, r, ho => by
    obtain ⟨r1, r2, h1, h2, h3, h4⟩ := ho
    have := ownL_len h4
    have hlen := Ty.len (Ty.own_rep h3)
    simp at this hlen ⊢
    rw [Nat.add_mul]
    omega
theorem ownL_congr : ∀ {l : List α} {cs cs' : List Value} {r : Heap}, ownL l cs r → cs.take (l.length * Ty.sz α) = cs'.take (l.length * Ty.sz α) → ownL l cs' r
  | [], _, _, _, ho, _ => ho
  | x :: l, cs, cs', r, ho, he => by
    obtain ⟨r1, r2, h1, h2, h3, h4⟩ := ho
    have ha : (x :: l).length * Ty.sz α = Ty.sz α + l.length * Ty.sz α := by simp [Nat.add_mul]; omega
    rw [ha] at he
    refine ⟨r1, r2, h1, h2, ?_, ?_⟩
    · have := congrArg (List.take (Ty.sz α)) he
      rw [List.take_take, List.take_take, Nat.min_eq_left (by omega)] at this
      rw [← this]; exact h3
    · refine ownL_congr h4 ?_
      have := congrArg (List.drop (Ty.sz α)) he
      rw [List.drop_take, List.drop_take] at this
      simpa using this
theorem ownL_append : ∀ {l l2 : List α} {cs cs2 : List Value} {r r2 : Heap}, ownL l cs r → cs.length = l.length * Ty.sz α → ownL l2 cs2 r2 → Dj r r2 → ownL (l ++ l2) (cs ++ cs2) (r.add r2)
  | [], l2, cs, cs2, r, r2, ho, hc, h2, _ => by
    have : cs = [] := by simpa using hc
    subst this
    have hr : r = Heap.nil := ho
    subst hr
    simpa using h2
  | x :: l, l2, cs, cs2, r, r2, ho, hc, h2, d => by
    obtain ⟨s1, s2, e1, e2, e3, e4⟩ := ho
    subst e1
    obtain ⟨d1, d2⟩ := add_Dj.1 d
    have hlen := Ty.len (Ty.own_rep e3)
    have ha : cs.length = Ty.sz α + l.length * Ty.sz α := by rw [hc]; simp [Nat.add_mul]; omega
    refine ⟨s1, s2.add r2, by rw [add_assoc], Dj_add.2 ⟨e2, d1⟩, ?_, ?_⟩
    · rw [List.take_append_of_le_length (by omega)]; exact e3
    · rw [List.drop_append_of_le_length (by omega)]
      exact ownL_append e4 (by simp; omega) h2 d2
theorem ownL_split : ∀ {l l2 : List α} {cs : List Value} {r : Heap}, ownL (l ++ l2) cs r → ∃ r1 r2, r = r1.add r2 ∧ Dj r1 r2 ∧ ownL l cs r1 ∧ ownL l2 (cs.drop (l.length * Ty.sz α)) r2
  | [], l2, cs, r, ho => ⟨Heap.nil, r, by simp, by simp, rfl, by simpa using ho⟩
  | x :: l, l2, cs, r, ho => by
    obtain ⟨s1, s2, e1, e2, e3, e4⟩ := ho
    obtain ⟨t1, t2, f1, f2, f3, f4⟩ := ownL_split e4
    subst e1; subst f1
    obtain ⟨d1, d2⟩ := Dj_add.1 e2
    refine ⟨s1.add t1, t2, by rw [add_assoc], add_Dj.2 ⟨d2, f2⟩, ⟨s1, t1, rfl, d1, e3, f3⟩, ?_⟩
    rw [List.drop_drop] at f4
    have ha : (x :: l).length * Ty.sz α = Ty.sz α + l.length * Ty.sz α := by simp [Nat.add_mul]; omega
    rw [ha]; exact f4
theorem ownL_reps {z : List Value} {y : α} (hz : Ty.own Heap.nil z y) : ∀ n, ownL (List.replicate n y) (reps n z) Heap.nil
  | 0 => rfl
  | n + 1 => by
    have hlen := Ty.len (Ty.own_rep hz)
    refine ⟨Heap.nil, Heap.nil, by simp, by simp, ?_, ?_⟩
    · simpa [reps, List.replicate_succ, List.take_append, hlen] using hz
    · simpa [reps, List.replicate_succ, List.drop_append, hlen] using ownL_reps hz n
end
section
variable {α : Type} [Ty α]
def repS (h : Heap) (cs : List Value) (l : List α) : Prop := ∃ p cap, cs = [.slice p l.length cap] ∧ (l.length ≤ cap ∧ l.length < 4611686018427387904) ∧ True ∧ repL h p l
def ownS (r : Heap) (cs : List Value) (l : List α) : Prop :=
  (∃ p, cs = [.slice p 0 0] ∧ l = [] ∧ r = Heap.nil ∧ okP p) ∨
  ∃ (b off cap : Nat) (cells : List Value) (el : TypeId) (r' : Heap), cs = [.slice (some ⟨b, off, none⟩) l.length cap] ∧ (l.length ≤ cap ∧ l.length < 4611686018427387904) ∧ off + cap * Ty.sz α ≤ cells.length ∧
    r = (Heap.one b (.cells cells.toArray el (0, 0))).add r' ∧ r' b = none ∧ ownL l (cells.drop off) r'
theorem ownS_rep {r : Heap} {cs : List Value} {l : List α} (ho : ownS r cs l) : repS r cs l := by
  rcases ho with ⟨p, h1, h2, h3, h4⟩ | ⟨b, off, cap, cells, el, r', h1, h2, h3, h4, h5, h6⟩
  · subst h2
    exact ⟨p, 0, h1, by simp, trivial, fun i hi => by simp at hi⟩
  · refine ⟨_, cap, h1, h2, trivial, ?_⟩
    intro i hi
    subst h4
    have hb : ((Heap.one b (.cells cells.toArray el (0, 0))).add r') b = some (.cells cells.toArray el (0, 0)) := by simp [Heap.add, Heap.one, h5]
    have hsz : i * Ty.sz α + Ty.sz α ≤ cap * Ty.sz α := by
      rw [← Nat.succ_mul]
      exact Nat.mul_le_mul_right _ (by have := h2.1; omega)
    refine ⟨b, off, _, rfl, hcells_mk hb (by simp; omega), ?_⟩
    have := ownL_sub h6 i hi
    rw [List.drop_drop] at this
    exact Ty.mono (le_add' (one_Dj.2 h5)) this
instance instTyList : Ty (List α) where
  agg := false
  sz := 1
  rep := repS
  own := ownS
  one := fun _ => rfl
  len := by rintro h cs x ⟨p, cap, rfl, _⟩; rfl
  cell := by rintro h cs x ⟨p, cap, rfl, _⟩ v hv; simp at hv; subst hv; rfl
  mono := by
    rintro h h' cs x hl ⟨p, cap, h1, h2, h3, h4⟩
    exact ⟨p, cap, h1, h2, h3, repL_le hl h4⟩
  own_rep := ownS_rep
end
instance instTyInt : Ty Int where
  agg := false
  sz := 1
  rep := fun _ cs n => cs = [.int .i64 n] ∧ -9223372036854775808 ≤ n ∧ n < 9223372036854775808
  own := fun r cs n => r = Heap.nil ∧ cs = [.int .i64 n] ∧ -9223372036854775808 ≤ n ∧ n < 9223372036854775808
  one := fun _ => rfl
  len := by rintro h cs x ⟨rfl, _⟩; rfl
  cell := by rintro h cs x ⟨rfl, _⟩ v hv; simp at hv; subst hv; rfl
  mono := fun _ hr => hr
  own_rep := fun ho => ho.2
instance instTyBool : Ty Bool where
  agg := false
  sz := 1
  rep := fun _ cs n => cs = [.bool n]
  own := fun r cs n => r = Heap.nil ∧ cs = [.bool n]
  one := fun _ => rfl
  len := by rintro h cs x rfl; rfl
  cell := by rintro h cs x rfl v hv; simp at hv; subst hv; rfl
  mono := fun _ hr => hr
  own_rep := fun ho => ho.2
instance instTyStr : Ty ByteArray where
  agg := false
  sz := 1
  rep := fun _ cs n => cs = [.string n]
  own := fun r cs n => r = Heap.nil ∧ cs = [.string n]
  one := fun _ => rfl
  len := by rintro h cs x rfl; rfl
  cell := by rintro h cs x rfl v hv; simp at hv; subst hv; rfl
  mono := fun _ hr => hr
  own_rep := fun ho => ho.2
instance instTyU64 : Ty (BitVec 64) where
  agg := false
  sz := 1
  rep := fun _ cs n => cs = [.int .u64 n.toNat]
  own := fun r cs n => r = Heap.nil ∧ cs = [.int .u64 n.toNat]
  one := fun _ => rfl
  len := by rintro h cs x rfl; rfl
  cell := by rintro h cs x rfl v hv; simp at hv; subst hv; rfl
  mono := fun _ hr => hr
  own_rep := fun ho => ho.2
instance instTyProd {α β : Type} [Ty α] [Ty β] : Ty (α × β) where
  agg := true
  sz := Ty.sz α + Ty.sz β
  rep := fun h cs x => ∃ c1 c2, cs = c1 ++ c2 ∧ Ty.rep h c1 x.1 ∧ Ty.rep h c2 x.2
  own := fun r cs x => ∃ c1 c2 r1 r2, cs = c1 ++ c2 ∧ r = r1.add r2 ∧ Dj r1 r2 ∧ Ty.own r1 c1 x.1 ∧ Ty.own r2 c2 x.2
  one := fun h => by simp at h
  len := by rintro h cs x ⟨c1, c2, rfl, h1, h2⟩; simp [Ty.len h1, Ty.len h2]
  cell := by
    rintro h cs x ⟨c1, c2, rfl, h1, h2⟩ v hv
    rcases List.mem_append.1 hv with h3 | h3
    · exact Ty.cell h1 v h3
    · exact Ty.cell h2 v h3
  mono := by rintro h h' cs x hl ⟨c1, c2, h0, h1, h2⟩; exact ⟨c1, c2, h0, Ty.mono hl h1, Ty.mono hl h2⟩
  own_rep := by
    rintro r cs x ⟨c1, c2, r1, r2, h0, rfl, d, h1, h2⟩
    exact ⟨c1, c2, h0, Ty.mono (le_add d) (Ty.own_rep h1), Ty.mono (le_add' d) (Ty.own_rep h2)⟩
@[reducible] def Ty.via {α β : Type} [Ty β] (f : α → β) : Ty α where
  agg := true
  sz := Ty.sz β
  rep := fun h cs x => Ty.rep h cs (f x)
  own := fun r cs x => Ty.own r cs (f x)
  one := fun h => by simp at h
  len := fun h => Ty.len h
  cell := fun h => Ty.cell h
  mono := fun hl h => Ty.mono hl h
  own_rep := fun h => Ty.own_rep h
class Flat (α : Type) [Ty α] where
  enc : α → List Value
  ok : α → Prop
  rep_iff : ∀ {h cs} {x : α}, Ty.rep h cs x ↔ cs = enc x ∧ ok x
  own_iff : ∀ {r cs} {x : α}, Ty.own r cs x ↔ r = Heap.nil ∧ cs = enc x ∧ ok x
instance : Flat Int := ⟨fun n => [.int .i64 n], fun n => -9223372036854775808 ≤ n ∧ n < 9223372036854775808, Iff.rfl, Iff.rfl⟩
instance : Flat Bool := ⟨fun n => [.bool n], fun _ => True, by simp [Ty.rep], by simp [Ty.own]⟩
instance : Flat ByteArray := ⟨fun n => [.string n], fun _ => True, by simp [Ty.rep], by simp [Ty.own]⟩
instance : Flat (BitVec 64) := ⟨fun n => [.int .u64 n.toNat], fun _ => True, by simp [Ty.rep], by simp [Ty.own]⟩
instance {α β : Type} [Ty α] [Ty β] [Flat α] [Flat β] : Flat (α × β) := ⟨fun x => Flat.enc x.1 ++ Flat.enc x.2, fun x => Flat.ok x.1 ∧ Flat.ok x.2, by
    intro h cs x
    simp only [Ty.rep, Flat.rep_iff]
    constructor
    · rintro ⟨c1, c2, rfl, ⟨rfl, h1⟩, rfl, h2⟩; exact ⟨rfl, h1, h2⟩
    · rintro ⟨rfl, h1, h2⟩; exact ⟨_, _, rfl, ⟨rfl, h1⟩, rfl, h2⟩, by
    intro h cs x
    simp only [Ty.own, Flat.own_iff]
    constructor
    · rintro ⟨c1, c2, r1, r2, rfl, rfl, _, ⟨rfl, rfl, h1⟩, rfl, rfl, h2⟩; exact ⟨by simp, rfl, h1, h2⟩
    · rintro ⟨rfl, rfl, h1, h2⟩; exact ⟨_, _, Heap.nil, Heap.nil, rfl, by simp, by simp, ⟨rfl, rfl, h1⟩, rfl, rfl, h2⟩⟩
@[reducible] def Flat.via {α β : Type} [Ty β] [Flat β] (f : α → β) : @Flat α (Ty.via f) :=
  let _ := Ty.via f
  ⟨fun x => Flat.enc (f x), fun x => Flat.ok (f x), fun {_ _ x} => Flat.rep_iff (x := f x), fun {_ _ x} => Flat.own_iff (x := f x)⟩
def elp (sz : Nat) (v : Value) (i : Nat) : Value :=
  match v with
  | .slice (some p) _ _ => .pointer (some (p.add (i * sz)))
  | _ => undef
theorem srcV_slice {h : Heap} {b off n cap esz : Nat} {l : List Value} (hc : hcells h b off (n * esz) = some l) : srcV h esz (some (.slice (some ⟨b, off, none⟩) n cap)) = some (n, l) := by
  cases n with
  | zero => simp [hcells] at hc; subst hc; rfl
  | succ n => simp only [srcV, hc]; rfl
theorem add_none (b off n : Nat) : (⟨b, off, none⟩ : Addr).add n = ⟨b, off + n, none⟩ := by
  unfold Addr.add
  split
  · next hn => simp [hn]
  · rfl
section
variable {α : Type} [Ty α] {h h' g r : Heap} {v : Value} {l : List α}
theorem Rep_list : Rep h v l ↔ ∃ p cap, v = .slice p l.length cap ∧ (l.length ≤ cap ∧ l.length < 4611686018427387904) ∧ True ∧ repL h p l := by
  constructor
  · rintro ⟨cs, rfl, p, cap, rfl, h1, h2, h3⟩; exact ⟨p, cap, rfl, h1, h2, h3⟩
  · rintro ⟨p, cap, rfl, h1, h2, h3⟩; exact ⟨_, rfl, p, cap, rfl, h1, h2, h3⟩
theorem Own_list : Own r v l ↔ (∃ p, v = .slice p 0 0 ∧ l = [] ∧ r = Heap.nil ∧ okP p) ∨
    ∃ (b off cap : Nat) (cells : List Value) (el : TypeId) (r' : Heap), v = .slice (some ⟨b, off, none⟩) l.length cap ∧ (l.length ≤ cap ∧ l.length < 4611686018427387904) ∧ off + cap * Ty.sz α ≤ cells.length ∧
    r = (Heap.one b (.cells cells.toArray el (0, 0))).add r' ∧ r' b = none ∧ ownL l (cells.drop off) r' := by
  constructor
  · rintro ⟨cs, rfl, ⟨p, rfl, h1, h2, h3⟩ | ⟨b, off, cap, cells, el, r', rfl, h1, h2, h3, h4, h5⟩⟩
    · exact .inl ⟨p, rfl, h1, h2, h3⟩
    · exact .inr ⟨b, off, cap, cells, el, r', rfl, h1, h2, h3, h4, h5⟩
  · rintro (⟨p, rfl, h1, h2, h3⟩ | ⟨b, off, cap, cells, el, r', rfl, h1, h2, h3, h4, h5⟩)
    · exact ⟨_, rfl, .inl ⟨p, rfl, h1, h2, h3⟩⟩
    · exact ⟨_, rfl, .inr ⟨b, off, cap, cells, el, r', rfl, h1, h2, h3, h4, h5⟩⟩
theorem Rep.len (hr : Rep h v l) : lenVV v = some (.int .i64 l.length) := by
  obtain ⟨p, cap, rfl, _⟩ := Rep_list.1 hr
  rfl
theorem Rep.lt (hr : Rep h v l) : l.length < 4611686018427387904 := by
  obtain ⟨p, cap, rfl, h1, _⟩ := Rep_list.1 hr
  exact h1.2
theorem Rep.cells (hr : Rep h v l) : v.cells = #[v] := by
  obtain ⟨p, cap, rfl, h1, _⟩ := Rep_list.1 hr
  rfl
theorem Rep.one (hr : Rep h v l) : v.oneCell' = true := by
  obtain ⟨p, cap, rfl, h1, _⟩ := Rep_list.1 hr
  rfl
theorem Rep.ia (hr : Rep h v l) {k : IntKind} {i : Int} (h0 : 0 ≤ i) (h1 : i < l.length) : iaV (Ty.sz α) v (.int k i) = some (elp (Ty.sz α) v i.toNat) := by
  obtain ⟨p, cap, rfl, hc, hp, hl⟩ := Rep_list.1 hr
  obtain ⟨b, off, vs, rfl, _⟩ := hl i.toNat (by omega)
  simp [iaV, elp, h0, h1]
theorem Rep.ld (hr : Rep h v l) {i : Nat} (hi : i < l.length) : ∃ u, hload h (some (elp (Ty.sz α) v i)) (szo α) = some u ∧ Rep h u l[i] := by
  obtain ⟨p, cap, rfl, hc, hp, hl⟩ := Rep_list.1 hr
  obtain ⟨b, off, vs, rfl, h1, h2⟩ := hl i hi
  refine ⟨valC (Ty.agg α) vs, ?_, vs, rfl, h2⟩
  simp only [elp, add_none, hload, szo, valC]
  cases ha : Ty.agg α with
  | true => simp [h1]
  | false =>
    have h3 := Ty.one ha
    rw [h3] at h1
    simp only [hcells] at h1
    rw [h3]
    simp only [Bool.false_eq_true, if_false]
    split at h1
    · rename_i v r hv hr
      simp only [Option.some.injEq] at h1
      subst h1
      simpa using hv
    · simp at h1
theorem Rep.ia' {n : Nat} (hr : Rep h v l) (hn : n = Ty.sz α) {k : IntKind} {i : Int} (h0 : 0 ≤ i) (h1 : i < l.length) : iaV n v (.int k i) = some (elp n v i.toNat) := by
  subst hn; exact hr.ia h0 h1
theorem Rep.ian {n : Nat} (hr : Rep h v l) (hn : n = Ty.sz α) {k : IntKind} {i : Nat} (h1 : i < l.length) : iaV n v (.int k i) = some (elp n v i) := by
  have := hr.ia' hn (k := k) (i := (i : Int)) (by omega) (by omega)
  simpa using this
theorem Rep.ldF [Flat α] (hr : Rep h v l) {i : Nat} (hi : i < l.length) : hload h (some (elp (Ty.sz α) v i)) (szo α) = some (valC (Ty.agg α) (Flat.enc l[i])) := by
  obtain ⟨u, h1, cs, h2, h3⟩ := hr.ld hi
  rw [h1, h2, (Flat.rep_iff.1 h3).1]
theorem Rep.okF [Flat α] (hr : Rep h v l) {i : Nat} (hi : i < l.length) : Flat.ok l[i] := by
  obtain ⟨u, h1, cs, h2, h3⟩ := hr.ld hi
  exact (Flat.rep_iff.1 h3).2
end
theorem Rep.ldI {h : Heap} {v : Value} {l : List Int} (hr : Rep h v l) {i : Nat} (hi : i < l.length) : hload h (some (elp 1 v i)) none = some (.int .i64 l[i]) := hr.ldF hi
theorem Rep.ldB {h : Heap} {v : Value} {l : List Bool} (hr : Rep h v l) {i : Nat} (hi : i < l.length) : hload h (some (elp 1 v i)) none = some (.bool l[i]) := hr.ldF hi
theorem Rep.ldS {h : Heap} {v : Value} {l : List ByteArray} (hr : Rep h v l) {i : Nat} (hi : i < l.length) : hload h (some (elp 1 v i)) none = some (.string l[i]) := hr.ldF hi
theorem Rep.ldU {h : Heap} {v : Value} {l : List (BitVec 64)} (hr : Rep h v l) {i : Nat} (hi : i < l.length) : hload h (some (elp 1 v i)) none = some (.int .u64 l[i].toNat) := hr.ldF hi
theorem Rep.okI {h : Heap} {v : Value} {l : List Int} (hr : Rep h v l) {i : Nat} (hi : i < l.length) : -9223372036854775808 ≤ l[i] ∧ l[i] < 9223372036854775808 := hr.okF hi
theorem own_zero {n : Int} (h1 : -9223372036854775808 ≤ n) (h2 : n < 9223372036854775808) : Ty.own Heap.nil [.int .i64 n] n := ⟨rfl, rfl, h1, h2⟩
theorem own_false {b : Bool} : Ty.own Heap.nil [.bool b] b := ⟨rfl, rfl⟩
theorem own_nils {α : Type} [Ty α] : Ty.own (α := List α) Heap.nil [.slice none 0 0] [] := .inl ⟨none, rfl, rfl, rfl, .inl rfl⟩
theorem Own_nils {α : Type} [Ty α] : Own (α := List α) Heap.nil (.slice none 0 0) [] := ⟨_, rfl, own_nils⟩
theorem Rep_int {h : Heap} {v : Value} {n : Int} : Rep h v n ↔ v = .int .i64 n ∧ -9223372036854775808 ≤ n ∧ n < 9223372036854775808 :=
  ⟨fun ⟨_, h1, h2, h3⟩ => by subst h2; exact ⟨h1, h3⟩, fun ⟨h1, h2⟩ => ⟨[.int .i64 n], h1, rfl, h2⟩⟩
theorem take_set_succ {α : Type} {x y : List α} {i : Nat} (h1 : y.take i = x.take i) (hi : i < x.length) (hl : y.length = x.length) : (y.set i x[i]).take (i + 1) = x.take (i + 1) := by
  rw [List.take_add_one, List.take_add_one, List.take_set_of_le (Nat.le_refl i), h1]
  simp [hi, hl]
theorem eq_of_take {α : Type} {x y : List α} {i : Nat} (h1 : y.take i = x.take i) (hi : x.length ≤ i) (hl : y.length = x.length) : y = x := by
  rwa [List.take_of_length_le (by omega), List.take_of_length_le hi] at h1
def Hole {α : Type} [Ty α] (r : Heap) (v : Value) (l : List α) (i : Nat) (u : Value) : Prop :=
  ∃ (b off cap : Nat) (cells : List Value) (el : TypeId) (r' : Heap), v = .slice (some ⟨b, off, none⟩) l.length cap ∧ i < l.length ∧ (l.length ≤ cap ∧ l.length < 4611686018427387904) ∧ off + cap * Ty.sz α ≤ cells.length ∧
    r = (Heap.one b (.cells cells.toArray el (0, 0))).add r' ∧ r' b = none ∧ u = valC (Ty.agg α) (((cells.drop off).drop (i * Ty.sz α)).take (Ty.sz α)) ∧
    ∀ r1' c' y, Dj r1' r' → Ty.own r1' c' y → ownL (l.set i y) (setC (cells.drop off) (i * Ty.sz α) c') (r1'.add r')
theorem setC_self {cs c : List Value} {n m : Nat} (h1 : (cs.drop n).take m = c) (hc : c.length = m) : setC cs n c = cs := by
  subst h1
  simp at hc
  unfold setC
  conv => rhs; rw [← List.take_append_drop n cs]
  rw [List.append_assoc]
  congr 1
  rw [List.length_take, List.length_drop]
  conv => rhs; rw [← List.take_append_drop m (cs.drop n)]
  rw [List.drop_drop]
  congr 2
  omega
section
variable {α : Type} [Ty α] {h h' g r r2 ru : Heap} {v u : Value} {l : List α} {i : Nat}
theorem valC_inj {c : List Value} {c' : List Value} (h1 : Ty.agg α = false → c.length = 1) (h2 : Ty.agg α = false → c'.length = 1) (hv : valC (Ty.agg α) c = valC (Ty.agg α) c') : c = c' := by
  unfold valC at hv
  cases ha : Ty.agg α with
  | true => rw [ha] at hv; simpa using hv
  | false =>
    rw [ha] at hv
    have e1 := h1 ha
    have e2 := h2 ha
    match c, c', e1, e2 with
    | [x], [y], _, _ => simpa using hv
theorem slot_le {i n c s : Nat} (h1 : i < n) (h2 : n ≤ c) : i * s + s ≤ c * s := by
  rw [← Nat.succ_mul]
  exact Nat.mul_le_mul_right _ (by omega)
theorem Own.take (O : Own r v l) (hi : i < l.length) : ∃ u r1 r2, r = r1.add r2 ∧ Dj r1 r2 ∧ Own r1 u l[i] ∧ Hole r2 v l i u := by
  rcases Own_list.1 O with ⟨p, _, rfl, _⟩ | ⟨b, off, cap, cells, el, r', rfl, ⟨h1, hM⟩, h2, rfl, h4, h5⟩
  · simp at hi
  · obtain ⟨s1, s2, g1, g2, g3, g4⟩ := ownL_at h5 i hi
    subst g1
    obtain ⟨n1, n2⟩ : s1 b = none ∧ s2 b = none := by simpa [Heap.add] using h4
    refine ⟨_, s1, (Heap.one b (.cells cells.toArray el (0, 0))).add s2, ?_, Dj_add.2 ⟨Dj_one.2 n1, g2⟩, ⟨_, rfl, g3⟩, b, off, cap, cells, el, s2, rfl, hi, ⟨h1, hM⟩, h2, rfl, n2, rfl, g4⟩
    rw [← add_assoc, ← add_assoc, (one_Dj.2 n1).comm]
theorem Hole.put {r1 : Heap} {y : α} (H : Hole r2 v l i u) (d : Dj r1 r2) (O : Own r1 u y) : Own (r1.add r2) v (l.set i y) := by
  obtain ⟨b, off, cap, cells, el, r', rfl, hi, ⟨h1, hM⟩, h2, rfl, h4, h5, h6⟩ := H
  obtain ⟨c, hc, ho⟩ := O
  obtain ⟨d1, d2⟩ := Dj_add.1 d
  have hs := slot_le (s := Ty.sz α) hi h1
  have hl : ((((cells.drop off).drop (i * Ty.sz α)).take (Ty.sz α))).length = Ty.sz α := by simp; omega
  have hlen := Ty.len (Ty.own_rep ho)
  have e1 : c = ((cells.drop off).drop (i * Ty.sz α)).take (Ty.sz α) := valC_inj (α := α) (fun ha => by rw [hlen, Ty.one ha]) (fun ha => by rw [hl, Ty.one ha]) (by rw [← hc, h5])
  have h7 := h6 r1 c y d2 ho
  rw [setC_self e1.symm hlen] at h7
  refine Own_list.2 (.inr ⟨b, off, cap, cells, el, r1.add r', by simp, ⟨by simpa using h1, by simpa using hM⟩, h2, ?_, ?_, h7⟩)
  · rw [← add_assoc, ← add_assoc, d1.comm]
  · simp [Heap.add, h4]; exact Dj_one.1 d1
theorem Hole.ld (H : Hole r2 v l i u) : hload r2 (some (elp (Ty.sz α) v i)) (szo α) = some u := by
  obtain ⟨b, off, cap, cells, el, r', rfl, hi, ⟨h1, hM⟩, h2, rfl, h4, h5, h6⟩ := H
  have hs := slot_le (s := Ty.sz α) hi h1
  have hb : ((Heap.one b (.cells cells.toArray el (0, 0))).add r') b = some (.cells cells.toArray el (0, 0)) := by simp [Heap.add, Heap.one, h4]
  have hc := hcells_mk hb (n := Ty.sz α) (off := off + i * Ty.sz α) (by simp; omega)
  simp only [elp, add_none, hload, szo]
  rw [List.drop_drop] at h5
  cases ha : Ty.agg α with
  | true => simp only [if_true, hc]; rw [h5]; simp [valC, ha]
  | false =>
    have h3 := Ty.one ha
    rw [h3] at hc h5 h2
    rw [ha] at h5
    simp only [Bool.false_eq_true, if_false]
    rw [h3] at hs ⊢
    have hlt : off + i * 1 < cells.length := by omega
    rw [List.drop_eq_getElem_cons hlt] at h5
    simp only [valC, List.take_succ_cons, Bool.false_eq_true, if_false, List.headD_cons] at h5
    rw [h5]
    simp only [hcell, hb]
    simp at hlt ⊢
theorem Hole.len (H : Hole r2 v l i u) : lenVV v = some (.int .i64 l.length) := by
  obtain ⟨b, off, cap, cells, el, r', rfl, _⟩ := H
  rfl
theorem Hole.ia (H : Hole r2 v l i u) {k : IntKind} {n : Int} (h0 : 0 ≤ n) (h1 : n < l.length) : iaV (Ty.sz α) v (.int k n) = some (elp (Ty.sz α) v n.toNat) := by
  obtain ⟨b, off, cap, cells, el, r', rfl, _⟩ := H
  simp [iaV, elp, h0, h1]
theorem drop_setC {cs c : List Value} {a n : Nat} (h : a + n + c.length ≤ cs.length) : (setC cs (a + n) c).drop a = setC (cs.drop a) n c := by
  unfold setC
  rw [List.append_assoc, List.drop_append_of_le_length (by simp; omega), List.drop_take, List.append_assoc, List.drop_drop]
  congr 2
  · omega
  · congr 1; omega
theorem setC_length {cs c : List Value} {n : Nat} (h : n + c.length ≤ cs.length) : (setC cs n c).length = cs.length := by
  unfold setC; simp; omega
theorem Hole.store {y : α} (H : Hole r v l i u) {u' : Value} (d : Dj g r) (d2 : Dj (g.add r) ru) (Ou : Own ru u' y) :
    ∃ b off h', elp (Ty.sz α) v i = .pointer (some ⟨b, off, none⟩) ∧ u'.cells.size = Ty.sz α ∧ hstore ((g.add r).add ru) b off u'.cells.toList = some h' ∧ ∃ r', h' = g.add r' ∧ Dj g r' ∧ Own r' v (l.set i y) := by
  obtain ⟨b, off, cap, cells, el, r', rfl, hi, ⟨h1, hM⟩, h2, rfl, h4, h5, h6⟩ := H
  obtain ⟨c, rfl, ho⟩ := Ou
  have hlen := Ty.len (Ty.own_rep ho)
  have hcell := Ty.cell (Ty.own_rep ho)
  have hcs := rep_cells (Ty.own_rep ho)
  have hs := slot_le (s := Ty.sz α) hi h1
  obtain ⟨d3, d4⟩ := Dj_add.1 d
  obtain ⟨d5, d6⟩ := add_Dj.1 d2
  obtain ⟨d7, d8⟩ := add_Dj.1 d6
  have hb : (((g.add ((Heap.one b (.cells cells.toArray el (0, 0))).add r')).add ru)) b = some (.cells cells.toArray el (0, 0)) := by
    have := Dj_one.1 d3
    simp [Heap.add, Heap.one, this, h4, one_Dj.1 d7]
  refine ⟨b, off + i * Ty.sz α, g.add ((Heap.one b (.cells (setC cells (off + i * Ty.sz α) c).toArray el (0, 0))).add (r'.add ru)), by simp [elp, add_none], ?_, ?_, ?_⟩
  · have := congrArg List.length hcs
    simpa [hlen] using this
  · unfold hstore
    rw [hb]
    simp only [hcs]
    rw [if_pos (by refine ⟨trivial, ?_, by simpa using hcell⟩; simp [hlen]; omega)]
    rw [add_assoc (a := g), add_assoc (b := r'), add_one_set (Dj_one.1 d3) (by simp [Heap.add, h4, one_Dj.1 d7])]
  · refine ⟨(Heap.one b (.cells (setC cells (off + i * Ty.sz α) c).toArray el (0, 0))).add (r'.add ru), ?_, ?_, ?_⟩
    · rfl
    · exact Dj_add.2 ⟨Dj_one.2 (Dj_one.1 d3), Dj_add.2 ⟨d4, d5⟩⟩
    · have h7 := h6 ru c y d8.symm ho
      refine Own_list.2 (.inr ⟨b, off, cap, _, el, _, by simp, ⟨by simpa using h1, by simpa using hM⟩, ?_, rfl, ?_, ?_⟩)
      · rw [setC_length (by rw [hlen]; omega)]; exact h2
      · simp [Heap.add, h4]; exact one_Dj.1 d7
      · rw [drop_setC (by rw [hlen]; omega), d8.comm]; exact h7
end
section
variable {α : Type} [Ty α] {P : Program} {k : Env → Heap → Prop} {e : Env} {h h' g r r2 ru rs : Heap} {v u : Value} {l l2 : List α} {i : Nat}
theorem a_store_hole {sz : Nat} {a x : O} {y : α} {u' : Value} (H : Hole r v l i u) (Ou : Own ru u' y) (d : Dj g r) (d2 : Dj (g.add r) ru) (hh : h = (g.add r).add ru) (hp : a.get e = some (elp (Ty.sz α) v i)) (hx : x.get e = some u') (hsz : sz = Ty.sz α)
    (K : ∀ r', Dj g r' → Own r' v (l.set i y) → k e (g.add r')) : (A.ex none (.store sz a x)).wp P k e h := by
  subst hh; subst hsz
  obtain ⟨b, off, h', h1, h2, h3, r', rfl, h4, h5⟩ := H.store d d2 Ou
  exact ⟨b, off, u', _, by rw [hp, h1], hx, h2, h3, Fgt.keep (K r' h4 h5)⟩
theorem a_store {sz : Nat} {a x : O} {y : α} {u' : Value} (O : Own r v l) (hi : i < l.length) (Ou : Own ru u' y) (d : Dj g r) (d2 : Dj (g.add r) ru) (hh : h = (g.add r).add ru) (hp : a.get e = some (elp (Ty.sz α) v i)) (hx : x.get e = some u') (hsz : sz = Ty.sz α)
    (K : ∀ r', Dj g r' → Own r' v (l.set i y) → k e (g.add r')) : (A.ex none (.store sz a x)).wp P k e h := by
  subst hh; subst hsz
  obtain ⟨u, r1, r2, rfl, d3, O1, H⟩ := O.take hi
  obtain ⟨d4, d5⟩ := Dj_add.1 d
  obtain ⟨d6, d7⟩ := add_Dj.1 d2
  obtain ⟨d8, d9⟩ := add_Dj.1 d7
  -- the element's own part stays behind
  have hd : Dj (g.add r1) r2 := add_Dj.2 ⟨d5, d3⟩
  have hd2 : Dj ((g.add r1).add r2) ru := by rw [add_assoc]; exact d2
  obtain ⟨b, off, h', h1, h2, h3, r', rfl, h4, h5⟩ := H.store hd hd2 Ou
  refine ⟨b, off, u', _, by rw [hp, h1], hx, h2, by rw [← add_assoc]; exact h3, ?_⟩
  obtain ⟨d10, d11⟩ := add_Dj.1 h4
  exact Fgt.drop (le_drop d4 d11) (K r' d10 h5)
theorem Own_flat [Flat α] {y : α} : Own r u y ↔ r = Heap.nil ∧ u = valC (Ty.agg α) (Flat.enc y) ∧ Flat.ok y := by
  constructor
  · rintro ⟨cs, rfl, ho⟩
    obtain ⟨h1, rfl, h2⟩ := Flat.own_iff.1 ho
    exact ⟨h1, rfl, h2⟩
  · rintro ⟨rfl, rfl, h1⟩
    exact ⟨_, rfl, Flat.own_iff.2 ⟨rfl, rfl, h1⟩⟩
theorem Rep_flat [Flat α] {y : α} : Rep r u y ↔ u = valC (Ty.agg α) (Flat.enc y) ∧ Flat.ok y := by
  constructor
  · rintro ⟨cs, rfl, ho⟩
    obtain ⟨rfl, h2⟩ := Flat.rep_iff.1 ho
    exact ⟨rfl, h2⟩
  · rintro ⟨rfl, h1⟩
    exact ⟨_, rfl, Flat.rep_iff.2 ⟨rfl, h1⟩⟩
theorem a_storeF [Flat α] {sz : Nat} {a x : O} (y : α) (O : Own r v l) (hi : i < l.length) (d : Dj g r) (hh : h = g.add r) (hp : a.get e = some (elp (Ty.sz α) v i)) (hx : x.get e = some (valC (Ty.agg α) (Flat.enc y))) (hy : Flat.ok y) (hsz : sz = Ty.sz α)
    (K : ∀ r', Dj g r' → Own r' v (l.set i y) → k e (g.add r')) : (A.ex none (.store sz a x)).wp P k e h :=
  a_store O hi (Own_flat.2 ⟨rfl, rfl, hy⟩) d Dj_nil (by simp [hh]) hp hx hsz K
theorem a_mks {bytes esz : Nat} {zero : List Value} {len cap : O} {j j' : IntKind} {n c : Nat} {dst : Nat} {z : α} (hl : len.get e = some (.int j n)) (hc : cap.get e = some (.int j' c)) (hz : Ty.own Heap.nil zero z) (h1 : n ≤ c) (h2 : c < 2 ^ 62) (h3 : bytes * c ≤ 2 ^ 48)
    (K : ∀ v r, Dj h r → Own r v (List.replicate n z) → k (eset e dst (some v)) (h.add r)) : (A.ex (some dst) (.mks bytes esz zero len cap)).wp P k e h := by
  refine ⟨n, c, j, j', hl, hc, h1, h2, h3, fun b el hb => Fgt.keep ?_⟩
  rw [set_new hb]
  refine K _ _ (Dj_one.2 hb) (Own_list.2 (.inr ⟨b, 0, c, reps c zero, el, Heap.nil, by simp, ⟨by simpa using h1, by simp; omega⟩, ?_, by simp, rfl, ?_⟩))
  · have := ownL_len (ownL_reps hz c)
    simpa using this
  · have hlen := Ty.len (Ty.own_rep hz)
    refine ownL_congr (ownL_reps hz n) ?_
    simp only [List.length_replicate, List.drop_zero]
    rw [show reps c zero = reps n zero ++ reps (c - n) zero by
      rw [reps, reps, reps, ← List.flatten_append, List.replicate_append_replicate]; congr 3; omega]
    have : (reps n zero).length = n * Ty.sz α := by simp [reps, hlen]
    rw [List.take_append_of_le_length (by omega)]
theorem ownL_cell : ∀ {l : List α} {cs : List Value} {r : Heap}, ownL l cs r → ∀ v ∈ cs.take (l.length * Ty.sz α), v.oneCell' = true
  | [], _, _, _, v, hv => by simp at hv
  | x :: l, cs, r, ⟨r1, r2, h1, h2, h3, h4⟩, v, hv => by
    have ha : (x :: l).length * Ty.sz α = Ty.sz α + l.length * Ty.sz α := by simp [Nat.add_mul]; omega
    rw [ha, List.take_add] at hv
    rcases List.mem_append.1 hv with h5 | h5
    · exact Ty.cell (Ty.own_rep h3) v h5
    · exact ownL_cell h4 v h5
theorem a_app {bytes esz : Nat} {zero : List Value} {a : O} {b : AO} {dst : Nat} {cs : List Value} (O : Own r v l) (ha : a.get e = some v) (hs : b.src h e esz = some (l2.length, cs)) (hcs : cs.length = l2.length * Ty.sz α) (Os : ownL l2 cs rs)
    (d : Dj g r) (d2 : Dj (g.add r) rs) (hh : h = (g.add r).add rs) (hsz : esz = Ty.sz α) (hz : zero.length = Ty.sz α) (hb : (l.length + l2.length) * bytes ≤ 140737488355328) (hn : l.length + l2.length < 2 ^ 62)
    (K : ∀ v' r', Dj g r' → Own r' v' (l ++ l2) → k (eset e dst (some v')) (g.add r')) : (A.ex (some dst) (.app bytes esz zero (.o a) b)).wp P k e h := by
  subst hsz
  obtain ⟨d5, d6⟩ := add_Dj.1 d2
  have hcell : cs.all Value.oneCell' = true := by
    have := ownL_cell Os
    rw [← hcs, List.take_length] at this
    simpa using this
  refine ⟨l2.length, cs, hs, ?_⟩
  rcases Own_list.1 O with ⟨p, rfl, rfl, rfl, hp⟩ | ⟨bb, off, cap, cells, el, r', rfl, ⟨h1, hM⟩, h2, rfl, h4, h5⟩
  · refine ⟨p, 0, 0, ha, ?_, ?_⟩
    · intro h1
      have hl2 : l2 = [] := by cases l2 with
        | nil => rfl
        | cons _ _ => simp at h1
      subst hl2
      have hcs0 : cs = [] := by simpa using hcs
      have hrs : rs = Heap.nil := Os
      subst hrs
      have hk : ∀ p, okP p → Fgt k (eset e dst (some (.slice p (0 + ([] : List α).length) 0))) h := by
        intro p hp
        subst hh
        refine Fgt.keep ?_
        simpa using K (.slice p 0 0) Heap.nil Dj_nil (Own_list.2 (.inl ⟨p, rfl, rfl, rfl, hp⟩))
      rcases hp with rfl | ⟨b', o', rfl⟩
      · exact ⟨hcs0, hk _ (.inl rfl)⟩
      · exact .inl ⟨hcs0, hk _ (.inr ⟨b', o', rfl⟩)⟩
    · intro h1
      refine ⟨0, [], ?_, ?_, by simpa using hn, ?_⟩
      · rcases hp with rfl | ⟨b', o', rfl⟩
        · rfl
        · simp [srcV, hcells]
      · exact growslice_fits h1 (by simpa using hb)
      · intro b' el c hb' hc
        subst hh
        rw [set_new hb']
        simp only [add_nil] at hb' ⊢
        have n1 : g b' = none ∧ rs b' = none := by simpa [Heap.add] using hb'
        refine Fgt.keep ?_
        rw [add_assoc]
        simp only [List.length_nil, Nat.zero_add] at hn ⊢
        refine K _ _ (Dj_add.2 ⟨d5, Dj_one.2 n1.1⟩) ?_
        rw [(Dj_one.2 n1.2).comm]
        refine Own_list.2 (.inr ⟨b', 0, c, _, el, rs, by simp, ⟨by simpa using hc, by simpa using hn⟩, ?_, rfl, n1.2, ?_⟩)
        · simp [reps, hz, hcs]
          rw [← Nat.add_mul]
          exact Nat.mul_le_mul_right _ (by simp at hc; omega)
        · refine ownL_congr Os ?_
          simp only [List.drop_zero, List.nil_append]
          exact (List.take_append_of_le_length (by rw [hcs]; exact Nat.le_refl _)).symm
  · have hbk : ((g.add ((Heap.one bb (.cells cells.toArray el (0, 0))).add r')).add rs) bb = some (.cells cells.toArray el (0, 0)) := by
      have := Dj_one.1 (Dj_add.1 d).1
      simp [Heap.add, Heap.one, this, h4, one_Dj.1 (add_Dj.1 d6).1]
    obtain ⟨d3, d4⟩ := Dj_add.1 d
    obtain ⟨d7, d8⟩ := add_Dj.1 d6
    have hll := ownL_len h5
    have hfit : l.length * Ty.sz α ≤ cap * Ty.sz α := Nat.mul_le_mul_right _ h1
    have hold : ownL l ((cells.drop off).take (l.length * Ty.sz α)) r' := by
      refine ownL_congr h5 ?_
      rw [List.take_take, Nat.min_self]
    refine ⟨_, l.length, cap, ha, ?_, ?_⟩
    · intro hle
      right
      have hf2 : l.length * Ty.sz α + l2.length * Ty.sz α ≤ cap * Ty.sz α := by rw [← Nat.add_mul]; exact Nat.mul_le_mul_right _ hle
      refine ⟨g.add ((Heap.one bb (.cells (setC cells (off + l.length * Ty.sz α) cs).toArray el (0, 0))).add (r'.add rs)), ?_, Fgt.keep ?_⟩
      · unfold hstore
        rw [hh, hbk]
        simp only
        rw [if_pos (by refine ⟨trivial, ?_, hcell⟩; simp [hcs]; omega)]
        rw [add_assoc (a := g), add_assoc (b := r'), add_one_set (Dj_one.1 d3) (by simp [Heap.add, h4, one_Dj.1 d7])]
      · refine K _ _ (Dj_add.2 ⟨Dj_one.2 (Dj_one.1 d3), Dj_add.2 ⟨d4, d5⟩⟩) ?_
        refine Own_list.2 (.inr ⟨bb, off, cap, _, el, _, by simp, ⟨by simpa using hle, by simpa using hn⟩, ?_, rfl, ?_, ?_⟩)
        · rw [setC_length (by rw [hcs]; omega)]; exact h2
        · simp [Heap.add, h4]; exact one_Dj.1 d7
        · rw [drop_setC (by rw [hcs]; omega)]
          have h9 := ownL_append hold (by simp; omega) Os d8
          refine ownL_congr h9 ?_
          rw [List.length_append, Nat.add_mul]
          exact (List.take_append_of_le_length (by rw [List.length_append, List.length_take, Nat.min_eq_left hll, hcs]; exact Nat.le_refl _)).symm
    · intro hlt
      refine ⟨l.length, (cells.drop off).take (l.length * Ty.sz α), ?_, growslice_fits hlt hb, hn, ?_⟩
      · rw [srcV_slice (l := (cells.drop off).take (l.length * Ty.sz α))]
        rw [hh, hcells_mk hbk (by simp; omega)]
      · intro b' el' c hb' hc
        subst hh
        rw [set_new hb']
        have n1 : g b' = none ∧ r' b' = none ∧ rs b' = none := by
          simp only [Heap.add, oplus_eq_none] at hb'
          exact ⟨hb'.1.1, hb'.1.2.2, hb'.2⟩
        have hne : Dj (Heap.one bb (.cells cells.toArray el (0, 0))) ((r'.add rs).add (Heap.one b' (.cells ((cells.drop off).take (l.length * Ty.sz α) ++ cs ++ reps (c - (l.length + l2.length)) zero).toArray el' (0, 0)))) := by
          refine Dj_add.2 ⟨Dj_add.2 ⟨one_Dj.2 h4, d7⟩, Dj_one.2 ?_⟩
          simp only [Heap.add, oplus_eq_none] at hb'
          exact hb'.1.2.1
        refine Fgt.drop (h' := g.add ((r'.add rs).add (Heap.one b' (.cells ((cells.drop off).take (l.length * Ty.sz α) ++ cs ++ reps (c - (l.length + l2.length)) zero).toArray el' (0, 0))))) ?_ ?_
        · have := le_drop d3 hne
          simpa [add_assoc] using this
        · refine K _ _ (Dj_add.2 ⟨Dj_add.2 ⟨d4, d5⟩, Dj_one.2 n1.1⟩) ?_
          rw [(Dj_one.2 (show (r'.add rs) b' = none by simp [Heap.add, n1.2])).comm]
          refine Own_list.2 (.inr ⟨b', 0, c, _, el', r'.add rs, by simp, ⟨by simpa using hc, by simpa using hn⟩, ?_, rfl, by simp [Heap.add, n1.2], ?_⟩)
          · have : (l.length + l2.length) * Ty.sz α + (c - (l.length + l2.length)) * Ty.sz α = c * Ty.sz α := by
              rw [← Nat.add_mul]; congr 1; omega
            rw [Nat.add_mul] at this
            simp [reps, hz, hcs]
            omega
          · have h9 := ownL_append hold (by simp; omega) Os d8
            refine ownL_congr h9 ?_
            rw [List.drop_zero, List.length_append, Nat.add_mul]
            exact (List.take_append_of_le_length (by rw [List.length_append, List.length_take, Nat.min_eq_left hll, hcs]; exact Nat.le_refl _)).symm
theorem a_appP {bytes esz : Nat} {zero : List Value} {j : Nat} {b : AO} {dst : Nat} {cs : List Value} {c0 : Array Value} (hp : eget e j = some (.agg c0)) (hs : b.src h e esz = some (l2.length, cs)) (hcs : cs.length = l2.length * Ty.sz α) (Os : ownL l2 cs rs)
    (d : Dj g rs) (hh : h = g.add rs) (hz : zero.length = Ty.sz α) (hb : l2.length * bytes ≤ 140737488355328) (hn : l2.length < 2 ^ 62)
    (K : ∀ v' r', Dj g r' → Own r' v' l2 → k (eset e dst (some v')) (g.add r')) : (A.ex (some dst) (.app bytes esz zero (.p 0 j) b)).wp P k e h := by
  refine ⟨l2.length, cs, hs, rfl, ⟨c0, hp⟩, ?_, ?_⟩
  · intro hl2 b'
    have hl2 : l2 = [] := by simpa using hl2
    subst hl2
    have hrs : rs = Heap.nil := Os
    subst hrs
    subst hh
    refine Fgt.keep ?_
    simpa using K _ Heap.nil Dj_nil (Own_list.2 (.inl ⟨some ⟨b', 0, none⟩, rfl, rfl, rfl, .inr ⟨b', 0, rfl⟩⟩))
  · intro hpos
    refine ⟨growslice_fits hpos (by simpa using hb), hn, ?_⟩
    intro b' el c hb' hc
    subst hh
    rw [set_new hb']
    have n1 : g b' = none ∧ rs b' = none := by simpa [Heap.add] using hb'
    refine Fgt.keep ?_
    rw [add_assoc]
    refine K _ _ (Dj_add.2 ⟨d, Dj_one.2 n1.1⟩) ?_
    rw [(Dj_one.2 n1.2).comm]
    refine Own_list.2 (.inr ⟨b', 0, c, _, el, rs, rfl, ⟨hc, by omega⟩, ?_, rfl, n1.2, ?_⟩)
    · simp [reps, hz, hcs]
      rw [← Nat.add_mul]
      exact Nat.mul_le_mul_right _ (by omega)
    · refine ownL_congr Os ?_
      simp only [List.drop_zero]
      exact (List.take_append_of_le_length (by rw [hcs]; exact Nat.le_refl _)).symm
def encL [Flat α] (l : List α) : List Value := (l.map Flat.enc).flatten
theorem flat_len [Flat α] {x : α} (hx : Flat.ok x) : (Flat.enc x).length = Ty.sz α := Ty.len (h := Heap.nil) (Flat.rep_iff.2 ⟨rfl, hx⟩)
theorem encL_len [Flat α] : ∀ {l : List α}, (∀ x ∈ l, Flat.ok x) → (encL l).length = l.length * Ty.sz α
  | [], _ => by simp [encL]
  | x :: l, h => by
    have := encL_len (l := l) (fun y hy => h y (by simp [hy]))
    simp only [encL, List.map_cons, List.flatten_cons, List.length_append, flat_len (h x (by simp)), List.length_cons] at this ⊢
    rw [this, Nat.add_mul]; omega
theorem ownL_enc [Flat α] : ∀ {l : List α}, (∀ x ∈ l, Flat.ok x) → ownL l (encL l) Heap.nil
  | [], _ => rfl
  | x :: l, h => by
    have hx := flat_len (h x (by simp))
    refine ⟨Heap.nil, Heap.nil, by simp, by simp, ?_, ?_⟩
    · rw [show encL (x :: l) = Flat.enc x ++ encL l from rfl, ← hx, List.take_left]
      exact Flat.own_iff.2 ⟨rfl, rfl, h x (by simp)⟩
    · rw [show encL (x :: l) = Flat.enc x ++ encL l from rfl, ← hx, List.drop_left]
      exact ownL_enc (fun y hy => h y (by simp [hy]))
theorem hcells_add {h : Heap} {b : Nat} : ∀ {n m off : Nat} {c1 c2 : List Value}, hcells h b off n = some c1 → hcells h b (off + n) m = some c2 → hcells h b off (n + m) = some (c1 ++ c2)
  | 0, m, off, c1, c2, h1, h2 => by simp [hcells] at h1; subst h1; simpa using h2
  | n + 1, m, off, c1, c2, h1, h2 => by
    rw [show n + 1 + m = (n + m) + 1 by omega]
    simp only [hcells] at h1 ⊢
    split at h1
    · rename_i v r hv hr
      simp only [Option.some.injEq] at h1
      subst h1
      rw [hv, hcells_add hr (by rw [← h2]; congr 1; omega)]
      rfl
    · simp at h1
theorem repL_enc [Flat α] {h : Heap} {b off : Nat} : ∀ {l : List α}, repL h (some ⟨b, off, none⟩) l → hcells h b off (l.length * Ty.sz α) = some (encL l)
  | l, hr => by
    have key : ∀ n, n ≤ l.length → hcells h b off (n * Ty.sz α) = some (encL (l.take n)) := by
      intro n
      induction n with
      | zero => intro _; simp [hcells, encL]
      | succ n ih =>
        intro hn
        obtain ⟨b', off', vs, h1, h2, h3⟩ := hr n (by omega)
        simp only [Option.some.injEq, Addr.mk.injEq] at h1
        obtain ⟨rfl, rfl, _⟩ := h1
        have h4 := hcells_add (ih (by omega)) h2
        rw [show (n + 1) * Ty.sz α = n * Ty.sz α + Ty.sz α by rw [Nat.add_mul]; omega, h4]
        rw [List.take_add_one, List.getElem?_eq_getElem (by omega)]
        rw [encL, encL, List.map_append, List.flatten_append, (Flat.rep_iff.1 h3).1]
        simp
    have := key l.length (Nat.le_refl _)
    rwa [List.take_length] at this
theorem Rep.okL [Flat α] {h : Heap} {v : Value} {l : List α} (hr : Rep h v l) : ∀ x ∈ l, Flat.ok x := by
  intro x hx
  obtain ⟨i, hi, rfl⟩ := List.mem_iff_getElem.1 hx
  exact hr.okF hi
theorem Rep.src [Flat α] {h : Heap} {v : Value} {l : List α} (hr : Rep h v l) : srcV h (Ty.sz α) (some v) = some (l.length, encL l) := by
  obtain ⟨p, cap, rfl, h1, h2, h3⟩ := Rep_list.1 hr
  cases l with
  | nil => rfl
  | cons x l =>
    obtain ⟨b, off, vs, rfl, _⟩ := h3 0 (by simp)
    have h4 := repL_enc h3
    simp only [List.length_cons] at h4 ⊢
    simp only [srcV, h4]
    rfl
theorem a_appPL [Flat α] {bytes esz : Nat} {zero : List Value} {j : Nat} {x : O} {dst : Nat} {c0 : Array Value} {u : Value} (hp : eget e j = some (.agg c0)) (hx : x.get e = some u) (hr : Rep h u l2) (hsz : esz = Ty.sz α) (hz : zero.length = Ty.sz α) (hb : l2.length * bytes ≤ 140737488355328)
    (K : ∀ v' r', Dj h r' → Own r' v' l2 → k (eset e dst (some v')) (h.add r')) : (A.ex (some dst) (.app bytes esz zero (.p 0 j) (.o x))).wp P k e h := by
  subst hsz
  refine a_appP (rs := Heap.nil) (l2 := l2) hp ?_ (encL_len hr.okL) (ownL_enc hr.okL) Dj_nil (by simp) hz hb (by have := hr.lt; omega) K
  simp only [AO.src, hx]
  exact hr.src
theorem a_appL [Flat α] {bytes esz : Nat} {zero : List Value} {a x : O} {dst : Nat} {u : Value} (O : Own r v l) (ha : a.get e = some v) (hx : x.get e = some u) (hr : Rep h u l2) (d : Dj g r) (hh : h = g.add r) (hsz : esz = Ty.sz α) (hz : zero.length = Ty.sz α)
    (hb : (l.length + l2.length) * bytes ≤ 140737488355328) (hn : l.length + l2.length < 2 ^ 62)
    (K : ∀ v' r', Dj g r' → Own r' v' (l ++ l2) → k (eset e dst (some v')) (g.add r')) : (A.ex (some dst) (.app bytes esz zero (.o a) (.o x))).wp P k e h := by
  subst hsz
  refine a_app (rs := Heap.nil) (l2 := l2) O ha ?_ (encL_len hr.okL) (ownL_enc hr.okL) d Dj_nil (by simp [hh]) rfl hz hb hn K
  simp only [AO.src, hx]
  exact hr.src
theorem a_appF [Flat α] {bytes esz : Nat} {zero : List Value} {a : O} {n j : Nat} {dst : Nat} {c0 : Array Value} (O : Own r v l) (ha : a.get e = some v) (hp : eget e j = some (.agg c0)) (hn : n = l2.length) (hc : c0.toList = encL l2) (hok : ∀ x ∈ l2, Flat.ok x) (d : Dj g r) (hh : h = g.add r) (hsz : esz = Ty.sz α) (hz : zero.length = Ty.sz α)
    (hb : (l.length + l2.length) * bytes ≤ 140737488355328) (hn2 : l.length + l2.length < 2 ^ 62)
    (K : ∀ v' r', Dj g r' → Own r' v' (l ++ l2) → k (eset e dst (some v')) (g.add r')) : (A.ex (some dst) (.app bytes esz zero (.o a) (.p n j))).wp P k e h := by
  subst hsz hn
  refine a_app (rs := Heap.nil) (l2 := l2) O ha ?_ (encL_len hok) (ownL_enc hok) d Dj_nil (by simp [hh]) rfl hz hb hn2 K
  have h1 := encL_len hok
  have h2 : c0.size = l2.length * Ty.sz α := by rw [← h1, ← hc]; simp
  simp only [AO.src, hp, h2, if_true, hc]
end
def elpo (sz : Nat) (v : Value) (i fo : Nat) : Value :=
  match v with
  | .slice (some p) _ _ => .pointer (some ((p.add (i * sz)).add fo))
  | _ => undef
theorem setC_one {cs : List Value} {n : Nat} {u : Value} (h : n < cs.length) : setC cs n [u] = cs.set n u := by
  rw [← setC_cons cs n u [] h]
  simp [setC]
theorem setC_fld {cs : List Value} {n m fo : Nat} {u : Value} (hf : fo < m) (hl : n + m ≤ cs.length) : setC cs (n + fo) [u] = setC cs n (((cs.drop n).take m).set fo u) := by
  rw [setC_one (by omega)]
  have h1 : (((cs.drop n).take m).set fo u).length = m := by simp; omega
  unfold setC
  rw [h1]
  conv => lhs; rw [← List.take_append_drop n cs, ← List.take_append_drop m (cs.drop n), List.drop_drop]
  rw [List.set_append_right _ _ (by simp; omega), List.set_append_left _ _ (by simp; omega)]
  rw [← List.append_assoc]
  congr 3
  simp; omega
section
variable {α : Type} [Ty α] {P : Program} {k : Env → Heap → Prop} {e : Env} {h g r : Heap} {v : Value} {l : List α} {i : Nat}
theorem Rep.fa {n : Nat} (hr : Rep h v l) (hi : i < l.length) {fo : Nat} : faV fo (elp n v i) = some (elpo n v i fo) := by
  obtain ⟨p, cap, rfl, hc, hp, hl⟩ := Rep_list.1 hr
  obtain ⟨b, off, vs, rfl, _⟩ := hl i hi
  rfl
theorem a_store_fldF [Flat α] {a x : O} (y : α) {fo : Nat} {u : Value} (O : Own r v l) (hi : i < l.length) (d : Dj g r) (hh : h = g.add r) (hp : a.get e = some (elpo (Ty.sz α) v i fo)) (hx : x.get e = some u) (hu : u.cells = #[u]) (hu1 : u.oneCell' = true)
    (hfo : fo < Ty.sz α) (hy : Flat.enc y = (Flat.enc l[i]).set fo u) (hok : Flat.ok y) (K : ∀ r', Dj g r' → Own r' v (l.set i y) → k e (g.add r')) : (A.ex none (.store 1 a x)).wp P k e h := by
  subst hh
  rcases Own_list.1 O with ⟨p, _, rfl, _⟩ | ⟨b, off, cap, cells, el, r', rfl, h1, h2, rfl, h4, h5⟩
  · simp at hi
  · obtain ⟨s1, s2, g1, g2, g3, g4⟩ := ownL_at h5 i hi
    obtain ⟨rfl, e1, _⟩ := Flat.own_iff.1 g3
    have hs := slot_le (s := Ty.sz α) hi h1.1
    obtain ⟨d3, d4⟩ := Dj_add.1 d
    have hb : (g.add ((Heap.one b (.cells cells.toArray el (0, 0))).add r')) b = some (.cells cells.toArray el (0, 0)) := by
      have := Dj_one.1 d3
      simp [Heap.add, Heap.one, this, h4]
    have hset : setC cells (off + i * Ty.sz α + fo) [u] = setC cells (off + i * Ty.sz α) (Flat.enc y) := by
      rw [setC_fld hfo (by omega), hy, ← e1, List.drop_drop]
    have hlen : (Flat.enc y).length = Ty.sz α := by
      rw [hy, List.length_set, ← e1]; simp; omega
    refine ⟨b, off + i * Ty.sz α + fo, u, g.add ((Heap.one b (.cells (setC cells (off + i * Ty.sz α + fo) [u]).toArray el (0, 0))).add r'), ?_, hx, by simp [hu], ?_, Fgt.keep ?_⟩
    · rw [hp]; simp [elpo, add_none]
    · unfold hstore
      rw [hb]
      simp only [hu]
      rw [if_pos (by refine ⟨trivial, ?_, by simpa using hu1⟩; simp; omega), add_one_set (Dj_one.1 d3) h4]
    · refine K _ (Dj_add.2 ⟨Dj_one.2 (Dj_one.1 d3), d4⟩) ?_
      have h7 := g4 Heap.nil (Flat.enc y) y nil_Dj (Flat.own_iff.2 ⟨rfl, rfl, hok⟩)
      rw [nil_add] at g1 h7
      refine Own_list.2 (.inr ⟨b, off, cap, _, el, r', by simp, ⟨by simpa using h1.1, by simpa using h1.2⟩, ?_, rfl, h4, ?_⟩)
      · rw [hset, setC_length (by rw [hlen]; omega)]; exact h2
      · rw [hset, drop_setC (by rw [hlen]; omega), g1]; exact h7
end
def same {α : Sort u} (x : α) : α := x
@[simp] theorem same_eq {α : Sort u} (x : α) : same x = x := Eq.trans (Eq.refl x) (Eq.refl x)
section
variable {P : Program} {e e' : Env} {h : Heap} {Q : Ex → Env → Heap → Prop} {k : Env → Heap → Prop}
@[congr] theorem C.wp_congr {c : C} (he : same e = e') : C.wp P c Q e h = C.wp P c Q e' h := by rw [← he, same_eq]
@[congr] theorem Pl.wp_congr {p : Pl} (he : same e = e') : Pl.wp P k p e h = Pl.wp P k p e' h := by rw [← he, same_eq]
@[congr] theorem S.wp_congr {s : S} (he : same e = e') : S.wp P k e h s = S.wp P k e' h s := by rw [← he, same_eq]
@[congr] theorem A.wp_congr {x : A} (he : same e = e') : A.wp P k e h x = A.wp P k e' h x := by rw [← he, same_eq]
@[congr] theorem seqQ_congr {b : C} {x x' : Ex} (hx : x = x') (he : same e = e') : seqQ P b Q x e h = seqQ P b Q x' e' h := by rw [hx, ← he, same_eq]
@[congr] theorem blockQ_congr {i : Nat} {x x' : Ex} (hx : x = x') (he : same e = e') : blockQ i Q x e h = blockQ i Q x' e' h := by rw [hx, ← he, same_eq]
@[congr] theorem loopQ_congr {n : Nat} {fg : List Nat} {I : Env → Heap → Prop} {x x' : Ex} (hx : x = x') (he : same e = e') : loopQ n fg I Q x e h = loopQ n fg I Q x' e' h := by rw [hx, ← he, same_eq]
@[congr] theorem Fgt_congr (he : same e = e') : Fgt k e h = Fgt k e' h := by rw [← he, same_eq]
@[congr] theorem RetK_congr {k : Value → Heap → Prop} {v v' : Value} (hv : same v = v') : RetK k v h = RetK k v' h := by rw [← hv, same_eq]
@[congr] theorem CallE_congr {f f' : FuncId} {a a' : List Value} {q : Value → Heap → Prop} (hf : f = f') (ha : same a = a') : CallE P f a h q = CallE P f' a' h q := by rw [hf, ← ha, same_eq]
@[congr] theorem IteW_congr {p p' A B : Prop} (hp : same p = p') : IteW p A B = IteW p' A B := by rw [← hp, same_eq]
@[congr] theorem condW_congr {v v' : Option Value} {A B : Prop} (hv : same v = v') : condW v A B = condW v' A B := by rw [← hv, same_eq]
@[congr] theorem guardW_congr' {v v' : Option Value} {w : Bool} {A B : Prop} (hv : same v = v') : guardW v w A B = guardW v' w A B := by rw [← hv, same_eq]
@[congr] theorem ExW_congr {α : Type} {x x' : Option α} {k : α → Prop} (hx : same x = x') : ExW x k = ExW x' k := by rw [← hx, same_eq]
@[congr] theorem AndW_congr {p p' A : Prop} (hp : same p = p') : AndW p A = AndW p' A := by rw [← hp, same_eq]
attribute [simp] List.getElem?_cons_zero List.getElem?_cons_succ List.getElem_cons_zero List.getElem_cons_succ
theorem C.wpe {c c' : C} (hc : c = c') {P : Program} {Q : Ex → Env → Heap → Prop} {e : Env} {h : Heap} : C.wp P c Q e h = C.wp P c' Q e h := by rw [hc]
theorem Pl.wpe {c c' : Pl} (hc : c = c') {P : Program} {k : Env → Heap → Prop} {e : Env} {h : Heap} : Pl.wp P k c e h = Pl.wp P k c' e h := by rw [hc]
end
theorem CallE.go {P : Program} {f : FuncId} {args : List Value} {h : Heap} {Q : Value → Heap → Prop} {k : Env → Heap → Prop} {d : Option Nat} {e : Env} (hc : CallE P f args h Q) (hk : ∀ v h', Q v h' → k (dput d (some v) e) h') :
    CallE P f args h fun v h' => Fgt k (dput d (some v) e) h' := CallE.mono (fun v h' hq => Fgt.keep (hk v h' hq)) hc
abbrev HP := Heap → Prop
def HS : Heap → List HP → Heap → Prop
  | g, [], h => g.le h
  | g, p :: Γ, h => ∃ g' r, h = g'.add r ∧ Dj g' r ∧ p r ∧ HS g Γ g'
def Heap.minus (h r : Heap) : Heap := fun b => match r b with
  | none => h b
  | some _ => none
section
variable {g h h' r : Heap}
theorem minus_add (hl : r.le h) : (h.minus r).add r = h := by
  funext b
  simp only [Heap.add, Heap.minus]
  cases hr : r b with
  | none => simp
  | some o => simp [hl b o hr]
theorem minus_Dj : Dj (h.minus r) r := fun b => by
  cases hr : r b with
  | none => exact .inr rfl
  | some o => exact .inl (by simp [Heap.minus, hr])
theorem le_minus (hl : g.le h) (d : Dj g r) : g.le (h.minus r) := fun b o hb => by
  rcases d b with h1 | h1
  · rw [h1] at hb; simp at hb
  · simp [Heap.minus, h1, hl b o hb]
def ow {α : Type} [Ty α] (v : Value) (x : α) : HP := fun r => Own r v x
def hole {α : Type} [Ty α] (v : Value) (l : List α) (i : Nat) (u : Value) : HP := fun r => Hole r v l i u
def bx (b : Nat) (c : List Value) : HP := fun r => ∃ el, r = Heap.one b (.cells c.toArray el (0, 0))
theorem HS.le : ∀ {Γ : List HP} {h h' : Heap}, HS g Γ h → h.le h' → HS g Γ h'
  | [], _, _, H, hl => Heap.le.trans H hl
  | _ :: _, _, h', ⟨g', r, e, d, hp, H⟩, hl => by
    subst e
    have h1 : r.le h' := (le_add' d).trans hl
    have h2 : g'.le h' := (le_add d).trans hl
    exact ⟨h'.minus r, r, (minus_add h1).symm, minus_Dj, hp, H.le (le_minus h2 d)⟩
theorem HS.base : ∀ {Γ : List HP} {h : Heap}, HS g Γ h → g.le h
  | [], _, H => H
  | _ :: _, _, ⟨_, _, e, d, _, H⟩ => by subst e; exact H.base.trans (le_add d)
theorem HS.init : HS h [] h := Heap.le.refl h
theorem HS.drop {p : HP} {Γ : List HP} (H : HS g (p :: Γ) h) : HS g Γ h := by
  obtain ⟨g', r, rfl, d, hp, H⟩ := H
  exact H.le (le_add d)
theorem HS.app : ∀ {Δ Γ : List HP} {h h' : Heap}, HS h Δ h' → HS g Γ h → HS g (Δ ++ Γ) h'
  | [], _, _, _, H1, H => H.le H1
  | _ :: _, _, _, _, ⟨g', r, e, d, hp, H1⟩, H => ⟨g', r, e, d, hp, H1.app H⟩
theorem HS.sw1 {p q : HP} {Γ : List HP} (H : HS g (p :: q :: Γ) h) : HS g (q :: p :: Γ) h := by
  obtain ⟨g1, r1, rfl, d1, hp, g2, r2, rfl, d2, hq, H⟩ := H
  obtain ⟨d3, d4⟩ := add_Dj.1 d1
  exact ⟨g2.add r1, r2, add_swap d4, add_Dj.2 ⟨d2, d4.symm⟩, hq, g2, r1, rfl, d3, hp, H⟩
theorem HS.under {p : HP} {Γ Γ' : List HP} (hH : ∀ h, HS g Γ h → HS g Γ' h) (H : HS g (p :: Γ) h) : HS g (p :: Γ') h := by
  obtain ⟨g', r, rfl, d, hp, H⟩ := H
  exact ⟨g', r, rfl, d, hp, hH _ H⟩
theorem HS.imp {p q : HP} {Γ : List HP} (H : HS g (p :: Γ) h) (hpq : ∀ r, p r → q r) : HS g (q :: Γ) h := by
  obtain ⟨g', r, e, d, hp, H⟩ := H
  exact ⟨g', r, e, d, hpq r hp, H⟩
theorem HS.sw2 {a b c : HP} {Γ : List HP} (H : HS g (a :: b :: c :: Γ) h) : HS g (c :: a :: b :: Γ) h := (H.under fun _ => HS.sw1).sw1
theorem HS.sw3 {a b c d : HP} {Γ : List HP} (H : HS g (a :: b :: c :: d :: Γ) h) : HS g (d :: a :: b :: c :: Γ) h := (H.under fun _ => HS.sw2).sw1
theorem HS.sw4 {a b c d f : HP} {Γ : List HP} (H : HS g (a :: b :: c :: d :: f :: Γ) h) : HS g (f :: a :: b :: c :: d :: Γ) h := (H.under fun _ => HS.sw3).sw1
theorem HS.sw5 {a b c d f f' : HP} {Γ : List HP} (H : HS g (a :: b :: c :: d :: f :: f' :: Γ) h) : HS g (f' :: a :: b :: c :: d :: f :: Γ) h := (H.under fun _ => HS.sw4).sw1
theorem HS.sw6 {a b c d f f' f2 : HP} {Γ : List HP} (H : HS g (a :: b :: c :: d :: f :: f' :: f2 :: Γ) h) : HS g (f2 :: a :: b :: c :: d :: f :: f' :: Γ) h := (H.under fun _ => HS.sw5).sw1
theorem HS.bk1 {a b : HP} {Γ : List HP} (H : HS g (a :: b :: Γ) h) : HS g (b :: a :: Γ) h := H.sw1
theorem HS.bk2 {a b c : HP} {Γ : List HP} (H : HS g (c :: a :: b :: Γ) h) : HS g (a :: b :: c :: Γ) h := H.sw2.sw2
theorem HS.bk3 {a b c d : HP} {Γ : List HP} (H : HS g (d :: a :: b :: c :: Γ) h) : HS g (a :: b :: c :: d :: Γ) h := H.sw3.sw3.sw3
theorem HS.bk4 {a b c d f : HP} {Γ : List HP} (H : HS g (f :: a :: b :: c :: d :: Γ) h) : HS g (a :: b :: c :: d :: f :: Γ) h := H.sw4.sw4.sw4.sw4
theorem HS.of {α : Type} [Ty α] {v : Value} {x : α} (H : ∃ r, Dj h r ∧ h' = h.add r ∧ Own r v x) : HS h [ow v x] h' := by
  obtain ⟨r, d, rfl, O⟩ := H
  exact ⟨h, r, rfl, d, O, HS.init⟩
theorem HS.rep {α : Type} [Ty α] {v : Value} {x : α} {Γ : List HP} (H : HS g (ow v x :: Γ) h) : Rep h v x := by
  obtain ⟨g', r, rfl, d, O, _⟩ := H
  exact Own.rep' O d
theorem Rep.on {α : Type} [Ty α] {v : Value} {x : α} {Γ : List HP} (R : Rep g v x) (H : HS g Γ h) : Rep h v x := R.le H.base
end
section
variable {α : Type} [Ty α] {P : Program} {k : Env → Heap → Prop} {e : Env} {g h : Heap} {Γ : List HP} {v u : Value} {l l2 : List α} {i : Nat}
theorem HS.storeF [Flat α] (H : HS g (ow v l :: Γ) h) (y : α) {sz : Nat} {a x : O} (hi : i < l.length) (hp : a.get e = some (elp (Ty.sz α) v i)) (hx : x.get e = some (valC (Ty.agg α) (Flat.enc y))) (hy : Flat.ok y) (hsz : sz = Ty.sz α)
    (K : ∀ h', HS g (ow v (l.set i y) :: Γ) h' → k e h') : (A.ex none (.store sz a x)).wp P k e h := by
  obtain ⟨g', r, rfl, d, O, H⟩ := H
  exact a_storeF y O hi d rfl hp hx hy hsz fun r' d' O' => K _ ⟨g', r', rfl, d', O', H⟩
theorem HS.store {y : α} {u' : Value} (H : HS g (ow u' y :: ow v l :: Γ) h) {sz : Nat} {a x : O} (hi : i < l.length) (hp : a.get e = some (elp (Ty.sz α) v i)) (hx : x.get e = some u') (hsz : sz = Ty.sz α)
    (K : ∀ h', HS g (ow v (l.set i y) :: Γ) h' → k e h') : (A.ex none (.store sz a x)).wp P k e h := by
  obtain ⟨g1, ru, rfl, d2, Ou, g', r, rfl, d, O, H⟩ := H
  exact a_store O hi Ou d d2 rfl hp hx hsz fun r' d' O' => K _ ⟨g', r', rfl, d', O', H⟩
theorem HS.storeH {y : α} {u' : Value} (H : HS g (ow u' y :: hole v l i u :: Γ) h) {sz : Nat} {a x : O} (hp : a.get e = some (elp (Ty.sz α) v i)) (hx : x.get e = some u') (hsz : sz = Ty.sz α)
    (K : ∀ h', HS g (ow v (l.set i y) :: Γ) h' → k e h') : (A.ex none (.store sz a x)).wp P k e h := by
  obtain ⟨g1, ru, rfl, d2, Ou, g', r, rfl, d, O, H⟩ := H
  exact a_store_hole O Ou d d2 rfl hp hx hsz fun r' d' O' => K _ ⟨g', r', rfl, d', O', H⟩
theorem HS.take (H : HS g (ow v l :: Γ) h) (hi : i < l.length) : ∃ u, hload h (some (elp (Ty.sz α) v i)) (szo α) = some u ∧ HS g (ow u l[i] :: hole v l i u :: Γ) h := by
  obtain ⟨g', r, rfl, d, O, H⟩ := H
  obtain ⟨u, r1, r2, rfl, d1, O1, Ho⟩ := Own.take O hi
  obtain ⟨d2, d3⟩ := Dj_add.1 d
  refine ⟨u, hload_le (Heap.le.trans (le_add' d1) (le_add' d)) Ho.ld, g'.add r2, r1, ?_, add_Dj.2 ⟨d2, d1.symm⟩, O1, g', r2, rfl, d3, Ho, H⟩
  rw [add_assoc, d1.comm]
theorem HS.put {y : α} (H : HS g (ow u y :: hole v l i u :: Γ) h) : HS g (ow v (l.set i y) :: Γ) h := by
  obtain ⟨g1, r1, rfl, d1, O1, g', r2, rfl, d2, Ho, H⟩ := H
  obtain ⟨d3, d4⟩ := add_Dj.1 d1
  refine ⟨g', r1.add r2, ?_, Dj_add.2 ⟨d3, d2⟩, Ho.put d4.symm O1, H⟩
  rw [add_assoc, d4.comm]
theorem HS.holeia (H : HS g (hole v l i u :: Γ) h) {n : Nat} (hn : n = Ty.sz α) {kd : IntKind} {j : Nat} (hj : j < l.length) : iaV n v (.int kd j) = some (elp n v j) := by
  obtain ⟨g', r, rfl, d, Ho, H⟩ := H
  subst hn
  simpa using Hole.ia Ho (k := kd) (n := (j : Int)) (by omega) (by omega)
theorem HS.mks (H : HS g Γ h) {bytes esz : Nat} {zero : List Value} {len cap : O} {j j' : IntKind} {n c : Nat} {dst : Nat} {z : α} (hl : len.get e = some (.int j n)) (hc : cap.get e = some (.int j' c)) (hz : Ty.own Heap.nil zero z) (h1 : n ≤ c) (h2 : c < 2 ^ 62) (h3 : bytes * c ≤ 2 ^ 48)
    (K : ∀ v h', HS g (ow v (List.replicate n z) :: Γ) h' → k (eset e dst (some v)) h') : (A.ex (some dst) (.mks bytes esz zero len cap)).wp P k e h :=
  a_mks hl hc hz h1 h2 h3 fun v r d O => K _ _ ⟨h, r, rfl, d, O, H⟩
theorem HS.appF [Flat α] (H : HS g (ow v l :: Γ) h) (l2 : List α) {bytes esz : Nat} {zero : List Value} {a : O} {n j : Nat} {dst : Nat} {c0 : Array Value} (ha : a.get e = some v) (hp : eget e j = some (.agg c0)) (hn : n = l2.length) (hc : c0.toList = encL l2) (hok : ∀ x ∈ l2, Flat.ok x) (hsz : esz = Ty.sz α) (hz : zero.length = Ty.sz α)
    (hb : (l.length + l2.length) * bytes ≤ 140737488355328) (hn2 : l.length + l2.length < 2 ^ 62)
    (K : ∀ v' h', HS g (ow v' (l ++ l2) :: Γ) h' → k (eset e dst (some v')) h') : (A.ex (some dst) (.app bytes esz zero (.o a) (.p n j))).wp P k e h := by
  obtain ⟨g', r, rfl, d, O, H⟩ := H
  exact a_appF O ha hp hn hc hok d rfl hsz hz hb hn2 fun v' r' d' O' => K _ _ ⟨g', r', rfl, d', O', H⟩
theorem HS.app1 [Flat α] (H : HS g (ow v l :: Γ) h) (y : α) {bytes esz : Nat} {zero : List Value} {a : O} {j : Nat} {dst : Nat} {c0 : Array Value} (ha : a.get e = some v) (hp : eget e j = some (.agg c0)) (hc : c0.toList = Flat.enc y) (hok : Flat.ok y) (hsz : esz = Ty.sz α) (hz : zero.length = Ty.sz α)
    (hb : (l.length + 1) * bytes ≤ 140737488355328) (hl1 : l.length + 1 < 2 ^ 62)
    (K : ∀ v' h', HS g (ow v' (l ++ [y]) :: Γ) h' → k (eset e dst (some v')) h') : (A.ex (some dst) (.app bytes esz zero (.o a) (.p 1 j))).wp P k e h := by
  refine H.appF [y] ha hp rfl (by simpa [encL] using hc) (by simpa using hok) hsz hz (by simpa using hb) ?_ K
  exact hl1
theorem HS.appO {y : α} (H : HS g (ow u y :: ow v l :: Γ) h) {bytes esz : Nat} {zero : List Value} {a : O} {j : Nat} {dst : Nat} {c0 : Array Value} (ha : a.get e = some v) (hp : eget e j = some (.agg c0)) (hc : c0.toList = u.cells.toList) (hsz : esz = Ty.sz α) (hz : zero.length = Ty.sz α)
    (hb : (l.length + 1) * bytes ≤ 140737488355328) (hl1 : l.length + 1 < 2 ^ 62)
    (K : ∀ v' h', HS g (ow v' (l ++ [y]) :: Γ) h' → k (eset e dst (some v')) h') : (A.ex (some dst) (.app bytes esz zero (.o a) (.p 1 j))).wp P k e h := by
  obtain ⟨g1, ru, rfl, d2, ⟨cs, rfl, ho⟩, g', r, rfl, d, O, H⟩ := H
  have h1 := Ty.len (Ty.own_rep ho)
  rw [rep_cells (Ty.own_rep ho)] at hc
  have h2 : c0.size = 1 * esz := by rw [hsz, Nat.one_mul, ← h1, ← hc]; simp
  refine a_app (l2 := [y]) (cs := cs) (rs := ru) O ha ?_ (by simpa using h1) ⟨ru, Heap.nil, by simp, by simp, by simpa [← h1] using ho, rfl⟩ d d2 rfl hsz hz (by simpa using hb) hl1 fun v' r' d' O' => K _ _ ⟨g', r', rfl, d', O', H⟩
  simp only [AO.src, hp, h2, if_true, hc, List.length_singleton]
theorem HS.appL [Flat α] (H : HS g (ow v l :: Γ) h) {bytes esz : Nat} {zero : List Value} {a x : O} {dst : Nat} (ha : a.get e = some v) (hx : x.get e = some u) (hr : Rep h u l2) (hsz : esz = Ty.sz α) (hz : zero.length = Ty.sz α)
    (hb : (l.length + l2.length) * bytes ≤ 140737488355328) (hn : l.length + l2.length < 2 ^ 62)
    (K : ∀ v' h', HS g (ow v' (l ++ l2) :: Γ) h' → k (eset e dst (some v')) h') : (A.ex (some dst) (.app bytes esz zero (.o a) (.o x))).wp P k e h := by
  obtain ⟨g', r, rfl, d, O, H⟩ := H
  exact a_appL O ha hx hr d rfl hsz hz hb hn fun v' r' d' O' => K _ _ ⟨g', r', rfl, d', O', H⟩
theorem HS.appPL [Flat α] (H : HS g Γ h) {bytes esz : Nat} {zero : List Value} {j : Nat} {x : O} {dst : Nat} {c0 : Array Value} (hp : eget e j = some (.agg c0)) (hx : x.get e = some u) (hr : Rep h u l2) (hsz : esz = Ty.sz α) (hz : zero.length = Ty.sz α) (hb : l2.length * bytes ≤ 140737488355328)
    (K : ∀ v' h', HS g (ow v' l2 :: Γ) h' → k (eset e dst (some v')) h') : (A.ex (some dst) (.app bytes esz zero (.p 0 j) (.o x))).wp P k e h :=
  a_appPL hp hx hr hsz hz hb fun v' r' d' O' => K _ _ ⟨h, r', rfl, d', O', H⟩
theorem HS.nil_ow (H : HS g Γ h) : HS g (ow (.slice none 0 0) ([] : List α) :: Γ) h := ⟨h, Heap.nil, by simp, by simp, Own_nils, H⟩
theorem HS.bls [Flat α] (H : HS g Γ h) (l2 : List α) {esz len : Nat} {zero : List Value} {parts : List (Nat × Nat × O)} {dst : Nat} (hf : fillP e (reps len zero) parts = some (encL l2)) (hn : len = l2.length) (hok : ∀ x ∈ l2, Flat.ok x) (hl : len < 4611686018427387904)
    (K : ∀ v' h', HS g (ow v' l2 :: Γ) h' → k (eset e dst (some v')) h') : (A.ex (some dst) (.bls esz len zero parts)).wp P k e h := by
  subst hn
  refine ⟨_, hf, fun b el hb => Fgt.keep ?_⟩
  rw [set_new hb]
  refine K _ _ ⟨h, _, rfl, Dj_one.2 hb, Own_list.2 (.inr ⟨b, 0, l2.length, encL l2, el, Heap.nil, rfl, ⟨Nat.le_refl _, hl⟩, ?_, by simp, rfl, by simpa using ownL_enc hok⟩), H⟩
  rw [encL_len hok]; omega
end
section
variable {P : Program} {k : Env → Heap → Prop} {e : Env} {g h : Heap} {Γ : List HP}
theorem HS.alloc (H : HS g Γ h) {x : O} {dst : Nat} {u : Value} (hx : x.get e = some u) (K : ∀ b h', HS g (bx b u.cells.toList :: Γ) h' → k (eset e dst (some (.pointer (some ⟨b, 0, none⟩)))) h') : (A.ex (some dst) (.alloc x)).wp P k e h := by
  refine ⟨u, hx, fun b el hb => Fgt.keep ?_⟩
  rw [set_new hb]
  exact K _ _ ⟨h, _, rfl, Dj_one.2 hb, ⟨el, rfl⟩, H⟩
theorem HS.bxld {b : Nat} {c : List Value} (H : HS g (bx b c :: Γ) h) {o : Nat} {u : Value} (ho : c[o]? = some u) : hload h (some (.pointer (some ⟨b, o, none⟩))) none = some u := by
  obtain ⟨g', r, rfl, d, ⟨el, rfl⟩, H⟩ := H
  refine hload_le (le_add' d) ?_
  simp [hload, hcell, Heap.one, ho]
theorem HS.bxld0 {b : Nat} {u : Value} (H : HS g (bx b [u] :: Γ) h) : hload h (some (.pointer (some ⟨b, 0, none⟩))) none = some u := H.bxld rfl
theorem HS.bxlds {b : Nat} {c : List Value} (H : HS g (bx b c :: Γ) h) {o n : Nat} (ho : o + n ≤ c.length) : hload h (some (.pointer (some ⟨b, o, none⟩))) (some n) = some (.agg ((c.drop o).take n).toArray) := by
  obtain ⟨g', r, rfl, d, ⟨el, rfl⟩, H⟩ := H
  refine hload_le (le_add' d) ?_
  have hb : (Heap.one b (.cells c.toArray el (0, 0))) b = some (.cells c.toArray el (0, 0)) := by simp [Heap.one]
  simp only [hload]
  rw [hcells_mk hb (by simpa using ho)]
  rfl
theorem HS.bxst {b : Nat} {c : List Value} (H : HS g (bx b c :: Γ) h) {o sz : Nat} {a x : O} {u : Value} (hp : a.get e = some (.pointer (some ⟨b, o, none⟩))) (hx : x.get e = some u) (hu : u.cells.size = sz) (hu1 : allOne u.cells.toList = true) (ho : o + sz ≤ c.length)
    (K : ∀ h', HS g (bx b (setC c o u.cells.toList) :: Γ) h' → k e h') : (A.ex none (.store sz a x)).wp P k e h := by
  obtain ⟨g', r, rfl, d, ⟨el, rfl⟩, H⟩ := H
  have hn := Dj_one.1 d
  refine ⟨b, o, u, g'.add (Heap.one b (.cells (setC c o u.cells.toList).toArray el (0, 0))), hp, hx, hu, ?_, Fgt.keep (K _ ⟨g', _, rfl, Dj_one.2 hn, ⟨el, rfl⟩, H⟩)⟩
  have hb : (g'.add (Heap.one b (.cells c.toArray el (0, 0)))) b = some (.cells c.toArray el (0, 0)) := by simp [Heap.add, Heap.one, hn]
  unfold hstore
  rw [hb]
  simp only
  rw [if_pos ⟨trivial, by simpa [hu] using ho, by rw [allOne_eq]; exact hu1⟩, set_one hn]
end
def Pl.x (d : Nat) (a : PX) (p : Pl) : Pl := .st (.act none (.px (some d) a)) p
def Pl.m (d s : Nat) (p : Pl) : Pl := .st (.act none (.px (some d) (.mv (.v s)))) p
def Pl.l (d s : Nat) (p : Pl) : Pl := .st (.act none (.ld (some d) (.v s) none)) p
def Pl.a (d n : Nat) (p : Pl) : Pl := .st (.act none (.als d none n)) p
def Pl.g (d s n o : Nat) (p : Pl) : Pl := .st (.act none (.pget (some d) (some s) n o none)) p
def Pl.o (a : A) (p : Pl) : Pl := .st (.act none a) p
def Pl.c (d : Nat) (a : EX) (p : Pl) : Pl := .st (.act none (.ex (some d) a)) p
def Pl.e (n m : Nat) (p : Pl) : Pl := .st (.ext n m) p
def Pl.y (i : Nat) (a : A) (p : Pl) : Pl := .st (.act (some (.v i, true)) a) p
def Pl.n (i : Nat) (a : A) (p : Pl) : Pl := .st (.act (some (.v i, false)) a) p
section
variable {P : Program} {k : Env → Heap → Prop} {e : Env} {h : Heap} {d s n m o i : Nat} {p : Pl}
@[simp] theorem Pl.x_wp {a : PX} : Pl.wp P k (Pl.x d a p) e h = Pl.wp P k (.st (.act none (.px (some d) a)) p) e h := by unfold Pl.x; exact rfl
@[simp] theorem Pl.m_wp : Pl.wp P k (Pl.m d s p) e h = Pl.wp P k (.st (.act none (.px (some d) (.mv (.v s)))) p) e h := by unfold Pl.m; exact rfl
@[simp] theorem Pl.l_wp : Pl.wp P k (Pl.l d s p) e h = Pl.wp P k (.st (.act none (.ld (some d) (.v s) none)) p) e h := by unfold Pl.l; exact rfl
@[simp] theorem Pl.a_wp : Pl.wp P k (Pl.a d n p) e h = Pl.wp P k (.st (.act none (.als d none n)) p) e h := by unfold Pl.a; exact rfl
@[simp] theorem Pl.g_wp : Pl.wp P k (Pl.g d s n o p) e h = Pl.wp P k (.st (.act none (.pget (some d) (some s) n o none)) p) e h := by unfold Pl.g; exact rfl
@[simp] theorem Pl.e_wp : Pl.wp P k (Pl.e n m p) e h = Pl.wp P k (.st (.ext n m) p) e h := by unfold Pl.e; exact rfl
@[simp] theorem Pl.o_wp {a : A} : Pl.wp P k (Pl.o a p) e h = Pl.wp P k (.st (.act none a) p) e h := by unfold Pl.o; exact rfl
@[simp] theorem Pl.c_wp {a : EX} : Pl.wp P k (Pl.c d a p) e h = Pl.wp P k (.st (.act none (.ex (some d) a)) p) e h := by unfold Pl.c; exact rfl
@[simp] theorem Pl.y_wp {a : A} : Pl.wp P k (Pl.y i a p) e h = Pl.wp P k (.st (.act (some (.v i, true)) a) p) e h := by unfold Pl.y; exact rfl
@[simp] theorem Pl.n_wp {a : A} : Pl.wp P k (Pl.n i a p) e h = Pl.wp P k (.st (.act (some (.v i, false)) a) p) e h := by unfold Pl.n; exact rfl
end
theorem C.w {c c' : C} (hc : c = c') : ∀ ⦃P : Program⦄ ⦃Q : Ex → Env → Heap → Prop⦄ ⦃e : Env⦄ ⦃h : Heap⦄, C.wp P c Q e h = C.wp P c' Q e h := fun _ _ _ _ => C.wpe hc
theorem Pl.w {c c' : Pl} (hc : c = c') : ∀ ⦃P : Program⦄ ⦃k : Env → Heap → Prop⦄ ⦃e : Env⦄ ⦃h : Heap⦄, Pl.wp P k c e h = Pl.wp P k c' e h := fun _ _ _ _ => Pl.wpe hc
def ENT (P : Program) (B : C) (r : List (Nat × Option (Option Nat))) (n m : Nat) (f : FuncId) : Prop := ∀ {args : List Value} {h : Heap} {k : Value → Heap → Prop}, args.length = n → B.wp P (retQ r k) (env0 args m) h → CallE P f args h k
end Go.Proofs.Ytglnelcmcimljaa

namespace Go.Proofs.Ytglnelcmcimljaa
open Go
universe u
section
variable {α : Type} [Ty α] {h : Heap} {v : Value}
theorem Rep.X {l : List α} (hr : Rep h v l) {n : Nat} (hn : n = Ty.sz α) : (∀ (kd : IntKind) (i : Nat), i < l.length → iaV n v (.int kd i) = some (elp n v i)) ∧ (∀ (kd : IntKind) (i : Int), 0 ≤ i → i < l.length → iaV n v (.int kd i) = some (elp n v i.toNat)) ∧ lenVV v = some (.int .i64 l.length) :=
  ⟨fun _ _ h1 => hr.ian hn h1, fun _ _ h0 h1 => hr.ia' hn h0 h1, hr.len⟩
end
section
variable {h : Heap} {v : Value}
theorem Rep.I {l : List Int} (hr : Rep h v l) : ((∀ (kd : IntKind) (i : Nat), i < l.length → iaV 1 v (.int kd i) = some (elp 1 v i)) ∧ (∀ (kd : IntKind) (i : Int), 0 ≤ i → i < l.length → iaV 1 v (.int kd i) = some (elp 1 v i.toNat)) ∧ lenVV v = some (.int .i64 l.length)) ∧
    ∀ (i : Nat) (hi : i < l.length), hload h (some (elp 1 v i)) none = some (.int .i64 l[i]) := ⟨hr.X rfl, fun _ hi => hr.ldI hi⟩
theorem Rep.B {l : List Bool} (hr : Rep h v l) : ((∀ (kd : IntKind) (i : Nat), i < l.length → iaV 1 v (.int kd i) = some (elp 1 v i)) ∧ (∀ (kd : IntKind) (i : Int), 0 ≤ i → i < l.length → iaV 1 v (.int kd i) = some (elp 1 v i.toNat)) ∧ lenVV v = some (.int .i64 l.length)) ∧
    ∀ (i : Nat) (hi : i < l.length), hload h (some (elp 1 v i)) none = some (.bool l[i]) := ⟨hr.X rfl, fun _ hi => hr.ldB hi⟩
theorem Rep.S {l : List ByteArray} (hr : Rep h v l) : ((∀ (kd : IntKind) (i : Nat), i < l.length → iaV 1 v (.int kd i) = some (elp 1 v i)) ∧ (∀ (kd : IntKind) (i : Int), 0 ≤ i → i < l.length → iaV 1 v (.int kd i) = some (elp 1 v i.toNat)) ∧ lenVV v = some (.int .i64 l.length)) ∧
    ∀ (i : Nat) (hi : i < l.length), hload h (some (elp 1 v i)) none = some (.string l[i]) := ⟨hr.X rfl, fun _ hi => hr.ldS hi⟩
theorem Rep.U {l : List (BitVec 64)} (hr : Rep h v l) : ((∀ (kd : IntKind) (i : Nat), i < l.length → iaV 1 v (.int kd i) = some (elp 1 v i)) ∧ (∀ (kd : IntKind) (i : Int), 0 ≤ i → i < l.length → iaV 1 v (.int kd i) = some (elp 1 v i.toNat)) ∧ lenVV v = some (.int .i64 l.length)) ∧
    ∀ (i : Nat) (hi : i < l.length), hload h (some (elp 1 v i)) none = some (.int .u64 l[i].toNat) := ⟨hr.X rfl, fun _ hi => hr.ldU hi⟩
theorem Rep.ldL {α : Type} [Ty α] {l : List (List α)} (hr : Rep h v l) {i : Nat} (hi : i < l.length) : ∃ u, hload h (some (elp 1 v i)) none = some u ∧ Rep h u l[i] := hr.ld hi
end
theorem IteW.mkr {p A B : Prop} (h2 : ¬ p → B) (h1 : p → A) : IteW p A B := ⟨h1, h2⟩
theorem wp_while {P : Program} {Q : Ex → Env → Heap → Prop} {e : Env} {h : Heap} {n : Nat} {fg : List Nat} {a : C} {σ : Type} (Enc : σ → Env → Heap → Prop) (m : σ → Nat) (s0 : σ) (h0 : Enc s0 (efgt (e.take n) fg) h)
    (hs : ∀ (J : Env → Heap → Prop) s e h, (∀ s' e h, m s' < m s → Enc s' e h → J e h) → Enc s e h → a.wp P (loopQ n fg J Q) e h) : (C.loop n fg a).wp P Q e h := by
  refine wp_loop (fun k e h => ∃ s, m s = k ∧ Enc s e h) ⟨_, s0, rfl, h0⟩ ?_
  rintro I' k e h hI ⟨s, rfl, hE⟩
  exact hs I' s e h (fun s' e h hlt hE => hI (m s') e h hlt ⟨s', rfl, hE⟩) hE
theorem own1 {α : Type} [Ty α] (ha : Ty.agg α = false) {r : Heap} {cs : List Value} {x : α} : Ty.own r cs x ↔ ∃ v, cs = [v] ∧ Own r v x := by
  constructor
  · intro ho
    have hl := Ty.len (Ty.own_rep ho)
    rw [Ty.one ha] at hl
    match cs, hl with
    | [v], _ => exact ⟨v, rfl, [v], by simp [valC, ha], ho⟩
  · rintro ⟨v, rfl, c, h1, h2⟩
    have hl := Ty.len (Ty.own_rep h2)
    rw [Ty.one ha] at hl
    match c, hl with
    | [u], _ => simp [valC, ha] at h1; subst h1; exact h2
theorem rep1 {α : Type} [Ty α] (ha : Ty.agg α = false) {r : Heap} {cs : List Value} {x : α} : Ty.rep r cs x ↔ ∃ v, cs = [v] ∧ Rep r v x := by
  constructor
  · intro ho
    have hl := Ty.len ho
    rw [Ty.one ha] at hl
    match cs, hl with
    | [v], _ => exact ⟨v, rfl, [v], by simp [valC, ha], ho⟩
  · rintro ⟨v, rfl, c, h1, h2⟩
    have hl := Ty.len h2
    rw [Ty.one ha] at hl
    match c, hl with
    | [u], _ => simp [valC, ha] at h1; subst h1; exact h2
section
variable {α : Type} [Ty α] {h : Heap} {v : Value} {l : List α} {i : Nat}
theorem Rep.fld [Flat α] (hr : Rep h v l) (hi : i < l.length) {n j : Nat} (hn : n = Ty.sz α) {u : Value} (hj : (Flat.enc l[i])[j]? = some u) : hload h (some (elpo n v i j)) none = some u := by
  subst hn
  obtain ⟨p, cap, rfl, hc, hp, hl⟩ := Rep_list.1 hr
  obtain ⟨b, off, vs, rfl, h1, h2⟩ := hl i hi
  rw [← (Flat.rep_iff.1 h2).1] at hj
  have := (hcells_get h1).2 j u hj
  simp [elpo, add_none, hload, this]
end
theorem Rep.A {α : Type} [Ty α] {h : Heap} {v : Value} {x : α} (hr : Rep h v x) (ha : Ty.agg α = true) {n : Nat} (hn : n = Ty.sz α) : pgetV (some v) 0 (some n) = some v ∧ v.cells.size = n ∧ allOne v.cells.toList = true ∧ Value.agg v.cells = v := by
  obtain ⟨cs, rfl, h1⟩ := hr
  have h2 := Ty.len h1
  have h3 := Ty.cell h1
  subst hn
  simp only [valC, ha, if_true]
  refine ⟨?_, by simpa using h2, ?_, rfl⟩
  · simp [h2]
  · rw [← allOne_eq]; simpa using h3
def owC {α : Type} [Ty α] (cs : List Value) (x : α) : HP := fun r => Ty.own r cs x
section
variable {g h : Heap} {Γ : List HP}
theorem HS.join2 {p p1 p2 : HP} (H : HS g (p1 :: p2 :: Γ) h) (hp : ∀ r1 r2, Dj r1 r2 → p1 r1 → p2 r2 → p (r1.add r2)) : HS g (p :: Γ) h := by
  obtain ⟨g1, r1, rfl, d1, h1, g', r2, rfl, d2, h2, H⟩ := H
  obtain ⟨d3, d4⟩ := add_Dj.1 d1
  refine ⟨g', r1.add r2, ?_, Dj_add.2 ⟨d3, d2⟩, hp r1 r2 d4.symm h1 h2, H⟩
  rw [add_assoc, d4.comm]
theorem HS.unvia {α β : Type} [Ty β] (f : α → β) {v : Value} {x : α} (H : HS g (@ow α (Ty.via f) v x :: Γ) h) : ∃ cs : List Value, v = .agg cs.toArray ∧ HS g (owC cs (f x) :: Γ) h := by
  obtain ⟨g', r, rfl, d, ⟨cs, rfl, ho⟩, H⟩ := H
  exact ⟨cs, rfl, g', r, rfl, d, ho, H⟩
theorem HS.via {α β : Type} [Ty β] (f : α → β) {cs : List Value} {x : α} (H : HS g (owC cs (f x) :: Γ) h) : HS g (@ow α (Ty.via f) (.agg cs.toArray) x :: Γ) h :=
  H.imp fun _ ho => ⟨cs, rfl, ho⟩
theorem HS.unprod {α β : Type} [Ty α] [Ty β] {cs : List Value} {x : α} {y : β} (H : HS g (owC cs (x, y) :: Γ) h) : ∃ c1 c2, cs = c1 ++ c2 ∧ HS g (owC c1 x :: owC c2 y :: Γ) h := by
  obtain ⟨g', r, rfl, d, ⟨c1, c2, r1, r2, rfl, rfl, d2, h1, h2⟩, H⟩ := H
  obtain ⟨d3, d4⟩ := Dj_add.1 d
  exact ⟨c1, c2, rfl, g'.add r2, r1, by rw [add_assoc, d2.comm], add_Dj.2 ⟨d3, d2.symm⟩, h1, g', r2, rfl, d4, h2, H⟩
theorem HS.unone {α : Type} [Ty α] (ha : Ty.agg α = false) {cs : List Value} {x : α} (H : HS g (owC cs x :: Γ) h) : ∃ v, cs = [v] ∧ HS g (ow v x :: Γ) h := by
  obtain ⟨g', r, rfl, d, ho, H⟩ := H
  have ho2 : Ty.own r cs x := ho
  obtain ⟨v, rfl, h3⟩ := (own1 ha).1 ho2
  exact ⟨v, rfl, g', r, rfl, d, h3, H⟩
theorem HS.one {α : Type} [Ty α] (ha : Ty.agg α = false) {v : Value} {x : α} (H : HS g (ow v x :: Γ) h) : HS g (owC [v] x :: Γ) h := H.imp fun _ ho => (own1 ha).2 ⟨v, rfl, ho⟩
theorem HS.prod {α β : Type} [Ty α] [Ty β] (ha : Ty.agg α = false) {v : Value} {cs : List Value} {x : α} {y : β} (H : HS g (ow v x :: owC cs y :: Γ) h) : HS g (owC (v :: cs) (x, y) :: Γ) h :=
  H.join2 fun r1 r2 d h1 h2 => ⟨[v], cs, r1, r2, rfl, rfl, d, (own1 ha).2 ⟨v, rfl, h1⟩, h2⟩
end
class Sz (α : Type) where
  sz : α → Nat
instance : Sz Int := ⟨fun _ => 0⟩
instance : Sz Bool := ⟨fun _ => 0⟩
def szL {α : Type} [Sz α] : List α → Nat
  | [] => 0
  | x :: l => Sz.sz x + szL l
instance instSzList {α : Type} [Sz α] : Sz (List α) := ⟨fun l => l.length + szL l⟩
theorem sz_list {α : Type} [Sz α] (l : List α) : Sz.sz l = l.length + szL l := rfl
theorem szL_zero {α : Type} [Sz α] (h0 : ∀ x : α, Sz.sz x = 0) : ∀ l : List α, szL l = 0
  | [] => rfl
  | x :: l => by simp [szL, h0, szL_zero h0 l]
class Mk (α : Type) where
  cnt : α → Nat
  wr : Int → α → α
  cnt_wr : ∀ k x, cnt (wr k x) = cnt x
  wr_wr : ∀ k j x, wr k (wr j x) = wr k x
def cntL {α : Type} [Mk α] : List α → Nat
  | [] => 0
  | x :: l => Mk.cnt x + cntL l
def mkL {α : Type} [Mk α] : Int → List α → List α
  | _, [] => []
  | k, x :: l => Mk.wr k x :: mkL (k + Mk.cnt x) l
section
variable {α : Type} [Mk α]
theorem cntL_mk : ∀ (k : Int) (l : List α), cntL (mkL k l) = cntL l
  | _, [] => rfl
  | k, x :: l => by simp [cntL, mkL, Mk.cnt_wr, cntL_mk (k + Mk.cnt x) l]
theorem mkL_mk : ∀ (k j : Int) (l : List α), mkL k (mkL j l) = mkL k l
  | _, _, [] => rfl
  | k, j, x :: l => by simp [mkL, Mk.cnt_wr, Mk.wr_wr, mkL_mk (k + Mk.cnt x) (j + Mk.cnt x) l]
@[simp] theorem mkL_length : ∀ (k : Int) (l : List α), (mkL k l).length = l.length
  | _, [] => rfl
  | k, x :: l => by simp [mkL, mkL_length (k + Mk.cnt x) l]
theorem mkL_get : ∀ (k : Int) (l : List α) (i : Nat) (hi : i < l.length), (mkL k l)[i]'(by simpa using hi) = Mk.wr (k + cntL (l.take i)) l[i]
  | _, [], i, hi => by simp at hi
  | k, x :: l, 0, _ => by simp [mkL, cntL]
  | k, x :: l, i + 1, hi => by
    simp only [mkL, List.getElem_cons_succ, List.take_succ_cons, cntL]
    rw [mkL_get (k + Mk.cnt x) l i (by simpa using hi)]
    congr 1
    push_cast
    omega
theorem cntL_take : ∀ (l : List α) (i : Nat) (hi : i < l.length), cntL (l.take (i + 1)) = cntL (l.take i) + Mk.cnt l[i]
  | [], i, hi => by simp at hi
  | x :: l, 0, _ => by simp [cntL]
  | x :: l, i + 1, hi => by
    simp only [List.take_succ_cons, cntL, List.getElem_cons_succ]
    rw [cntL_take l i (by simpa using hi)]
    omega
theorem cntL_le : ∀ (l : List α) (i : Nat), cntL (l.take i) ≤ cntL l
  | [], i => by simp [cntL]
  | x :: l, 0 => by simp [cntL]
  | x :: l, i + 1 => by
    simp only [List.take_succ_cons, cntL]
    have := cntL_le l i
    omega
instance instMkList : Mk (List α) := ⟨cntL, mkL, cntL_mk, mkL_mk⟩
end
instance instMkInt : Mk Int := ⟨fun _ => 1, fun k _ => k, fun _ _ => rfl, fun _ _ _ => rfl⟩
instance instMkBool : Mk Bool := ⟨fun _ => 1, fun k _ => decide (k.tmod 3 = 0), fun _ _ => rfl, fun _ _ _ => rfl⟩
structure Mkd {α : Type} [Mk α] (k : Int) (x y : List α) (i : Nat) : Prop where
  len : y.length = x.length
  done : y.take i = (mkL k x).take i
  rest : y.drop i = x.drop i
section
variable {α : Type} [Mk α] {k : Int} {x y : List α} {i : Nat}
theorem Mkd.zero : Mkd k x x 0 := ⟨rfl, rfl, rfl⟩
theorem Mkd.get (h : Mkd k x y i) (hi : i < x.length) : y[i]'(by rw [h.len]; exact hi) = x[i] := by
  have := congrArg (fun l => l[0]?) h.rest
  simp [List.getElem?_drop, hi, h.len] at this
  exact this
theorem Mkd.step (h : Mkd k x y i) (hi : i < x.length) : Mkd k x (y.set i (Mk.wr (k + cntL (x.take i)) x[i])) (i + 1) := by
  refine ⟨by simp [h.len], ?_, ?_⟩
  · have := take_set_succ (x := mkL k x) h.done (by simpa using hi) (by simpa using h.len)
    rwa [mkL_get k x i hi] at this
  · rw [List.drop_set_of_lt (by omega)]
    have := congrArg (List.drop 1) h.rest
    simpa [List.drop_drop] using this
theorem Mkd.all (h : Mkd k x y i) (hi : x.length ≤ i) : y = mkL k x := eq_of_take h.done (by simpa using hi) (by simpa using h.len)
end
theorem take_step {α : Type} {x y : List α} {i : Nat} (h : x.take i = y.take i) (h1 : i < x.length) (h2 : i < y.length) (he : x[i] = y[i]) : x.take (i + 1) = y.take (i + 1) := by
  rw [List.take_add_one, List.take_add_one, h, List.getElem?_eq_getElem h1, List.getElem?_eq_getElem h2, he]
theorem HS.storeFld {α : Type} [Ty α] [Flat α] {P : Program} {k : Env → Heap → Prop} {e : Env} {g h : Heap} {Γ : List HP} {v : Value} {l : List α} {i : Nat} (H : HS g (ow v l :: Γ) h) (y : α) {a x : O} {fo : Nat} {u : Value} (hi : i < l.length) (hp : a.get e = some (elpo (Ty.sz α) v i fo)) (hx : x.get e = some u) (hu : u.cells = #[u]) (hu1 : u.oneCell' = true)
    (hfo : fo < Ty.sz α) (hy : Flat.enc y = (Flat.enc l[i]).set fo u) (hok : Flat.ok y) (K : ∀ h', HS g (ow v (l.set i y) :: Γ) h' → k e h') : (A.ex none (.store 1 a x)).wp P k e h := by
  obtain ⟨g', r, rfl, d, O, H⟩ := H
  exact a_store_fldF y O hi d rfl hp hx hu hu1 hfo hy hok fun r' d' O' => K _ ⟨g', r', rfl, d', O', H⟩
@[simp] theorem ite_lt_zero {α : Type} {b : Int} {x y : α} (h : 0 ≤ b) : (if b < 0 then x else y) = y := if_neg (by omega)
def setB (a : BitVec 64) (j : Nat) : BitVec 64 := a ||| (1#64 <<< j)
theorem one_bit {j i : Nat} (hj : j < 64) : (1#64 <<< j).getLsbD i = decide (i = j) := by
  rw [BitVec.getLsbD_shiftLeft, BitVec.getLsbD_one]
  by_cases h1 : i = j
  · subst h1; simp [hj]
  · by_cases h2 : i < j
    · simp [h1, h2]
    · have h3 : ¬ (i - j = 0) := by omega
      simp [h1, h3]
theorem setB_get {a : BitVec 64} {j i : Nat} (hj : j < 64) : (setB a j).getLsbD i = (a.getLsbD i || decide (i = j)) := by
  rw [setB, BitVec.getLsbD_or, one_bit hj]
structure W8 where
  l : List (BitVec 64)
  len : l.length = 8
def W8.zero : W8 := ⟨List.replicate 8 0, rfl⟩
def W8.put (w : W8) (j : Nat) (x : BitVec 64) : W8 := ⟨w.l.set j x, by simp [w.len]⟩
def W8.at (w : W8) (j : Nat) : BitVec 64 := w.l.getD j 0
def W8.enc (w : W8) : List Value := w.l.map fun b => .int .u64 b.toNat
instance instTyW8 : Ty W8 where
  agg := true
  sz := 8
  rep := fun _ cs x => cs = x.enc
  own := fun r cs x => r = Heap.nil ∧ cs = x.enc
  one := fun h => by simp at h
  len := by rintro h cs x rfl; simp [W8.enc, x.len]
  cell := by
    rintro h cs x rfl v hv
    simp only [W8.enc, List.mem_map] at hv
    obtain ⟨b, _, rfl⟩ := hv
    rfl
  mono := fun _ hr => hr
  own_rep := fun ho => ho.2
instance instFlatW8 : Flat W8 := ⟨W8.enc, fun _ => True, by simp [Ty.rep], by simp [Ty.own]⟩
theorem W8.enc_at (w : W8) {j : Nat} (hj : j < 8) : w.enc[j]? = some (.int .u64 (w.at j).toNat) := by
  have : j < w.l.length := by rw [w.len]; exact hj
  simp [W8.enc, W8.at, this]
theorem W8.put_at (w : W8) {j i : Nat} {x : BitVec 64} (hj : j < 8) : (w.put j x).at i = if i = j then x else w.at i := by
  have : j < w.l.length := by rw [w.len]; exact hj
  simp only [W8.at, W8.put, List.getD_eq_getElem?_getD, List.getElem?_set]
  split
  · rename_i h; subst h; simp [this]
  · rename_i h; rw [if_neg (fun h2 => h h2.symm)]
section
variable {α : Type} [Ty α] {h : Heap} {v : Value} {l : List α} {i : Nat}
theorem Rep.iaA (hr : Rep h v l) (hi : i < l.length) {n m : Nat} {kd : IntKind} {j : Nat} (hj : j < m) : iaAV m 1 (elp n v i) (.int kd j) = some (elpo n v i j) := by
  obtain ⟨p, cap, rfl, hc, hp, hl⟩ := Rep_list.1 hr
  obtain ⟨b, off, vs, rfl, _⟩ := hl i hi
  have : (j : Int) < m := by omega
  simp [iaAV, elp, elpo, this]
theorem Rep.W {l : List W8} (hr : Rep h v l) : ((∀ (kd : IntKind) (i : Nat), i < l.length → iaV 8 v (.int kd i) = some (elp 8 v i)) ∧ (∀ (kd : IntKind) (i : Int), 0 ≤ i → i < l.length → iaV 8 v (.int kd i) = some (elp 8 v i.toNat)) ∧ lenVV v = some (.int .i64 l.length)) ∧
    (∀ (kd : IntKind) (i j : Nat), i < l.length → j < 8 → iaAV 8 1 (elp 8 v i) (.int kd j) = some (elpo 8 v i j)) ∧
    ∀ (i j : Nat) (hi : i < l.length), j < 8 → hload h (some (elpo 8 v i j)) none = some (.int .u64 (l[i].at j).toNat) :=
  ⟨hr.X rfl, fun _ _ _ hi hj => hr.iaA hi hj, fun _ _ hi hj => hr.fld hi rfl (W8.enc_at _ hj)⟩
end
theorem Rep.isNil {α : Type} [Ty α] {h : Heap} {v : Value} {l : List α} (hr : Rep h v l) : ∃ b, isNilV false v = some (.bool b) ∧ (b = true → l = []) := by
  obtain ⟨p, cap, rfl, h1, h2, h3⟩ := Rep_list.1 hr
  refine ⟨p.isNone, rfl, fun hp => ?_⟩
  cases l with
  | nil => rfl
  | cons x l => obtain ⟨b, off, vs, h4, _⟩ := h3 0 (by simp); subst h4; simp at hp
theorem Own.clip {α : Type} [Ty α] {r : Heap} {v : Value} {l : List α} (O : Own r v l) {esz : Nat} {k : IntKind} :
    ∃ v', sliceVV esz v none (some (some (.int k l.length))) (some (some (.int k l.length))) = some v' ∧ Own r v' l := by
  rcases Own_list.1 O with ⟨p, rfl, rfl, rfl, hp⟩ | ⟨b, off, cap, cells, el, r', rfl, ⟨h1, hM⟩, h2, rfl, h4, h5⟩
  · refine ⟨.slice p 0 0, ?_, Own_list.2 (.inl ⟨p, rfl, rfl, rfl, hp⟩)⟩
    simp [sliceVV, bndV]
  · refine ⟨.slice (some ⟨b, off, none⟩) l.length l.length, ?_, Own_list.2 (.inr ⟨b, off, l.length, cells, el, r', rfl, ⟨Nat.le_refl _, hM⟩, ?_, rfl, h4, h5⟩)⟩
    · simp [sliceVV, bndV, add_none, h1]
    · have : l.length * Ty.sz α ≤ cap * Ty.sz α := Nat.mul_le_mul_right _ h1
      omega
theorem HS.clip {α : Type} [Ty α] {g h : Heap} {Γ : List HP} {v : Value} {l : List α} (H : HS g (ow v l :: Γ) h) {esz : Nat} {k : IntKind} :
    ∃ v', sliceVV esz v none (some (some (.int k l.length))) (some (some (.int k l.length))) = some v' ∧ HS g (ow v' l :: Γ) h := by
  obtain ⟨g', r, rfl, d, O, H⟩ := H
  obtain ⟨v', h1, O'⟩ := O.clip (esz := esz) (k := k)
  exact ⟨v', h1, g', r, rfl, d, O', H⟩
theorem HS.bls0 {P : Program} {k : Env → Heap → Prop} {e : Env} {g h : Heap} {Γ : List HP} (H : HS g Γ h) (α : Type) [Ty α] {esz : Nat} {zero : List Value} {dst : Nat}
    (K : ∀ v' h', HS g (ow v' ([] : List α) :: Γ) h' → k (eset e dst (some v')) h') : (A.ex (some dst) (.bls esz 0 zero [])).wp P k e h := by
  refine ⟨[], rfl, fun b el hb => Fgt.keep ?_⟩
  rw [set_new hb]
  exact K _ _ ⟨h, _, rfl, Dj_one.2 hb, Own_list.2 (.inr ⟨b, 0, 0, [], el, Heap.nil, rfl, ⟨Nat.le_refl _, by simp⟩, by simp, by simp, rfl, rfl⟩), H⟩
@[simp] theorem faV_ptr {b o off : Nat} : faV off (.pointer (some ⟨b, o, none⟩)) = some (.pointer (some ⟨b, o + off, none⟩)) := by simp [faV, add_none]
attribute [simp] Option.bind_some
end Go.Proofs.Ytglnelcmcimljaa

namespace Go.Proofs.Ytglnelcmcimljaa
open Go
structure Tr where
  frm : Int
  care : Int
  value : Int
  to : Int
deriving DecidableEq
instance instTyTr : Ty Tr := Ty.via fun (t : Tr) => (t.frm, t.care, t.value, t.to)
theorem Tr.ext_iff' {a b : Tr} : a = b ↔ a.frm = b.frm ∧ a.care = b.care ∧ a.value = b.value ∧ a.to = b.to := by
  cases a; cases b; simp
instance instFlatTr : Flat Tr := Flat.via fun (t : Tr) => (t.frm, t.care, t.value, t.to)
def Tr.v (t : Tr) : Value := .agg #[.int .i64 t.frm, .int .i64 t.care, .int .i64 t.value, .int .i64 t.to]
structure Tr.ok (t : Tr) : Prop where
  frm : -9223372036854775808 ≤ t.frm ∧ t.frm < 9223372036854775808
  care : -9223372036854775808 ≤ t.care ∧ t.care < 9223372036854775808
  value : -9223372036854775808 ≤ t.value ∧ t.value < 9223372036854775808
  to : -9223372036854775808 ≤ t.to ∧ t.to < 9223372036854775808
theorem Tr.ok_iff {t : Tr} : Flat.ok t ↔ t.ok := ⟨fun h => ⟨h.1, h.2.1, h.2.2.1, h.2.2.2⟩, fun h => ⟨h.frm, h.care, h.value, h.to⟩⟩
theorem Rep_Tr {h : Heap} {v : Value} {t : Tr} : Rep h v t ↔ v = t.v ∧ t.ok := by rw [Rep_flat, Tr.ok_iff]; rfl
theorem Rep.ldTr {h : Heap} {v : Value} {l : List Tr} (hr : Rep h v l) {i : Nat} (hi : i < l.length) : hload h (some (elp 4 v i)) (some 4) = some l[i].v := hr.ldF hi
theorem Rep.okTr {h : Heap} {v : Value} {l : List Tr} (hr : Rep h v l) {i : Nat} (hi : i < l.length) : l[i].ok := Tr.ok_iff.1 (hr.okF hi)
theorem Rep.xTr {h : Heap} {v : Value} {l : List Tr} (hr : Rep h v l) : ((∀ (kd : IntKind) (i : Nat), i < l.length → iaV 4 v (.int kd i) = some (elp 4 v i)) ∧ (∀ (kd : IntKind) (i : Int), 0 ≤ i → i < l.length → iaV 4 v (.int kd i) = some (elp 4 v i.toNat)) ∧ lenVV v = some (.int .i64 l.length)) ∧
    ∀ (i : Nat) (hi : i < l.length), hload h (some (elp 4 v i)) (some 4) = some l[i].v := ⟨hr.X rfl, fun _ hi => hr.ldTr hi⟩
theorem Rep.fTr {h : Heap} {v : Value} {l : List Tr} (hr : Rep h v l) : (∀ (i fo : Nat), i < l.length → faV fo (elp 4 v i) = some (elpo 4 v i fo)) ∧ (∀ (i : Nat) (hi : i < l.length), hload h (some (elpo 4 v i 0)) none = some (.int .i64 l[i].frm)) ∧ (∀ (i : Nat) (hi : i < l.length), hload h (some (elpo 4 v i 1)) none = some (.int .i64 l[i].care)) ∧ (∀ (i : Nat) (hi : i < l.length), hload h (some (elpo 4 v i 2)) none = some (.int .i64 l[i].value)) ∧ (∀ (i : Nat) (hi : i < l.length), hload h (some (elpo 4 v i 3)) none = some (.int .i64 l[i].to)) := ⟨fun _ _ hi => hr.fa hi, fun _ hi => hr.fld hi rfl rfl, fun _ hi => hr.fld hi rfl rfl, fun _ hi => hr.fld hi rfl rfl, fun _ hi => hr.fld hi rfl rfl⟩
instance instSzTr : Sz Tr := ⟨fun a => Sz.sz a.frm + Sz.sz a.care + Sz.sz a.value + Sz.sz a.to⟩
instance instMkTr : Mk Tr := ⟨fun a => Mk.cnt a.frm + Mk.cnt a.care + Mk.cnt a.value + Mk.cnt a.to,
  fun k a => ⟨Mk.wr (k) a.frm, Mk.wr (k + Mk.cnt a.frm) a.care, Mk.wr (k + Mk.cnt a.frm + Mk.cnt a.care) a.value, Mk.wr (k + Mk.cnt a.frm + Mk.cnt a.care + Mk.cnt a.value) a.to⟩,
  fun k a => by simp [Mk.cnt_wr], fun k j a => by simp [Mk.cnt_wr, Mk.wr_wr]⟩
structure Aut where
  init : List Int
  acc : List Bool
  edges : List Tr
deriving DecidableEq
instance instTyAut : Ty Aut := Ty.via fun (a : Aut) => (a.init, a.acc, a.edges)
theorem Aut.ext_iff' {a b : Aut} : a = b ↔ a.init = b.init ∧ a.acc = b.acc ∧ a.edges = b.edges := by
  cases a; cases b; simp
theorem Rep_Aut {h : Heap} {v : Value} {a : Aut} : Rep h v a ↔ ∃ v1 v2 v3, v = .agg #[v1, v2, v3] ∧ Rep h v1 a.init ∧ Rep h v2 a.acc ∧ Rep h v3 a.edges := by
  constructor
  · rintro ⟨cs, rfl, c0, d0, rfl, h1, c1, d1, rfl, h2, h3⟩
    obtain ⟨v1, rfl, g1⟩ := (rep1 rfl).1 h1
    obtain ⟨v2, rfl, g2⟩ := (rep1 rfl).1 h2
    obtain ⟨v3, rfl, g3⟩ := (rep1 rfl).1 h3
    exact ⟨v1, v2, v3, rfl, g1, g2, g3⟩
  · rintro ⟨v1, v2, v3, rfl, h1, h2, h3⟩
    exact ⟨[v1, v2, v3], rfl, ⟨[v1], [v2, v3], rfl, (rep1 rfl).2 ⟨_, rfl, h1⟩, ⟨[v2], [v3], rfl, (rep1 rfl).2 ⟨_, rfl, h2⟩, (rep1 rfl).2 ⟨_, rfl, h3⟩⟩⟩⟩
theorem HS.unAut {g h : Heap} {Γ : List HP} {v : Value} {a : Aut} (H : HS g (ow v a :: Γ) h) : ∃ v1 v2 v3, v = .agg #[v1, v2, v3] ∧ HS g (ow v1 a.init :: ow v2 a.acc :: ow v3 a.edges :: Γ) h := by
  obtain ⟨cs, rfl, H0⟩ := HS.unvia (fun (a : Aut) => (a.init, a.acc, a.edges)) H
  try dsimp only at H0
  obtain ⟨c0, e0, rfl, H1a⟩ := HS.unprod H0
  obtain ⟨v1, rfl, H1b⟩ := HS.unone rfl H1a
  have H1 := H1b.sw1
  obtain ⟨c1, e1, rfl, H2a⟩ := HS.unprod H1
  obtain ⟨v2, rfl, H2b⟩ := HS.unone rfl H2a
  have H2 := H2b.sw1
  obtain ⟨v3, rfl, HL⟩ := HS.unone rfl H2
  exact ⟨v1, v2, v3, rfl, HL.sw1.sw2⟩
theorem HS.mkAut {g h : Heap} {Γ : List HP} {v1 v2 v3 : Value} {a : Aut} (H : HS g (ow v1 a.init :: ow v2 a.acc :: ow v3 a.edges :: Γ) h) : HS g (ow (.agg #[v1, v2, v3]) a :: Γ) h := by
  refine HS.via (fun (a : Aut) => (a.init, a.acc, a.edges)) ?_
  exact HS.prod rfl (H.under fun _ H => HS.prod rfl (H.under fun _ H => HS.one rfl H))
theorem Rep.aAut {h : Heap} {v : Value} {x : Aut} (hr : Rep h v x) : pgetV (some v) 0 (some 3) = some v ∧ v.cells.size = 3 ∧ allOne v.cells.toList = true ∧ Value.agg v.cells = v := hr.A rfl rfl
instance instSzAut : Sz Aut := ⟨fun a => Sz.sz a.init + Sz.sz a.acc + Sz.sz a.edges⟩
instance instMkAut : Mk Aut := ⟨fun a => Mk.cnt a.init + Mk.cnt a.acc + Mk.cnt a.edges,
  fun k a => ⟨Mk.wr (k) a.init, Mk.wr (k + Mk.cnt a.init) a.acc, Mk.wr (k + Mk.cnt a.init + Mk.cnt a.acc) a.edges⟩,
  fun k a => by simp [Mk.cnt_wr], fun k j a => by simp [Mk.cnt_wr, Mk.wr_wr]⟩
structure Las where
  stem : List Int
  loop : List Int
deriving DecidableEq
instance instTyLas : Ty Las := Ty.via fun (l : Las) => (l.stem, l.loop)
theorem Las.ext_iff' {a b : Las} : a = b ↔ a.stem = b.stem ∧ a.loop = b.loop := by
  cases a; cases b; simp
theorem Rep_Las {h : Heap} {v : Value} {a : Las} : Rep h v a ↔ ∃ v1 v2, v = .agg #[v1, v2] ∧ Rep h v1 a.stem ∧ Rep h v2 a.loop := by
  constructor
  · rintro ⟨cs, rfl, c0, d0, rfl, h1, h2⟩
    obtain ⟨v1, rfl, g1⟩ := (rep1 rfl).1 h1
    obtain ⟨v2, rfl, g2⟩ := (rep1 rfl).1 h2
    exact ⟨v1, v2, rfl, g1, g2⟩
  · rintro ⟨v1, v2, rfl, h1, h2⟩
    exact ⟨[v1, v2], rfl, ⟨[v1], [v2], rfl, (rep1 rfl).2 ⟨_, rfl, h1⟩, (rep1 rfl).2 ⟨_, rfl, h2⟩⟩⟩
theorem HS.unLas {g h : Heap} {Γ : List HP} {v : Value} {a : Las} (H : HS g (ow v a :: Γ) h) : ∃ v1 v2, v = .agg #[v1, v2] ∧ HS g (ow v1 a.stem :: ow v2 a.loop :: Γ) h := by
  obtain ⟨cs, rfl, H0⟩ := HS.unvia (fun (l : Las) => (l.stem, l.loop)) H
  try dsimp only at H0
  obtain ⟨c0, e0, rfl, H1a⟩ := HS.unprod H0
  obtain ⟨v1, rfl, H1b⟩ := HS.unone rfl H1a
  have H1 := H1b.sw1
  obtain ⟨v2, rfl, HL⟩ := HS.unone rfl H1
  exact ⟨v1, v2, rfl, HL.sw1⟩
theorem HS.mkLas {g h : Heap} {Γ : List HP} {v1 v2 : Value} {a : Las} (H : HS g (ow v1 a.stem :: ow v2 a.loop :: Γ) h) : HS g (ow (.agg #[v1, v2]) a :: Γ) h := by
  refine HS.via (fun (l : Las) => (l.stem, l.loop)) ?_
  exact HS.prod rfl (H.under fun _ H => HS.one rfl H)
theorem Rep.aLas {h : Heap} {v : Value} {x : Las} (hr : Rep h v x) : pgetV (some v) 0 (some 2) = some v ∧ v.cells.size = 2 ∧ allOne v.cells.toList = true ∧ Value.agg v.cells = v := hr.A rfl rfl
instance instSzLas : Sz Las := ⟨fun a => Sz.sz a.stem + Sz.sz a.loop⟩
instance instMkLas : Mk Las := ⟨fun a => Mk.cnt a.stem + Mk.cnt a.loop,
  fun k a => ⟨Mk.wr (k) a.stem, Mk.wr (k + Mk.cnt a.stem) a.loop⟩,
  fun k a => by simp [Mk.cnt_wr], fun k j a => by simp [Mk.cnt_wr, Mk.wr_wr]⟩
end Go.Proofs.Ytglnelcmcimljaa

namespace Go.Proofs.Ytglnelcmcimljaa
open Go Go.RowKit
def whole (w : World) : Heap := fun b => w.heap[b]?
theorem calls_law {P : Program} {f : FuncId} {fn : Func} {args : List Value} {W : World} (hf : P.funcs[f]? = some fn) (hname : (fn.name == "runtime.NumGoroutine") = false) (hb : fn.body.isSome = true)
    (h : CallE P f args (whole W) (fun u h' => (whole W).le h' ∧ u = .bool true)) : Calls P f args.toArray W fun e W' => e = .returned (.bool true) ∧ Below W.heap.size W W' := by
  have h1 := h W (fun b o hb => hb)
  obtain ⟨bd, hbd⟩ := Option.isSome_iff_exists.1 hb
  have hname' : ¬ fn.name = "runtime.NumGoroutine" := by simpa using hname
  have hcall : (callFunc f args.toArray).run P W = .ok (.enter f args.toArray) W := by
    simp [callFunc, hf, hname', hbd]
  rw [hcall] at h1
  refine Calls.mono h1 ?_
  rintro e W' ⟨v, h', rfl, ⟨hl, rfl⟩, hs, hF⟩
  refine ⟨rfl, hF.os, hF.tape, hF.output, hF.size, ?_⟩
  intro k hk
  have h2 : whole W k = some W.heap[k] := by simp [whole, hk]
  rw [hs _ _ (hl _ _ h2)]
  simp [hk]
section
variable {H : Type} {enc : TypeId × Value → H} {P : Program}
theorem trodAll_below (hl : laidOutB P = true) {W W' : World} : ∀ {ts : List TypeId} {vs : List Value} {ds : List (DataW H)} {ps : List MemPlace}, (∀ t ∈ ts, P.readableRec t = true ∧ t < P.types.size) →
    DataW.TrodAll enc P W 0 (fun _ => true) true ts vs ds ps → Below W.heap.size W W' → (∀ x ∈ ps, x.block < W.heap.size) → DataW.TrodAll enc P W' 0 (fun b => decide (b < W.heap.size)) true ts vs ds ps
  | [], [], [], _, _, h, _, _ => h
  | _ :: _, _ :: _, _ :: _, _, ht, ⟨p, q, h1, h2, e⟩, hb, hlt =>
    ⟨p, q, Below.trod hl (ht _ (by simp)).1 (ht _ (by simp)).2 h1 hb (fun x hx => hlt x (by rw [e]; exact List.mem_append_left _ hx)),
      trodAll_below hl (fun t h => ht t (by simp [h])) h2 hb (fun x hx => hlt x (by rw [e]; exact List.mem_append_right _ hx)), e⟩
theorem kept_below {W W' : World} (hb : Below W.heap.size W W') (may : MemPlace → Prop) : W.keptBut W' may := by
  refine ⟨hb.os, hb.output, fun i hi => ?_⟩
  rw [hb.block i hi]
  split
  · rename_i h1 h2; rw [h1] at h2; simp only [Option.some.injEq, Obj.cells.injEq] at h2; obtain ⟨rfl, rfl, rfl⟩ := h2; exact ⟨rfl, rfl, rfl, fun _ _ => rfl⟩
  · rename_i h1 h2; rw [h1] at h2; simp only [Option.some.injEq, Obj.map.injEq] at h2; obtain ⟨rfl, rfl⟩ := h2; exact .inr ⟨rfl, rfl⟩
  · rfl
theorem post_law {f : Func} {s : ChangeSpec} {W W' : World} {args : Array Value} {ds gs : List (DataW H)} {before : List MemPlace} (hl : laidOutB P = true) (hvars : s.vars = []) (ht : ∀ t ∈ f.params.toList, P.readableRec t = true ∧ t < P.types.size)
    (hr : ∃ t, f.resultTypes = #[t] ∧ P.underlying t = some .bool) (hspec : (s.fn H (ds ++ gs)).results = [.lit (.bool true)] ∧ (s.fn H (ds ++ gs)).args = ds ∧ (s.fn H (ds ++ gs)).vars = [])
    (hW : DataW.Whole enc P f.params.toList s.vars false W args.toList ds gs before) (hb : Below W.heap.size W W') : s.post enc P f false true false false W args (.bool true) W' := by
  obtain ⟨t, ht1, ht2⟩ := hr
  obtain ⟨h1, h2, h3⟩ := hspec
  have hW' := hW
  obtain ⟨p, q, hA, hV, rfl, hz, hn⟩ := hW
  rw [hvars] at hV
  obtain ⟨rfl, rfl⟩ := Go.ChangeShapes.trodVars_none hV
  have hlt : ∀ x ∈ p ++ [], x.block < W.heap.size := fun x hx => by simpa using hW'.lt x hx
  refine ⟨ds, [], p ++ [], [], p, [], hW', ?_, ?_, ?_, World.keptBut_mono (fun x hx => ⟨by simpa using hx, .inr (.inl (by simpa using hx))⟩) (kept_below hb (fun x => x ∈ p)), by simp⟩
  · rw [h1, ht1]
    exact trodAll_cons_mk (shut_bool ht2 _) Go.ChangeShapes.trodAll_mk0
  · rw [h2]
    exact trodAll_below hl ht hA hb (fun x hx => hlt x (by simpa using hx))
  · rw [h3, hvars]; rfl
end
def wOk {H : Type} (P : Program) (t : TypeId) (d : DataW H) : Prop := ∀ n ∈ d.weights P t, n ≤ reachBytes
theorem wOk_all {H : Type} {P : Program} {e : TypeId} : ∀ {l : List (DataW H)}, (∀ n ∈ DataW.weightsAll P e l, n ≤ reachBytes) → ∀ d ∈ l, wOk P e d
  | [], _, d, hd => by simp at hd
  | x :: l, h, d, hd => by
    simp only [DataW.weightsAll, List.mem_append] at h
    rcases List.mem_cons.1 hd with rfl | hd
    · exact fun n hn => h n (.inl hn)
    · exact wOk_all (fun n hn => h n (.inr hn)) d hd
theorem wOk_each {H : Type} {P : Program} : ∀ {ts : List TypeId} {l : List (DataW H)}, (∀ n ∈ DataW.weightsEach P ts l, n ≤ reachBytes) → ∀ (i : Nat) t d, ts[i]? = some t → l[i]? = some d → wOk P t d
  | [], _, _, i, t, d, h1, _ => by simp at h1
  | _ :: _, [], _, i, t, d, _, h2 => by simp at h2
  | t0 :: ts, x :: l, h, 0, t, d, h1, h2 => by
    simp at h1 h2; subst h1 h2
    exact fun n hn => h n (by simp only [DataW.weightsEach, List.mem_append]; exact .inl hn)
  | t0 :: ts, x :: l, h, i + 1, t, d, h1, h2 => wOk_each (ts := ts) (l := l) (fun n hn => h n (by simp only [DataW.weightsEach, List.mem_append]; exact .inr hn)) i t d (by simpa using h1) (by simpa using h2)
def RdT (P : Program) (t : TypeId) (α : Type) [Ty α] : Prop := ∀ {H : Type} (enc : TypeId × Value → H) (W : World) (sp : Nat → Bool) (fuel : Nat) (cs : List Value) (x : DataW H × List MemPlace),
  DataW.trod enc P W 0 sp true fuel t cs = some x → wOk P t x.1 → ∃ y : α, Ty.rep (whole W) cs y
section
variable {P : Program} {t : TypeId}
theorem rd_int (ht : P.underlying t = some (.int .i64)) : RdT P t Int := by
  intro H enc W sp fuel cs x h hwt
  cases fuel with
  | zero => simp [DataW.trod] at h
  | succ n =>
    unfold DataW.trod at h
    rw [ht] at h
    split at h
    case h_2 k k' m h1 =>
      simp only [Option.some.injEq, TypeDesc.int.injEq] at h1
      subst h1
      split at h
      case isTrue hc =>
        obtain ⟨rfl, hw⟩ := hc
        have := bounds_i64 hw
        exact ⟨_, rfl, by omega, by omega⟩
      case isFalse => simp at h
    all_goals simp_all
theorem rd_bool (ht : P.underlying t = some .bool) : RdT P t Bool := by
  intro H enc W sp fuel cs x h hwt
  cases fuel with
  | zero => simp [DataW.trod] at h
  | succ n =>
    unfold DataW.trod at h
    rw [ht] at h
    split at h <;> simp_all
    rename_i b
    cases b
    · exact .inl rfl
    · exact .inr rfl
theorem cells_whole {W : World} {b off : Nat} : ∀ {n : Nat} {l : List Value}, W.cells? 0 ⟨b, off, none⟩ n = some l → hcells (whole W) b off n = some l := by
  have key : ∀ n o l, (List.range' o n).mapM (fun i => W.cell? ((⟨b, off, none⟩ : Addr).add i)) = some l → hcells (whole W) b (off + o) n = some l := by
    intro n
    induction n with
    | zero => intro o l h; simpa [hcells] using h
    | succ n ih =>
      intro o l h
      rw [List.range'_succ, List.mapM_cons] at h
      simp only [Option.bind_eq_bind, Option.bind_eq_some_iff, Option.pure_def, Option.some.injEq] at h
      obtain ⟨v, h1, r, h2, rfl⟩ := h
      have h3 := ih (o + 1) r h2
      have h4 : hcell (whole W) b (off + o) = some v := by
        rw [addr_add0] at h1
        simp only [World.cell?, Option.isSome_none, Bool.false_eq_true, if_false] at h1
        simp only [hcell, whole]
        split at h1
        · rename_i hb; rw [hb]; exact h1
        · simp at h1
      simp only [hcells, h4]
      rw [show off + o + 1 = off + (o + 1) by omega, h3]
  intro n l h
  simp only [World.cells?, Nat.zero_le, if_true] at h
  rw [List.range_eq_range'] at h
  exact key n 0 l h
theorem cells_spot {W : World} {b off s n : Nat} (hn : 0 < n) : W.cells? 0 ⟨b, off, some s⟩ n = none := by
  simp only [World.cells?, Nat.zero_le, if_true]
  cases n with
  | zero => omega
  | succ n =>
    rw [List.range_succ_eq_map, List.mapM_cons]
    have : W.cell? ((⟨b, off, some s⟩ : Addr).add 0) = none := by
      simp only [Addr.add, if_true, World.cell?]
      split <;> simp
    rw [this]; rfl
theorem rd_list {α : Type} [Ty α] {e : TypeId} (ht : P.underlying t = some (.slice e)) (hc : P.cellsOf e = Ty.sz α) (hpos : 0 < Ty.sz α) (hby : 0 < P.bytesOf e) (he : RdT P e α) : RdT P t (List α) := by
  intro H enc W sp fuel cs x h hwt
  rcases Go.Deep.open_slice ht h with ⟨rfl, _⟩ | ⟨a, len, cap, m, n, D, Pl, rfl, _, hlen, hcap, hm, rfl, hel⟩
  · exact ⟨[], none, 0, rfl, by simp, trivial, fun i hi => by simp at hi⟩
  · have hle : len ≤ m := by rw [hm]; split <;> omega
    simp only [wOk, DataW.weights, ht, List.mem_cons, List.mem_append] at hwt
    have hsz : len ≤ reachBytes := by
      have h1 := hwt _ (.inl rfl)
      simp only [List.length_map, List.length_range] at h1
      have h2 : len * 1 ≤ (len + (m - len)) * P.bytesOf e := Nat.mul_le_mul (by omega) hby
      omega
    have hwe := wOk_all (fun n hn => hwt n (.inr (.inl hn)))
    have hall : ∀ i, i < len → ∃ y : α, ∃ b off vs, some a = some (⟨b, off, none⟩ : Addr) ∧ hcells (whole W) b (off + i * Ty.sz α) (Ty.sz α) = some vs ∧ Ty.rep (whole W) vs y := by
      intro i hi
      obtain ⟨cs', h1, h2⟩ := hel i (by omega)
      obtain ⟨y, hy⟩ := he enc W sp n cs' _ h2 (hwe _ (List.mem_map.2 ⟨i, by simpa using hi, rfl⟩))
      obtain ⟨b, off, spot⟩ := a
      rw [hc] at h1
      -- the address is plain: its first element could be read
      have h0 : spot = none := by
        cases spot with
        | none => rfl
        | some s =>
          obtain ⟨cs0, g1, _⟩ := hel 0 (by omega)
          rw [hc] at g1
          simp only [Nat.zero_mul, Addr.add, if_true] at g1
          rw [cells_spot hpos] at g1
          simp at g1
      subst h0
      rw [addr_add0] at h1
      exact ⟨y, b, off, cs', rfl, cells_whole h1, hy⟩
    have hch : ∃ l : List α, l.length = len ∧ ∀ i (hi : i < l.length), ∃ b off vs, some a = some (⟨b, off, none⟩ : Addr) ∧ hcells (whole W) b (off + i * Ty.sz α) (Ty.sz α) = some vs ∧ Ty.rep (whole W) vs l[i] := by
      refine ⟨(List.finRange len).map fun i => Classical.choose (hall i.1 i.2), by simp, fun i hi => ?_⟩
      have hi' : i < len := by simpa using hi
      have := Classical.choose_spec (hall i hi')
      simpa using this
    obtain ⟨l, hl, hr⟩ := hch
    refine ⟨l, some a, cap, by rw [hl], ⟨by omega, ?_⟩, trivial, hr⟩
    have : reachBytes < 4611686018427387904 := by decide
    omega
theorem rd_two {α β : Type} [Ty α] [Ty β] {h : Heap} {cs : List Value} (h1 : ∃ x : α, Ty.rep h (cs.take (Ty.sz α)) x) (h2 : ∃ y : β, Ty.rep h (cs.drop (Ty.sz α)) y) : ∃ z : α × β, Ty.rep h cs z := by
  obtain ⟨x, hx⟩ := h1
  obtain ⟨y, hy⟩ := h2
  exact ⟨(x, y), _, _, (List.take_append_drop _ cs).symm, hx, hy⟩
end
section
variable {P : Program} {W : World} {r : Reach} {base : Nat} {t e : TypeId} {v : Value}
theorem okWide_slice (ht : P.underlying t = some (.slice e)) (h : Value.okWide P W r base t v) : ∃ a n c, v = .slice a n c := by
  unfold Value.okWide at h
  rw [ht] at h
  simp only [Cell.okWide, ht] at h
  cases v <;> simp [Cell.ok, ht] at h ⊢
end
end Go.Proofs.Ytglnelcmcimljaa

namespace Go.Proofs.Ytglnelcmcimljaa
open Go Go.RowKit Go.ChangeShapes
theorem laid : laidOutB Try.prog = true := by kernel_rfl
theorem own0 : ownKnob Try.prog.godebug = none := by kernel_rfl
theorem rd_Tr : RdT Try.prog 135 Tr := by
  intro H enc W sp fuel cs x h hwt
  obtain ⟨xs, n, rfl, rfl, hlen, hxs, hf⟩ := DataW.trod_struct Try.underlying135 h
  rw [show Try.prog.cellsOf 135 = 4 from by kernel_rfl] at hlen
  simp only [wOk, DataW.weights, Try.underlying135] at hwt
  have hw := wOk_each hwt
  have hxs : xs.length = 4 := hxs
  have F0 : ∃ y : Int, Ty.rep (whole W) ((cs.drop 0).take 1) y := by
    have h1 := hf 0 _ rfl
    rw [show Try.prog.cellsOf _ = 1 from by kernel_rfl, List.getElem?_eq_getElem (by omega : 0 < xs.length)] at h1
    exact rd_int Try.underlying3 enc W sp n _ _ h1 (hw 0 _ _ rfl (by simp [hxs]))
  have F1 : ∃ y : Int, Ty.rep (whole W) ((cs.drop 1).take 1) y := by
    have h1 := hf 1 _ rfl
    rw [show Try.prog.cellsOf _ = 1 from by kernel_rfl, List.getElem?_eq_getElem (by omega : 1 < xs.length)] at h1
    exact rd_int Try.underlying3 enc W sp n _ _ h1 (hw 1 _ _ rfl (by simp [hxs]))
  have F2 : ∃ y : Int, Ty.rep (whole W) ((cs.drop 2).take 1) y := by
    have h1 := hf 2 _ rfl
    rw [show Try.prog.cellsOf _ = 1 from by kernel_rfl, List.getElem?_eq_getElem (by omega : 2 < xs.length)] at h1
    exact rd_int Try.underlying3 enc W sp n _ _ h1 (hw 2 _ _ rfl (by simp [hxs]))
  have F3 : ∃ y : Int, Ty.rep (whole W) ((cs.drop 3).take 1) y := by
    have h1 := hf 3 _ rfl
    rw [show Try.prog.cellsOf _ = 1 from by kernel_rfl, List.getElem?_eq_getElem (by omega : 3 < xs.length)] at h1
    exact rd_int Try.underlying3 enc W sp n _ _ h1 (hw 3 _ _ rfl (by simp [hxs]))
  have G3 : ∃ y : Int, Ty.rep (whole W) (cs.drop 3) y := by
    rw [List.take_of_length_le (by simp; omega)] at F3
    exact F3
  have G2 : ∃ y : Int × Int, Ty.rep (whole W) (cs.drop 2) y := rd_two F2 (by rw [List.drop_drop]; exact G3)
  have G1 : ∃ y : Int × Int × Int, Ty.rep (whole W) (cs.drop 1) y := rd_two F1 (by rw [List.drop_drop]; exact G2)
  have G0 : ∃ y : Int × Int × Int × Int, Ty.rep (whole W) (cs.drop 0) y := rd_two F0 (by rw [List.drop_drop]; exact G1)
  obtain ⟨z, hz⟩ := G0
  exact ⟨⟨z.1, z.2.1, z.2.2.1, z.2.2.2⟩, hz⟩
theorem rd_Aut : RdT Try.prog 50 Aut := by
  intro H enc W sp fuel cs x h hwt
  obtain ⟨xs, n, rfl, rfl, hlen, hxs, hf⟩ := DataW.trod_struct Try.underlying50 h
  rw [show Try.prog.cellsOf 50 = 3 from by kernel_rfl] at hlen
  simp only [wOk, DataW.weights, Try.underlying50] at hwt
  have hw := wOk_each hwt
  have hxs : xs.length = 3 := hxs
  have F0 : ∃ y : List (Int), Ty.rep (whole W) ((cs.drop 0).take 1) y := by
    have h1 := hf 0 _ rfl
    rw [show Try.prog.cellsOf _ = 1 from by kernel_rfl, List.getElem?_eq_getElem (by omega : 0 < xs.length)] at h1
    exact rd_list (α := Int) Try.underlying23 (by kernel_rfl) (by decide) (by rw [show Try.prog.bytesOf 3 = 8 from by kernel_rfl]; decide) (rd_int Try.underlying3) enc W sp n _ _ h1 (hw 0 _ _ rfl (by simp [hxs]))
  have F1 : ∃ y : List (Bool), Ty.rep (whole W) ((cs.drop 1).take 1) y := by
    have h1 := hf 1 _ rfl
    rw [show Try.prog.cellsOf _ = 1 from by kernel_rfl, List.getElem?_eq_getElem (by omega : 1 < xs.length)] at h1
    exact rd_list (α := Bool) Try.underlying24 (by kernel_rfl) (by decide) (by rw [show Try.prog.bytesOf 4 = 1 from by kernel_rfl]; decide) (rd_bool Try.underlying4) enc W sp n _ _ h1 (hw 1 _ _ rfl (by simp [hxs]))
  have F2 : ∃ y : List (Tr), Ty.rep (whole W) ((cs.drop 2).take 1) y := by
    have h1 := hf 2 _ rfl
    rw [show Try.prog.cellsOf _ = 1 from by kernel_rfl, List.getElem?_eq_getElem (by omega : 2 < xs.length)] at h1
    exact rd_list (α := Tr) Try.underlying48 (by kernel_rfl) (by decide) (by rw [show Try.prog.bytesOf 135 = 32 from by kernel_rfl]; decide) (rd_Tr) enc W sp n _ _ h1 (hw 2 _ _ rfl (by simp [hxs]))
  have G2 : ∃ y : (List (Tr)), Ty.rep (whole W) (cs.drop 2) y := by
    rw [List.take_of_length_le (by simp; omega)] at F2
    exact F2
  have G1 : ∃ y : (List (Bool)) × (List (Tr)), Ty.rep (whole W) (cs.drop 1) y := rd_two F1 (by rw [List.drop_drop]; exact G2)
  have G0 : ∃ y : (List (Int)) × (List (Bool)) × (List (Tr)), Ty.rep (whole W) (cs.drop 0) y := rd_two F0 (by rw [List.drop_drop]; exact G1)
  obtain ⟨z, hz⟩ := G0
  exact ⟨⟨z.1, z.2.1, z.2.2⟩, hz⟩
end Go.Proofs.Ytglnelcmcimljaa

namespace Go.Proofs.Ytglnelcmcimljaa
open Go
abbrev fn_main_main : Nat := 0
abbrev fn_gosem_cut : Nat := 1
abbrev fn_gosem_cut_init : Nat := 2
abbrev fn_laws_FnSimulationStep : Nat := 3
abbrev fn_laws_FnSimulationRelation : Nat := 4
abbrev fn_laws_FnPrefixStep : Nat := 5
abbrev fn_laws_FnMergeTwice : Nat := 6
abbrev fn_laws_FnExactExtendWord : Nat := 7
abbrev fn_laws_FnSimulationWord : Nat := 8
abbrev fn_laws_FnIncludesAutomaton : Nat := 9
abbrev fn_laws_FnTrimAutomaton : Nat := 10
abbrev fn_spec_DrawSimulationRelation : Nat := 11
abbrev fn_impl_SimulationRelation : Nat := 12
abbrev fn_spec_SimulationRelation : Nat := 13
abbrev fn_laws_wpAnd : Nat := 14
abbrev fn_laws_wpBools : Nat := 15
abbrev fn_spec_DrawPrefixStates : Nat := 16
abbrev fn_impl_PrefixStates : Nat := 17
abbrev fn_spec_PrefixStates : Nat := 18
abbrev fn_laws_wpInts : Nat := 19
abbrev fn_impl_LiveStates : Nat := 20
abbrev fn_laws_wpHas : Nat := 21
abbrev fn_spec_DrawMergeStates : Nat := 22
abbrev fn_impl_MergeStates : Nat := 23
abbrev fn_spec_MergeStates : Nat := 24
abbrev fn_impl_AutomatonSame : Nat := 25
abbrev fn_laws_szAutomaton : Nat := 26
abbrev fn_spec_ExtendWord : Nat := 27
abbrev fn_laws_toAutomaton : Nat := 28
abbrev fn_laws_toIntS : Nat := 29
abbrev fn_impl_ExtendWord : Nat := 30
abbrev fn_laws_eqLasso : Nat := 31
abbrev fn_laws_eqAutomaton : Nat := 32
abbrev fn_laws_eqIntS : Nat := 33
abbrev fn_laws_markAutomaton : Nat := 34
abbrev fn_laws_markIntS : Nat := 35
abbrev fn_laws_markLasso : Nat := 36
abbrev fn_laws_heldLasso : Nat := 37
abbrev fn_spec_DrawAccepts : Nat := 38
abbrev fn_impl_Accepts : Nat := 39
abbrev fn_spec_DrawIncludesAutomaton : Nat := 40
abbrev fn_impl_IncludesAutomaton : Nat := 41
abbrev fn_spec_IncludesAutomaton : Nat := 42
abbrev fn_spec_DrawTrimAutomaton : Nat := 43
abbrev fn_impl_TrimAutomaton : Nat := 44
abbrev fn_spec_TrimAutomaton : Nat := 45
abbrev fn_impl_AutomatonValid : Nat := 46
abbrev fn_impl_Automaton_simulation : Nat := 47
abbrev fn_spec_AutomatonValid : Nat := 48
abbrev fn_spec_l13Relation : Nat := 49
abbrev fn_spec_l16Open : Nat := 50
abbrev fn_spec_l7Mutate : Nat := 51
abbrev fn_spec_l7Automaton : Nat := 52
abbrev fn_spec_l12Letters : Nat := 53
abbrev fn_impl_wordOk : Nat := 54
abbrev fn_impl_Automaton_prefix : Nat := 55
abbrev fn_spec_l12Word : Nat := 56
abbrev fn_spec_l12States : Nat := 57
abbrev fn_impl_Automaton_live : Nat := 58
abbrev fn_impl_Automaton_merge : Nat := 59
abbrev fn_spec_l13Merge : Nat := 60
abbrev fn_slices_Equal_S_int_int : Nat := 61
abbrev fn_slices_Equal_S_bool_bool : Nat := 62
abbrev fn_slices_Equal_S_impl_Transition_impl_Transition : Nat := 63
abbrev fn_laws_szIntS : Nat := 64
abbrev fn_laws_szBoolS : Nat := 65
abbrev fn_laws_szTransitionS : Nat := 66
abbrev fn_spec_FindWord : Nat := 67
abbrev fn_spec_LassoValid : Nat := 68
abbrev fn_laws_toBoolS : Nat := 69
abbrev fn_laws_toTransitionS : Nat := 70
abbrev fn_impl_FindWord : Nat := 71
abbrev fn_slices_Clip_S_int_int : Nat := 72
abbrev fn_slices_Concat_S_int_int : Nat := 73
abbrev fn_impl_LassoValid : Nat := 74
abbrev fn_laws_eqBoolS : Nat := 75
abbrev fn_laws_eqTransitionS : Nat := 76
abbrev fn_laws_markBoolS : Nat := 77
abbrev fn_laws_markTransitionS : Nat := 78
abbrev fn_laws_heldIntS : Nat := 79
abbrev fn_spec_l6Mutate : Nat := 80
abbrev fn_spec_l6Lasso : Nat := 81
abbrev fn_impl_Automaton_accepts : Nat := 82
abbrev fn_spec_l13Automaton : Nat := 83
abbrev fn_spec_l16Rd_pick : Nat := 84
abbrev fn_impl_UniteAutomata : Nat := 85
abbrev fn_slices_ContainsFunc_S_int_int : Nat := 86
abbrev fn_impl_IncludesAutomaton_1 : Nat := 87
abbrev fn_impl_IncludesAutomaton_1_1 : Nat := 88
abbrev fn_spec_UniteAutomata : Nat := 89
abbrev fn_impl_Automaton_trim : Nat := 90
abbrev fn_spec_l13Trim : Nat := 91
abbrev fn_impl_in : Nat := 92
abbrev fn_slices_ContainsFunc_S_impl_Transition_impl_Transition : Nat := 93
abbrev fn_impl_AutomatonValid_1 : Nat := 94
abbrev fn_impl_Transition_takes : Nat := 95
abbrev fn_impl_Automaton_simulation_1 : Nat := 96
abbrev fn_spec_l7Edge : Nat := 97
abbrev fn_spec_l13Leaving : Nat := 98
abbrev fn_spec_l13Answers : Nat := 99
abbrev fn_spec_l16Rd_num : Nat := 100
abbrev fn_spec_TranslateFormula : Nat := 101
abbrev fn_spec_l5Formula : Nat := 102
abbrev fn_spec_l6Word : Nat := 103
abbrev fn_impl_letters : Nat := 104
abbrev fn_impl_Automaton_begin : Nat := 105
abbrev fn_impl_Automaton_after : Nat := 106
abbrev fn_impl_members : Nat := 107
abbrev fn_spec_l6Letters : Nat := 108
abbrev fn_spec_LiveStates : Nat := 109
abbrev fn_spec_l12Only : Nat := 110
abbrev fn_spec_l12Step : Nat := 111
abbrev fn_impl_Automaton_next : Nat := 112
abbrev fn_impl_cyclic : Nat := 113
abbrev fn_impl_reachable : Nat := 114
abbrev fn_impl_grouped : Nat := 115
abbrev fn_impl_Automaton_merge_1 : Nat := 116
abbrev fn_impl_picked : Nat := 117
abbrev fn_slices_Sort_S_int_int : Nat := 118
abbrev fn_slices_Compact_S_int_int : Nat := 119
abbrev fn_impl_Automaton_copyOf : Nat := 120
abbrev fn_spec_l10Sorted : Nat := 121
abbrev fn_spec_l7Tree : Nat := 122
abbrev fn_spec_l7Cycle : Nat := 123
abbrev fn_spec_l7Letters : Nat := 124
abbrev fn_laws_toTransition : Nat := 125
abbrev fn_impl_lasso : Nat := 126
abbrev fn_impl_FindWord_1 : Nat := 127
abbrev fn_impl_Automaton_values : Nat := 128
abbrev fn_impl_clone_int : Nat := 129
abbrev fn_slices_Grow_S_int_int : Nat := 130
abbrev fn_laws_eqTransition : Nat := 131
abbrev fn_impl_Lasso_all : Nat := 132
abbrev fn_impl_Lasso_next : Nat := 133
abbrev fn_slices_IndexFunc_S_int_int : Nat := 134
abbrev fn_spec_l7Reach : Nat := 135
abbrev fn_spec_l7Next : Nat := 136
abbrev fn_spec_l13Keep : Nat := 137
abbrev fn_slices_IndexFunc_S_impl_Transition_impl_Transition : Nat := 138
abbrev fn_spec_l7On : Nat := 139
abbrev fn_spec_BasicFormulas : Nat := 140
abbrev fn_spec_NormalForm : Nat := 141
abbrev fn_spec_l7Untils : Nat := 142
abbrev fn_spec_l7Value : Nat := 143
abbrev fn_spec_l7Phase : Nat := 144
abbrev fn_spec_l7Letter : Nat := 145
abbrev fn_spec_l7Follows : Nat := 146
abbrev fn_spec_l7Pair : Nat := 147
abbrev fn_spec_l5Random : Nat := 148
abbrev fn_spec_FormulaValid : Nat := 149
abbrev fn_impl_letters_1 : Nat := 150
abbrev fn_spec_l7Loop : Nat := 151
abbrev fn_spec_l4In : Nat := 152
abbrev fn_impl_components : Nat := 153
abbrev fn_slices_Contains_S_int_int : Nat := 154
abbrev fn_slices_pdqsortOrdered_int : Nat := 155
abbrev fn_math_bits_Len : Nat := 156
abbrev fn_impl_clone_bool : Nat := 157
abbrev fn_impl_clone_impl_Transition : Nat := 158
abbrev fn_impl_order : Nat := 159
abbrev fn_impl_shortest : Nat := 160
abbrev fn_impl_lasso_1 : Nat := 161
abbrev fn_impl_around : Nat := 162
abbrev fn_impl_Automaton_values_1 : Nat := 163
abbrev fn_slices_Clone_S_int_int : Nat := 164
abbrev fn_spec_l5Subs : Nat := 165
abbrev fn_spec_l7Basic : Nat := 166
abbrev fn_spec_l5Push : Nat := 167
abbrev fn_spec_l6Has : Nat := 168
abbrev fn_spec_l5Find : Nat := 169
abbrev fn_spec_l7Fulfils : Nat := 170
abbrev fn_spec_l2Ints : Nat := 171
abbrev fn_spec_l5True : Nat := 172
abbrev fn_spec_l5Arity : Nat := 173
abbrev fn_spec_l5Shape : Nat := 174
abbrev fn_spec_l5Count : Nat := 175
abbrev fn_impl_components_1 : Nat := 176
abbrev fn_slices_Index_S_int_int : Nat := 177
abbrev fn_slices_insertionSortOrdered_int : Nat := 178
abbrev fn_slices_heapSortOrdered_int : Nat := 179
abbrev fn_slices_breakPatternsOrdered_int : Nat := 180
abbrev fn_slices_choosePivotOrdered_int : Nat := 181
abbrev fn_slices_reverseRangeOrdered_int : Nat := 182
abbrev fn_slices_partialInsertionSortOrdered_int : Nat := 183
abbrev fn_cmp_Less_int : Nat := 184
abbrev fn_slices_partitionEqualOrdered_int : Nat := 185
abbrev fn_slices_partitionOrdered_int : Nat := 186
abbrev fn_math_bits_Len32 : Nat := 187
abbrev fn_math_bits_Len64 : Nat := 188
abbrev fn_slices_Clip_S_bool_bool : Nat := 189
abbrev fn_slices_Clone_S_bool_bool : Nat := 190
abbrev fn_slices_Clip_S_impl_Transition_impl_Transition : Nat := 191
abbrev fn_slices_Clone_S_impl_Transition_impl_Transition : Nat := 192
abbrev fn_impl_order_1 : Nat := 193
abbrev fn_slices_Reverse_S_int_int : Nat := 194
abbrev fn_impl_around_1 : Nat := 195
abbrev fn_spec_l5Copy : Nat := 196
abbrev fn_spec_l5Not : Nat := 197
abbrev fn_spec_l5Dual : Nat := 198
abbrev fn_spec_FormulaSame : Nat := 199
abbrev fn_slices_siftDownOrdered_int : Nat := 200
abbrev fn_slices_nextPowerOfTwo : Nat := 201
abbrev fn_slices_xorshift_Next : Nat := 202
abbrev fn_slices_medianAdjacentOrdered_int : Nat := 203
abbrev fn_slices_medianOrdered_int : Nat := 204
abbrev fn_cmp_isNaN_int : Nat := 205
abbrev fn_slices_order2Ordered_int : Nat := 206
abbrev fn_runtime_boundsError_Error : Nat := 207
abbrev fn_runtime_boundsError_RuntimeError : Nat := 208
abbrev fn_runtime_errorString_Error : Nat := 209
abbrev fn_runtime_errorString_RuntimeError : Nat := 210
abbrev fn_runtime_plainError_Error : Nat := 211
abbrev fn_runtime_plainError_RuntimeError : Nat := 212
abbrev fn_runtime_errorAddressString_Error : Nat := 213
abbrev fn_runtime_errorAddressString_RuntimeError : Nat := 214
abbrev fn_runtime_TypeAssertionError_Error : Nat := 215
abbrev fn_runtime_TypeAssertionError_RuntimeError : Nat := 216
abbrev fn_runtime_PanicNilError_Error : Nat := 217
abbrev fn_runtime_PanicNilError_RuntimeError : Nat := 218
abbrev fn_internal_abi_Type_Align : Nat := 219
abbrev fn_internal_runtime_maps_unhashableTypeError_Error : Nat := 220
abbrev fn_internal_runtime_maps_unhashableTypeError_RuntimeError : Nat := 221
abbrev fn_impl_Automaton_accepting : Nat := 222
abbrev fn_spec_l16Rd_word : Nat := 223
abbrev fn_impl_Formula_text : Nat := 224
abbrev fn_internal_abi_Kind_String : Nat := 225
end Go.Proofs.Ytglnelcmcimljaa

namespace Go.Proofs.Ytglnelcmcimljaa
open Go
def H_impl_Automaton_values : Hint := ⟨[(0, false), (1, false), (2, true), (3, false), (4, false), (5, false), (6, false), (7, false), (27, false)], [[0, 1, 4, 7, 8]]⟩
def K128_1 : Pl := .m 4 10 .done
@[simp] def W128_1 := Pl.w K128_1.eq_1
def K128_2 : C := .seq (.pl <| .e 9 2 <|
 .m 9 5 <|
 .c 10 (.call fn_slices_Clip_S_int_int [.v 9]) K128_1) (.ret)
@[simp] def W128_2 := C.w K128_2.eq_1
def K128_3 : C := .pl <| .e 9 2 <|
 .l 9 6 <|
 .x 10 (.bin .add (.v 9) (.c (.int .i64 1))) <|
 .o (.ex none (.store 1 (.v 6) (.v 10))) .done
@[simp] def W128_3 := C.w K128_3.eq_1
def K128_4 : Pl := .o (.ex none (.store 1 (.v 6) (.v 8))) .done
@[simp] def W128_4 := Pl.w K128_4.eq_1
def K128_5 : C := .pl <| .e 9 0 <|
 .c 6 (.alloc (.c (.int .i64 0))) K128_4
@[simp] def W128_5 := C.w K128_5.eq_1
def K128_6 : C := .seq (.seq (.pl <| .e 9 0 <|
 .l 8 6 .done) K128_5) K128_3
@[simp] def W128_6 := C.w K128_6.eq_1
def K128_7 : Pl := .m 5 17 .done
@[simp] def W128_7 := Pl.w K128_7.eq_1
def K128_8 : C := .pl <| .e 9 9 <|
 .m 9 5 <|
 .a 10 2 <|
 .g 11 10 2 2 <|
 .m 12 7 <|
 .x 13 (.ia 4 (.v 11) (.v 12)) <|
 .x 14 (.fa 2 (.v 13)) <|
 .l 15 14 <|
 .o (.psl 16 [.int .i64 0] [(0, 1, .v 15)]) <|
 .c 17 (.app 8 1 [.int .i64 0] (.o (.v 9)) (.p 1 16)) K128_7
@[simp] def W128_8 := C.w K128_8.eq_1
def K128_9 : Pl := .m 7 12 .done
@[simp] def W128_9 := Pl.w K128_9.eq_1
def K128_10 : C := .seq (.block 1 (.seq (.pl <| .e 9 4 <|
 .a 9 2 <|
 .g 10 9 2 2 <|
 .x 11 (.mkf (.func fn_impl_Automaton_values_1) [] [.v 3, .v 6]) <|
 .c 12 (.call fn_slices_IndexFunc_S_impl_Transition_impl_Transition [.v 10, .v 11]) K128_9) K128_8)) K128_6
@[simp] def W128_10 := C.w K128_10.eq_1
def K128_11 : C := .cond 9 (.v 12) (.skip) (.exit 0)
@[simp] def W128_11 := C.w K128_11.eq_1
def K128_12 : C := .seq (.seq (.pl <| .e 9 4 <|
 .l 9 6 <|
 .l 10 3 <|
 .x 11 (.lenV (.v 10)) <|
 .x 12 (.bin .lss (.v 9) (.v 11)) .done) K128_11) K128_10
@[simp] def W128_12 := C.w K128_12.eq_1
def K128_13 : C := .block 0 (.loop 9 [0, 1, 4, 7, 8] K128_12)
@[simp] def W128_13 := C.w K128_13.eq_1
def K128_14 : Pl := .o (.ex none (.store 1 (.v 6) (.c (.int .i64 1)))) .done
@[simp] def W128_14 := Pl.w K128_14.eq_1
def K128_15 : C := .seq (.seq (.pl <| .e 9 0 <|
 .c 6 (.alloc (.c (.int .i64 0))) K128_14) K128_13) K128_2
@[simp] def W128_15 := C.w K128_15.eq_1
def K128_16 : C := .seq (.pl <| .e 9 0 <|
 .x 5 (.mv (.c (.slice none 0 0))) .done) K128_15
@[simp] def W128_16 := C.w K128_16.eq_1
def K128_17 : Pl := .x 4 (.mv (.c (.slice none 0 0))) .done
@[simp] def W128_17 := Pl.w K128_17.eq_1
def B_impl_Automaton_values : C := .seq (.pl <| .e 9 0 <|
 .o (.pnew 2 (.v 0) []) <|
 .c 3 (.alloc (.v 1)) K128_17) K128_16
@[simp] def WB_impl_Automaton_values := C.w B_impl_Automaton_values.eq_1
def R_impl_Automaton_values : FIR := ⟨B_impl_Automaton_values, 9, [(4, none)]⟩
theorem IR_impl_Automaton_values : cfun Try.prog H_impl_Automaton_values Try.f128 = some R_impl_Automaton_values := by kernel_rfl
theorem EN_impl_Automaton_values : ENT Try.prog B_impl_Automaton_values [(4, none)] 2 9 fn_impl_Automaton_values := fun hargs hw => enter Try.func128 rfl IR_impl_Automaton_values hargs hw
def H_impl_Automaton_values_1 : Hint := ⟨[(0, false), (1, false), (2, false), (3, true), (4, false)], []⟩
def K163_1 : C := .seq (.pl <| .e 5 17 <|
 .a 5 3 <|
 .g 6 5 3 0 <|
 .l 7 1 <|
 .l 8 2 <|
 .x 9 (.bin .sub (.v 8) (.c (.int .i64 1))) <|
 .x 10 (.ia 1 (.v 7) (.v 9)) <|
 .l 11 10 <|
 .x 12 (.bin .eql (.v 6) (.v 11)) <|
 .m 13 12 <|
 .y 13 (.als 14 none 3) <|
 .y 13 (.pget (some 15) (some 14) 3 3 none) <|
 .y 13 (.ld (some 16) (.v 1) none) <|
 .y 13 (.ld (some 17) (.v 2) none) <|
 .y 13 (.px (some 18) (.ia 1 (.v 16) (.v 17))) <|
 .y 13 (.ld (some 19) (.v 18) none) <|
 .y 13 (.px (some 20) (.bin .eql (.v 15) (.v 19))) <|
 .x 21 (.pick (.v 13) (.v 20) (.c (.bool false))) <|
 .m 4 21 .done) (.ret)
@[simp] def W163_1 := C.w K163_1.eq_1
def B_impl_Automaton_values_1 : C := .seq (.pl <| .e 5 0 <|
 .o (.pnew 3 (.v 0) []) <|
 .x 4 (.mv (.c (.bool false))) .done) K163_1
@[simp] def WB_impl_Automaton_values_1 := C.w B_impl_Automaton_values_1.eq_1
def R_impl_Automaton_values_1 : FIR := ⟨B_impl_Automaton_values_1, 5, [(4, none)]⟩
theorem IR_impl_Automaton_values_1 : cfun Try.prog H_impl_Automaton_values_1 Try.f163 = some R_impl_Automaton_values_1 := by kernel_rfl
theorem EN_impl_Automaton_values_1 : ENT Try.prog B_impl_Automaton_values_1 [(4, none)] 3 5 fn_impl_Automaton_values_1 := fun hargs hw => enter Try.func163 rfl IR_impl_Automaton_values_1 hargs hw
def H_impl_ExtendWord : Hint := ⟨[(0, false), (1, false), (2, true), (4, true), (5, false), (6, false), (7, false), (8, true), (9, true)], []⟩
def K30_1 : C := .seq (.pl <| .e 9 1 <|
 .o (.pget (some 9) none 8 0 (some 2)) <|
 .o (.pset none 3 0 2 (.v 9)) <|
 .x 4 (.mv (.c (.bool true))) .done) (.ret)
@[simp] def W30_1 := C.w K30_1.eq_1
def K30_2 : C := .seq (.pl <| .e 9 1 <|
 .x 9 (.build [.slice none 0 0, .slice none 0 0] []) <|
 .o (.pset none 3 0 2 (.v 9)) <|
 .x 4 (.mv (.c (.bool false))) .done) (.ret)
@[simp] def W30_2 := C.w K30_2.eq_1
def K30_3 : C := .cond 9 (.v 15) K30_2 (.skip)
@[simp] def W30_3 := C.w K30_3.eq_1
def K30_4 : Pl := .n 11 (.px (some 14) (.un .not (.v 13))) <|
 .x 15 (.pick (.v 11) (.c (.bool true)) (.v 14)) .done
@[simp] def W30_4 := Pl.w K30_4.eq_1
def K30_5 : C := .seq (.seq (.pl <| .e 9 7 <|
 .m 9 6 <|
 .x 10 (.un .not (.v 9)) <|
 .m 11 10 <|
 .n 11 (.pget (some 12) none 8 0 (some 2)) <|
 .st (.act (some (.v 11, false)) (.ex (some 13) (.call fn_impl_LassoValid [.v 12]))) K30_4) K30_3) K30_1
@[simp] def W30_5 := C.w K30_5.eq_1
def K30_6 : Pl := .x 17 (.build [.slice none 0 0, .slice none 0 0] [(0, 1, .v 14), (1, 1, .v 16)]) <|
 .o (.pset none 8 0 2 (.v 17)) .done
@[simp] def W30_6 := Pl.w K30_6.eq_1
def K30_7 : Pl := .c 14 (.call fn_slices_Clip_S_int_int [.v 13]) K30_6
@[simp] def W30_7 := Pl.w K30_7.eq_1
def K30_8 : Pl := .c 13 (.call fn_slices_Concat_S_int_int [.v 12]) K30_7
@[simp] def W30_8 := Pl.w K30_8.eq_1
def K30_9 : C := .seq (.pl <| .e 9 9 <|
 .m 9 1 <|
 .a 10 7 <|
 .g 11 10 7 0 <|
 .a 15 7 <|
 .g 16 15 7 1 <|
 .o (.pnew 8 (.c (.agg #[.slice none 0 0, .slice none 0 0])) []) <|
 .c 12 (.bls 1 2 [.slice none 0 0] [(0, 1, .v 9), (1, 1, .v 11)]) K30_8) K30_5
@[simp] def W30_9 := C.w K30_9.eq_1
def K30_10 : Pl := .m 16 15 <|
 .x 17 (.extract 0 (.v 16)) <|
 .x 18 (.extract 1 (.v 16)) <|
 .o (.pnew 7 (.c (.agg #[.slice none 0 0, .slice none 0 0])) []) <|
 .o (.pset none 7 0 2 (.v 17)) <|
 .m 6 18 .done
@[simp] def W30_10 := Pl.w K30_10.eq_1
def K30_11 : C := .seq (.pl <| .e 9 10 <|
 .m 9 5 <|
 .a 10 2 <|
 .g 11 10 2 1 <|
 .a 12 2 <|
 .g 13 12 2 2 <|
 .x 14 (.build [.slice none 0 0, .slice none 0 0, .slice none 0 0] [(0, 1, .v 9), (1, 1, .v 11), (2, 1, .v 13)]) <|
 .c 15 (.call fn_impl_FindWord [.v 14]) K30_10) K30_9
@[simp] def W30_11 := C.w K30_11.eq_1
def K30_12 : C := .seq (.pl <| .e 9 1 <|
 .x 9 (.build [.slice none 0 0, .slice none 0 0] []) <|
 .o (.pset none 3 0 2 (.v 9)) <|
 .x 4 (.mv (.c (.bool false))) .done) (.ret)
@[simp] def W30_12 := C.w K30_12.eq_1
def K30_13 : C := .cond 9 (.v 15) K30_12 (.skip)
@[simp] def W30_13 := C.w K30_13.eq_1
def K30_14 : C := .seq (.seq (.pl <| .e 9 7 <|
 .m 9 6 <|
 .x 10 (.un .not (.v 9)) <|
 .m 11 10 <|
 .n 11 (.px (some 12) (.mv (.v 5))) <|
 .n 11 (.px (some 13) (.lenV (.v 12))) <|
 .n 11 (.px (some 14) (.bin .eql (.v 13) (.c (.int .i64 0)))) <|
 .x 15 (.pick (.v 11) (.c (.bool true)) (.v 14)) .done) K30_13) K30_11
@[simp] def W30_14 := C.w K30_14.eq_1
def K30_15 : Pl := .m 12 11 <|
 .x 13 (.extract 0 (.v 12)) <|
 .x 14 (.extract 1 (.v 12)) <|
 .m 5 13 <|
 .m 6 14 .done
@[simp] def W30_15 := Pl.w K30_15.eq_1
def K30_16 : C := .seq (.pl <| .e 9 6 <|
 .o (.pget (some 9) none 2 0 (some 3)) <|
 .m 10 1 <|
 .c 11 (.call fn_impl_PrefixStates [.v 9, .v 10]) K30_15) K30_14
@[simp] def W30_16 := C.w K30_16.eq_1
def B_impl_ExtendWord : C := .seq (.pl <| .e 9 0 <|
 .o (.pnew 2 (.v 0) []) <|
 .o (.pnew 3 (.c (.agg #[.slice none 0 0, .slice none 0 0])) []) <|
 .x 4 (.mv (.c (.bool false))) .done) K30_16
@[simp] def WB_impl_ExtendWord := C.w B_impl_ExtendWord.eq_1
def R_impl_ExtendWord : FIR := ⟨B_impl_ExtendWord, 9, [(3, some (some 2)), (4, none)]⟩
theorem IR_impl_ExtendWord : cfun Try.prog H_impl_ExtendWord Try.f30 = some R_impl_ExtendWord := by kernel_rfl
theorem EN_impl_ExtendWord : ENT Try.prog B_impl_ExtendWord [(3, some (some 2)), (4, none)] 2 9 fn_impl_ExtendWord := fun hargs hw => enter Try.func30 rfl IR_impl_ExtendWord hargs hw
def H_impl_FindWord : Hint := ⟨[(0, false), (1, false), (2, true), (3, false), (4, false), (5, false), (6, false)], []⟩
def K71_1 : Pl := .x 25 (.build [.slice none 0 0, .slice none 0 0] [(0, 1, .v 15), (1, 1, .v 24)]) <|
 .o (.pset none 2 0 2 (.v 25)) <|
 .x 3 (.mv (.c (.bool true))) .done
@[simp] def W71_1 := Pl.w K71_1.eq_1
def K71_2 : Pl := .st (.re 16 (.v 1) (some 3) none) <|
 .c 24 (.call fn_impl_Automaton_values [.v 16, .v 23]) K71_1
@[simp] def W71_2 := Pl.w K71_2.eq_1
def K71_3 : Pl := .st (.re 16 (.v 1) (some 3) none) <|
 .st (.re 21 (.v 20) none none) <|
 .c 23 (.app 8 1 [.int .i64 0] (.o (.v 18)) (.p 1 22)) K71_2
@[simp] def W71_3 := Pl.w K71_3.eq_1
def K71_4 : Pl := .st (.re 16 (.v 1) (some 3) none) <|
 .st (.re 21 (.v 20) none none) <|
 .c 18 (.call fn_impl_clone_int [.v 17]) K71_3
@[simp] def W71_4 := Pl.w K71_4.eq_1
def K71_5 : Pl := .st (.re 7 (.v 1) (some 3) none) <|
 .st (.re 16 (.v 1) (some 3) none) <|
 .st (.re 21 (.v 20) none none) <|
 .c 15 (.call fn_impl_Automaton_values [.v 7, .v 14]) K71_4
@[simp] def W71_5 := Pl.w K71_5.eq_1
def K71_6 : Pl := .st (.re 7 (.v 1) (some 3) none) <|
 .st (.re 12 (.v 11) none none) <|
 .st (.re 16 (.v 1) (some 3) none) <|
 .st (.re 21 (.v 20) none none) <|
 .c 14 (.app 8 1 [.int .i64 0] (.o (.v 9)) (.p 1 13)) K71_5
@[simp] def W71_6 := Pl.w K71_6.eq_1
def K71_7 : C := .seq (.pl <| .e 7 19 <|
 .o (.ld (some 7) (.v 1) (some 3)) <|
 .m 8 4 <|
 .m 10 5 <|
 .x 11 (.ia 1 (.v 10) (.c (.int .i64 0))) <|
 .l 12 11 <|
 .o (.psl 13 [.int .i64 0] [(0, 1, .v 12)]) <|
 .o (.ld (some 16) (.v 1) (some 3)) <|
 .m 17 5 <|
 .m 19 5 <|
 .x 20 (.ia 1 (.v 19) (.c (.int .i64 0))) <|
 .l 21 20 <|
 .o (.psl 22 [.int .i64 0] [(0, 1, .v 21)]) <|
 .c 9 (.call fn_impl_clone_int [.v 8]) K71_6) (.ret)
@[simp] def W71_7 := C.w K71_7.eq_1
def K71_8 : C := .seq (.pl <| .e 7 1 <|
 .x 7 (.build [.slice none 0 0, .slice none 0 0] []) <|
 .o (.pset none 2 0 2 (.v 7)) <|
 .x 3 (.mv (.c (.bool false))) .done) (.ret)
@[simp] def W71_8 := C.w K71_8.eq_1
def K71_9 : C := .cond 7 (.v 8) K71_8 (.skip)
@[simp] def W71_9 := C.w K71_9.eq_1
def K71_10 : C := .seq (.seq (.pl <| .e 7 2 <|
 .m 7 6 <|
 .x 8 (.un .not (.v 7)) .done) K71_9) K71_7
@[simp] def W71_10 := C.w K71_10.eq_1
def K71_11 : Pl := .m 13 12 <|
 .x 14 (.extract 0 (.v 13)) <|
 .x 15 (.extract 1 (.v 13)) <|
 .x 16 (.extract 2 (.v 13)) <|
 .m 4 14 <|
 .m 5 15 <|
 .m 6 16 .done
@[simp] def W71_11 := Pl.w K71_11.eq_1
def K71_12 : Pl := .st (.re 10 (.v 9) none none) <|
 .c 12 (.call fn_impl_lasso [.v 8, .v 10, .v 11]) K71_11
@[simp] def W71_12 := Pl.w K71_12.eq_1
def K71_13 : C := .seq (.pl <| .e 7 10 <|
 .o (.ld (some 7) (.v 1) (some 3)) <|
 .x 9 (.fa 0 (.v 1)) <|
 .l 10 9 <|
 .x 11 (.mkf (.func fn_impl_FindWord_1) [] [.v 1]) <|
 .c 8 (.call fn_impl_Automaton_next [.v 7]) K71_12) K71_10
@[simp] def W71_13 := C.w K71_13.eq_1
def K71_14 : C := .seq (.pl <| .e 7 1 <|
 .x 7 (.build [.slice none 0 0, .slice none 0 0] []) <|
 .o (.pset none 2 0 2 (.v 7)) <|
 .x 3 (.mv (.c (.bool false))) .done) (.ret)
@[simp] def W71_14 := C.w K71_14.eq_1
def K71_15 : C := .cond 7 (.v 9) K71_14 (.skip)
@[simp] def W71_15 := C.w K71_15.eq_1
def K71_16 : Pl := .x 9 (.un .not (.v 8)) .done
@[simp] def W71_16 := Pl.w K71_16.eq_1
def K71_17 : C := .seq (.seq (.pl <| .e 7 3 <|
 .o (.ld (some 7) (.v 1) (some 3)) <|
 .c 8 (.call fn_impl_AutomatonValid [.v 7]) K71_16) K71_15) K71_13
@[simp] def W71_17 := C.w K71_17.eq_1
def K71_18 : Pl := .o (.pnew 2 (.c (.agg #[.slice none 0 0, .slice none 0 0])) []) <|
 .x 3 (.mv (.c (.bool false))) .done
@[simp] def W71_18 := Pl.w K71_18.eq_1
def B_impl_FindWord : C := .seq (.pl <| .e 7 0 <|
 .c 1 (.alloc (.v 0)) K71_18) K71_17
@[simp] def WB_impl_FindWord := C.w B_impl_FindWord.eq_1
def R_impl_FindWord : FIR := ⟨B_impl_FindWord, 7, [(2, some (some 2)), (3, none)]⟩
theorem IR_impl_FindWord : cfun Try.prog H_impl_FindWord Try.f71 = some R_impl_FindWord := by kernel_rfl
theorem EN_impl_FindWord : ENT Try.prog B_impl_FindWord [(2, some (some 2)), (3, none)] 1 7 fn_impl_FindWord := fun hargs hw => enter Try.func71 rfl IR_impl_FindWord hargs hw
def H_impl_FindWord_1 : Hint := ⟨[(0, false), (1, false), (3, false)], []⟩
def K127_1 : C := .seq (.pl <| .e 3 5 <|
 .x 3 (.fa 1 (.v 1)) <|
 .l 4 3 <|
 .m 5 0 <|
 .x 6 (.ia 1 (.v 4) (.v 5)) <|
 .l 7 6 <|
 .m 2 7 .done) (.ret)
@[simp] def W127_1 := C.w K127_1.eq_1
def B_impl_FindWord_1 : C := .seq (.pl <| .e 3 0 <|
 .x 2 (.mv (.c (.bool false))) .done) K127_1
@[simp] def WB_impl_FindWord_1 := C.w B_impl_FindWord_1.eq_1
def R_impl_FindWord_1 : FIR := ⟨B_impl_FindWord_1, 3, [(2, none)]⟩
theorem IR_impl_FindWord_1 : cfun Try.prog H_impl_FindWord_1 Try.f127 = some R_impl_FindWord_1 := by kernel_rfl
theorem EN_impl_FindWord_1 : ENT Try.prog B_impl_FindWord_1 [(2, none)] 2 3 fn_impl_FindWord_1 := fun hargs hw => enter Try.func127 rfl IR_impl_FindWord_1 hargs hw
def H_impl_around : Hint := ⟨[(0, false), (1, false), (2, false), (3, false), (4, false)], []⟩
def K162_1 : Pl := .m 4 9 .done
@[simp] def W162_1 := Pl.w K162_1.eq_1
def K162_2 : Pl := .x 8 (.mkf (.func fn_impl_around_1) [] [.v 3, .v 2]) <|
 .c 9 (.call fn_impl_shortest [.v 5, .v 7, .v 8]) K162_1
@[simp] def W162_2 := Pl.w K162_2.eq_1
def K162_3 : C := .seq (.pl <| .e 5 5 <|
 .l 5 2 <|
 .l 6 3 <|
 .c 7 (.bls 1 1 [.int .i64 0] [(0, 1, .v 6)]) K162_2) (.ret)
@[simp] def W162_3 := C.w K162_3.eq_1
def K162_4 : Pl := .m 4 6 .done
@[simp] def W162_4 := Pl.w K162_4.eq_1
def K162_5 : C := .seq (.pl <| .e 5 2 <|
 .l 5 3 <|
 .c 6 (.bls 1 1 [.int .i64 0] [(0, 1, .v 5)]) K162_4) (.ret)
@[simp] def W162_5 := C.w K162_5.eq_1
def K162_6 : C := .cond 5 (.v 10) K162_5 (.skip)
@[simp] def W162_6 := C.w K162_6.eq_1
def K162_7 : C := .seq (.seq (.pl <| .e 5 6 <|
 .l 5 2 <|
 .l 6 3 <|
 .x 7 (.ia 1 (.v 5) (.v 6)) <|
 .l 8 7 <|
 .l 9 3 <|
 .c 10 (.call fn_slices_Contains_S_int_int [.v 8, .v 9]) .done) K162_6) K162_3
@[simp] def W162_7 := C.w K162_7.eq_1
def K162_8 : Pl := .x 4 (.mv (.c (.slice none 0 0))) .done
@[simp] def W162_8 := Pl.w K162_8.eq_1
def K162_9 : Pl := .c 3 (.alloc (.v 1)) K162_8
@[simp] def W162_9 := Pl.w K162_9.eq_1
def B_impl_around : C := .seq (.pl <| .e 5 0 <|
 .c 2 (.alloc (.v 0)) K162_9) K162_7
@[simp] def WB_impl_around := C.w B_impl_around.eq_1
def R_impl_around : FIR := ⟨B_impl_around, 5, [(4, none)]⟩
theorem IR_impl_around : cfun Try.prog H_impl_around Try.f162 = some R_impl_around := by kernel_rfl
theorem EN_impl_around : ENT Try.prog B_impl_around [(4, none)] 2 5 fn_impl_around := fun hargs hw => enter Try.func162 rfl IR_impl_around hargs hw
def H_impl_around_1 : Hint := ⟨[(0, false), (1, false), (2, false), (4, false)], []⟩
def K195_1 : Pl := .x 14 (.pick (.v 7) (.v 13) (.c (.bool false))) <|
 .m 3 14 .done
@[simp] def W195_1 := Pl.w K195_1.eq_1
def K195_2 : C := .seq (.pl <| .e 4 11 <|
 .m 4 0 <|
 .l 5 1 <|
 .x 6 (.bin .neq (.v 4) (.v 5)) <|
 .m 7 6 <|
 .y 7 (.ld (some 8) (.v 2) none) <|
 .y 7 (.px (some 9) (.mv (.v 0))) <|
 .y 7 (.px (some 10) (.ia 1 (.v 8) (.v 9))) <|
 .y 7 (.ld (some 11) (.v 10) none) <|
 .y 7 (.ld (some 12) (.v 1) none) <|
 .st (.act (some (.v 7, true)) (.ex (some 13) (.call fn_slices_Contains_S_int_int [.v 11, .v 12]))) K195_1) (.ret)
@[simp] def W195_2 := C.w K195_2.eq_1
def B_impl_around_1 : C := .seq (.pl <| .e 4 0 <|
 .x 3 (.mv (.c (.bool false))) .done) K195_2
@[simp] def WB_impl_around_1 := C.w B_impl_around_1.eq_1
def R_impl_around_1 : FIR := ⟨B_impl_around_1, 4, [(3, none)]⟩
theorem IR_impl_around_1 : cfun Try.prog H_impl_around_1 Try.f195 = some R_impl_around_1 := by kernel_rfl
theorem EN_impl_around_1 : ENT Try.prog B_impl_around_1 [(3, none)] 3 4 fn_impl_around_1 := fun hargs hw => enter Try.func195 rfl IR_impl_around_1 hargs hw
def H_impl_lasso : Hint := ⟨[(0, false), (1, false), (2, false), (6, false), (7, false), (8, false), (9, false), (11, false), (12, false), (17, false), (18, false), (19, false)], [[3, 4, 5, 7, 8]]⟩
def K126_1 : C := .seq (.pl <| .e 12 0 <|
 .x 3 (.mv (.c (.slice none 0 0))) <|
 .x 4 (.mv (.c (.slice none 0 0))) <|
 .x 5 (.mv (.c (.bool false))) .done) (.ret)
@[simp] def W126_1 := C.w K126_1.eq_1
def K126_2 : C := .pl <| .e 12 1 <|
 .x 12 (.bin .add (.v 11) (.c (.int .i64 1))) <|
 .m 11 12 .done
@[simp] def W126_2 := C.w K126_2.eq_1
def K126_3 : Pl := .m 3 16 <|
 .m 4 19 <|
 .x 5 (.mv (.c (.bool true))) .done
@[simp] def W126_3 := Pl.w K126_3.eq_1
def K126_4 : C := .seq (.pl <| .e 12 8 <|
 .m 12 8 <|
 .m 13 8 <|
 .x 14 (.lenV (.v 13)) <|
 .x 15 (.bin .sub (.v 14) (.c (.int .i64 1))) <|
 .x 16 (.sliceV 1 (.v 12) none (some (.v 15)) none) <|
 .m 17 0 <|
 .l 18 7 <|
 .c 19 (.call fn_impl_around [.v 17, .v 18]) K126_3) (.ret)
@[simp] def W126_4 := C.w K126_4.eq_1
def K126_5 : Pl := .m 8 15 .done
@[simp] def W126_5 := Pl.w K126_5.eq_1
def K126_6 : C := .seq (.pl <| .e 12 4 <|
 .m 12 0 <|
 .m 13 1 <|
 .x 14 (.mkf (.func fn_impl_lasso_1) [] [.v 7]) <|
 .c 15 (.call fn_impl_shortest [.v 12, .v 13, .v 14]) K126_5) K126_4
@[simp] def W126_6 := C.w K126_6.eq_1
def K126_7 : C := .cond 12 (.v 20) K126_6 (.skip)
@[simp] def W126_7 := C.w K126_7.eq_1
def K126_8 : Pl := .m 15 14 <|
 .y 15 (.px (some 16) (.mv (.v 6))) <|
 .y 15 (.ld (some 17) (.v 7) none) <|
 .y 15 (.px (some 18) (.ia 1 (.v 16) (.v 17))) <|
 .y 15 (.ld (some 19) (.v 18) none) <|
 .x 20 (.pick (.v 15) (.v 19) (.c (.bool false))) .done
@[simp] def W126_8 := Pl.w K126_8.eq_1
def K126_9 : C := .seq (.pl <| .e 12 9 <|
 .m 12 2 <|
 .l 13 7 <|
 .c 14 (.callv (.v 12) [.v 13]) K126_8) K126_7
@[simp] def W126_9 := C.w K126_9.eq_1
def K126_10 : Pl := .o (.ex none (.store 1 (.v 7) (.v 13))) .done
@[simp] def W126_10 := Pl.w K126_10.eq_1
def K126_11 : C := .seq (.block 1 (.seq (.pl <| .e 12 2 <|
 .x 12 (.ia 1 (.v 9) (.v 11)) <|
 .l 13 12 <|
 .c 7 (.alloc (.c (.int .i64 0))) K126_10) K126_9)) K126_2
@[simp] def W126_11 := C.w K126_11.eq_1
def K126_12 : C := .seq (.cond 12 (.v 12) (.skip) (.exit 0)) K126_11
@[simp] def W126_12 := C.w K126_12.eq_1
def K126_13 : C := .seq (.pl <| .e 12 1 <|
 .x 12 (.bin .lss (.v 11) (.v 10)) .done) K126_12
@[simp] def W126_13 := C.w K126_13.eq_1
def K126_14 : C := .block 0 (.loop 12 [3, 4, 5, 7, 8] K126_13)
@[simp] def W126_14 := C.w K126_14.eq_1
def K126_15 : Pl := .x 10 (.lenV (.v 9)) <|
 .x 11 (.mv (.c (.int .i64 0))) .done
@[simp] def W126_15 := Pl.w K126_15.eq_1
def K126_16 : C := .seq (.seq (.pl <| .e 12 2 <|
 .m 12 0 <|
 .m 13 1 <|
 .c 9 (.call fn_impl_order [.v 12, .v 13]) K126_15) K126_14) K126_1
@[simp] def W126_16 := C.w K126_16.eq_1
def K126_17 : Pl := .m 6 13 .done
@[simp] def W126_17 := Pl.w K126_17.eq_1
def K126_18 : C := .seq (.pl <| .e 12 2 <|
 .m 12 0 <|
 .c 13 (.call fn_impl_cyclic [.v 12]) K126_17) K126_16
@[simp] def W126_18 := C.w K126_18.eq_1
def B_impl_lasso : C := .seq (.pl <| .e 12 0 <|
 .x 3 (.mv (.c (.slice none 0 0))) <|
 .x 4 (.mv (.c (.slice none 0 0))) <|
 .x 5 (.mv (.c (.bool false))) .done) K126_18
@[simp] def WB_impl_lasso := C.w B_impl_lasso.eq_1
def R_impl_lasso : FIR := ⟨B_impl_lasso, 12, [(3, none), (4, none), (5, none)]⟩
theorem IR_impl_lasso : cfun Try.prog H_impl_lasso Try.f126 = some R_impl_lasso := by kernel_rfl
theorem EN_impl_lasso : ENT Try.prog B_impl_lasso [(3, none), (4, none), (5, none)] 3 12 fn_impl_lasso := fun hargs hw => enter Try.func126 rfl IR_impl_lasso hargs hw
def H_impl_lasso_1 : Hint := ⟨[(0, false), (1, false), (3, false)], []⟩
def K161_1 : C := .seq (.pl <| .e 3 3 <|
 .m 3 0 <|
 .l 4 1 <|
 .x 5 (.bin .eql (.v 3) (.v 4)) <|
 .m 2 5 .done) (.ret)
@[simp] def W161_1 := C.w K161_1.eq_1
def B_impl_lasso_1 : C := .seq (.pl <| .e 3 0 <|
 .x 2 (.mv (.c (.bool false))) .done) K161_1
@[simp] def WB_impl_lasso_1 := C.w B_impl_lasso_1.eq_1
def R_impl_lasso_1 : FIR := ⟨B_impl_lasso_1, 3, [(2, none)]⟩
theorem IR_impl_lasso_1 : cfun Try.prog H_impl_lasso_1 Try.f161 = some R_impl_lasso_1 := by kernel_rfl
theorem EN_impl_lasso_1 : ENT Try.prog B_impl_lasso_1 [(2, none)] 2 3 fn_impl_lasso_1 := fun hargs hw => enter Try.func161 rfl IR_impl_lasso_1 hargs hw
def H_impl_order : Hint := ⟨[(0, false), (1, false), (4, false), (5, false), (6, false), (7, false), (9, false), (10, false), (12, false), (17, false), (18, false), (19, false), (39, false), (40, false), (41, false)], [[1, 2, 3, 6, 7, 8, 12, 13, 14], [1, 2, 3, 6, 8, 9, 10, 11, 12, 13, 14], [1, 2, 3, 6, 8, 9, 10, 11]]⟩
def K159_1 : C := .seq (.pl <| .e 15 1 <|
 .l 15 4 <|
 .m 2 15 .done) (.ret)
@[simp] def W159_1 := C.w K159_1.eq_1
def K159_2 : C := .pl <| .e 15 2 <|
 .m 15 7 <|
 .x 16 (.bin .add (.v 15) (.c (.int .i64 1))) <|
 .m 7 16 .done
@[simp] def W159_2 := C.w K159_2.eq_1
def K159_3 : C := .pl <| .e 15 1 <|
 .x 15 (.bin .add (.v 14) (.c (.int .i64 1))) <|
 .m 14 15 .done
@[simp] def W159_3 := C.w K159_3.eq_1
def K159_4 : C := .pl <| .e 15 3 <|
 .m 15 5 <|
 .m 16 8 <|
 .c 17 (.callv (.v 15) [.v 16]) .done
@[simp] def W159_4 := C.w K159_4.eq_1
def K159_5 : C := .seq (.block 5 (.seq (.pl <| .e 15 2 <|
 .x 15 (.ia 1 (.v 12) (.v 14)) <|
 .l 16 15 <|
 .m 8 16 .done) K159_4)) K159_3
@[simp] def W159_5 := C.w K159_5.eq_1
def K159_6 : C := .seq (.cond 15 (.v 15) (.skip) (.exit 4)) K159_5
@[simp] def W159_6 := C.w K159_6.eq_1
def K159_7 : C := .seq (.pl <| .e 15 1 <|
 .x 15 (.bin .lss (.v 14) (.v 13)) .done) K159_6
@[simp] def W159_7 := C.w K159_7.eq_1
def K159_8 : C := .block 4 (.loop 15 [1, 2, 3, 6, 8, 9, 10, 11] K159_7)
@[simp] def W159_8 := C.w K159_8.eq_1
def K159_9 : C := .seq (.block 3 (.seq (.pl <| .e 15 6 <|
 .m 15 0 <|
 .l 16 4 <|
 .m 17 7 <|
 .x 18 (.ia 1 (.v 16) (.v 17)) <|
 .l 19 18 <|
 .x 20 (.ia 1 (.v 15) (.v 19)) <|
 .l 12 20 <|
 .x 13 (.lenV (.v 12)) <|
 .x 14 (.mv (.c (.int .i64 0))) .done) K159_8)) K159_2
@[simp] def W159_9 := C.w K159_9.eq_1
def K159_10 : C := .cond 15 (.v 18) (.skip) (.exit 2)
@[simp] def W159_10 := C.w K159_10.eq_1
def K159_11 : C := .seq (.seq (.pl <| .e 15 4 <|
 .m 15 7 <|
 .l 16 4 <|
 .x 17 (.lenV (.v 16)) <|
 .x 18 (.bin .lss (.v 15) (.v 17)) .done) K159_10) K159_9
@[simp] def W159_11 := C.w K159_11.eq_1
def K159_12 : C := .block 2 (.loop 15 [1, 2, 3, 6, 8, 9, 10, 11, 12, 13, 14] K159_11)
@[simp] def W159_12 := C.w K159_12.eq_1
def K159_13 : C := .seq (.seq (.pl <| .e 15 0 <|
 .x 7 (.mv (.c (.int .i64 0))) .done) K159_12) K159_1
@[simp] def W159_13 := C.w K159_13.eq_1
def K159_14 : C := .pl <| .e 15 1 <|
 .x 15 (.bin .add (.v 11) (.c (.int .i64 1))) <|
 .m 11 15 .done
@[simp] def W159_14 := C.w K159_14.eq_1
def K159_15 : C := .pl <| .e 15 3 <|
 .m 15 5 <|
 .m 16 6 <|
 .c 17 (.callv (.v 15) [.v 16]) .done
@[simp] def W159_15 := C.w K159_15.eq_1
def K159_16 : C := .seq (.block 1 (.seq (.pl <| .e 15 2 <|
 .x 15 (.ia 1 (.v 9) (.v 11)) <|
 .l 16 15 <|
 .m 6 16 .done) K159_15)) K159_14
@[simp] def W159_16 := C.w K159_16.eq_1
def K159_17 : C := .seq (.cond 15 (.v 15) (.skip) (.exit 0)) K159_16
@[simp] def W159_17 := C.w K159_17.eq_1
def K159_18 : C := .seq (.pl <| .e 15 1 <|
 .x 15 (.bin .lss (.v 11) (.v 10)) .done) K159_17
@[simp] def W159_18 := C.w K159_18.eq_1
def K159_19 : C := .block 0 (.loop 15 [1, 2, 3, 6, 7, 8, 12, 13, 14] K159_18)
@[simp] def W159_19 := C.w K159_19.eq_1
def K159_20 : C := .seq (.seq (.pl <| .e 15 0 <|
 .m 9 1 <|
 .x 10 (.lenV (.v 9)) <|
 .x 11 (.mv (.c (.int .i64 0))) .done) K159_19) K159_13
@[simp] def W159_20 := C.w K159_20.eq_1
def K159_21 : C := .seq (.pl <| .e 15 1 <|
 .x 15 (.mkf (.func fn_impl_order_1) [] [.v 3, .v 4]) <|
 .m 5 15 .done) K159_20
@[simp] def W159_21 := C.w K159_21.eq_1
def K159_22 : C := .seq (.pl <| .e 15 0 <|
 .c 4 (.alloc (.c (.slice none 0 0))) .done) K159_21
@[simp] def W159_22 := C.w K159_22.eq_1
def K159_23 : Pl := .o (.ex none (.store 1 (.v 3) (.v 17))) .done
@[simp] def W159_23 := Pl.w K159_23.eq_1
def K159_24 : Pl := .c 3 (.alloc (.c (.slice none 0 0))) K159_23
@[simp] def W159_24 := Pl.w K159_24.eq_1
def K159_25 : C := .seq (.pl <| .e 15 3 <|
 .m 15 0 <|
 .x 16 (.lenV (.v 15)) <|
 .c 17 (.mks 1 1 [.bool false] (.v 16) (.v 16)) K159_24) K159_22
@[simp] def W159_25 := C.w K159_25.eq_1
def B_impl_order : C := .seq (.pl <| .e 15 0 <|
 .x 2 (.mv (.c (.slice none 0 0))) .done) K159_25
@[simp] def WB_impl_order := C.w B_impl_order.eq_1
def R_impl_order : FIR := ⟨B_impl_order, 15, [(2, none)]⟩
theorem IR_impl_order : cfun Try.prog H_impl_order Try.f159 = some R_impl_order := by kernel_rfl
theorem EN_impl_order : ENT Try.prog B_impl_order [(2, none)] 2 15 fn_impl_order := fun hargs hw => enter Try.func159 rfl IR_impl_order hargs hw
def H_impl_order_1 : Hint := ⟨[(0, false), (1, false), (2, false)], []⟩
def K193_1 : Pl := .o (.ex none (.store 1 (.v 2) (.v 6))) .done
@[simp] def W193_1 := Pl.w K193_1.eq_1
def K193_2 : C := .pl <| .e 3 4 <|
 .l 3 2 <|
 .m 4 0 <|
 .o (.psl 5 [.int .i64 0] [(0, 1, .v 4)]) <|
 .c 6 (.app 8 1 [.int .i64 0] (.o (.v 3)) (.p 1 5)) K193_1
@[simp] def W193_2 := C.w K193_2.eq_1
def K193_3 : C := .seq (.pl <| .e 3 3 <|
 .l 3 1 <|
 .m 4 0 <|
 .x 5 (.ia 1 (.v 3) (.v 4)) <|
 .o (.ex none (.store 1 (.v 5) (.c (.bool true)))) .done) K193_2
@[simp] def W193_3 := C.w K193_3.eq_1
def K193_4 : C := .cond 3 (.v 7) K193_3 (.skip)
@[simp] def W193_4 := C.w K193_4.eq_1
def B_impl_order_1 : C := .seq (.pl <| .e 3 5 <|
 .l 3 1 <|
 .m 4 0 <|
 .x 5 (.ia 1 (.v 3) (.v 4)) <|
 .l 6 5 <|
 .x 7 (.un .not (.v 6)) .done) K193_4
@[simp] def WB_impl_order_1 := C.w B_impl_order_1.eq_1
def R_impl_order_1 : FIR := ⟨B_impl_order_1, 3, []⟩
theorem IR_impl_order_1 : cfun Try.prog H_impl_order_1 Try.f193 = some R_impl_order_1 := by kernel_rfl
theorem EN_impl_order_1 : ENT Try.prog B_impl_order_1 [] 3 3 fn_impl_order_1 := fun hargs hw => enter Try.func193 rfl IR_impl_order_1 hargs hw
def H_impl_shortest : Hint := ⟨[(0, false), (1, false), (2, false), (6, false), (7, false), (8, false), (9, false), (11, false), (12, false), (13, false), (14, false), (16, false), (21, false), (22, false), (29, false), (30, false), (31, false), (76, false), (77, false), (78, false)], [[3, 5, 6, 7, 8, 9, 10, 11, 14, 15, 16, 17, 18, 19], [1, 3, 5, 7, 8, 9, 10, 11, 12, 13, 17, 18, 19], [1, 3, 5, 7, 9, 10, 11, 12, 13, 14, 15, 16, 17, 18, 19], [0, 1, 2, 3, 5, 6, 7, 8, 11, 12, 13, 14, 15, 16, 17, 18, 19], [1, 3, 5, 7, 9, 10, 11, 12, 13, 14, 15, 16]]⟩
def K160_1 : C := .seq (.pl <| .e 20 0 <|
 .x 3 (.mv (.c (.slice none 0 0))) .done) (.ret)
@[simp] def W160_1 := C.w K160_1.eq_1
def K160_2 : C := .pl <| .e 20 2 <|
 .m 20 8 <|
 .x 21 (.bin .add (.v 20) (.c (.int .i64 1))) <|
 .m 8 21 .done
@[simp] def W160_2 := C.w K160_2.eq_1
def K160_3 : C := .pl <| .e 20 1 <|
 .x 20 (.bin .add (.v 19) (.c (.int .i64 1))) <|
 .m 19 20 .done
@[simp] def W160_3 := C.w K160_3.eq_1
def K160_4 : Pl := .m 6 23 .done
@[simp] def W160_4 := Pl.w K160_4.eq_1
def K160_5 : C := .pl <| .e 20 4 <|
 .m 20 6 <|
 .m 21 11 <|
 .o (.psl 22 [.int .i64 0] [(0, 1, .v 21)]) <|
 .c 23 (.app 8 1 [.int .i64 0] (.o (.v 20)) (.p 1 22)) K160_4
@[simp] def W160_5 := C.w K160_5.eq_1
def K160_6 : C := .seq (.pl <| .e 20 7 <|
 .m 20 4 <|
 .m 21 11 <|
 .m 22 6 <|
 .m 23 8 <|
 .x 24 (.ia 1 (.v 22) (.v 23)) <|
 .l 25 24 <|
 .x 26 (.ia 1 (.v 20) (.v 21)) <|
 .o (.ex none (.store 1 (.v 26) (.v 25))) .done) K160_5
@[simp] def W160_6 := C.w K160_6.eq_1
def K160_7 : C := .cond 20 (.v 24) K160_6 (.skip)
@[simp] def W160_7 := C.w K160_7.eq_1
def K160_8 : C := .seq (.pl <| .e 20 5 <|
 .m 20 4 <|
 .m 21 11 <|
 .x 22 (.ia 1 (.v 20) (.v 21)) <|
 .l 23 22 <|
 .x 24 (.bin .eql (.v 23) (.c (.int .i64 (-2)))) .done) K160_7
@[simp] def W160_8 := C.w K160_8.eq_1
def K160_9 : C := .seq (.block 9 (.seq (.pl <| .e 20 2 <|
 .x 20 (.ia 1 (.v 17) (.v 19)) <|
 .l 21 20 <|
 .m 11 21 .done) K160_8)) K160_3
@[simp] def W160_9 := C.w K160_9.eq_1
def K160_10 : C := .seq (.cond 20 (.v 20) (.skip) (.exit 8)) K160_9
@[simp] def W160_10 := C.w K160_10.eq_1
def K160_11 : C := .seq (.pl <| .e 20 1 <|
 .x 20 (.bin .lss (.v 19) (.v 18)) .done) K160_10
@[simp] def W160_11 := C.w K160_11.eq_1
def K160_12 : C := .block 8 (.loop 20 [1, 3, 5, 7, 9, 10, 11, 12, 13, 14, 15, 16] K160_11)
@[simp] def W160_12 := C.w K160_12.eq_1
def K160_13 : C := .seq (.pl <| .e 20 6 <|
 .m 20 0 <|
 .m 21 6 <|
 .m 22 8 <|
 .x 23 (.ia 1 (.v 21) (.v 22)) <|
 .l 24 23 <|
 .x 25 (.ia 1 (.v 20) (.v 24)) <|
 .l 17 25 <|
 .x 18 (.lenV (.v 17)) <|
 .x 19 (.mv (.c (.int .i64 0))) .done) K160_12
@[simp] def W160_13 := C.w K160_13.eq_1
def K160_14 : Pl := .m 3 21 .done
@[simp] def W160_14 := Pl.w K160_14.eq_1
def K160_15 : C := .seq (.pl <| .e 20 2 <|
 .m 20 10 <|
 .c 21 (.call fn_slices_Clip_S_int_int [.v 20]) K160_14) (.ret)
@[simp] def W160_15 := C.w K160_15.eq_1
def K160_16 : C := .seq (.pl <| .e 20 2 <|
 .m 20 10 <|
 .c 21 (.call fn_slices_Reverse_S_int_int [.v 20]) .done) K160_15
@[simp] def W160_16 := C.w K160_16.eq_1
def K160_17 : C := .pl <| .e 20 4 <|
 .m 20 4 <|
 .m 21 9 <|
 .x 22 (.ia 1 (.v 20) (.v 21)) <|
 .l 23 22 <|
 .m 9 23 .done
@[simp] def W160_17 := C.w K160_17.eq_1
def K160_18 : Pl := .m 10 23 .done
@[simp] def W160_18 := Pl.w K160_18.eq_1
def K160_19 : C := .seq (.block 7 (.pl <| .e 20 4 <|
 .m 20 10 <|
 .m 21 9 <|
 .o (.psl 22 [.int .i64 0] [(0, 1, .v 21)]) <|
 .c 23 (.app 8 1 [.int .i64 0] (.o (.v 20)) (.p 1 22)) K160_18)) K160_17
@[simp] def W160_19 := C.w K160_19.eq_1
def K160_20 : C := .cond 20 (.v 21) (.skip) (.exit 6)
@[simp] def W160_20 := C.w K160_20.eq_1
def K160_21 : C := .seq (.seq (.pl <| .e 20 2 <|
 .m 20 9 <|
 .x 21 (.bin .geq (.v 20) (.c (.int .i64 0))) .done) K160_20) K160_19
@[simp] def W160_21 := C.w K160_21.eq_1
def K160_22 : C := .seq (.block 6 (.loop 20 [0, 1, 2, 3, 5, 6, 7, 8, 11, 12, 13, 14, 15, 16, 17, 18, 19] K160_21)) K160_16
@[simp] def W160_22 := C.w K160_22.eq_1
def K160_23 : C := .seq (.pl <| .e 20 0 <|
 .x 10 (.mv (.c (.slice none 0 0))) .done) K160_22
@[simp] def W160_23 := C.w K160_23.eq_1
def K160_24 : C := .cond 20 (.v 22) K160_23 (.skip)
@[simp] def W160_24 := C.w K160_24.eq_1
def K160_25 : C := .seq (.pl <| .e 20 3 <|
 .m 20 2 <|
 .m 21 9 <|
 .c 22 (.callv (.v 20) [.v 21]) .done) K160_24
@[simp] def W160_25 := C.w K160_25.eq_1
def K160_26 : C := .seq (.block 5 (.seq (.seq (.pl <| .e 20 4 <|
 .m 20 6 <|
 .m 21 8 <|
 .x 22 (.ia 1 (.v 20) (.v 21)) <|
 .l 23 22 <|
 .m 9 23 .done) K160_25) K160_13)) K160_2
@[simp] def W160_26 := C.w K160_26.eq_1
def K160_27 : C := .cond 20 (.v 23) (.skip) (.exit 4)
@[simp] def W160_27 := C.w K160_27.eq_1
def K160_28 : C := .seq (.seq (.pl <| .e 20 4 <|
 .m 20 8 <|
 .m 21 6 <|
 .x 22 (.lenV (.v 21)) <|
 .x 23 (.bin .lss (.v 20) (.v 22)) .done) K160_27) K160_26
@[simp] def W160_28 := C.w K160_28.eq_1
def K160_29 : C := .block 4 (.loop 20 [1, 3, 5, 7, 9, 10, 11, 12, 13, 14, 15, 16, 17, 18, 19] K160_28)
@[simp] def W160_29 := C.w K160_29.eq_1
def K160_30 : C := .seq (.seq (.pl <| .e 20 0 <|
 .x 8 (.mv (.c (.int .i64 0))) .done) K160_29) K160_1
@[simp] def W160_30 := C.w K160_30.eq_1
def K160_31 : C := .pl <| .e 20 1 <|
 .x 20 (.bin .add (.v 16) (.c (.int .i64 1))) <|
 .m 16 20 .done
@[simp] def W160_31 := C.w K160_31.eq_1
def K160_32 : Pl := .m 6 23 .done
@[simp] def W160_32 := Pl.w K160_32.eq_1
def K160_33 : C := .pl <| .e 20 4 <|
 .m 20 6 <|
 .m 21 7 <|
 .o (.psl 22 [.int .i64 0] [(0, 1, .v 21)]) <|
 .c 23 (.app 8 1 [.int .i64 0] (.o (.v 20)) (.p 1 22)) K160_32
@[simp] def W160_33 := C.w K160_33.eq_1
def K160_34 : C := .seq (.pl <| .e 20 3 <|
 .m 20 4 <|
 .m 21 7 <|
 .x 22 (.ia 1 (.v 20) (.v 21)) <|
 .o (.ex none (.store 1 (.v 22) (.c (.int .i64 (-1))))) .done) K160_33
@[simp] def W160_34 := C.w K160_34.eq_1
def K160_35 : C := .seq (.block 3 (.seq (.pl <| .e 20 2 <|
 .x 20 (.ia 1 (.v 14) (.v 16)) <|
 .l 21 20 <|
 .m 7 21 .done) K160_34)) K160_31
@[simp] def W160_35 := C.w K160_35.eq_1
def K160_36 : C := .seq (.cond 20 (.v 20) (.skip) (.exit 2)) K160_35
@[simp] def W160_36 := C.w K160_36.eq_1
def K160_37 : C := .seq (.pl <| .e 20 1 <|
 .x 20 (.bin .lss (.v 16) (.v 15)) .done) K160_36
@[simp] def W160_37 := C.w K160_37.eq_1
def K160_38 : C := .block 2 (.loop 20 [1, 3, 5, 7, 8, 9, 10, 11, 12, 13, 17, 18, 19] K160_37)
@[simp] def W160_38 := C.w K160_38.eq_1
def K160_39 : C := .seq (.seq (.pl <| .e 20 0 <|
 .m 14 1 <|
 .x 15 (.lenV (.v 14)) <|
 .x 16 (.mv (.c (.int .i64 0))) .done) K160_38) K160_30
@[simp] def W160_39 := C.w K160_39.eq_1
def K160_40 : C := .seq (.pl <| .e 20 0 <|
 .x 6 (.mv (.c (.slice none 0 0))) .done) K160_39
@[simp] def W160_40 := C.w K160_40.eq_1
def K160_41 : C := .pl <| .e 20 1 <|
 .x 20 (.bin .add (.v 13) (.c (.int .i64 1))) <|
 .m 13 20 .done
@[simp] def W160_41 := C.w K160_41.eq_1
def K160_42 : C := .pl <| .e 20 3 <|
 .m 20 4 <|
 .m 21 5 <|
 .x 22 (.ia 1 (.v 20) (.v 21)) <|
 .o (.ex none (.store 1 (.v 22) (.c (.int .i64 (-2))))) .done
@[simp] def W160_42 := C.w K160_42.eq_1
def K160_43 : C := .seq (.block 1 (.seq (.pl <| .e 20 1 <|
 .m 20 13 <|
 .m 5 20 .done) K160_42)) K160_41
@[simp] def W160_43 := C.w K160_43.eq_1
def K160_44 : C := .seq (.cond 20 (.v 20) (.skip) (.exit 0)) K160_43
@[simp] def W160_44 := C.w K160_44.eq_1
def K160_45 : C := .seq (.pl <| .e 20 1 <|
 .x 20 (.bin .lss (.v 13) (.v 12)) .done) K160_44
@[simp] def W160_45 := C.w K160_45.eq_1
def K160_46 : C := .block 0 (.loop 20 [3, 5, 6, 7, 8, 9, 10, 11, 14, 15, 16, 17, 18, 19] K160_45)
@[simp] def W160_46 := C.w K160_46.eq_1
def K160_47 : C := .seq (.seq (.pl <| .e 20 1 <|
 .m 20 4 <|
 .x 12 (.lenV (.v 20)) <|
 .x 13 (.mv (.c (.int .i64 0))) .done) K160_46) K160_40
@[simp] def W160_47 := C.w K160_47.eq_1
def K160_48 : Pl := .m 4 22 .done
@[simp] def W160_48 := Pl.w K160_48.eq_1
def K160_49 : C := .seq (.pl <| .e 20 3 <|
 .m 20 0 <|
 .x 21 (.lenV (.v 20)) <|
 .c 22 (.mks 8 1 [.int .i64 0] (.v 21) (.v 21)) K160_48) K160_47
@[simp] def W160_49 := C.w K160_49.eq_1
def B_impl_shortest : C := .seq (.pl <| .e 20 0 <|
 .x 3 (.mv (.c (.slice none 0 0))) .done) K160_49
@[simp] def WB_impl_shortest := C.w B_impl_shortest.eq_1
def R_impl_shortest : FIR := ⟨B_impl_shortest, 20, [(3, none)]⟩
theorem IR_impl_shortest : cfun Try.prog H_impl_shortest Try.f160 = some R_impl_shortest := by kernel_rfl
theorem EN_impl_shortest : ENT Try.prog B_impl_shortest [(3, none)] 3 20 fn_impl_shortest := fun hargs hw => enter Try.func160 rfl IR_impl_shortest hargs hw
def H_laws_FnExactExtendWord : Hint := ⟨[(0, false), (1, false), (2, true), (4, false), (5, false), (6, true), (7, false), (8, true), (9, false), (10, true), (11, false), (12, false), (13, false), (14, false), (15, true), (16, false)], []⟩
def K7_1 : C := .seq (.pl <| .e 16 0 <|
 .x 3 (.mv (.c (.bool true))) .done) (.ret)
@[simp] def W7_1 := C.w K7_1.eq_1
def K7_2 : C := .seq (.pl <| .e 16 0 <|
 .x 3 (.mv (.c (.bool false))) .done) (.ret)
@[simp] def W7_2 := C.w K7_2.eq_1
def K7_3 : C := .cond 16 (.v 18) K7_2 (.skip)
@[simp] def W7_3 := C.w K7_3.eq_1
def K7_4 : C := .seq (.seq (.pl <| .e 16 3 <|
 .m 16 13 <|
 .m 17 12 <|
 .x 18 (.bin .neq (.v 16) (.v 17)) .done) K7_3) K7_1
@[simp] def W7_4 := C.w K7_4.eq_1
def K7_5 : C := .seq (.pl <| .e 16 0 <|
 .x 3 (.mv (.c (.bool false))) .done) (.ret)
@[simp] def W7_5 := C.w K7_5.eq_1
def K7_6 : C := .cond 16 (.v 17) K7_5 (.skip)
@[simp] def W7_6 := C.w K7_6.eq_1
def K7_7 : C := .seq (.seq (.pl <| .e 16 2 <|
 .m 16 13 <|
 .x 17 (.bin .lss (.v 16) (.c (.int .i64 0))) .done) K7_6) K7_4
@[simp] def W7_7 := C.w K7_7.eq_1
def K7_8 : Pl := .m 13 18 .done
@[simp] def W7_8 := Pl.w K7_8.eq_1
def K7_9 : C := .seq (.pl <| .e 16 3 <|
 .o (.pget (some 16) none 9 0 (some 2)) <|
 .m 17 13 <|
 .c 18 (.call fn_laws_heldLasso [.v 16, .v 17]) K7_8) K7_7
@[simp] def W7_9 := C.w K7_9.eq_1
def K7_10 : C := .seq (.pl <| .e 16 0 <|
 .x 13 (.mv (.c (.int .i64 1))) .done) K7_9
@[simp] def W7_10 := C.w K7_10.eq_1
def K7_11 : C := .seq (.pl <| .e 16 0 <|
 .x 3 (.mv (.c (.bool false))) .done) (.ret)
@[simp] def W7_11 := C.w K7_11.eq_1
def K7_12 : C := .cond 16 (.v 24) K7_11 (.skip)
@[simp] def W7_12 := C.w K7_12.eq_1
def K7_13 : Pl := .x 19 (.un .not (.v 18)) <|
 .m 20 19 <|
 .n 20 (.px (some 21) (.mv (.v 15))) <|
 .n 20 (.px (some 22) (.mv (.v 6))) <|
 .n 20 (.px (some 23) (.eqb true (.v 21) (.v 22))) <|
 .x 24 (.pick (.v 20) (.c (.bool true)) (.v 23)) .done
@[simp] def W7_13 := Pl.w K7_13.eq_1
def K7_14 : C := .seq (.seq (.pl <| .e 16 9 <|
 .o (.pget (some 16) none 14 0 (some 2)) <|
 .o (.pget (some 17) none 5 0 (some 2)) <|
 .c 18 (.call fn_laws_eqLasso [.v 16, .v 17]) K7_13) K7_12) K7_10
@[simp] def W7_14 := C.w K7_14.eq_1
def K7_15 : Pl := .m 21 20 <|
 .x 22 (.extract 0 (.v 21)) <|
 .x 23 (.extract 1 (.v 21)) <|
 .o (.pnew 14 (.c (.agg #[.slice none 0 0, .slice none 0 0])) []) <|
 .o (.pset none 14 0 2 (.v 22)) <|
 .m 15 23 .done
@[simp] def W7_15 := Pl.w K7_15.eq_1
def K7_16 : Pl := .c 20 (.call fn_impl_ExtendWord [.v 17, .v 19]) K7_15
@[simp] def W7_16 := Pl.w K7_16.eq_1
def K7_17 : Pl := .m 18 1 <|
 .c 19 (.call fn_laws_toIntS [.v 18]) K7_16
@[simp] def W7_17 := Pl.w K7_17.eq_1
def K7_18 : C := .seq (.pl <| .e 16 8 <|
 .o (.pget (some 16) none 2 0 (some 3)) <|
 .c 17 (.call fn_laws_toAutomaton [.v 16]) K7_17) K7_14
@[simp] def W7_18 := C.w K7_18.eq_1
def K7_19 : C := .seq (.pl <| .e 16 0 <|
 .x 3 (.mv (.c (.bool false))) .done) (.ret)
@[simp] def W7_19 := C.w K7_19.eq_1
def K7_20 : C := .cond 16 (.v 18) K7_19 (.skip)
@[simp] def W7_20 := C.w K7_20.eq_1
def K7_21 : C := .seq (.seq (.pl <| .e 16 3 <|
 .m 16 13 <|
 .m 17 12 <|
 .x 18 (.bin .neq (.v 16) (.v 17)) .done) K7_20) K7_18
@[simp] def W7_21 := C.w K7_21.eq_1
def K7_22 : C := .seq (.pl <| .e 16 0 <|
 .x 3 (.mv (.c (.bool false))) .done) (.ret)
@[simp] def W7_22 := C.w K7_22.eq_1
def K7_23 : C := .cond 16 (.v 17) K7_22 (.skip)
@[simp] def W7_23 := C.w K7_23.eq_1
def K7_24 : C := .seq (.seq (.pl <| .e 16 2 <|
 .m 16 13 <|
 .x 17 (.bin .lss (.v 16) (.c (.int .i64 0))) .done) K7_23) K7_21
@[simp] def W7_24 := C.w K7_24.eq_1
def K7_25 : Pl := .m 13 18 .done
@[simp] def W7_25 := Pl.w K7_25.eq_1
def K7_26 : C := .seq (.pl <| .e 16 3 <|
 .o (.pget (some 16) none 9 0 (some 2)) <|
 .m 17 13 <|
 .c 18 (.call fn_laws_heldLasso [.v 16, .v 17]) K7_25) K7_24
@[simp] def W7_26 := C.w K7_26.eq_1
def K7_27 : C := .seq (.pl <| .e 16 0 <|
 .x 13 (.mv (.c (.int .i64 1))) .done) K7_26
@[simp] def W7_27 := C.w K7_27.eq_1
def K7_28 : Pl := .m 12 18 .done
@[simp] def W7_28 := Pl.w K7_28.eq_1
def K7_29 : C := .seq (.pl <| .e 16 3 <|
 .o (.pget (some 16) none 9 0 (some 2)) <|
 .m 17 12 <|
 .c 18 (.call fn_laws_markLasso [.v 16, .v 17]) K7_28) K7_27
@[simp] def W7_29 := C.w K7_29.eq_1
def K7_30 : C := .seq (.pl <| .e 16 0 <|
 .x 12 (.mv (.c (.int .i64 1))) .done) K7_29
@[simp] def W7_30 := C.w K7_30.eq_1
def K7_31 : C := .seq (.pl <| .e 16 0 <|
 .x 3 (.mv (.c (.bool false))) .done) (.ret)
@[simp] def W7_31 := C.w K7_31.eq_1
def K7_32 : C := .cond 16 (.v 28) K7_31 (.skip)
@[simp] def W7_32 := C.w K7_32.eq_1
def K7_33 : Pl := .n 18 (.px (some 22) (.un .not (.v 21))) <|
 .x 23 (.pick (.v 18) (.c (.bool true)) (.v 22)) <|
 .m 24 23 <|
 .n 24 (.px (some 25) (.mv (.v 10))) <|
 .n 24 (.px (some 26) (.mv (.v 6))) <|
 .n 24 (.px (some 27) (.eqb true (.v 25) (.v 26))) <|
 .x 28 (.pick (.v 24) (.c (.bool true)) (.v 27)) .done
@[simp] def W7_33 := Pl.w K7_33.eq_1
def K7_34 : C := .seq (.seq (.pl <| .e 16 13 <|
 .m 16 11 <|
 .x 17 (.bin .lss (.v 16) (.c (.int .i64 0))) <|
 .m 18 17 <|
 .n 18 (.pget (some 19) none 9 0 (some 2)) <|
 .n 18 (.pget (some 20) none 5 0 (some 2)) <|
 .st (.act (some (.v 18, false)) (.ex (some 21) (.call fn_laws_eqLasso [.v 19, .v 20]))) K7_33) K7_32) K7_30
@[simp] def W7_34 := C.w K7_34.eq_1
def K7_35 : Pl := .m 11 18 .done
@[simp] def W7_35 := Pl.w K7_35.eq_1
def K7_36 : C := .seq (.pl <| .e 16 3 <|
 .m 16 8 <|
 .m 17 11 <|
 .c 18 (.call fn_laws_markIntS [.v 16, .v 17]) K7_35) K7_34
@[simp] def W7_36 := C.w K7_36.eq_1
def K7_37 : Pl := .m 11 18 .done
@[simp] def W7_37 := Pl.w K7_37.eq_1
def K7_38 : C := .seq (.pl <| .e 16 3 <|
 .o (.pget (some 16) none 7 0 (some 3)) <|
 .m 17 11 <|
 .c 18 (.call fn_laws_markAutomaton [.v 16, .v 17]) K7_37) K7_36
@[simp] def W7_38 := C.w K7_38.eq_1
def K7_39 : C := .seq (.pl <| .e 16 0 <|
 .x 11 (.mv (.c (.int .i64 1))) .done) K7_38
@[simp] def W7_39 := C.w K7_39.eq_1
def K7_40 : C := .seq (.pl <| .e 16 0 <|
 .x 3 (.mv (.c (.bool false))) .done) (.ret)
@[simp] def W7_40 := C.w K7_40.eq_1
def K7_41 : C := .cond 16 (.v 20) K7_40 (.skip)
@[simp] def W7_41 := C.w K7_41.eq_1
def K7_42 : Pl := .x 20 (.un .not (.v 19)) .done
@[simp] def W7_42 := Pl.w K7_42.eq_1
def K7_43 : Pl := .c 19 (.call fn_laws_eqIntS [.v 16, .v 18]) K7_42
@[simp] def W7_43 := Pl.w K7_43.eq_1
def K7_44 : C := .seq (.seq (.pl <| .e 16 5 <|
 .m 16 8 <|
 .m 17 1 <|
 .c 18 (.call fn_laws_toIntS [.v 17]) K7_43) K7_41) K7_39
@[simp] def W7_44 := C.w K7_44.eq_1
def K7_45 : C := .seq (.pl <| .e 16 0 <|
 .x 3 (.mv (.c (.bool false))) .done) (.ret)
@[simp] def W7_45 := C.w K7_45.eq_1
def K7_46 : C := .cond 16 (.v 20) K7_45 (.skip)
@[simp] def W7_46 := C.w K7_46.eq_1
def K7_47 : Pl := .x 20 (.un .not (.v 19)) .done
@[simp] def W7_47 := Pl.w K7_47.eq_1
def K7_48 : Pl := .c 19 (.call fn_laws_eqAutomaton [.v 16, .v 18]) K7_47
@[simp] def W7_48 := Pl.w K7_48.eq_1
def K7_49 : C := .seq (.seq (.pl <| .e 16 5 <|
 .o (.pget (some 16) none 7 0 (some 3)) <|
 .o (.pget (some 17) none 2 0 (some 3)) <|
 .c 18 (.call fn_laws_toAutomaton [.v 17]) K7_48) K7_46) K7_44
@[simp] def W7_49 := C.w K7_49.eq_1
def K7_50 : C := .seq (.pl <| .e 16 0 <|
 .x 3 (.mv (.c (.bool false))) .done) (.ret)
@[simp] def W7_50 := C.w K7_50.eq_1
def K7_51 : C := .cond 16 (.v 24) K7_50 (.skip)
@[simp] def W7_51 := C.w K7_51.eq_1
def K7_52 : Pl := .x 19 (.un .not (.v 18)) <|
 .m 20 19 <|
 .n 20 (.px (some 21) (.mv (.v 10))) <|
 .n 20 (.px (some 22) (.mv (.v 6))) <|
 .n 20 (.px (some 23) (.eqb true (.v 21) (.v 22))) <|
 .x 24 (.pick (.v 20) (.c (.bool true)) (.v 23)) .done
@[simp] def W7_52 := Pl.w K7_52.eq_1
def K7_53 : C := .seq (.seq (.pl <| .e 16 9 <|
 .o (.pget (some 16) none 9 0 (some 2)) <|
 .o (.pget (some 17) none 5 0 (some 2)) <|
 .c 18 (.call fn_laws_eqLasso [.v 16, .v 17]) K7_52) K7_51) K7_49
@[simp] def W7_53 := C.w K7_53.eq_1
def K7_54 : Pl := .m 19 18 <|
 .x 20 (.extract 0 (.v 19)) <|
 .x 21 (.extract 1 (.v 19)) <|
 .o (.pnew 9 (.c (.agg #[.slice none 0 0, .slice none 0 0])) []) <|
 .o (.pset none 9 0 2 (.v 20)) <|
 .m 10 21 .done
@[simp] def W7_54 := Pl.w K7_54.eq_1
def K7_55 : C := .seq (.pl <| .e 16 6 <|
 .o (.pget (some 16) none 7 0 (some 3)) <|
 .m 17 8 <|
 .c 18 (.call fn_impl_ExtendWord [.v 16, .v 17]) K7_54) K7_53
@[simp] def W7_55 := C.w K7_55.eq_1
def K7_56 : Pl := .m 8 17 .done
@[simp] def W7_56 := Pl.w K7_56.eq_1
def K7_57 : C := .seq (.pl <| .e 16 2 <|
 .m 16 1 <|
 .c 17 (.call fn_laws_toIntS [.v 16]) K7_56) K7_55
@[simp] def W7_57 := C.w K7_57.eq_1
def K7_58 : Pl := .o (.pnew 7 (.c (.agg #[.slice none 0 0, .slice none 0 0, .slice none 0 0])) []) <|
 .o (.pset none 7 0 3 (.v 17)) .done
@[simp] def W7_58 := Pl.w K7_58.eq_1
def K7_59 : C := .seq (.pl <| .e 16 2 <|
 .o (.pget (some 16) none 2 0 (some 3)) <|
 .c 17 (.call fn_laws_toAutomaton [.v 16]) K7_58) K7_57
@[simp] def W7_59 := C.w K7_59.eq_1
def K7_60 : Pl := .m 21 20 <|
 .x 22 (.extract 0 (.v 21)) <|
 .x 23 (.extract 1 (.v 21)) <|
 .o (.pnew 5 (.c (.agg #[.slice none 0 0, .slice none 0 0])) []) <|
 .o (.pset none 5 0 2 (.v 22)) <|
 .m 6 23 .done
@[simp] def W7_60 := Pl.w K7_60.eq_1
def K7_61 : Pl := .c 20 (.call fn_spec_ExtendWord [.v 17, .v 19]) K7_60
@[simp] def W7_61 := Pl.w K7_61.eq_1
def K7_62 : Pl := .m 18 1 <|
 .c 19 (.call fn_laws_toIntS [.v 18]) K7_61
@[simp] def W7_62 := Pl.w K7_62.eq_1
def K7_63 : C := .seq (.pl <| .e 16 8 <|
 .o (.pget (some 16) none 2 0 (some 3)) <|
 .c 17 (.call fn_laws_toAutomaton [.v 16]) K7_62) K7_59
@[simp] def W7_63 := C.w K7_63.eq_1
def K7_64 : C := .seq (.pl <| .e 16 0 <|
 .x 3 (.mv (.c (.bool true))) .done) (.ret)
@[simp] def W7_64 := C.w K7_64.eq_1
def K7_65 : C := .cond 16 (.v 17) K7_64 (.skip)
@[simp] def W7_65 := C.w K7_65.eq_1
def K7_66 : C := .seq (.seq (.pl <| .e 16 2 <|
 .m 16 4 <|
 .x 17 (.bin .lss (.v 16) (.c (.int .i64 0))) .done) K7_65) K7_63
@[simp] def W7_66 := C.w K7_66.eq_1
def K7_67 : Pl := .m 4 18 .done
@[simp] def W7_67 := Pl.w K7_67.eq_1
def K7_68 : C := .seq (.pl <| .e 16 3 <|
 .o (.pget (some 16) none 2 0 (some 3)) <|
 .m 17 4 <|
 .c 18 (.call fn_laws_szAutomaton [.v 16, .v 17]) K7_67) K7_66
@[simp] def W7_68 := C.w K7_68.eq_1
def K7_69 : C := .seq (.pl <| .e 16 0 <|
 .x 4 (.mv (.c (.int .i64 1048576))) .done) K7_68
@[simp] def W7_69 := C.w K7_69.eq_1
def K7_70 : C := .seq (.pl <| .e 16 0 <|
 .x 3 (.mv (.c (.bool true))) .done) (.ret)
@[simp] def W7_70 := C.w K7_70.eq_1
def K7_71 : C := .cond 16 (.v 18) K7_70 (.skip)
@[simp] def W7_71 := C.w K7_71.eq_1
def K7_72 : C := .seq (.seq (.pl <| .e 16 3 <|
 .m 16 1 <|
 .x 17 (.lenV (.v 16)) <|
 .x 18 (.bin .gtr (.v 17) (.c (.int .i64 1048576))) .done) K7_71) K7_69
@[simp] def W7_72 := C.w K7_72.eq_1
def B_laws_FnExactExtendWord : C := .seq (.pl <| .e 16 0 <|
 .o (.pnew 2 (.v 0) []) <|
 .x 3 (.mv (.c (.bool false))) .done) K7_72
@[simp] def WB_laws_FnExactExtendWord := C.w B_laws_FnExactExtendWord.eq_1
def R_laws_FnExactExtendWord : FIR := ⟨B_laws_FnExactExtendWord, 16, [(3, none)]⟩
theorem IR_laws_FnExactExtendWord : cfun Try.prog H_laws_FnExactExtendWord Try.f7 = some R_laws_FnExactExtendWord := by kernel_rfl
theorem EN_laws_FnExactExtendWord : ENT Try.prog B_laws_FnExactExtendWord [(3, none)] 2 16 fn_laws_FnExactExtendWord := fun hargs hw => enter Try.func7 rfl IR_laws_FnExactExtendWord hargs hw
def H_laws_eqAutomaton : Hint := ⟨[(0, false), (1, false), (2, true), (3, true), (4, false)], []⟩
def K32_1 : C := .seq (.pl <| .e 5 0 <|
 .x 4 (.mv (.c (.bool true))) .done) (.ret)
@[simp] def W32_1 := C.w K32_1.eq_1
def K32_2 : C := .seq (.pl <| .e 5 0 <|
 .x 4 (.mv (.c (.bool false))) .done) (.ret)
@[simp] def W32_2 := C.w K32_2.eq_1
def K32_3 : C := .cond 5 (.v 10) K32_2 (.skip)
@[simp] def W32_3 := C.w K32_3.eq_1
def K32_4 : Pl := .x 10 (.un .not (.v 9)) .done
@[simp] def W32_4 := Pl.w K32_4.eq_1
def K32_5 : C := .seq (.seq (.pl <| .e 5 6 <|
 .a 5 2 <|
 .g 6 5 2 2 <|
 .a 7 3 <|
 .g 8 7 3 2 <|
 .c 9 (.call fn_laws_eqTransitionS [.v 6, .v 8]) K32_4) K32_3) K32_1
@[simp] def W32_5 := C.w K32_5.eq_1
def K32_6 : C := .seq (.pl <| .e 5 0 <|
 .x 4 (.mv (.c (.bool false))) .done) (.ret)
@[simp] def W32_6 := C.w K32_6.eq_1
def K32_7 : C := .cond 5 (.v 10) K32_6 (.skip)
@[simp] def W32_7 := C.w K32_7.eq_1
def K32_8 : Pl := .x 10 (.un .not (.v 9)) .done
@[simp] def W32_8 := Pl.w K32_8.eq_1
def K32_9 : C := .seq (.seq (.pl <| .e 5 6 <|
 .a 5 2 <|
 .g 6 5 2 1 <|
 .a 7 3 <|
 .g 8 7 3 1 <|
 .c 9 (.call fn_laws_eqBoolS [.v 6, .v 8]) K32_8) K32_7) K32_5
@[simp] def W32_9 := C.w K32_9.eq_1
def K32_10 : C := .seq (.pl <| .e 5 0 <|
 .x 4 (.mv (.c (.bool false))) .done) (.ret)
@[simp] def W32_10 := C.w K32_10.eq_1
def K32_11 : C := .cond 5 (.v 10) K32_10 (.skip)
@[simp] def W32_11 := C.w K32_11.eq_1
def K32_12 : Pl := .x 10 (.un .not (.v 9)) .done
@[simp] def W32_12 := Pl.w K32_12.eq_1
def K32_13 : C := .seq (.seq (.pl <| .e 5 6 <|
 .a 5 2 <|
 .g 6 5 2 0 <|
 .a 7 3 <|
 .g 8 7 3 0 <|
 .c 9 (.call fn_laws_eqIntS [.v 6, .v 8]) K32_12) K32_11) K32_9
@[simp] def W32_13 := C.w K32_13.eq_1
def B_laws_eqAutomaton : C := .seq (.pl <| .e 5 0 <|
 .o (.pnew 2 (.v 0) []) <|
 .o (.pnew 3 (.v 1) []) <|
 .x 4 (.mv (.c (.bool false))) .done) K32_13
@[simp] def WB_laws_eqAutomaton := C.w B_laws_eqAutomaton.eq_1
def R_laws_eqAutomaton : FIR := ⟨B_laws_eqAutomaton, 5, [(4, none)]⟩
theorem IR_laws_eqAutomaton : cfun Try.prog H_laws_eqAutomaton Try.f32 = some R_laws_eqAutomaton := by kernel_rfl
theorem EN_laws_eqAutomaton : ENT Try.prog B_laws_eqAutomaton [(4, none)] 2 5 fn_laws_eqAutomaton := fun hargs hw => enter Try.func32 rfl IR_laws_eqAutomaton hargs hw
def H_laws_eqBoolS : Hint := ⟨[(0, false), (1, false), (4, false), (5, false)], [[2]]⟩
def K75_1 : C := .seq (.pl <| .e 4 0 <|
 .x 2 (.mv (.c (.bool true))) .done) (.ret)
@[simp] def W75_1 := C.w K75_1.eq_1
def K75_2 : C := .pl <| .e 4 2 <|
 .m 4 3 <|
 .x 5 (.bin .add (.v 4) (.c (.int .i64 1))) <|
 .m 3 5 .done
@[simp] def W75_2 := C.w K75_2.eq_1
def K75_3 : C := .seq (.pl <| .e 4 0 <|
 .x 2 (.mv (.c (.bool false))) .done) (.ret)
@[simp] def W75_3 := C.w K75_3.eq_1
def K75_4 : C := .cond 4 (.v 12) K75_3 (.skip)
@[simp] def W75_4 := C.w K75_4.eq_1
def K75_5 : C := .seq (.block 1 (.seq (.pl <| .e 4 9 <|
 .m 4 0 <|
 .m 5 3 <|
 .x 6 (.ia 1 (.v 4) (.v 5)) <|
 .l 7 6 <|
 .m 8 1 <|
 .m 9 3 <|
 .x 10 (.ia 1 (.v 8) (.v 9)) <|
 .l 11 10 <|
 .x 12 (.eqb true (.v 7) (.v 11)) .done) K75_4)) K75_2
@[simp] def W75_5 := C.w K75_5.eq_1
def K75_6 : C := .cond 4 (.v 7) (.skip) (.exit 0)
@[simp] def W75_6 := C.w K75_6.eq_1
def K75_7 : C := .seq (.seq (.pl <| .e 4 4 <|
 .m 4 3 <|
 .m 5 0 <|
 .x 6 (.lenV (.v 5)) <|
 .x 7 (.bin .lss (.v 4) (.v 6)) .done) K75_6) K75_5
@[simp] def W75_7 := C.w K75_7.eq_1
def K75_8 : C := .block 0 (.loop 4 [2] K75_7)
@[simp] def W75_8 := C.w K75_8.eq_1
def K75_9 : C := .seq (.seq (.pl <| .e 4 0 <|
 .x 3 (.mv (.c (.int .i64 0))) .done) K75_8) K75_1
@[simp] def W75_9 := C.w K75_9.eq_1
def K75_10 : C := .seq (.pl <| .e 4 0 <|
 .x 2 (.mv (.c (.bool false))) .done) (.ret)
@[simp] def W75_10 := C.w K75_10.eq_1
def K75_11 : C := .cond 4 (.v 8) K75_10 (.skip)
@[simp] def W75_11 := C.w K75_11.eq_1
def K75_12 : C := .seq (.seq (.pl <| .e 4 5 <|
 .m 4 0 <|
 .x 5 (.lenV (.v 4)) <|
 .m 6 1 <|
 .x 7 (.lenV (.v 6)) <|
 .x 8 (.bin .neq (.v 5) (.v 7)) .done) K75_11) K75_9
@[simp] def W75_12 := C.w K75_12.eq_1
def B_laws_eqBoolS : C := .seq (.pl <| .e 4 0 <|
 .x 2 (.mv (.c (.bool false))) .done) K75_12
@[simp] def WB_laws_eqBoolS := C.w B_laws_eqBoolS.eq_1
def R_laws_eqBoolS : FIR := ⟨B_laws_eqBoolS, 4, [(2, none)]⟩
theorem IR_laws_eqBoolS : cfun Try.prog H_laws_eqBoolS Try.f75 = some R_laws_eqBoolS := by kernel_rfl
theorem EN_laws_eqBoolS : ENT Try.prog B_laws_eqBoolS [(2, none)] 2 4 fn_laws_eqBoolS := fun hargs hw => enter Try.func75 rfl IR_laws_eqBoolS hargs hw
def H_laws_eqIntS : Hint := ⟨[(0, false), (1, false), (4, false), (5, false)], [[2]]⟩
def K33_1 : C := .seq (.pl <| .e 4 0 <|
 .x 2 (.mv (.c (.bool true))) .done) (.ret)
@[simp] def W33_1 := C.w K33_1.eq_1
def K33_2 : C := .pl <| .e 4 2 <|
 .m 4 3 <|
 .x 5 (.bin .add (.v 4) (.c (.int .i64 1))) <|
 .m 3 5 .done
@[simp] def W33_2 := C.w K33_2.eq_1
def K33_3 : C := .seq (.pl <| .e 4 0 <|
 .x 2 (.mv (.c (.bool false))) .done) (.ret)
@[simp] def W33_3 := C.w K33_3.eq_1
def K33_4 : C := .cond 4 (.v 12) K33_3 (.skip)
@[simp] def W33_4 := C.w K33_4.eq_1
def K33_5 : C := .seq (.block 1 (.seq (.pl <| .e 4 9 <|
 .m 4 0 <|
 .m 5 3 <|
 .x 6 (.ia 1 (.v 4) (.v 5)) <|
 .l 7 6 <|
 .m 8 1 <|
 .m 9 3 <|
 .x 10 (.ia 1 (.v 8) (.v 9)) <|
 .l 11 10 <|
 .x 12 (.bin .neq (.v 7) (.v 11)) .done) K33_4)) K33_2
@[simp] def W33_5 := C.w K33_5.eq_1
def K33_6 : C := .cond 4 (.v 7) (.skip) (.exit 0)
@[simp] def W33_6 := C.w K33_6.eq_1
def K33_7 : C := .seq (.seq (.pl <| .e 4 4 <|
 .m 4 3 <|
 .m 5 0 <|
 .x 6 (.lenV (.v 5)) <|
 .x 7 (.bin .lss (.v 4) (.v 6)) .done) K33_6) K33_5
@[simp] def W33_7 := C.w K33_7.eq_1
def K33_8 : C := .block 0 (.loop 4 [2] K33_7)
@[simp] def W33_8 := C.w K33_8.eq_1
def K33_9 : C := .seq (.seq (.pl <| .e 4 0 <|
 .x 3 (.mv (.c (.int .i64 0))) .done) K33_8) K33_1
@[simp] def W33_9 := C.w K33_9.eq_1
def K33_10 : C := .seq (.pl <| .e 4 0 <|
 .x 2 (.mv (.c (.bool false))) .done) (.ret)
@[simp] def W33_10 := C.w K33_10.eq_1
def K33_11 : C := .cond 4 (.v 8) K33_10 (.skip)
@[simp] def W33_11 := C.w K33_11.eq_1
def K33_12 : C := .seq (.seq (.pl <| .e 4 5 <|
 .m 4 0 <|
 .x 5 (.lenV (.v 4)) <|
 .m 6 1 <|
 .x 7 (.lenV (.v 6)) <|
 .x 8 (.bin .neq (.v 5) (.v 7)) .done) K33_11) K33_9
@[simp] def W33_12 := C.w K33_12.eq_1
def B_laws_eqIntS : C := .seq (.pl <| .e 4 0 <|
 .x 2 (.mv (.c (.bool false))) .done) K33_12
@[simp] def WB_laws_eqIntS := C.w B_laws_eqIntS.eq_1
def R_laws_eqIntS : FIR := ⟨B_laws_eqIntS, 4, [(2, none)]⟩
theorem IR_laws_eqIntS : cfun Try.prog H_laws_eqIntS Try.f33 = some R_laws_eqIntS := by kernel_rfl
theorem EN_laws_eqIntS : ENT Try.prog B_laws_eqIntS [(2, none)] 2 4 fn_laws_eqIntS := fun hargs hw => enter Try.func33 rfl IR_laws_eqIntS hargs hw
def H_laws_eqLasso : Hint := ⟨[(0, false), (1, false), (2, true), (3, true), (4, false)], []⟩
def K31_1 : C := .seq (.pl <| .e 5 0 <|
 .x 4 (.mv (.c (.bool true))) .done) (.ret)
@[simp] def W31_1 := C.w K31_1.eq_1
def K31_2 : C := .seq (.pl <| .e 5 0 <|
 .x 4 (.mv (.c (.bool false))) .done) (.ret)
@[simp] def W31_2 := C.w K31_2.eq_1
def K31_3 : C := .cond 5 (.v 10) K31_2 (.skip)
@[simp] def W31_3 := C.w K31_3.eq_1
def K31_4 : Pl := .x 10 (.un .not (.v 9)) .done
@[simp] def W31_4 := Pl.w K31_4.eq_1
def K31_5 : C := .seq (.seq (.pl <| .e 5 6 <|
 .a 5 2 <|
 .g 6 5 2 1 <|
 .a 7 3 <|
 .g 8 7 3 1 <|
 .c 9 (.call fn_laws_eqIntS [.v 6, .v 8]) K31_4) K31_3) K31_1
@[simp] def W31_5 := C.w K31_5.eq_1
def K31_6 : C := .seq (.pl <| .e 5 0 <|
 .x 4 (.mv (.c (.bool false))) .done) (.ret)
@[simp] def W31_6 := C.w K31_6.eq_1
def K31_7 : C := .cond 5 (.v 10) K31_6 (.skip)
@[simp] def W31_7 := C.w K31_7.eq_1
def K31_8 : Pl := .x 10 (.un .not (.v 9)) .done
@[simp] def W31_8 := Pl.w K31_8.eq_1
def K31_9 : C := .seq (.seq (.pl <| .e 5 6 <|
 .a 5 2 <|
 .g 6 5 2 0 <|
 .a 7 3 <|
 .g 8 7 3 0 <|
 .c 9 (.call fn_laws_eqIntS [.v 6, .v 8]) K31_8) K31_7) K31_5
@[simp] def W31_9 := C.w K31_9.eq_1
def B_laws_eqLasso : C := .seq (.pl <| .e 5 0 <|
 .o (.pnew 2 (.v 0) []) <|
 .o (.pnew 3 (.v 1) []) <|
 .x 4 (.mv (.c (.bool false))) .done) K31_9
@[simp] def WB_laws_eqLasso := C.w B_laws_eqLasso.eq_1
def R_laws_eqLasso : FIR := ⟨B_laws_eqLasso, 5, [(4, none)]⟩
theorem IR_laws_eqLasso : cfun Try.prog H_laws_eqLasso Try.f31 = some R_laws_eqLasso := by kernel_rfl
theorem EN_laws_eqLasso : ENT Try.prog B_laws_eqLasso [(4, none)] 2 5 fn_laws_eqLasso := fun hargs hw => enter Try.func31 rfl IR_laws_eqLasso hargs hw
def H_laws_eqTransition : Hint := ⟨[(0, false), (1, false), (2, true), (3, true), (4, false)], []⟩
def K131_1 : C := .seq (.pl <| .e 5 0 <|
 .x 4 (.mv (.c (.bool true))) .done) (.ret)
@[simp] def W131_1 := C.w K131_1.eq_1
def K131_2 : C := .seq (.pl <| .e 5 0 <|
 .x 4 (.mv (.c (.bool false))) .done) (.ret)
@[simp] def W131_2 := C.w K131_2.eq_1
def K131_3 : C := .cond 5 (.v 9) K131_2 (.skip)
@[simp] def W131_3 := C.w K131_3.eq_1
def K131_4 : C := .seq (.seq (.pl <| .e 5 5 <|
 .a 5 2 <|
 .g 6 5 2 3 <|
 .a 7 3 <|
 .g 8 7 3 3 <|
 .x 9 (.bin .neq (.v 6) (.v 8)) .done) K131_3) K131_1
@[simp] def W131_4 := C.w K131_4.eq_1
def K131_5 : C := .seq (.pl <| .e 5 0 <|
 .x 4 (.mv (.c (.bool false))) .done) (.ret)
@[simp] def W131_5 := C.w K131_5.eq_1
def K131_6 : C := .cond 5 (.v 9) K131_5 (.skip)
@[simp] def W131_6 := C.w K131_6.eq_1
def K131_7 : C := .seq (.seq (.pl <| .e 5 5 <|
 .a 5 2 <|
 .g 6 5 2 2 <|
 .a 7 3 <|
 .g 8 7 3 2 <|
 .x 9 (.bin .neq (.v 6) (.v 8)) .done) K131_6) K131_4
@[simp] def W131_7 := C.w K131_7.eq_1
def K131_8 : C := .seq (.pl <| .e 5 0 <|
 .x 4 (.mv (.c (.bool false))) .done) (.ret)
@[simp] def W131_8 := C.w K131_8.eq_1
def K131_9 : C := .cond 5 (.v 9) K131_8 (.skip)
@[simp] def W131_9 := C.w K131_9.eq_1
def K131_10 : C := .seq (.seq (.pl <| .e 5 5 <|
 .a 5 2 <|
 .g 6 5 2 1 <|
 .a 7 3 <|
 .g 8 7 3 1 <|
 .x 9 (.bin .neq (.v 6) (.v 8)) .done) K131_9) K131_7
@[simp] def W131_10 := C.w K131_10.eq_1
def K131_11 : C := .seq (.pl <| .e 5 0 <|
 .x 4 (.mv (.c (.bool false))) .done) (.ret)
@[simp] def W131_11 := C.w K131_11.eq_1
def K131_12 : C := .cond 5 (.v 9) K131_11 (.skip)
@[simp] def W131_12 := C.w K131_12.eq_1
def K131_13 : C := .seq (.seq (.pl <| .e 5 5 <|
 .a 5 2 <|
 .g 6 5 2 0 <|
 .a 7 3 <|
 .g 8 7 3 0 <|
 .x 9 (.bin .neq (.v 6) (.v 8)) .done) K131_12) K131_10
@[simp] def W131_13 := C.w K131_13.eq_1
def B_laws_eqTransition : C := .seq (.pl <| .e 5 0 <|
 .o (.pnew 2 (.v 0) []) <|
 .o (.pnew 3 (.v 1) []) <|
 .x 4 (.mv (.c (.bool false))) .done) K131_13
@[simp] def WB_laws_eqTransition := C.w B_laws_eqTransition.eq_1
def R_laws_eqTransition : FIR := ⟨B_laws_eqTransition, 5, [(4, none)]⟩
theorem IR_laws_eqTransition : cfun Try.prog H_laws_eqTransition Try.f131 = some R_laws_eqTransition := by kernel_rfl
theorem EN_laws_eqTransition : ENT Try.prog B_laws_eqTransition [(4, none)] 2 5 fn_laws_eqTransition := fun hargs hw => enter Try.func131 rfl IR_laws_eqTransition hargs hw
def H_laws_eqTransitionS : Hint := ⟨[(0, false), (1, false), (4, false), (5, false)], [[2]]⟩
def K76_1 : C := .seq (.pl <| .e 4 0 <|
 .x 2 (.mv (.c (.bool true))) .done) (.ret)
@[simp] def W76_1 := C.w K76_1.eq_1
def K76_2 : C := .pl <| .e 4 2 <|
 .m 4 3 <|
 .x 5 (.bin .add (.v 4) (.c (.int .i64 1))) <|
 .m 3 5 .done
@[simp] def W76_2 := C.w K76_2.eq_1
def K76_3 : C := .seq (.pl <| .e 4 0 <|
 .x 2 (.mv (.c (.bool false))) .done) (.ret)
@[simp] def W76_3 := C.w K76_3.eq_1
def K76_4 : C := .cond 4 (.v 13) K76_3 (.skip)
@[simp] def W76_4 := C.w K76_4.eq_1
def K76_5 : Pl := .x 13 (.un .not (.v 12)) .done
@[simp] def W76_5 := Pl.w K76_5.eq_1
def K76_6 : C := .seq (.block 1 (.seq (.pl <| .e 4 10 <|
 .m 4 0 <|
 .m 5 3 <|
 .x 6 (.ia 4 (.v 4) (.v 5)) <|
 .o (.ld (some 7) (.v 6) (some 4)) <|
 .m 8 1 <|
 .m 9 3 <|
 .x 10 (.ia 4 (.v 8) (.v 9)) <|
 .o (.ld (some 11) (.v 10) (some 4)) <|
 .c 12 (.call fn_laws_eqTransition [.v 7, .v 11]) K76_5) K76_4)) K76_2
@[simp] def W76_6 := C.w K76_6.eq_1
def K76_7 : C := .cond 4 (.v 7) (.skip) (.exit 0)
@[simp] def W76_7 := C.w K76_7.eq_1
def K76_8 : C := .seq (.seq (.pl <| .e 4 4 <|
 .m 4 3 <|
 .m 5 0 <|
 .x 6 (.lenV (.v 5)) <|
 .x 7 (.bin .lss (.v 4) (.v 6)) .done) K76_7) K76_6
@[simp] def W76_8 := C.w K76_8.eq_1
def K76_9 : C := .block 0 (.loop 4 [2] K76_8)
@[simp] def W76_9 := C.w K76_9.eq_1
def K76_10 : C := .seq (.seq (.pl <| .e 4 0 <|
 .x 3 (.mv (.c (.int .i64 0))) .done) K76_9) K76_1
@[simp] def W76_10 := C.w K76_10.eq_1
def K76_11 : C := .seq (.pl <| .e 4 0 <|
 .x 2 (.mv (.c (.bool false))) .done) (.ret)
@[simp] def W76_11 := C.w K76_11.eq_1
def K76_12 : C := .cond 4 (.v 8) K76_11 (.skip)
@[simp] def W76_12 := C.w K76_12.eq_1
def K76_13 : C := .seq (.seq (.pl <| .e 4 5 <|
 .m 4 0 <|
 .x 5 (.lenV (.v 4)) <|
 .m 6 1 <|
 .x 7 (.lenV (.v 6)) <|
 .x 8 (.bin .neq (.v 5) (.v 7)) .done) K76_12) K76_10
@[simp] def W76_13 := C.w K76_13.eq_1
def B_laws_eqTransitionS : C := .seq (.pl <| .e 4 0 <|
 .x 2 (.mv (.c (.bool false))) .done) K76_13
@[simp] def WB_laws_eqTransitionS := C.w B_laws_eqTransitionS.eq_1
def R_laws_eqTransitionS : FIR := ⟨B_laws_eqTransitionS, 4, [(2, none)]⟩
theorem IR_laws_eqTransitionS : cfun Try.prog H_laws_eqTransitionS Try.f76 = some R_laws_eqTransitionS := by kernel_rfl
theorem EN_laws_eqTransitionS : ENT Try.prog B_laws_eqTransitionS [(2, none)] 2 4 fn_laws_eqTransitionS := fun hargs hw => enter Try.func76 rfl IR_laws_eqTransitionS hargs hw
def H_laws_heldIntS : Hint := ⟨[(0, false), (1, false), (4, false), (5, false)], [[2]]⟩
def K79_1 : C := .seq (.pl <| .e 4 1 <|
 .m 4 1 <|
 .m 2 4 .done) (.ret)
@[simp] def W79_1 := C.w K79_1.eq_1
def K79_2 : C := .pl <| .e 4 2 <|
 .m 4 3 <|
 .x 5 (.bin .add (.v 4) (.c (.int .i64 1))) <|
 .m 3 5 .done
@[simp] def W79_2 := C.w K79_2.eq_1
def K79_3 : C := .pl <| .e 4 2 <|
 .m 4 1 <|
 .x 5 (.bin .add (.v 4) (.c (.int .i64 1))) <|
 .m 1 5 .done
@[simp] def W79_3 := C.w K79_3.eq_1
def K79_4 : C := .seq (.pl <| .e 4 0 <|
 .x 2 (.mv (.c (.int .i64 (-1)))) .done) (.ret)
@[simp] def W79_4 := C.w K79_4.eq_1
def K79_5 : C := .cond 4 (.v 9) K79_4 (.skip)
@[simp] def W79_5 := C.w K79_5.eq_1
def K79_6 : C := .seq (.block 1 (.seq (.seq (.pl <| .e 4 6 <|
 .m 4 0 <|
 .m 5 3 <|
 .x 6 (.ia 1 (.v 4) (.v 5)) <|
 .l 7 6 <|
 .m 8 1 <|
 .x 9 (.bin .neq (.v 7) (.v 8)) .done) K79_5) K79_3)) K79_2
@[simp] def W79_6 := C.w K79_6.eq_1
def K79_7 : C := .cond 4 (.v 7) (.skip) (.exit 0)
@[simp] def W79_7 := C.w K79_7.eq_1
def K79_8 : C := .seq (.seq (.pl <| .e 4 4 <|
 .m 4 3 <|
 .m 5 0 <|
 .x 6 (.lenV (.v 5)) <|
 .x 7 (.bin .lss (.v 4) (.v 6)) .done) K79_7) K79_6
@[simp] def W79_8 := C.w K79_8.eq_1
def K79_9 : C := .block 0 (.loop 4 [2] K79_8)
@[simp] def W79_9 := C.w K79_9.eq_1
def K79_10 : C := .seq (.seq (.pl <| .e 4 0 <|
 .x 3 (.mv (.c (.int .i64 0))) .done) K79_9) K79_1
@[simp] def W79_10 := C.w K79_10.eq_1
def B_laws_heldIntS : C := .seq (.pl <| .e 4 0 <|
 .x 2 (.mv (.c (.int .i64 0))) .done) K79_10
@[simp] def WB_laws_heldIntS := C.w B_laws_heldIntS.eq_1
def R_laws_heldIntS : FIR := ⟨B_laws_heldIntS, 4, [(2, none)]⟩
theorem IR_laws_heldIntS : cfun Try.prog H_laws_heldIntS Try.f79 = some R_laws_heldIntS := by kernel_rfl
theorem EN_laws_heldIntS : ENT Try.prog B_laws_heldIntS [(2, none)] 2 4 fn_laws_heldIntS := fun hargs hw => enter Try.func79 rfl IR_laws_heldIntS hargs hw
def H_laws_heldLasso : Hint := ⟨[(0, false), (1, false), (2, true), (4, false)], []⟩
def K37_1 : C := .seq (.pl <| .e 4 1 <|
 .m 4 1 <|
 .m 3 4 .done) (.ret)
@[simp] def W37_1 := C.w K37_1.eq_1
def K37_2 : C := .seq (.pl <| .e 4 0 <|
 .x 3 (.mv (.c (.int .i64 (-1)))) .done) (.ret)
@[simp] def W37_2 := C.w K37_2.eq_1
def K37_3 : C := .cond 4 (.v 5) K37_2 (.skip)
@[simp] def W37_3 := C.w K37_3.eq_1
def K37_4 : C := .seq (.seq (.pl <| .e 4 2 <|
 .m 4 1 <|
 .x 5 (.bin .lss (.v 4) (.c (.int .i64 0))) .done) K37_3) K37_1
@[simp] def W37_4 := C.w K37_4.eq_1
def K37_5 : Pl := .m 1 7 .done
@[simp] def W37_5 := Pl.w K37_5.eq_1
def K37_6 : C := .seq (.pl <| .e 4 4 <|
 .a 4 2 <|
 .g 5 4 2 1 <|
 .m 6 1 <|
 .c 7 (.call fn_laws_heldIntS [.v 5, .v 6]) K37_5) K37_4
@[simp] def W37_6 := C.w K37_6.eq_1
def K37_7 : C := .seq (.pl <| .e 4 0 <|
 .x 3 (.mv (.c (.int .i64 (-1)))) .done) (.ret)
@[simp] def W37_7 := C.w K37_7.eq_1
def K37_8 : C := .cond 4 (.v 5) K37_7 (.skip)
@[simp] def W37_8 := C.w K37_8.eq_1
def K37_9 : C := .seq (.seq (.pl <| .e 4 2 <|
 .m 4 1 <|
 .x 5 (.bin .lss (.v 4) (.c (.int .i64 0))) .done) K37_8) K37_6
@[simp] def W37_9 := C.w K37_9.eq_1
def K37_10 : Pl := .m 1 7 .done
@[simp] def W37_10 := Pl.w K37_10.eq_1
def K37_11 : C := .seq (.pl <| .e 4 4 <|
 .a 4 2 <|
 .g 5 4 2 0 <|
 .m 6 1 <|
 .c 7 (.call fn_laws_heldIntS [.v 5, .v 6]) K37_10) K37_9
@[simp] def W37_11 := C.w K37_11.eq_1
def B_laws_heldLasso : C := .seq (.pl <| .e 4 0 <|
 .o (.pnew 2 (.v 0) []) <|
 .x 3 (.mv (.c (.int .i64 0))) .done) K37_11
@[simp] def WB_laws_heldLasso := C.w B_laws_heldLasso.eq_1
def R_laws_heldLasso : FIR := ⟨B_laws_heldLasso, 4, [(3, none)]⟩
theorem IR_laws_heldLasso : cfun Try.prog H_laws_heldLasso Try.f37 = some R_laws_heldLasso := by kernel_rfl
theorem EN_laws_heldLasso : ENT Try.prog B_laws_heldLasso [(3, none)] 2 4 fn_laws_heldLasso := fun hargs hw => enter Try.func37 rfl IR_laws_heldLasso hargs hw
def H_laws_markAutomaton : Hint := ⟨[(0, false), (1, false), (2, true), (4, false)], []⟩
def K34_1 : C := .seq (.pl <| .e 4 1 <|
 .m 4 1 <|
 .m 3 4 .done) (.ret)
@[simp] def W34_1 := C.w K34_1.eq_1
def K34_2 : Pl := .m 1 7 .done
@[simp] def W34_2 := Pl.w K34_2.eq_1
def K34_3 : C := .seq (.pl <| .e 4 4 <|
 .a 4 2 <|
 .g 5 4 2 2 <|
 .m 6 1 <|
 .c 7 (.call fn_laws_markTransitionS [.v 5, .v 6]) K34_2) K34_1
@[simp] def W34_3 := C.w K34_3.eq_1
def K34_4 : Pl := .m 1 7 .done
@[simp] def W34_4 := Pl.w K34_4.eq_1
def K34_5 : C := .seq (.pl <| .e 4 4 <|
 .a 4 2 <|
 .g 5 4 2 1 <|
 .m 6 1 <|
 .c 7 (.call fn_laws_markBoolS [.v 5, .v 6]) K34_4) K34_3
@[simp] def W34_5 := C.w K34_5.eq_1
def K34_6 : Pl := .m 1 7 .done
@[simp] def W34_6 := Pl.w K34_6.eq_1
def K34_7 : C := .seq (.pl <| .e 4 4 <|
 .a 4 2 <|
 .g 5 4 2 0 <|
 .m 6 1 <|
 .c 7 (.call fn_laws_markIntS [.v 5, .v 6]) K34_6) K34_5
@[simp] def W34_7 := C.w K34_7.eq_1
def B_laws_markAutomaton : C := .seq (.pl <| .e 4 0 <|
 .o (.pnew 2 (.v 0) []) <|
 .x 3 (.mv (.c (.int .i64 0))) .done) K34_7
@[simp] def WB_laws_markAutomaton := C.w B_laws_markAutomaton.eq_1
def R_laws_markAutomaton : FIR := ⟨B_laws_markAutomaton, 4, [(3, none)]⟩
theorem IR_laws_markAutomaton : cfun Try.prog H_laws_markAutomaton Try.f34 = some R_laws_markAutomaton := by kernel_rfl
theorem EN_laws_markAutomaton : ENT Try.prog B_laws_markAutomaton [(3, none)] 2 4 fn_laws_markAutomaton := fun hargs hw => enter Try.func34 rfl IR_laws_markAutomaton hargs hw
def H_laws_markBoolS : Hint := ⟨[(0, false), (1, false), (4, false), (5, false)], [[2]]⟩
def K77_1 : C := .seq (.pl <| .e 4 1 <|
 .m 4 1 <|
 .m 2 4 .done) (.ret)
@[simp] def W77_1 := C.w K77_1.eq_1
def K77_2 : C := .pl <| .e 4 2 <|
 .m 4 3 <|
 .x 5 (.bin .add (.v 4) (.c (.int .i64 1))) <|
 .m 3 5 .done
@[simp] def W77_2 := C.w K77_2.eq_1
def K77_3 : C := .pl <| .e 4 2 <|
 .m 4 1 <|
 .x 5 (.bin .add (.v 4) (.c (.int .i64 1))) <|
 .m 1 5 .done
@[simp] def W77_3 := C.w K77_3.eq_1
def K77_4 : C := .seq (.block 1 (.seq (.pl <| .e 4 6 <|
 .m 4 0 <|
 .m 5 3 <|
 .m 6 1 <|
 .x 7 (.bin .rem (.v 6) (.c (.int .i64 3))) <|
 .x 8 (.bin .eql (.v 7) (.c (.int .i64 0))) <|
 .x 9 (.ia 1 (.v 4) (.v 5)) <|
 .o (.ex none (.store 1 (.v 9) (.v 8))) .done) K77_3)) K77_2
@[simp] def W77_4 := C.w K77_4.eq_1
def K77_5 : C := .cond 4 (.v 7) (.skip) (.exit 0)
@[simp] def W77_5 := C.w K77_5.eq_1
def K77_6 : C := .seq (.seq (.pl <| .e 4 4 <|
 .m 4 3 <|
 .m 5 0 <|
 .x 6 (.lenV (.v 5)) <|
 .x 7 (.bin .lss (.v 4) (.v 6)) .done) K77_5) K77_4
@[simp] def W77_6 := C.w K77_6.eq_1
def K77_7 : C := .block 0 (.loop 4 [2] K77_6)
@[simp] def W77_7 := C.w K77_7.eq_1
def K77_8 : C := .seq (.seq (.pl <| .e 4 0 <|
 .x 3 (.mv (.c (.int .i64 0))) .done) K77_7) K77_1
@[simp] def W77_8 := C.w K77_8.eq_1
def B_laws_markBoolS : C := .seq (.pl <| .e 4 0 <|
 .x 2 (.mv (.c (.int .i64 0))) .done) K77_8
@[simp] def WB_laws_markBoolS := C.w B_laws_markBoolS.eq_1
def R_laws_markBoolS : FIR := ⟨B_laws_markBoolS, 4, [(2, none)]⟩
theorem IR_laws_markBoolS : cfun Try.prog H_laws_markBoolS Try.f77 = some R_laws_markBoolS := by kernel_rfl
theorem EN_laws_markBoolS : ENT Try.prog B_laws_markBoolS [(2, none)] 2 4 fn_laws_markBoolS := fun hargs hw => enter Try.func77 rfl IR_laws_markBoolS hargs hw
end Go.Proofs.Ytglnelcmcimljaa
