/-
  Texts of this proof, one behind the other.
-/
import Derived.Test.YtbanccfdojgocaaRows
import Derived.Test.YtbanccfdojgocaaYF2
set_option linter.all false
set_option linter.unusedVariables false
set_option linter.unusedSimpArgs false
set_option linter.defProp false
set_option maxRecDepth 1000000
namespace Go.Proofs.Ytbanccfdojgocaa
open Go
universe u
def retQ (res : List (Nat × Option (Option Nat))) (k : Value → Heap → Prop) (x : Ex) (e : Env) (h : Heap) : Prop :=
  match x with
  | .exit _ => False
  | _ => ∃ vs, resV e res = some vs ∧ ∃ h2, h2.le h ∧ k (tupV vs) h2
def RetK (k : Value → Heap → Prop) (v : Value) (h : Heap) : Prop := ∃ h2, h2.le h ∧ k v h2
theorem RetK.keep {k : Value → Heap → Prop} {v : Value} {h : Heap} (hk : k v h) : RetK k v h := ⟨h, fun _ _ hb => hb, hk⟩
theorem RetK.drop {k : Value → Heap → Prop} {v : Value} {h h2 : Heap} (hl : h2.le h) (hk : k v h2) : RetK k v h := ⟨h2, hl, hk⟩
def ExW {α : Type} (x : Option α) (k : α → Prop) : Prop := ∃ v, x = some v ∧ k v
@[simp] theorem ExW_some {α : Type} {v : α} {k : α → Prop} : ExW (some v) k = k v := by simp [ExW]
theorem ExW.mk {α : Type} {x : Option α} {k : α → Prop} {v : α} (hx : x = some v) (hk : k v) : ExW x k := ⟨v, hx, hk⟩
def AndW (p A : Prop) : Prop := p ∧ A
@[simp] theorem AndW_true {A : Prop} : AndW True A = A := by simp [AndW]
theorem AndW.mk {p A : Prop} (hp : p) (hA : A) : AndW p A := ⟨hp, hA⟩
def fnOf : Value → Option (FuncId × List Value × List Value)
  | .func (.func f) first cap => some (f, first.toList, cap.toList)
  | _ => none
def IteW (p A B : Prop) : Prop := (p → A) ∧ (¬ p → B)
theorem IteW.mk {p A B : Prop} (h1 : p → A) (h2 : ¬ p → B) : IteW p A B := ⟨h1, h2⟩
@[simp] theorem IteW_true {A B : Prop} : IteW True A B = A := by simp [IteW]
@[simp] theorem IteW_false {A B : Prop} : IteW False A B = B := by simp [IteW]
@[simp] theorem IteW_not {p A B : Prop} : IteW (¬ p) A B = IteW p B A := by simp [IteW, And.comm]
theorem IteW_neg {p A B : Prop} (h : ¬ p) : IteW p A B = B := by simp [IteW, h]
def condW (v : Option Value) (A B : Prop) : Prop := ∃ t, v = some (.bool t) ∧ IteW (t = true) A B
@[simp] theorem condW_bool {b : Bool} {A B : Prop} : condW (some (.bool b)) A B = IteW (b = true) A B := by simp [condW]
theorem A.wp_mono {P : Program} {k k' : Env → Heap → Prop} (hk : ∀ e h, k e h → k' e h) {e : Env} {h : Heap} {x : A} (hx : x.wp P k e h) : x.wp P k' e h := by
  cases x <;> simp only [A.wp] at hx ⊢
  case px => obtain ⟨v, h1, h2⟩ := hx; exact ⟨v, h1, hk _ _ h2⟩
  case ld => obtain ⟨v, h1, h2⟩ := hx; exact ⟨v, h1, hk _ _ h2⟩
  case ex => exact EX.wp_mono (fun v h' ⟨h2, hl, h3⟩ => ⟨h2, hl, hk _ _ h3⟩) hx
  case pnew => obtain ⟨v, h1, h2⟩ := hx; exact ⟨v, h1, hk _ _ h2⟩
  case pget => obtain ⟨v, h1, h2⟩ := hx; exact ⟨v, h1, hk _ _ h2⟩
  case pset => obtain ⟨h0, v, h1, h2⟩ := hx; exact ⟨h0, v, h1, hk _ _ h2⟩
  case als => exact ⟨hx.1, hx.2.1, hk _ _ hx.2.2⟩
  case psl => obtain ⟨v, h1, h2⟩ := hx; exact ⟨v, h1, hk _ _ h2⟩
theorem S.wp_mono {P : Program} {k k' : Env → Heap → Prop} (hk : ∀ e h, k e h → k' e h) {e : Env} {h : Heap} {s : S} (hx : s.wp P k e h) : s.wp P k' e h := by
  cases s with
  | act g x =>
    cases g with
    | none => exact A.wp_mono hk hx
    | some g =>
      simp only [S.wp] at hx ⊢
      obtain ⟨b, h1, h2⟩ := hx
      refine ⟨b, h1, ?_⟩
      cases hv : x.val e h with
      | none => rw [hv] at h2; exact ⟨fun hb => A.wp_mono hk (h2.1 hb), fun hb => hk _ _ (h2.2 hb)⟩
      | some dv => rw [hv] at h2; exact ⟨h2.1, hk _ _ h2.2⟩
  | re d a sz g =>
    cases g with
    | none => exact ⟨hx.1, hk _ _ hx.2⟩
    | some g => obtain ⟨b, h1, h2, h3⟩ := hx; exact ⟨b, h1, h2, hk _ _ h3⟩
  | ext n m => exact hk _ _ hx
theorem Pl.wp_mono {P : Program} {k k' : Env → Heap → Prop} (hk : ∀ e h, k e h → k' e h) : ∀ (p : Pl) {e : Env} {h : Heap}, p.wp P k e h → p.wp P k' e h
  | .done, _, _, hx => hk _ _ hx
  | .st _ n, _, _, hx => S.wp_mono (fun _ _ => Pl.wp_mono hk n) hx
  | .both a b, _, _, hx => ⟨Pl.wp_mono hk a hx.1, Pl.wp_mono hk b hx.2⟩
theorem C.wp_mono {P : Program} : ∀ (c : C) {Q Q' : Ex → Env → Heap → Prop} (_ : ∀ x e h, Q x e h → Q' x e h) {e : Env} {h : Heap}, c.wp P Q e h → c.wp P Q' e h
  | .skip, _, _, hQ, _, _, hx => hQ _ _ _ hx
  | .pl p, _, _, hQ, _, _, hx => Pl.wp_mono (hQ .nrm) p hx
  | .seq a b, _, _, hQ, _, _, hx => C.wp_mono a (fun x e h => by cases x <;> first | exact hQ _ _ _ | exact C.wp_mono b hQ) hx
  | .cond n o a b, _, _, hQ, _, _, ⟨t, h1, h2, h3⟩ => ⟨t, h1, fun ht => C.wp_mono a hQ (h2 ht), fun ht => C.wp_mono b hQ (h3 ht)⟩
  | .block id a, _, _, hQ, _, _, hx => C.wp_mono a (fun x e h hx => by
      cases x with
      | exit i =>
        by_cases hi : i = id
        · simp only [if_pos hi] at hx ⊢; exact hQ _ _ _ hx
        · simp only [if_neg hi] at hx ⊢; exact hQ _ _ _ hx
      | nrm => exact hQ _ _ _ hx
      | ret => exact hQ _ _ _ hx) hx
  | .loop n fg a, _, _, hQ, _, _, ⟨I, h0, hs⟩ => ⟨I, h0, fun m e h hI => C.wp_mono a (fun x e h hx => by
      cases x with
      | nrm => exact hx
      | exit i => exact hQ _ _ _ hx
      | ret => exact hQ _ _ _ hx) (hs m e h hI)⟩
  | .exit _, _, _, hQ, _, _, hx => hQ _ _ _ hx
  | .ret, _, _, hQ, _, _, hx => hQ _ _ _ hx
section
variable {P : Program} {Q : Ex → Env → Heap → Prop} {e : Env} {h : Heap}
def seqQ (P : Program) (b : C) (Q : Ex → Env → Heap → Prop) (x : Ex) (e : Env) (h : Heap) : Prop :=
  match x with
  | .nrm => b.wp P Q e h
  | x => Q x e h
def blockQ (id : Nat) (Q : Ex → Env → Heap → Prop) (x : Ex) (e : Env) (h : Heap) : Prop :=
  match x with
  | .exit i => if i = id then Q .nrm e h else Q (.exit i) e h
  | x => Q x e h
def loopQ (n : Nat) (fg : List Nat) (I : Env → Heap → Prop) (Q : Ex → Env → Heap → Prop) (x : Ex) (e : Env) (h : Heap) : Prop :=
  match x with
  | .nrm => I (efgt (e.take n) fg) h
  | x => Q x e h
@[simp] theorem seqQ_nrm {b : C} : seqQ P b Q .nrm e h = b.wp P Q e h := rfl
@[simp] theorem seqQ_ret {b : C} : seqQ P b Q .ret e h = Q .ret e h := rfl
@[simp] theorem seqQ_exit {b : C} {i : Nat} : seqQ P b Q (.exit i) e h = Q (.exit i) e h := rfl
@[simp] theorem blockQ_nrm {i : Nat} : blockQ i Q .nrm e h = Q .nrm e h := rfl
@[simp] theorem blockQ_ret {i : Nat} : blockQ i Q .ret e h = Q .ret e h := rfl
@[simp] theorem blockQ_exit {i j : Nat} : blockQ i Q (.exit j) e h = if j = i then Q .nrm e h else Q (.exit j) e h := rfl
@[simp] theorem loopQ_nrm {n : Nat} {fg : List Nat} {I : Env → Heap → Prop} : loopQ n fg I Q .nrm e h = I (efgt (e.take n) fg) h := rfl
@[simp] theorem loopQ_ret {n : Nat} {fg : List Nat} {I : Env → Heap → Prop} : loopQ n fg I Q .ret e h = Q .ret e h := rfl
@[simp] theorem loopQ_exit {n : Nat} {fg : List Nat} {I : Env → Heap → Prop} {i : Nat} : loopQ n fg I Q (.exit i) e h = Q (.exit i) e h := rfl
@[simp] theorem retQ_nrm {res : List (Nat × Option (Option Nat))} {k : Value → Heap → Prop} : retQ res k .nrm e h = ExW (resV e res) (fun vs => RetK k (tupV vs) h) := rfl
@[simp] theorem retQ_ret {res : List (Nat × Option (Option Nat))} {k : Value → Heap → Prop} : retQ res k .ret e h = ExW (resV e res) (fun vs => RetK k (tupV vs) h) := rfl
@[simp] theorem retQ_exit {res : List (Nat × Option (Option Nat))} {k : Value → Heap → Prop} {i : Nat} : retQ res k (.exit i) e h = False := rfl
theorem wp_skip : C.skip.wp P Q e h = Q .nrm e h := rfl
theorem wp_pl {p : Pl} : (C.pl p).wp P Q e h = p.wp P (Q .nrm) e h := rfl
theorem wp_seq {a b : C} : (C.seq a b).wp P Q e h = a.wp P (seqQ P b Q) e h := by
  simp only [C.wp]
  congr 1
theorem wp_cond {n : Nat} {o : O} {a b : C} : (C.cond n o a b).wp P Q e h = condW (o.get e) (a.wp P Q (e.take n) h) (b.wp P Q (e.take n) h) := by
  simp [C.wp, condW, IteW]
theorem wp_block {i : Nat} {a : C} : (C.block i a).wp P Q e h = a.wp P (blockQ i Q) e h := by
  simp only [C.wp]
  congr 1
theorem wp_exit {i : Nat} : (C.exit i).wp P Q e h = Q (.exit i) e h := rfl
theorem wp_ret : C.ret.wp P Q e h = Q .ret e h := rfl
theorem wp_loop {n : Nat} {fg : List Nat} {a : C} (I : Nat → Env → Heap → Prop) (h0 : ∃ m, I m (efgt (e.take n) fg) h)
    (hs : ∀ (I' : Env → Heap → Prop) m e h, (∀ m' e h, m' < m → I m' e h → I' e h) → I m e h → a.wp P (loopQ n fg I' Q) e h) : (C.loop n fg a).wp P Q e h := by
  refine ⟨I, h0, fun m e h hI => ?_⟩
  have h1 := hs (fun e' h' => ∃ m', m' < m ∧ I m' e' h') m e h (fun m' e h hm hI => ⟨m', hm, hI⟩) hI
  have h2 : (fun (x : Ex) (e' : Env) (h' : Heap) => match x with
        | .nrm => ∃ m', m' < m ∧ I m' (efgt (e'.take n) fg) h'
        | x => Q x e' h') = loopQ n fg (fun e' h' => ∃ m', m' < m ∧ I m' e' h') Q := by
    funext x e' h'
    cases x <;> rfl
  exact h2 ▸ h1
theorem wp_count {n : Nat} {fg : List Nat} {a : C} (N : Nat) (J : Nat → Env → Heap → Prop) (h0 : J 0 (efgt (e.take n) fg) h)
    (hs : ∀ (J' : Env → Heap → Prop) i e h, (∀ e h, i < N → J (i + 1) e h → J' e h) → i ≤ N → J i e h → a.wp P (loopQ n fg J' Q) e h) : (C.loop n fg a).wp P Q e h := by
  refine wp_loop (fun m e h => ∃ i, i ≤ N ∧ m = N - i ∧ J i e h) ⟨N, 0, by omega, by omega, h0⟩ ?_
  rintro I' m e h hI ⟨i, hi, rfl, hJ⟩
  exact hs I' i e h (fun e h hlt hJ => hI (N - (i + 1)) e h (by omega) ⟨i + 1, hlt, rfl, hJ⟩) hi hJ
theorem pl_done {k : Env → Heap → Prop} : Pl.done.wp P k e h = k e h := rfl
theorem pl_st {s : S} {n : Pl} {k : Env → Heap → Prop} : (Pl.st s n).wp P k e h = s.wp P (n.wp P k) e h := rfl
theorem s_act {x : A} {k : Env → Heap → Prop} : (S.act none x).wp P k e h = x.wp P k e h := rfl
def gvw (w : Bool) : Option Value → Option Bool
  | some (.bool b) => some (b == w)
  | some _ => some false
  | none => none
def guardW (v : Option Value) (w : Bool) (A B : Prop) : Prop := ∃ b, gvw w v = some b ∧ (b = true → A) ∧ (b = false → B)
@[congr] theorem guardW_congr {v v' : Option Value} {w : Bool} {A B : Prop} (hv : v = v') : guardW v w A B = guardW v' w A B := by rw [hv]
@[simp] theorem guardW_tt {A B : Prop} : guardW (some (.bool true)) true A B = A := by simp [guardW, gvw]
@[simp] theorem guardW_ff {A B : Prop} : guardW (some (.bool false)) false A B = A := by simp [guardW, gvw]
@[simp] theorem guardW_tf {A B : Prop} : guardW (some (.bool true)) false A B = B := by simp [guardW, gvw]
@[simp] theorem guardW_ft {A B : Prop} : guardW (some (.bool false)) true A B = B := by simp [guardW, gvw]
@[simp] theorem guardW_undef {w : Bool} {A B : Prop} : guardW (some undef) w A B = B := by simp [guardW, gvw, undef]
theorem gcond_gvw {o : O} {w : Bool} : gcond e (some (o, w)) = gvw w (o.get e) := by
  simp only [gcond]
  cases o.get e with
  | none => rfl
  | some v => cases v <;> rfl
theorem s_gp {v : Option Value} {d : Option Nat} {b : Bool} {k : Env → Heap → Prop} : ((b = true → v.isSome = true) ∧ k (dput d (gval b v) e) h) ↔ ((b = true → ∃ u, v = some u ∧ k (dput d (some u) e) h) ∧ (b = false → k (dput d (some undef) e) h)) := by
  cases b
  · simp [gval]
  · cases v <;> simp [gval]
theorem s_g {o : O} {w : Bool} {x : A} {k : Env → Heap → Prop} : (S.act (some (o, w)) x).wp P k e h = guardW (o.get e) w (x.wp P k e h) (k (dput x.dst (some undef) e) h) := by
  have key : ∀ b : Bool, (match x.val e h with
    | some (d, v) => (b = true → v.isSome = true) ∧ k (dput d (gval b v) e) h
    | none => (b = true → x.wp P k e h) ∧ (b = false → k (dput x.dst (some undef) e) h)) ↔ (b = true → x.wp P k e h) ∧ (b = false → k (dput x.dst (some undef) e) h) := by
    intro b
    cases x
    case px => exact s_gp
    case ld => exact s_gp
    case pget => exact s_gp
    all_goals exact Iff.rfl
  apply propext
  constructor
  · rintro ⟨b, h1, h2⟩; exact ⟨b, gcond_gvw ▸ h1, (key b).1 h2⟩
  · rintro ⟨b, h1, h2⟩; exact ⟨b, gcond_gvw ▸ h1, (key b).2 h2⟩
theorem s_re {d : Nat} {a : O} {sz : Option Nat} {k : Env → Heap → Prop} : (S.re d a sz none).wp P k e h = AndW (hload h (a.get e) sz = eget e d) (k e h) := rfl
theorem s_reg {d : Nat} {a : O} {sz : Option Nat} {g : O × Bool} {k : Env → Heap → Prop} : (S.re d a sz (some g)).wp P k e h =
    ∃ b, gcond e (some g) = some b ∧ (b = true → hload h (a.get e) sz = eget e d) ∧ k e h := rfl
theorem s_ext {n m : Nat} {k : Env → Heap → Prop} : (S.ext n m).wp P k e h = k (eext n m e) h := rfl
theorem a_px {d : Option Nat} {x : PX} {k : Env → Heap → Prop} : (A.px d x).wp P k e h = ExW (x.ev e) (fun v => k (dput d (some v) e) h) := rfl
theorem a_ld {d : Option Nat} {a : O} {sz : Option Nat} {k : Env → Heap → Prop} : (A.ld d a sz).wp P k e h = ExW (hload h (a.get e) sz) (fun v => k (dput d (some v) e) h) := rfl
theorem a_pnew {i : Nat} {x : O} {cl : List Nat} {k : Env → Heap → Prop} : (A.pnew i x cl).wp P k e h = ExW (x.get e) (fun v => k (efgt (eset e i (some v)) cl) h) := rfl
theorem a_pget {d c : Option Nat} {i off : Nat} {sz : Option Nat} {k : Env → Heap → Prop} : (A.pget d c i off sz).wp P k e h = ExW (pgetC e c i off sz) (fun v => k (dput d (some v) e) h) := rfl
theorem a_pset {c : Option Nat} {i off sz : Nat} {x : O} {k : Env → Heap → Prop} : (A.pset c i off sz x).wp P k e h = AndW (aok e c = true) (ExW (psetV (eget e i) off sz (x.get e)) (fun v => k (eset e i (some v)) h)) := rfl
theorem a_als {d : Nat} {c : Option Nat} {i : Nat} {k : Env → Heap → Prop} : (A.als d c i).wp P k e h = AndW (aok e c = true) (AndW ((eget e i).isSome = true) (k (eset e d (some (.bool true))) h)) := rfl
theorem a_psl {d : Nat} {z : List Value} {ps : List (Nat × Nat × O)} {k : Env → Heap → Prop} : (A.psl d z ps).wp P k e h = ExW (fillP e z ps) (fun cs => k (eset e d (some (.agg cs.toArray))) h) := rfl
theorem a_call {d : Option Nat} {f : FuncId} {args : List O} {k : Env → Heap → Prop} : (A.ex d (.call f args)).wp P k e h = ExW (ogets e args) (fun vs => CallE P f vs h fun v h' => Fgt k (dput d (some v) e) h') := rfl
theorem a_callv {d : Option Nat} {fo : O} {args : List O} {k : Env → Heap → Prop} : (A.ex d (.callv fo args)).wp P k e h =
    ExW ((fo.get e).bind fnOf) (fun c => ExW (ogets e args) (fun vs => CallE P c.1 (c.2.1 ++ vs ++ c.2.2) h fun v h' => Fgt k (dput d (some v) e) h')) := by
  apply propext
  constructor
  · rintro ⟨f, first, cap, vs, h1, h2, h3⟩
    exact ⟨(f, first.toList, cap.toList), by rw [h1]; rfl, vs, h2, h3⟩
  · rintro ⟨⟨f, first, cap⟩, h1, vs, h2, h3⟩
    cases hf : fo.get e with
    | none => rw [hf] at h1; simp at h1
    | some v =>
      rw [hf] at h1
      simp only [Option.bind_some] at h1
      unfold fnOf at h1
      split at h1
      · simp only [Option.some.injEq, Prod.mk.injEq] at h1
        obtain ⟨rfl, rfl, rfl⟩ := h1
        exact ⟨_, _, _, vs, hf, h2, h3⟩
      · simp at h1
@[simp] theorem fnOf_func {f : FuncId} {a b : Array Value} : fnOf (.func (.func f) a b) = some (f, a.toList, b.toList) := rfl
@[simp] theorem eget_zero {x : Option Value} {l : Env} : eget (x :: l) 0 = x := rfl
@[simp] theorem eget_succ {x : Option Value} {l : Env} {n : Nat} : eget (x :: l) (n + 1) = eget l n := rfl
@[simp] theorem eset_zero {x v : Option Value} {l : Env} : eset (x :: l) 0 v = v :: l := rfl
@[simp] theorem eset_succ {x v : Option Value} {l : Env} {n : Nat} : eset (x :: l) (n + 1) v = x :: eset l n v := rfl
@[simp] theorem efgt_nil {l : Env} : efgt l [] = l := rfl
@[simp] theorem efgt_cons {l : Env} {i : Nat} {r : List Nat} : efgt l (i :: r) = efgt (eset l i none) r := rfl
@[simp] theorem eext_zero {m : Nat} {l : Env} : eext 0 m l = List.replicate m none := rfl
@[simp] theorem eext_succ {n m : Nat} {x : Option Value} {l : Env} : eext (n + 1) m (x :: l) = x :: eext n m l := rfl
@[simp] theorem get_v {i : Nat} : (O.v i).get e = eget e i := rfl
@[simp] theorem get_c {x : Value} : (O.c x).get e = some x := rfl
@[simp] theorem ogets_nil : ogets e [] = some [] := rfl
@[simp] theorem dput_none {v : Option Value} : dput none v e = e := rfl
@[simp] theorem dput_some {i : Nat} {v : Option Value} : dput (some i) v e = eset e i v := rfl
@[simp] theorem gval_true {v : Option Value} : gval true v = v := rfl
@[simp] theorem gval_false {v : Option Value} : gval false v = some undef := rfl
@[simp] theorem tupV_one {v : Value} : tupV [v] = v := rfl
@[simp] theorem tupV_two {v u : Value} {l : List Value} : tupV (v :: u :: l) = .tuple (v :: u :: l).toArray := rfl
theorem le_refl' : h.le h := fun _ _ hb => hb
theorem Fgt.keep {k : Env → Heap → Prop} (hk : k e h) : Fgt k e h := ⟨h, le_refl', hk⟩
theorem Fgt.drop {k : Env → Heap → Prop} {h' : Heap} (hl : h'.le h) (hk : k e h') : Fgt k e h := ⟨h', hl, hk⟩
theorem wrap64 {n : Int} (h1 : -9223372036854775808 ≤ n) (h2 : n < 9223372036854775808) : IntKind.i64.wrap n = n := by
  rw [IntKind.wrap_i64]; omega
end
def allOne : List Value → Bool
  | [] => true
  | v :: l => v.oneCell' && allOne l
@[simp] theorem allOne_nil : allOne [] = true := rfl
@[simp] theorem allOne_cons {v : Value} {l : List Value} : allOne (v :: l) = (v.oneCell' && allOne l) := rfl
theorem allOne_eq : ∀ l, List.all l Value.oneCell' = allOne l
  | [] => rfl
  | v :: l => by simp [allOne, allOne_eq l]
@[simp] theorem cells_agg {c : Array Value} : (Value.agg c).cells = c := rfl
@[simp] theorem cells_int {k : IntKind} {n : Int} : (Value.int k n).cells = #[.int k n] := rfl
@[simp] theorem cells_bool {b : Bool} : (Value.bool b).cells = #[.bool b] := rfl
@[simp] theorem cells_string {b : ByteArray} : (Value.string b).cells = #[.string b] := rfl
@[simp] theorem cells_slice {p : Option Addr} {n c : Nat} : (Value.slice p n c).cells = #[.slice p n c] := rfl
@[simp] theorem cells_pointer {p : Option Addr} : (Value.pointer p).cells = #[.pointer p] := rfl
@[simp] theorem cells_map {p : Option Nat} : (Value.map p).cells = #[.map p] := rfl
@[simp] theorem cells_func {f : Fn} {a b : Array Value} : (Value.func f a b).cells = #[.func f a b] := rfl
@[simp] theorem cells_nilFunc : Value.nilFunc.cells = #[.nilFunc] := rfl
@[simp] theorem pgetV_agg {c : Array Value} {off : Nat} : pgetV (some (.agg c)) off none = c.toList[off]? := rfl
@[simp] theorem pgetV_aggs {c : Array Value} {off n : Nat} : pgetV (some (.agg c)) off (some n) = if off = 0 ∧ c.size = n then some (.agg c) else partV c.toList off (some n) := rfl
@[simp] theorem pgetV_int {k : IntKind} {n : Int} : pgetV (some (.int k n)) 0 none = some (.int k n) := rfl
@[simp] theorem pgetV_bool {b : Bool} : pgetV (some (.bool b)) 0 none = some (.bool b) := rfl
@[simp] theorem pgetV_string {b : ByteArray} : pgetV (some (.string b)) 0 none = some (.string b) := rfl
@[simp] theorem pgetV_slice {p : Option Addr} {n c : Nat} : pgetV (some (.slice p n c)) 0 none = some (.slice p n c) := rfl
@[simp] theorem psetV_agg {c : Array Value} {off sz : Nat} {x : Value} : psetV (some (.agg c)) off sz (some x) = if x.cells.size = sz ∧ off + sz ≤ c.size ∧ allOne x.cells.toList = true then
    some (if off = 0 ∧ sz = c.size then .agg x.cells else .agg (setC c.toList off x.cells.toList).toArray) else none := by
  rw [← allOne_eq]; rfl
@[simp] theorem psetV_int {k : IntKind} {n : Int} {x : Value} : psetV (some (.int k n)) 0 1 (some x) = if x.cells.size = 1 ∧ allOne x.cells.toList = true then x.cells[0]? else none := by
  rw [← allOne_eq]
  simp only [psetV, cells_int]
  simp
@[simp] theorem psetV_bool {b : Bool} {x : Value} : psetV (some (.bool b)) 0 1 (some x) = if x.cells.size = 1 ∧ allOne x.cells.toList = true then x.cells[0]? else none := by
  rw [← allOne_eq]
  simp only [psetV, cells_bool]
  simp
@[simp] theorem psetV_string {b : ByteArray} {x : Value} : psetV (some (.string b)) 0 1 (some x) = if x.cells.size = 1 ∧ allOne x.cells.toList = true then x.cells[0]? else none := by
  rw [← allOne_eq]
  simp only [psetV, cells_string]
  simp
@[simp] theorem psetV_slice {p : Option Addr} {n c : Nat} {x : Value} : psetV (some (.slice p n c)) 0 1 (some x) = if x.cells.size = 1 ∧ allOne x.cells.toList = true then x.cells[0]? else none := by
  rw [← allOne_eq]
  simp only [psetV, cells_slice]
  simp
@[simp] theorem one_int {k : IntKind} {n : Int} : (Value.int k n).oneCell' = true := rfl
@[simp] theorem one_bool {b : Bool} : (Value.bool b).oneCell' = true := rfl
@[simp] theorem one_string {b : ByteArray} : (Value.string b).oneCell' = true := rfl
@[simp] theorem one_slice {p : Option Addr} {n c : Nat} : (Value.slice p n c).oneCell' = true := rfl
@[simp] theorem one_pointer {p : Option Addr} : (Value.pointer p).oneCell' = true := rfl
@[simp] theorem one_map {p : Option Nat} : (Value.map p).oneCell' = true := rfl
@[simp] theorem one_func {f : Fn} {a b : Array Value} : (Value.func f a b).oneCell' = true := rfl
@[simp] theorem one_nilFunc : Value.nilFunc.oneCell' = true := rfl
attribute [simp] wp_skip wp_pl wp_seq wp_cond wp_block wp_exit wp_ret pl_done pl_st s_act s_g A.dst s_re s_reg s_ext
  a_px a_ld a_pnew a_pget a_pset a_als a_psl a_call a_callv PX.ev gcond env0 binV intV strV unV resV ogets pgetC aok eqB eqL fillP partV
theorem CallE.gen {P : Program} {f : FuncId} {args : List Value} {h : Heap} {Q : Value → Heap → Prop} (hg : ∀ k : Value → Heap → Prop, (∀ v h', Q v h' → k v h') → CallE P f args h k) : CallE P f args h Q := hg Q fun _ _ hq => hq
theorem CallE.to {P : Program} {f : FuncId} {args : List Value} {h : Heap} {Q k : Value → Heap → Prop} (hc : CallE P f args h Q) (hk : ∀ v h', Q v h' → k v h') : CallE P f args h k := CallE.mono hk hc
def Heap.nil : Heap := fun _ => none
def Heap.one (b : Nat) (o : Obj) : Heap := fun x => if x = b then some o else none
def clash : Obj := .map #[] 0
def oplus : Option Obj → Option Obj → Option Obj
  | none, y => y
  | some x, none => some x
  | some _, some _ => some clash
def Heap.add (h r : Heap) : Heap := fun b => oplus (h b) (r b)
def Dj (h r : Heap) : Prop := ∀ b, h b = none ∨ r b = none
section
variable {a b c h h' r r' : Heap}
@[simp] theorem oplus_none {x : Option Obj} : oplus x none = x := by cases x <;> rfl
@[simp] theorem none_oplus {x : Option Obj} : oplus none x = x := rfl
@[simp] theorem oplus_eq_none {x y : Option Obj} : oplus x y = none ↔ x = none ∧ y = none := by cases x <;> cases y <;> simp [oplus]
@[simp] theorem add_nil : h.add Heap.nil = h := by funext b; simp [Heap.add, Heap.nil]
@[simp] theorem nil_add : Heap.nil.add h = h := by funext b; simp [Heap.add, Heap.nil]
theorem add_assoc : (a.add b).add c = a.add (b.add c) := by
  funext x
  simp only [Heap.add]
  cases a x <;> cases b x <;> cases c x <;> rfl
theorem add_comm : a.add b = b.add a := by
  funext x
  simp only [Heap.add]
  cases a x <;> cases b x <;> rfl
instance : Std.Associative Heap.add := ⟨fun _ _ _ => add_assoc⟩
instance : Std.Commutative Heap.add := ⟨fun _ _ => add_comm⟩
theorem Dj.symm (d : Dj a b) : Dj b a := fun x => (d x).symm
theorem Dj.comm (_ : Dj a b) : a.add b = b.add a := add_comm
@[simp] theorem Dj_nil : Dj h Heap.nil := fun _ => .inr rfl
@[simp] theorem nil_Dj : Dj Heap.nil h := fun _ => .inl rfl
theorem Dj_add : Dj h (a.add b) ↔ Dj h a ∧ Dj h b := by
  constructor
  · intro d
    constructor <;> intro x <;> rcases d x with h1 | h1
    · exact .inl h1
    · simp only [Heap.add, oplus_eq_none] at h1; exact .inr h1.1
    · exact .inl h1
    · simp only [Heap.add, oplus_eq_none] at h1; exact .inr h1.2
  · rintro ⟨d1, d2⟩ x
    rcases d1 x with h1 | h1
    · exact .inl h1
    · rcases d2 x with h2 | h2
      · exact .inl h2
      · exact .inr (by simp [Heap.add, h1, h2])
theorem add_Dj : Dj (a.add b) h ↔ Dj a h ∧ Dj b h :=
  ⟨fun d => ⟨(Dj_add.1 d.symm).1.symm, (Dj_add.1 d.symm).2.symm⟩, fun d => (Dj_add.2 ⟨d.1.symm, d.2.symm⟩).symm⟩
theorem Dj_one {b : Nat} {o : Obj} : Dj h (Heap.one b o) ↔ h b = none := by
  constructor
  · intro d
    rcases d b with h1 | h1
    · exact h1
    · simp [Heap.one] at h1
  · intro h1 x
    by_cases hx : x = b
    · subst hx; exact .inl h1
    · exact .inr (by simp [Heap.one, hx])
theorem one_Dj {b : Nat} {o : Obj} : Dj (Heap.one b o) h ↔ h b = none := ⟨fun d => Dj_one.1 d.symm, fun d => (Dj_one.2 d).symm⟩
theorem set_new {b : Nat} {o : Obj} (hb : h b = none) : h.set b o = h.add (Heap.one b o) := by
  funext x
  by_cases hx : x = b
  · subst hx; simp [Heap.set, Heap.add, Heap.one, hb]
  · simp [Heap.set, Heap.add, Heap.one, hx]
theorem set_one {b : Nat} {o o' : Obj} (hb : h b = none) : (h.add (Heap.one b o)).set b o' = h.add (Heap.one b o') := by
  funext x
  by_cases hx : x = b
  · subst hx; simp [Heap.set, Heap.add, Heap.one, hb]
  · simp [Heap.set, Heap.add, Heap.one, hx]
theorem add_one_set {b : Nat} {o o' : Obj} (hb : h b = none) (hr : r b = none) : (h.add ((Heap.one b o).add r)).set b o' = h.add ((Heap.one b o').add r) := by
  funext x
  by_cases hx : x = b
  · subst hx; simp [Heap.set, Heap.add, Heap.one, hb, hr]
  · simp [Heap.set, Heap.add, Heap.one, hx]
theorem Heap.le.refl (h : Heap) : h.le h := fun _ _ hb => hb
theorem Heap.le.trans (h1 : a.le b) (h2 : b.le c) : a.le c := fun x o hb => h2 x o (h1 x o hb)
theorem le_add (d : Dj h r) : h.le (h.add r) := fun x o hb => by
  rcases d x with h1 | h1
  · rw [h1] at hb; simp at hb
  · simp [Heap.add, h1, hb]
theorem le_add' (d : Dj h r) : r.le (h.add r) := add_comm (a := h) ▸ le_add d.symm
theorem le_drop (d0 : Dj h r) (d : Dj r c) : (h.add c).le ((h.add r).add c) := by
  intro x o hb
  simp only [Heap.add] at hb ⊢
  rcases d x with h1 | h1
  · simpa [h1] using hb
  · rcases d0 x with h2 | h2
    · rw [h1, h2] at hb; simp at hb
    · simpa [h2] using hb
theorem add_swap (_ : Dj a b) : (h.add a).add b = (h.add b).add a := by rw [add_assoc, add_comm (a := a), add_assoc]
theorem Dj.le (d : Dj h r) (hl : h'.le h) : Dj h' r := fun x => by
  rcases d x with h1 | h1
  · cases hx : h' x with
    | none => exact .inl rfl
    | some o => rw [hl x o hx] at h1; simp at h1
  · exact .inr h1
theorem hcell_le {i off : Nat} {v : Value} (hl : h.le h') (hc : hcell h i off = some v) : hcell h' i off = some v := by
  unfold hcell at hc ⊢
  split at hc
  · rename_i c el fr hb
    rw [hl _ _ hb]
    exact hc
  · simp at hc
theorem hcells_le {i : Nat} : ∀ {n off : Nat} {l : List Value} (_ : h.le h') (_ : hcells h i off n = some l), hcells h' i off n = some l
  | 0, _, _, _, hc => hc
  | n + 1, off, l, hl, hc => by
    simp only [hcells] at hc ⊢
    split at hc
    · rename_i v r hv hr
      rw [hcell_le hl hv, hcells_le hl hr]
      exact hc
    · simp at hc
theorem hload_le {p : Option Value} {sz : Option Nat} {v : Value} (hl : h.le h') (hc : hload h p sz = some v) : hload h' p sz = some v := by
  unfold hload at hc ⊢
  split at hc
  · split at hc
    · exact hcell_le hl hc
    · simp only [Option.map_eq_some_iff] at hc ⊢
      obtain ⟨l, h1, h2⟩ := hc
      exact ⟨l, hcells_le hl h1, h2⟩
  · simp at hc
theorem hcells_mk {i : Nat} {c : Array Value} {el : TypeId} {fr : Nat × Nat} (hb : h i = some (.cells c el fr)) : ∀ {n off : Nat}, off + n ≤ c.size → hcells h i off n = some ((c.toList.drop off).take n)
  | 0, _, _ => by simp [hcells]
  | n + 1, off, ho => by
    simp only [hcells]
    rw [hcells_mk hb (n := n) (off := off + 1) (by omega)]
    have h1 : hcell h i off = some c[off] := by simp [hcell, hb]
    rw [h1]
    simp only [Option.some.injEq]
    rw [List.drop_eq_getElem_cons (by simp; omega : off < c.toList.length)]
    simp
end
class Ty (α : Type) where
  agg : Bool
  sz : Nat
  rep : Heap → List Value → α → Prop
  own : Heap → List Value → α → Prop
  one : agg = false → sz = 1
  len : ∀ {h cs x}, rep h cs x → cs.length = sz
  cell : ∀ {h cs x}, rep h cs x → ∀ v ∈ cs, v.oneCell' = true
  mono : ∀ {h h' cs x}, Heap.le h h' → rep h cs x → rep h' cs x
  own_rep : ∀ {r cs x}, own r cs x → rep r cs x
def valC (agg : Bool) (cs : List Value) : Value := if agg then .agg cs.toArray else cs.headD undef
def Rep {α : Type} [Ty α] (h : Heap) (v : Value) (x : α) : Prop := ∃ cs, v = valC (Ty.agg α) cs ∧ Ty.rep h cs x
def Own {α : Type} [Ty α] (r : Heap) (v : Value) (x : α) : Prop := ∃ cs, v = valC (Ty.agg α) cs ∧ Ty.own r cs x
def szo (α : Type) [Ty α] : Option Nat := if Ty.agg α then some (Ty.sz α) else none
section
variable {α : Type} [Ty α] {h h' r : Heap} {v : Value} {x : α}
theorem Rep.le (hr : Rep h v x) (hl : h.le h') : Rep h' v x := by
  obtain ⟨cs, h1, h2⟩ := hr
  exact ⟨cs, h1, Ty.mono hl h2⟩
theorem Own.rep (ho : Own r v x) : Rep r v x := by
  obtain ⟨cs, h1, h2⟩ := ho
  exact ⟨cs, h1, Ty.own_rep h2⟩
theorem Own.rep' (ho : Own r v x) (d : Dj h r) : Rep (h.add r) v x := ho.rep.le (le_add' d)
theorem Rep.add (hr : Rep h v x) (d : Dj h r) : Rep (h.add r) v x := hr.le (le_add d)
theorem valC_cells {cs : List Value} (h1 : Ty.agg α = false → cs.length = 1) (h2 : ∀ v ∈ cs, v.oneCell' = true) : (valC (Ty.agg α) cs).cells.toList = cs := by
  unfold valC
  cases ha : Ty.agg α with
  | true => rfl
  | false =>
    have := h1 ha
    match cs, this with
    | [u], _ =>
      have h3 := h2 u (by simp)
      cases u <;> first | rfl | simp [Value.oneCell'] at h3
theorem rep_cells {cs : List Value} (hr : Ty.rep h cs x) : (valC (Ty.agg α) cs).cells.toList = cs :=
  valC_cells (fun ha => by rw [Ty.len hr, Ty.one ha]) (Ty.cell hr)
end
def ownL {α : Type} [Ty α] : List α → List Value → Heap → Prop
  | [], _, r => r = Heap.nil
  | x :: l, cs, r => ∃ r1 r2, r = r1.add r2 ∧ Dj r1 r2 ∧ Ty.own r1 (cs.take (Ty.sz α)) x ∧ ownL l (cs.drop (Ty.sz α)) r2
def okP (p : Option Addr) : Prop := p = none ∨ ∃ b off, p = some ⟨b, off, none⟩
section
variable {α : Type} [Ty α]
def repL (h : Heap) (p : Option Addr) (l : List α) : Prop := ∀ i (hi : i < l.length), ∃ b off vs, p = some ⟨b, off, none⟩ ∧ hcells h b (off + i * Ty.sz α) (Ty.sz α) = some vs ∧ Ty.rep h vs l[i]
theorem repL_le {h h' : Heap} {p : Option Addr} {l : List α} (hl : h.le h') (hr : repL h p l) : repL h' p l := fun i hi => by
  obtain ⟨b, off, vs, h1, h2, h3⟩ := hr i hi
  exact ⟨b, off, vs, h1, hcells_le hl h2, Ty.mono hl h3⟩
theorem ownL_at : ∀ {l : List α} {cs : List Value} {r : Heap}, ownL l cs r → ∀ i (hi : i < l.length), ∃ r1 r2, r = r1.add r2 ∧ Dj r1 r2 ∧ Ty.own r1 ((cs.drop (i * Ty.sz α)).take (Ty.sz α)) l[i] ∧
    ∀ r1' c' y, Dj r1' r2 → Ty.own r1' c' y → ownL (l.set i y) (setC cs (i * Ty.sz α) c') (r1'.add r2)
  | [], _, _, _, i, hi => by simp at hi
  | x :: l, cs, r, ho, 0, _ => by
    obtain ⟨r1, r2, h1, h2, h3, h4⟩ := ho
    refine ⟨r1, r2, h1, h2, by simpa using h3, ?_⟩
    intro r1' c' y d o'
    have hlen := Ty.len (Ty.own_rep o')
    refine ⟨r1', r2, rfl, d, ?_, ?_⟩
    · simpa [setC, List.take_append, hlen] using o'
    · simpa [setC, List.drop_append, hlen] using h4
  | x :: l, cs, r, ho, i + 1, hi => by
    obtain ⟨r1, r2, h1, h2, h3, h4⟩ := ho
    obtain ⟨s1, s2, g1, g2, g3, g4⟩ := ownL_at h4 i (by simpa using hi)
    subst h1; subst g1
    obtain ⟨d1, d2⟩ := Dj_add.1 h2
    refine ⟨s1, r1.add s2, ?_, ?_, ?_, ?_⟩
    · rw [← add_assoc, d1.comm, add_assoc]
    · exact Dj_add.2 ⟨d1.symm, g2⟩
    · simpa [List.drop_drop, Nat.add_mul, Nat.add_comm] using g3
    · intro r1' c' y d o'
      obtain ⟨e1, e2⟩ := Dj_add.1 d
      have hlen := Ty.len (Ty.own_rep h3)
      have hlen' := Ty.len (Ty.own_rep o')
      have hcs : Ty.sz α ≤ cs.length := by
        have := hlen
        simp at this
        omega
      have ha : (i + 1) * Ty.sz α = Ty.sz α + i * Ty.sz α := by rw [Nat.add_mul]; omega
      refine ⟨r1, r1'.add s2, ?_, Dj_add.2 ⟨e1.symm, d2⟩, ?_, ?_⟩
      · rw [← add_assoc, e1.comm, add_assoc]
      · have : (setC cs ((i + 1) * Ty.sz α) c').take (Ty.sz α) = cs.take (Ty.sz α) := by
          rw [setC, ha, List.append_assoc, List.take_append_of_le_length (by simp; omega), List.take_take]
          congr 1; omega
        rw [this]; exact h3
      · have : (setC cs ((i + 1) * Ty.sz α) c').drop (Ty.sz α) = setC (cs.drop (Ty.sz α)) (i * Ty.sz α) c' := by
          unfold setC
          rw [ha, List.append_assoc, List.drop_append_of_le_length (by simp; omega), List.drop_take, List.append_assoc, List.drop_drop]
          congr 2
          · omega
          · congr 1; omega
        rw [this]
        exact g4 r1' c' y e2 o'
theorem ownL_sub {l : List α} {cs : List Value} {r : Heap} (ho : ownL l cs r) (i : Nat) (hi : i < l.length) : Ty.rep r ((cs.drop (i * Ty.sz α)).take (Ty.sz α)) l[i] := by
  obtain ⟨r1, r2, h1, h2, h3, _⟩ := ownL_at ho i hi
  subst h1
  exact Ty.mono (le_add h2) (Ty.own_rep h3)
theorem ownL_len : ∀ {l : List α} {cs : List Value} {r : Heap}, ownL l cs r → l.length * Ty.sz α ≤ cs.length
  | [], _, _, _ => by simp
  | x :: l, cs, r, ho => by
    obtain ⟨r1, r2, h1, h2, h3, h4⟩ := ho
    have := ownL_len h4
    have hlen := Ty.len (Ty.own_rep h3)
    simp at this hlen ⊢
    rw [Nat.add_mul]
    omega
theorem ownL_congr : ∀ {l : List α} {cs cs' : List Value} {r : Heap}, ownL l cs r → cs.take (l.length * Ty.sz α) = cs'.take (l.length * Ty.sz α) → ownL l cs' r
  | [], _, _, _, ho, _ => ho
  | x :: l, cs, cs', r, ho, he => by
    obtain ⟨r1, r2, h1, h2, h3, h4⟩ := ho
    have ha : (x :: l).length * Ty.sz α = Ty.sz α + l.length * Ty.sz α := by simp [Nat.add_mul]; omega
    rw [ha] at he
    refine ⟨r1, r2, h1, h2, ?_, ?_⟩
    · have := congrArg (List.take (Ty.sz α)) he
      rw [List.take_take, List.take_take, Nat.min_eq_left (by omega)] at this
      rw [← this]; exact h3
    · refine ownL_congr h4 ?_
      have := congrArg (List.drop (Ty.sz α)) he
      rw [List.drop_take, List.drop_take] at this
      simpa using this
theorem ownL_append : ∀ {l l2 : List α} {cs cs2 : List Value} {r r2 : Heap}, ownL l cs r → cs.length = l.length * Ty.sz α → ownL l2 cs2 r2 → Dj r r2 → ownL (l ++ l2) (cs ++ cs2) (r.add r2)
  | [], l2, cs, cs2, r, r2, ho, hc, h2, _ => by
    have : cs = [] := by simpa using hc
    subst this
    have hr : r = Heap.nil := ho
    subst hr
    simpa using h2
  | x :: l, l2, cs, cs2, r, r2, ho, hc, h2, d => by
    obtain ⟨s1, s2, e1, e2, e3, e4⟩ := ho
    subst e1
    obtain ⟨d1, d2⟩ := add_Dj.1 d
    have hlen := Ty.len (Ty.own_rep e3)
    have ha : cs.length = Ty.sz α + l.length * Ty.sz α := by rw [hc]; simp [Nat.add_mul]; omega
    refine ⟨s1, s2.add r2, by rw [add_assoc], Dj_add.2 ⟨e2, d1⟩, ?_, ?_⟩
    · rw [List.take_append_of_le_length (by omega)]; exact e3
    · rw [List.drop_append_of_le_length (by omega)]
      exact ownL_append e4 (by simp; omega) h2 d2
theorem ownL_split : ∀ {l l2 : List α} {cs : List Value} {r : Heap}, ownL (l ++ l2) cs r → ∃ r1 r2, r = r1.add r2 ∧ Dj r1 r2 ∧ ownL l cs r1 ∧ ownL l2 (cs.drop (l.length * Ty.sz α)) r2
  | [], l2, cs, r, ho => ⟨Heap.nil, r, by simp, by simp, rfl, by simpa using ho⟩
  | x :: l, l2, cs, r, ho => by
    obtain ⟨s1, s2, e1, e2, e3, e4⟩ := ho
    obtain ⟨t1, t2, f1, f2, f3, f4⟩ := ownL_split e4
    subst e1; subst f1
    obtain ⟨d1, d2⟩ := Dj_add.1 e2
    refine ⟨s1.add t1, t2, by rw [add_assoc], add_Dj.2 ⟨d2, f2⟩, ⟨s1, t1, rfl, d1, e3, f3⟩, ?_⟩
    rw [List.drop_drop] at f4
    have ha : (x :: l).length * Ty.sz α = Ty.sz α + l.length * Ty.sz α := by simp [Nat.add_mul]; omega
    rw [ha]; exact f4
theorem ownL_reps {z : List Value} {y : α} (hz : Ty.own Heap.nil z y) : ∀ n, ownL (List.replicate n y) (reps n z) Heap.nil
  | 0 => rfl
  | n + 1 => by
    have hlen := Ty.len (Ty.own_rep hz)
    refine ⟨Heap.nil, Heap.nil, by simp, by simp, ?_, ?_⟩
    · simpa [reps, List.replicate_succ, List.take_append, hlen] using hz
    · simpa [reps, List.replicate_succ, List.drop_append, hlen] using ownL_reps hz n
end
section
variable {α : Type} [Ty α]
def repS (h : Heap) (cs : List Value) (l : List α) : Prop := ∃ p cap, cs = [.slice p l.length cap] ∧ (l.length ≤ cap ∧ l.length < 4611686018427387904) ∧ True ∧ repL h p l
def ownS (r : Heap) (cs : List Value) (l : List α) : Prop :=
  (∃ p, cs = [.slice p 0 0] ∧ l = [] ∧ r = Heap.nil ∧ okP p) ∨
  ∃ (b off cap : Nat) (cells : List Value) (el : TypeId) (r' : Heap), cs = [.slice (some ⟨b, off, none⟩) l.length cap] ∧ (l.length ≤ cap ∧ l.length < 4611686018427387904) ∧ off + cap * Ty.sz α ≤ cells.length ∧
    r = (Heap.one b (.cells cells.toArray el (0, 0))).add r' ∧ r' b = none ∧ ownL l (cells.drop off) r'
theorem ownS_rep {r : Heap} {cs : List Value} {l : List α} (ho : ownS r cs l) : repS r cs l := by
  rcases ho with ⟨p, h1, h2, h3, h4⟩ | ⟨b, off, cap, cells, el, r', h1, h2, h3, h4, h5, h6⟩
  · subst h2
    exact ⟨p, 0, h1, by simp, trivial, fun i hi => by simp at hi⟩
  · refine ⟨_, cap, h1, h2, trivial, ?_⟩
    intro i hi
    subst h4
    have hb : ((Heap.one b (.cells cells.toArray el (0, 0))).add r') b = some (.cells cells.toArray el (0, 0)) := by simp [Heap.add, Heap.one, h5]
    have hsz : i * Ty.sz α + Ty.sz α ≤ cap * Ty.sz α := by
      rw [← Nat.succ_mul]
      exact Nat.mul_le_mul_right _ (by have := h2.1; omega)
    refine ⟨b, off, _, rfl, hcells_mk hb (by simp; omega), ?_⟩
    have := ownL_sub h6 i hi
    rw [List.drop_drop] at this
    exact Ty.mono (le_add' (one_Dj.2 h5)) this
instance instTyList : Ty (List α) where
  agg := false
  sz := 1
  rep := repS
  own := ownS
  one := fun _ => rfl
  len := by rintro h cs x ⟨p, cap, rfl, _⟩; rfl
  cell := by rintro h cs x ⟨p, cap, rfl, _⟩ v hv; simp at hv; subst hv; rfl
  mono := by
    rintro h h' cs x hl ⟨p, cap, h1, h2, h3, h4⟩
    exact ⟨p, cap, h1, h2, h3, repL_le hl h4⟩
  own_rep := ownS_rep
end
instance instTyInt : Ty Int where
  agg := false
  sz := 1
  rep := fun _ cs n => cs = [.int .i64 n] ∧ -9223372036854775808 ≤ n ∧ n < 9223372036854775808
  own := fun r cs n => r = Heap.nil ∧ cs = [.int .i64 n] ∧ -9223372036854775808 ≤ n ∧ n < 9223372036854775808
  one := fun _ => rfl
  len := by rintro h cs x ⟨rfl, _⟩; rfl
  cell := by rintro h cs x ⟨rfl, _⟩ v hv; simp at hv; subst hv; rfl
  mono := fun _ hr => hr
  own_rep := fun ho => ho.2
instance instTyBool : Ty Bool where
  agg := false
  sz := 1
  rep := fun _ cs n => cs = [.bool n]
  own := fun r cs n => r = Heap.nil ∧ cs = [.bool n]
  one := fun _ => rfl
  len := by rintro h cs x rfl; rfl
  cell := by rintro h cs x rfl v hv; simp at hv; subst hv; rfl
  mono := fun _ hr => hr
  own_rep := fun ho => ho.2
instance instTyStr : Ty ByteArray where
  agg := false
  sz := 1
  rep := fun _ cs n => cs = [.string n]
  own := fun r cs n => r = Heap.nil ∧ cs = [.string n]
  one := fun _ => rfl
  len := by rintro h cs x rfl; rfl
  cell := by rintro h cs x rfl v hv; simp at hv; subst hv; rfl
  mono := fun _ hr => hr
  own_rep := fun ho => ho.2
instance instTyU64 : Ty (BitVec 64) where
  agg := false
  sz := 1
  rep := fun _ cs n => cs = [.int .u64 n.toNat]
  own := fun r cs n => r = Heap.nil ∧ cs = [.int .u64 n.toNat]
  one := fun _ => rfl
  len := by rintro h cs x rfl; rfl
  cell := by rintro h cs x rfl v hv; simp at hv; subst hv; rfl
  mono := fun _ hr => hr
  own_rep := fun ho => ho.2
instance instTyProd {α β : Type} [Ty α] [Ty β] : Ty (α × β) where
  agg := true
  sz := Ty.sz α + Ty.sz β
  rep := fun h cs x => ∃ c1 c2, cs = c1 ++ c2 ∧ Ty.rep h c1 x.1 ∧ Ty.rep h c2 x.2
  own := fun r cs x => ∃ c1 c2 r1 r2, cs = c1 ++ c2 ∧ r = r1.add r2 ∧ Dj r1 r2 ∧ Ty.own r1 c1 x.1 ∧ Ty.own r2 c2 x.2
  one := fun h => by simp at h
  len := by rintro h cs x ⟨c1, c2, rfl, h1, h2⟩; simp [Ty.len h1, Ty.len h2]
  cell := by
    rintro h cs x ⟨c1, c2, rfl, h1, h2⟩ v hv
    rcases List.mem_append.1 hv with h3 | h3
    · exact Ty.cell h1 v h3
    · exact Ty.cell h2 v h3
  mono := by rintro h h' cs x hl ⟨c1, c2, h0, h1, h2⟩; exact ⟨c1, c2, h0, Ty.mono hl h1, Ty.mono hl h2⟩
  own_rep := by
    rintro r cs x ⟨c1, c2, r1, r2, h0, rfl, d, h1, h2⟩
    exact ⟨c1, c2, h0, Ty.mono (le_add d) (Ty.own_rep h1), Ty.mono (le_add' d) (Ty.own_rep h2)⟩
@[reducible] def Ty.via {α β : Type} [Ty β] (f : α → β) : Ty α where
  agg := true
  sz := Ty.sz β
  rep := fun h cs x => Ty.rep h cs (f x)
  own := fun r cs x => Ty.own r cs (f x)
  one := fun h => by simp at h
  len := fun h => Ty.len h
  cell := fun h => Ty.cell h
  mono := fun hl h => Ty.mono hl h
  own_rep := fun h => Ty.own_rep h
class Flat (α : Type) [Ty α] where
  enc : α → List Value
  ok : α → Prop
  rep_iff : ∀ {h cs} {x : α}, Ty.rep h cs x ↔ cs = enc x ∧ ok x
  own_iff : ∀ {r cs} {x : α}, Ty.own r cs x ↔ r = Heap.nil ∧ cs = enc x ∧ ok x
instance : Flat Int := ⟨fun n => [.int .i64 n], fun n => -9223372036854775808 ≤ n ∧ n < 9223372036854775808, Iff.rfl, Iff.rfl⟩
instance : Flat Bool := ⟨fun n => [.bool n], fun _ => True, by simp [Ty.rep], by simp [Ty.own]⟩
instance : Flat ByteArray := ⟨fun n => [.string n], fun _ => True, by simp [Ty.rep], by simp [Ty.own]⟩
instance : Flat (BitVec 64) := ⟨fun n => [.int .u64 n.toNat], fun _ => True, by simp [Ty.rep], by simp [Ty.own]⟩
instance {α β : Type} [Ty α] [Ty β] [Flat α] [Flat β] : Flat (α × β) := ⟨fun x => Flat.enc x.1 ++ Flat.enc x.2, fun x => Flat.ok x.1 ∧ Flat.ok x.2, by
    intro h cs x
    simp only [Ty.rep, Flat.rep_iff]
    constructor
    · rintro ⟨c1, c2, rfl, ⟨rfl, h1⟩, rfl, h2⟩; exact ⟨rfl, h1, h2⟩
    · rintro ⟨rfl, h1, h2⟩; exact ⟨_, _, rfl, ⟨rfl, h1⟩, rfl, h2⟩, by
    intro h cs x
    simp only [Ty.own, Flat.own_iff]
    constructor
    · rintro ⟨c1, c2, r1, r2, rfl, rfl, _, ⟨rfl, rfl, h1⟩, rfl, rfl, h2⟩; exact ⟨by simp, rfl, h1, h2⟩
    · rintro ⟨rfl, rfl, h1, h2⟩; exact ⟨_, _, Heap.nil, Heap.nil, rfl, by simp, by simp, ⟨rfl, rfl, h1⟩, rfl, rfl, h2⟩⟩
@[reducible] def Flat.via {α β : Type} [Ty β] [Flat β] (f : α → β) : @Flat α (Ty.via f) :=
  let _ := Ty.via f
  ⟨fun x => Flat.enc (f x), fun x => Flat.ok (f x), fun {_ _ x} => Flat.rep_iff (x := f x), fun {_ _ x} => Flat.own_iff (x := f x)⟩
def elp (sz : Nat) (v : Value) (i : Nat) : Value :=
  match v with
  | .slice (some p) _ _ => .pointer (some (p.add (i * sz)))
  | _ => undef
theorem srcV_slice {h : Heap} {b off n cap esz : Nat} {l : List Value} (hc : hcells h b off (n * esz) = some l) : srcV h esz (some (.slice (some ⟨b, off, none⟩) n cap)) = some (n, l) := by
  cases n with
  | zero => simp [hcells] at hc; subst hc; rfl
  | succ n => simp only [srcV, hc]; rfl
theorem add_none (b off n : Nat) : (⟨b, off, none⟩ : Addr).add n = ⟨b, off + n, none⟩ := by
  unfold Addr.add
  split
  · next hn => simp [hn]
  · rfl
section
variable {α : Type} [Ty α] {h h' g r : Heap} {v : Value} {l : List α}
theorem Rep_list : Rep h v l ↔ ∃ p cap, v = .slice p l.length cap ∧ (l.length ≤ cap ∧ l.length < 4611686018427387904) ∧ True ∧ repL h p l := by
  constructor
  · rintro ⟨cs, rfl, p, cap, rfl, h1, h2, h3⟩; exact ⟨p, cap, rfl, h1, h2, h3⟩
  · rintro ⟨p, cap, rfl, h1, h2, h3⟩; exact ⟨_, rfl, p, cap, rfl, h1, h2, h3⟩
theorem Own_list : Own r v l ↔ (∃ p, v = .slice p 0 0 ∧ l = [] ∧ r = Heap.nil ∧ okP p) ∨
    ∃ (b off cap : Nat) (cells : List Value) (el : TypeId) (r' : Heap), v = .slice (some ⟨b, off, none⟩) l.length cap ∧ (l.length ≤ cap ∧ l.length < 4611686018427387904) ∧ off + cap * Ty.sz α ≤ cells.length ∧
    r = (Heap.one b (.cells cells.toArray el (0, 0))).add r' ∧ r' b = none ∧ ownL l (cells.drop off) r' := by
  constructor
  · rintro ⟨cs, rfl, ⟨p, rfl, h1, h2, h3⟩ | ⟨b, off, cap, cells, el, r', rfl, h1, h2, h3, h4, h5⟩⟩
    · exact .inl ⟨p, rfl, h1, h2, h3⟩
    · exact .inr ⟨b, off, cap, cells, el, r', rfl, h1, h2, h3, h4, h5⟩
  · rintro (⟨p, rfl, h1, h2, h3⟩ | ⟨b, off, cap, cells, el, r', rfl, h1, h2, h3, h4, h5⟩)
    · exact ⟨_, rfl, .inl ⟨p, rfl, h1, h2, h3⟩⟩
    · exact ⟨_, rfl, .inr ⟨b, off, cap, cells, el, r', rfl, h1, h2, h3, h4, h5⟩⟩
theorem Rep.len (hr : Rep h v l) : lenVV v = some (.int .i64 l.length) := by
  obtain ⟨p, cap, rfl, _⟩ := Rep_list.1 hr
  rfl
theorem Rep.lt (hr : Rep h v l) : l.length < 4611686018427387904 := by
  obtain ⟨p, cap, rfl, h1, _⟩ := Rep_list.1 hr
  exact h1.2
theorem Rep.cells (hr : Rep h v l) : v.cells = #[v] := by
  obtain ⟨p, cap, rfl, h1, _⟩ := Rep_list.1 hr
  rfl
theorem Rep.one (hr : Rep h v l) : v.oneCell' = true := by
  obtain ⟨p, cap, rfl, h1, _⟩ := Rep_list.1 hr
  rfl
theorem Rep.ia (hr : Rep h v l) {k : IntKind} {i : Int} (h0 : 0 ≤ i) (h1 : i < l.length) : iaV (Ty.sz α) v (.int k i) = some (elp (Ty.sz α) v i.toNat) := by
  obtain ⟨p, cap, rfl, hc, hp, hl⟩ := Rep_list.1 hr
  obtain ⟨b, off, vs, rfl, _⟩ := hl i.toNat (by omega)
  simp [iaV, elp, h0, h1]
theorem Rep.ld (hr : Rep h v l) {i : Nat} (hi : i < l.length) : ∃ u, hload h (some (elp (Ty.sz α) v i)) (szo α) = some u ∧ Rep h u l[i] := by
  obtain ⟨p, cap, rfl, hc, hp, hl⟩ := Rep_list.1 hr
  obtain ⟨b, off, vs, rfl, h1, h2⟩ := hl i hi
  refine ⟨valC (Ty.agg α) vs, ?_, vs, rfl, h2⟩
  simp only [elp, add_none, hload, szo, valC]
  cases ha : Ty.agg α with
  | true => simp [h1]
  | false =>
    have h3 := Ty.one ha
    rw [h3] at h1
    simp only [hcells] at h1
    rw [h3]
    simp only [Bool.false_eq_true, if_false]
    split at h1
    · rename_i v r hv hr
      simp only [Option.some.injEq] at h1
      subst h1
      simpa using hv
    · simp at h1
theorem Rep.ia' {n : Nat} (hr : Rep h v l) (hn : n = Ty.sz α) {k : IntKind} {i : Int} (h0 : 0 ≤ i) (h1 : i < l.length) : iaV n v (.int k i) = some (elp n v i.toNat) := by
  subst hn; exact hr.ia h0 h1
theorem Rep.ian {n : Nat} (hr : Rep h v l) (hn : n = Ty.sz α) {k : IntKind} {i : Nat} (h1 : i < l.length) : iaV n v (.int k i) = some (elp n v i) := by
  have := hr.ia' hn (k := k) (i := (i : Int)) (by omega) (by omega)
  simpa using this
theorem Rep.ldF [Flat α] (hr : Rep h v l) {i : Nat} (hi : i < l.length) : hload h (some (elp (Ty.sz α) v i)) (szo α) = some (valC (Ty.agg α) (Flat.enc l[i])) := by
  obtain ⟨u, h1, cs, h2, h3⟩ := hr.ld hi
  rw [h1, h2, (Flat.rep_iff.1 h3).1]
theorem Rep.okF [Flat α] (hr : Rep h v l) {i : Nat} (hi : i < l.length) : Flat.ok l[i] := by
  obtain ⟨u, h1, cs, h2, h3⟩ := hr.ld hi
  exact (Flat.rep_iff.1 h3).2
end
theorem Rep.ldI {h : Heap} {v : Value} {l : List Int} (hr : Rep h v l) {i : Nat} (hi : i < l.length) : hload h (some (elp 1 v i)) none = some (.int .i64 l[i]) := hr.ldF hi
theorem Rep.ldB {h : Heap} {v : Value} {l : List Bool} (hr : Rep h v l) {i : Nat} (hi : i < l.length) : hload h (some (elp 1 v i)) none = some (.bool l[i]) := hr.ldF hi
theorem Rep.ldS {h : Heap} {v : Value} {l : List ByteArray} (hr : Rep h v l) {i : Nat} (hi : i < l.length) : hload h (some (elp 1 v i)) none = some (.string l[i]) := hr.ldF hi
theorem Rep.ldU {h : Heap} {v : Value} {l : List (BitVec 64)} (hr : Rep h v l) {i : Nat} (hi : i < l.length) : hload h (some (elp 1 v i)) none = some (.int .u64 l[i].toNat) := hr.ldF hi
theorem own_nils {α : Type} [Ty α] : Ty.own (α := List α) Heap.nil [.slice none 0 0] [] := .inl ⟨none, rfl, rfl, rfl, .inl rfl⟩
theorem Own_nils {α : Type} [Ty α] : Own (α := List α) Heap.nil (.slice none 0 0) [] := ⟨_, rfl, own_nils⟩
theorem take_set_succ {α : Type} {x y : List α} {i : Nat} (h1 : y.take i = x.take i) (hi : i < x.length) (hl : y.length = x.length) : (y.set i x[i]).take (i + 1) = x.take (i + 1) := by
  rw [List.take_add_one, List.take_add_one, List.take_set_of_le (Nat.le_refl i), h1]
  simp [hi, hl]
theorem eq_of_take {α : Type} {x y : List α} {i : Nat} (h1 : y.take i = x.take i) (hi : x.length ≤ i) (hl : y.length = x.length) : y = x := by
  rwa [List.take_of_length_le (by omega), List.take_of_length_le hi] at h1
def Hole {α : Type} [Ty α] (r : Heap) (v : Value) (l : List α) (i : Nat) (u : Value) : Prop :=
  ∃ (b off cap : Nat) (cells : List Value) (el : TypeId) (r' : Heap), v = .slice (some ⟨b, off, none⟩) l.length cap ∧ i < l.length ∧ (l.length ≤ cap ∧ l.length < 4611686018427387904) ∧ off + cap * Ty.sz α ≤ cells.length ∧
    r = (Heap.one b (.cells cells.toArray el (0, 0))).add r' ∧ r' b = none ∧ u = valC (Ty.agg α) (((cells.drop off).drop (i * Ty.sz α)).take (Ty.sz α)) ∧
    ∀ r1' c' y, Dj r1' r' → Ty.own r1' c' y → ownL (l.set i y) (setC (cells.drop off) (i * Ty.sz α) c') (r1'.add r')
theorem setC_self {cs c : List Value} {n m : Nat} (h1 : (cs.drop n).take m = c) (hc : c.length = m) : setC cs n c = cs := by
  subst h1
  simp at hc
  unfold setC
  conv => rhs; rw [← List.take_append_drop n cs]
  rw [List.append_assoc]
  congr 1
  rw [List.length_take, List.length_drop]
  conv => rhs; rw [← List.take_append_drop m (cs.drop n)]
  rw [List.drop_drop]
  congr 2
  omega
section
variable {α : Type} [Ty α] {h h' g r r2 ru : Heap} {v u : Value} {l : List α} {i : Nat}
theorem valC_inj {c : List Value} {c' : List Value} (h1 : Ty.agg α = false → c.length = 1) (h2 : Ty.agg α = false → c'.length = 1) (hv : valC (Ty.agg α) c = valC (Ty.agg α) c') : c = c' := by
  unfold valC at hv
  cases ha : Ty.agg α with
  | true => rw [ha] at hv; simpa using hv
  | false =>
    rw [ha] at hv
    have e1 := h1 ha
    have e2 := h2 ha
    match c, c', e1, e2 with
    | [x], [y], _, _ => simpa using hv
theorem slot_le {i n c s : Nat} (h1 : i < n) (h2 : n ≤ c) : i * s + s ≤ c * s := by
  rw [← Nat.succ_mul]
  exact Nat.mul_le_mul_right _ (by omega)
theorem Own.take (O : Own r v l) (hi : i < l.length) : ∃ u r1 r2, r = r1.add r2 ∧ Dj r1 r2 ∧ Own r1 u l[i] ∧ Hole r2 v l i u := by
  rcases Own_list.1 O with ⟨p, _, rfl, _⟩ | ⟨b, off, cap, cells, el, r', rfl, ⟨h1, hM⟩, h2, rfl, h4, h5⟩
  · simp at hi
  · obtain ⟨s1, s2, g1, g2, g3, g4⟩ := ownL_at h5 i hi
    subst g1
    obtain ⟨n1, n2⟩ : s1 b = none ∧ s2 b = none := by simpa [Heap.add] using h4
    refine ⟨_, s1, (Heap.one b (.cells cells.toArray el (0, 0))).add s2, ?_, Dj_add.2 ⟨Dj_one.2 n1, g2⟩, ⟨_, rfl, g3⟩, b, off, cap, cells, el, s2, rfl, hi, ⟨h1, hM⟩, h2, rfl, n2, rfl, g4⟩
    rw [← add_assoc, ← add_assoc, (one_Dj.2 n1).comm]
theorem Hole.put {r1 : Heap} {y : α} (H : Hole r2 v l i u) (d : Dj r1 r2) (O : Own r1 u y) : Own (r1.add r2) v (l.set i y) := by
  obtain ⟨b, off, cap, cells, el, r', rfl, hi, ⟨h1, hM⟩, h2, rfl, h4, h5, h6⟩ := H
  obtain ⟨c, hc, ho⟩ := O
  obtain ⟨d1, d2⟩ := Dj_add.1 d
  have hs := slot_le (s := Ty.sz α) hi h1
  have hl : ((((cells.drop off).drop (i * Ty.sz α)).take (Ty.sz α))).length = Ty.sz α := by simp; omega
  have hlen := Ty.len (Ty.own_rep ho)
  have e1 : c = ((cells.drop off).drop (i * Ty.sz α)).take (Ty.sz α) := valC_inj (α := α) (fun ha => by rw [hlen, Ty.one ha]) (fun ha => by rw [hl, Ty.one ha]) (by rw [← hc, h5])
  have h7 := h6 r1 c y d2 ho
  rw [setC_self e1.symm hlen] at h7
  refine Own_list.2 (.inr ⟨b, off, cap, cells, el, r1.add r', by simp, ⟨by simpa using h1, by simpa using hM⟩, h2, ?_, ?_, h7⟩)
  · rw [← add_assoc, ← add_assoc, d1.comm]
  · simp [Heap.add, h4]; exact Dj_one.1 d1
theorem Hole.ld (H : Hole r2 v l i u) : hload r2 (some (elp (Ty.sz α) v i)) (szo α) = some u := by
  obtain ⟨b, off, cap, cells, el, r', rfl, hi, ⟨h1, hM⟩, h2, rfl, h4, h5, h6⟩ := H
  have hs := slot_le (s := Ty.sz α) hi h1
  have hb : ((Heap.one b (.cells cells.toArray el (0, 0))).add r') b = some (.cells cells.toArray el (0, 0)) := by simp [Heap.add, Heap.one, h4]
  have hc := hcells_mk hb (n := Ty.sz α) (off := off + i * Ty.sz α) (by simp; omega)
  simp only [elp, add_none, hload, szo]
  rw [List.drop_drop] at h5
  cases ha : Ty.agg α with
  | true => simp only [if_true, hc]; rw [h5]; simp [valC, ha]
  | false =>
    have h3 := Ty.one ha
    rw [h3] at hc h5 h2
    rw [ha] at h5
    simp only [Bool.false_eq_true, if_false]
    rw [h3] at hs ⊢
    have hlt : off + i * 1 < cells.length := by omega
    rw [List.drop_eq_getElem_cons hlt] at h5
    simp only [valC, List.take_succ_cons, Bool.false_eq_true, if_false, List.headD_cons] at h5
    rw [h5]
    simp only [hcell, hb]
    simp at hlt ⊢
theorem Hole.len (H : Hole r2 v l i u) : lenVV v = some (.int .i64 l.length) := by
  obtain ⟨b, off, cap, cells, el, r', rfl, _⟩ := H
  rfl
theorem Hole.ia (H : Hole r2 v l i u) {k : IntKind} {n : Int} (h0 : 0 ≤ n) (h1 : n < l.length) : iaV (Ty.sz α) v (.int k n) = some (elp (Ty.sz α) v n.toNat) := by
  obtain ⟨b, off, cap, cells, el, r', rfl, _⟩ := H
  simp [iaV, elp, h0, h1]
theorem drop_setC {cs c : List Value} {a n : Nat} (h : a + n + c.length ≤ cs.length) : (setC cs (a + n) c).drop a = setC (cs.drop a) n c := by
  unfold setC
  rw [List.append_assoc, List.drop_append_of_le_length (by simp; omega), List.drop_take, List.append_assoc, List.drop_drop]
  congr 2
  · omega
  · congr 1; omega
theorem setC_length {cs c : List Value} {n : Nat} (h : n + c.length ≤ cs.length) : (setC cs n c).length = cs.length := by
  unfold setC; simp; omega
theorem Hole.store {y : α} (H : Hole r v l i u) {u' : Value} (d : Dj g r) (d2 : Dj (g.add r) ru) (Ou : Own ru u' y) :
    ∃ b off h', elp (Ty.sz α) v i = .pointer (some ⟨b, off, none⟩) ∧ u'.cells.size = Ty.sz α ∧ hstore ((g.add r).add ru) b off u'.cells.toList = some h' ∧ ∃ r', h' = g.add r' ∧ Dj g r' ∧ Own r' v (l.set i y) := by
  obtain ⟨b, off, cap, cells, el, r', rfl, hi, ⟨h1, hM⟩, h2, rfl, h4, h5, h6⟩ := H
  obtain ⟨c, rfl, ho⟩ := Ou
  have hlen := Ty.len (Ty.own_rep ho)
  have hcell := Ty.cell (Ty.own_rep ho)
  have hcs := rep_cells (Ty.own_rep ho)
  have hs := slot_le (s := Ty.sz α) hi h1
  obtain ⟨d3, d4⟩ := Dj_add.1 d
  obtain ⟨d5, d6⟩ := add_Dj.1 d2
  obtain ⟨d7, d8⟩ := add_Dj.1 d6
  have hb : (((g.add ((Heap.one b (.cells cells.toArray el (0, 0))).add r')).add ru)) b = some (.cells cells.toArray el (0, 0)) := by
    have := Dj_one.1 d3
    simp [Heap.add, Heap.one, this, h4, one_Dj.1 d7]
  refine ⟨b, off + i * Ty.sz α, g.add ((Heap.one b (.cells (setC cells (off + i * Ty.sz α) c).toArray el (0, 0))).add (r'.add ru)), by simp [elp, add_none], ?_, ?_, ?_⟩
  · have := congrArg List.length hcs
    simpa [hlen] using this
  · unfold hstore
    rw [hb]
    simp only [hcs]
    rw [if_pos (by refine ⟨trivial, ?_, by simpa using hcell⟩; simp [hlen]; omega)]
    rw [add_assoc (a := g), add_assoc (b := r'), add_one_set (Dj_one.1 d3) (by simp [Heap.add, h4, one_Dj.1 d7])]
  · refine ⟨(Heap.one b (.cells (setC cells (off + i * Ty.sz α) c).toArray el (0, 0))).add (r'.add ru), ?_, ?_, ?_⟩
    · rfl
    · exact Dj_add.2 ⟨Dj_one.2 (Dj_one.1 d3), Dj_add.2 ⟨d4, d5⟩⟩
    · have h7 := h6 ru c y d8.symm ho
      refine Own_list.2 (.inr ⟨b, off, cap, _, el, _, by simp, ⟨by simpa using h1, by simpa using hM⟩, ?_, rfl, ?_, ?_⟩)
      · rw [setC_length (by rw [hlen]; omega)]; exact h2
      · simp [Heap.add, h4]; exact one_Dj.1 d7
      · rw [drop_setC (by rw [hlen]; omega), d8.comm]; exact h7
end
section
variable {α : Type} [Ty α] {P : Program} {k : Env → Heap → Prop} {e : Env} {h h' g r r2 ru rs : Heap} {v u : Value} {l l2 : List α} {i : Nat}
theorem a_store {sz : Nat} {a x : O} {y : α} {u' : Value} (O : Own r v l) (hi : i < l.length) (Ou : Own ru u' y) (d : Dj g r) (d2 : Dj (g.add r) ru) (hh : h = (g.add r).add ru) (hp : a.get e = some (elp (Ty.sz α) v i)) (hx : x.get e = some u') (hsz : sz = Ty.sz α)
    (K : ∀ r', Dj g r' → Own r' v (l.set i y) → k e (g.add r')) : (A.ex none (.store sz a x)).wp P k e h := by
  subst hh; subst hsz
  obtain ⟨u, r1, r2, rfl, d3, O1, H⟩ := O.take hi
  obtain ⟨d4, d5⟩ := Dj_add.1 d
  obtain ⟨d6, d7⟩ := add_Dj.1 d2
  obtain ⟨d8, d9⟩ := add_Dj.1 d7
  -- the element's own part stays behind
  have hd : Dj (g.add r1) r2 := add_Dj.2 ⟨d5, d3⟩
  have hd2 : Dj ((g.add r1).add r2) ru := by rw [add_assoc]; exact d2
  obtain ⟨b, off, h', h1, h2, h3, r', rfl, h4, h5⟩ := H.store hd hd2 Ou
  refine ⟨b, off, u', _, by rw [hp, h1], hx, h2, by rw [← add_assoc]; exact h3, ?_⟩
  obtain ⟨d10, d11⟩ := add_Dj.1 h4
  exact Fgt.drop (le_drop d4 d11) (K r' d10 h5)
theorem Own_flat [Flat α] {y : α} : Own r u y ↔ r = Heap.nil ∧ u = valC (Ty.agg α) (Flat.enc y) ∧ Flat.ok y := by
  constructor
  · rintro ⟨cs, rfl, ho⟩
    obtain ⟨h1, rfl, h2⟩ := Flat.own_iff.1 ho
    exact ⟨h1, rfl, h2⟩
  · rintro ⟨rfl, rfl, h1⟩
    exact ⟨_, rfl, Flat.own_iff.2 ⟨rfl, rfl, h1⟩⟩
theorem Rep_flat [Flat α] {y : α} : Rep r u y ↔ u = valC (Ty.agg α) (Flat.enc y) ∧ Flat.ok y := by
  constructor
  · rintro ⟨cs, rfl, ho⟩
    obtain ⟨rfl, h2⟩ := Flat.rep_iff.1 ho
    exact ⟨rfl, h2⟩
  · rintro ⟨rfl, h1⟩
    exact ⟨_, rfl, Flat.rep_iff.2 ⟨rfl, h1⟩⟩
theorem a_storeF [Flat α] {sz : Nat} {a x : O} (y : α) (O : Own r v l) (hi : i < l.length) (d : Dj g r) (hh : h = g.add r) (hp : a.get e = some (elp (Ty.sz α) v i)) (hx : x.get e = some (valC (Ty.agg α) (Flat.enc y))) (hy : Flat.ok y) (hsz : sz = Ty.sz α)
    (K : ∀ r', Dj g r' → Own r' v (l.set i y) → k e (g.add r')) : (A.ex none (.store sz a x)).wp P k e h :=
  a_store O hi (Own_flat.2 ⟨rfl, rfl, hy⟩) d Dj_nil (by simp [hh]) hp hx hsz K
theorem a_mks {bytes esz : Nat} {zero : List Value} {len cap : O} {j j' : IntKind} {n c : Nat} {dst : Nat} {z : α} (hl : len.get e = some (.int j n)) (hc : cap.get e = some (.int j' c)) (hz : Ty.own Heap.nil zero z) (h1 : n ≤ c) (h2 : c < 2 ^ 62) (h3 : bytes * c ≤ 2 ^ 48)
    (K : ∀ v r, Dj h r → Own r v (List.replicate n z) → k (eset e dst (some v)) (h.add r)) : (A.ex (some dst) (.mks bytes esz zero len cap)).wp P k e h := by
  refine ⟨n, c, j, j', hl, hc, h1, h2, h3, fun b el hb => Fgt.keep ?_⟩
  rw [set_new hb]
  refine K _ _ (Dj_one.2 hb) (Own_list.2 (.inr ⟨b, 0, c, reps c zero, el, Heap.nil, by simp, ⟨by simpa using h1, by simp; omega⟩, ?_, by simp, rfl, ?_⟩))
  · have := ownL_len (ownL_reps hz c)
    simpa using this
  · have hlen := Ty.len (Ty.own_rep hz)
    refine ownL_congr (ownL_reps hz n) ?_
    simp only [List.length_replicate, List.drop_zero]
    rw [show reps c zero = reps n zero ++ reps (c - n) zero by
      rw [reps, reps, reps, ← List.flatten_append, List.replicate_append_replicate]; congr 3; omega]
    have : (reps n zero).length = n * Ty.sz α := by simp [reps, hlen]
    rw [List.take_append_of_le_length (by omega)]
theorem ownL_cell : ∀ {l : List α} {cs : List Value} {r : Heap}, ownL l cs r → ∀ v ∈ cs.take (l.length * Ty.sz α), v.oneCell' = true
  | [], _, _, _, v, hv => by simp at hv
  | x :: l, cs, r, ⟨r1, r2, h1, h2, h3, h4⟩, v, hv => by
    have ha : (x :: l).length * Ty.sz α = Ty.sz α + l.length * Ty.sz α := by simp [Nat.add_mul]; omega
    rw [ha, List.take_add] at hv
    rcases List.mem_append.1 hv with h5 | h5
    · exact Ty.cell (Ty.own_rep h3) v h5
    · exact ownL_cell h4 v h5
theorem a_app {bytes esz : Nat} {zero : List Value} {a : O} {b : AO} {dst : Nat} {cs : List Value} (O : Own r v l) (ha : a.get e = some v) (hs : b.src h e esz = some (l2.length, cs)) (hcs : cs.length = l2.length * Ty.sz α) (Os : ownL l2 cs rs)
    (d : Dj g r) (d2 : Dj (g.add r) rs) (hh : h = (g.add r).add rs) (hsz : esz = Ty.sz α) (hz : zero.length = Ty.sz α) (hb : (l.length + l2.length) * bytes ≤ 140737488355328) (hn : l.length + l2.length < 2 ^ 62)
    (K : ∀ v' r', Dj g r' → Own r' v' (l ++ l2) → k (eset e dst (some v')) (g.add r')) : (A.ex (some dst) (.app bytes esz zero (.o a) b)).wp P k e h := by
  subst hsz
  obtain ⟨d5, d6⟩ := add_Dj.1 d2
  have hcell : cs.all Value.oneCell' = true := by
    have := ownL_cell Os
    rw [← hcs, List.take_length] at this
    simpa using this
  refine ⟨l2.length, cs, hs, ?_⟩
  rcases Own_list.1 O with ⟨p, rfl, rfl, rfl, hp⟩ | ⟨bb, off, cap, cells, el, r', rfl, ⟨h1, hM⟩, h2, rfl, h4, h5⟩
  · refine ⟨p, 0, 0, ha, ?_, ?_⟩
    · intro h1
      have hl2 : l2 = [] := by cases l2 with
        | nil => rfl
        | cons _ _ => simp at h1
      subst hl2
      have hcs0 : cs = [] := by simpa using hcs
      have hrs : rs = Heap.nil := Os
      subst hrs
      have hk : ∀ p, okP p → Fgt k (eset e dst (some (.slice p (0 + ([] : List α).length) 0))) h := by
        intro p hp
        subst hh
        refine Fgt.keep ?_
        simpa using K (.slice p 0 0) Heap.nil Dj_nil (Own_list.2 (.inl ⟨p, rfl, rfl, rfl, hp⟩))
      rcases hp with rfl | ⟨b', o', rfl⟩
      · exact ⟨hcs0, hk _ (.inl rfl)⟩
      · exact .inl ⟨hcs0, hk _ (.inr ⟨b', o', rfl⟩)⟩
    · intro h1
      refine ⟨0, [], ?_, ?_, by simpa using hn, ?_⟩
      · rcases hp with rfl | ⟨b', o', rfl⟩
        · rfl
        · simp [srcV, hcells]
      · exact growslice_fits h1 (by simpa using hb)
      · intro b' el c hb' hc
        subst hh
        rw [set_new hb']
        simp only [add_nil] at hb' ⊢
        have n1 : g b' = none ∧ rs b' = none := by simpa [Heap.add] using hb'
        refine Fgt.keep ?_
        rw [add_assoc]
        simp only [List.length_nil, Nat.zero_add] at hn ⊢
        refine K _ _ (Dj_add.2 ⟨d5, Dj_one.2 n1.1⟩) ?_
        rw [(Dj_one.2 n1.2).comm]
        refine Own_list.2 (.inr ⟨b', 0, c, _, el, rs, by simp, ⟨by simpa using hc, by simpa using hn⟩, ?_, rfl, n1.2, ?_⟩)
        · simp [reps, hz, hcs]
          rw [← Nat.add_mul]
          exact Nat.mul_le_mul_right _ (by simp at hc; omega)
        · refine ownL_congr Os ?_
          simp only [List.drop_zero, List.nil_append]
          exact (List.take_append_of_le_length (by rw [hcs]; exact Nat.le_refl _)).symm
  · have hbk : ((g.add ((Heap.one bb (.cells cells.toArray el (0, 0))).add r')).add rs) bb = some (.cells cells.toArray el (0, 0)) := by
      have := Dj_one.1 (Dj_add.1 d).1
      simp [Heap.add, Heap.one, this, h4, one_Dj.1 (add_Dj.1 d6).1]
    obtain ⟨d3, d4⟩ := Dj_add.1 d
    obtain ⟨d7, d8⟩ := add_Dj.1 d6
    have hll := ownL_len h5
    have hfit : l.length * Ty.sz α ≤ cap * Ty.sz α := Nat.mul_le_mul_right _ h1
    have hold : ownL l ((cells.drop off).take (l.length * Ty.sz α)) r' := by
      refine ownL_congr h5 ?_
      rw [List.take_take, Nat.min_self]
    refine ⟨_, l.length, cap, ha, ?_, ?_⟩
    · intro hle
      right
      have hf2 : l.length * Ty.sz α + l2.length * Ty.sz α ≤ cap * Ty.sz α := by rw [← Nat.add_mul]; exact Nat.mul_le_mul_right _ hle
      refine ⟨g.add ((Heap.one bb (.cells (setC cells (off + l.length * Ty.sz α) cs).toArray el (0, 0))).add (r'.add rs)), ?_, Fgt.keep ?_⟩
      · unfold hstore
        rw [hh, hbk]
        simp only
        rw [if_pos (by refine ⟨trivial, ?_, hcell⟩; simp [hcs]; omega)]
        rw [add_assoc (a := g), add_assoc (b := r'), add_one_set (Dj_one.1 d3) (by simp [Heap.add, h4, one_Dj.1 d7])]
      · refine K _ _ (Dj_add.2 ⟨Dj_one.2 (Dj_one.1 d3), Dj_add.2 ⟨d4, d5⟩⟩) ?_
        refine Own_list.2 (.inr ⟨bb, off, cap, _, el, _, by simp, ⟨by simpa using hle, by simpa using hn⟩, ?_, rfl, ?_, ?_⟩)
        · rw [setC_length (by rw [hcs]; omega)]; exact h2
        · simp [Heap.add, h4]; exact one_Dj.1 d7
        · rw [drop_setC (by rw [hcs]; omega)]
          have h9 := ownL_append hold (by simp; omega) Os d8
          refine ownL_congr h9 ?_
          rw [List.length_append, Nat.add_mul]
          exact (List.take_append_of_le_length (by rw [List.length_append, List.length_take, Nat.min_eq_left hll, hcs]; exact Nat.le_refl _)).symm
    · intro hlt
      refine ⟨l.length, (cells.drop off).take (l.length * Ty.sz α), ?_, growslice_fits hlt hb, hn, ?_⟩
      · rw [srcV_slice (l := (cells.drop off).take (l.length * Ty.sz α))]
        rw [hh, hcells_mk hbk (by simp; omega)]
      · intro b' el' c hb' hc
        subst hh
        rw [set_new hb']
        have n1 : g b' = none ∧ r' b' = none ∧ rs b' = none := by
          simp only [Heap.add, oplus_eq_none] at hb'
          exact ⟨hb'.1.1, hb'.1.2.2, hb'.2⟩
        have hne : Dj (Heap.one bb (.cells cells.toArray el (0, 0))) ((r'.add rs).add (Heap.one b' (.cells ((cells.drop off).take (l.length * Ty.sz α) ++ cs ++ reps (c - (l.length + l2.length)) zero).toArray el' (0, 0)))) := by
          refine Dj_add.2 ⟨Dj_add.2 ⟨one_Dj.2 h4, d7⟩, Dj_one.2 ?_⟩
          simp only [Heap.add, oplus_eq_none] at hb'
          exact hb'.1.2.1
        refine Fgt.drop (h' := g.add ((r'.add rs).add (Heap.one b' (.cells ((cells.drop off).take (l.length * Ty.sz α) ++ cs ++ reps (c - (l.length + l2.length)) zero).toArray el' (0, 0))))) ?_ ?_
        · have := le_drop d3 hne
          simpa [add_assoc] using this
        · refine K _ _ (Dj_add.2 ⟨Dj_add.2 ⟨d4, d5⟩, Dj_one.2 n1.1⟩) ?_
          rw [(Dj_one.2 (show (r'.add rs) b' = none by simp [Heap.add, n1.2])).comm]
          refine Own_list.2 (.inr ⟨b', 0, c, _, el', r'.add rs, by simp, ⟨by simpa using hc, by simpa using hn⟩, ?_, rfl, by simp [Heap.add, n1.2], ?_⟩)
          · have : (l.length + l2.length) * Ty.sz α + (c - (l.length + l2.length)) * Ty.sz α = c * Ty.sz α := by
              rw [← Nat.add_mul]; congr 1; omega
            rw [Nat.add_mul] at this
            simp [reps, hz, hcs]
            omega
          · have h9 := ownL_append hold (by simp; omega) Os d8
            refine ownL_congr h9 ?_
            rw [List.drop_zero, List.length_append, Nat.add_mul]
            exact (List.take_append_of_le_length (by rw [List.length_append, List.length_take, Nat.min_eq_left hll, hcs]; exact Nat.le_refl _)).symm
theorem a_appP {bytes esz : Nat} {zero : List Value} {j : Nat} {b : AO} {dst : Nat} {cs : List Value} {c0 : Array Value} (hp : eget e j = some (.agg c0)) (hs : b.src h e esz = some (l2.length, cs)) (hcs : cs.length = l2.length * Ty.sz α) (Os : ownL l2 cs rs)
    (d : Dj g rs) (hh : h = g.add rs) (hz : zero.length = Ty.sz α) (hb : l2.length * bytes ≤ 140737488355328) (hn : l2.length < 2 ^ 62)
    (K : ∀ v' r', Dj g r' → Own r' v' l2 → k (eset e dst (some v')) (g.add r')) : (A.ex (some dst) (.app bytes esz zero (.p 0 j) b)).wp P k e h := by
  refine ⟨l2.length, cs, hs, rfl, ⟨c0, hp⟩, ?_, ?_⟩
  · intro hl2 b'
    have hl2 : l2 = [] := by simpa using hl2
    subst hl2
    have hrs : rs = Heap.nil := Os
    subst hrs
    subst hh
    refine Fgt.keep ?_
    simpa using K _ Heap.nil Dj_nil (Own_list.2 (.inl ⟨some ⟨b', 0, none⟩, rfl, rfl, rfl, .inr ⟨b', 0, rfl⟩⟩))
  · intro hpos
    refine ⟨growslice_fits hpos (by simpa using hb), hn, ?_⟩
    intro b' el c hb' hc
    subst hh
    rw [set_new hb']
    have n1 : g b' = none ∧ rs b' = none := by simpa [Heap.add] using hb'
    refine Fgt.keep ?_
    rw [add_assoc]
    refine K _ _ (Dj_add.2 ⟨d, Dj_one.2 n1.1⟩) ?_
    rw [(Dj_one.2 n1.2).comm]
    refine Own_list.2 (.inr ⟨b', 0, c, _, el, rs, rfl, ⟨hc, by omega⟩, ?_, rfl, n1.2, ?_⟩)
    · simp [reps, hz, hcs]
      rw [← Nat.add_mul]
      exact Nat.mul_le_mul_right _ (by omega)
    · refine ownL_congr Os ?_
      simp only [List.drop_zero]
      exact (List.take_append_of_le_length (by rw [hcs]; exact Nat.le_refl _)).symm
def encL [Flat α] (l : List α) : List Value := (l.map Flat.enc).flatten
theorem flat_len [Flat α] {x : α} (hx : Flat.ok x) : (Flat.enc x).length = Ty.sz α := Ty.len (h := Heap.nil) (Flat.rep_iff.2 ⟨rfl, hx⟩)
theorem encL_len [Flat α] : ∀ {l : List α}, (∀ x ∈ l, Flat.ok x) → (encL l).length = l.length * Ty.sz α
  | [], _ => by simp [encL]
  | x :: l, h => by
    have := encL_len (l := l) (fun y hy => h y (by simp [hy]))
    simp only [encL, List.map_cons, List.flatten_cons, List.length_append, flat_len (h x (by simp)), List.length_cons] at this ⊢
    rw [this, Nat.add_mul]; omega
theorem ownL_enc [Flat α] : ∀ {l : List α}, (∀ x ∈ l, Flat.ok x) → ownL l (encL l) Heap.nil
  | [], _ => rfl
  | x :: l, h => by
    have hx := flat_len (h x (by simp))
    refine ⟨Heap.nil, Heap.nil, by simp, by simp, ?_, ?_⟩
    · rw [show encL (x :: l) = Flat.enc x ++ encL l from rfl, ← hx, List.take_left]
      exact Flat.own_iff.2 ⟨rfl, rfl, h x (by simp)⟩
    · rw [show encL (x :: l) = Flat.enc x ++ encL l from rfl, ← hx, List.drop_left]
      exact ownL_enc (fun y hy => h y (by simp [hy]))
theorem hcells_add {h : Heap} {b : Nat} : ∀ {n m off : Nat} {c1 c2 : List Value}, hcells h b off n = some c1 → hcells h b (off + n) m = some c2 → hcells h b off (n + m) = some (c1 ++ c2)
  | 0, m, off, c1, c2, h1, h2 => by simp [hcells] at h1; subst h1; simpa using h2
  | n + 1, m, off, c1, c2, h1, h2 => by
    rw [show n + 1 + m = (n + m) + 1 by omega]
    simp only [hcells] at h1 ⊢
    split at h1
    · rename_i v r hv hr
      simp only [Option.some.injEq] at h1
      subst h1
      rw [hv, hcells_add hr (by rw [← h2]; congr 1; omega)]
      rfl
    · simp at h1
theorem repL_enc [Flat α] {h : Heap} {b off : Nat} : ∀ {l : List α}, repL h (some ⟨b, off, none⟩) l → hcells h b off (l.length * Ty.sz α) = some (encL l)
  | l, hr => by
    have key : ∀ n, n ≤ l.length → hcells h b off (n * Ty.sz α) = some (encL (l.take n)) := by
      intro n
      induction n with
      | zero => intro _; simp [hcells, encL]
      | succ n ih =>
        intro hn
        obtain ⟨b', off', vs, h1, h2, h3⟩ := hr n (by omega)
        simp only [Option.some.injEq, Addr.mk.injEq] at h1
        obtain ⟨rfl, rfl, _⟩ := h1
        have h4 := hcells_add (ih (by omega)) h2
        rw [show (n + 1) * Ty.sz α = n * Ty.sz α + Ty.sz α by rw [Nat.add_mul]; omega, h4]
        rw [List.take_add_one, List.getElem?_eq_getElem (by omega)]
        rw [encL, encL, List.map_append, List.flatten_append, (Flat.rep_iff.1 h3).1]
        simp
    have := key l.length (Nat.le_refl _)
    rwa [List.take_length] at this
theorem Rep.okL [Flat α] {h : Heap} {v : Value} {l : List α} (hr : Rep h v l) : ∀ x ∈ l, Flat.ok x := by
  intro x hx
  obtain ⟨i, hi, rfl⟩ := List.mem_iff_getElem.1 hx
  exact hr.okF hi
theorem Rep.src [Flat α] {h : Heap} {v : Value} {l : List α} (hr : Rep h v l) : srcV h (Ty.sz α) (some v) = some (l.length, encL l) := by
  obtain ⟨p, cap, rfl, h1, h2, h3⟩ := Rep_list.1 hr
  cases l with
  | nil => rfl
  | cons x l =>
    obtain ⟨b, off, vs, rfl, _⟩ := h3 0 (by simp)
    have h4 := repL_enc h3
    simp only [List.length_cons] at h4 ⊢
    simp only [srcV, h4]
    rfl
theorem a_appPL [Flat α] {bytes esz : Nat} {zero : List Value} {j : Nat} {x : O} {dst : Nat} {c0 : Array Value} {u : Value} (hp : eget e j = some (.agg c0)) (hx : x.get e = some u) (hr : Rep h u l2) (hsz : esz = Ty.sz α) (hz : zero.length = Ty.sz α) (hb : l2.length * bytes ≤ 140737488355328)
    (K : ∀ v' r', Dj h r' → Own r' v' l2 → k (eset e dst (some v')) (h.add r')) : (A.ex (some dst) (.app bytes esz zero (.p 0 j) (.o x))).wp P k e h := by
  subst hsz
  refine a_appP (rs := Heap.nil) (l2 := l2) hp ?_ (encL_len hr.okL) (ownL_enc hr.okL) Dj_nil (by simp) hz hb (by have := hr.lt; omega) K
  simp only [AO.src, hx]
  exact hr.src
theorem a_appF [Flat α] {bytes esz : Nat} {zero : List Value} {a : O} {n j : Nat} {dst : Nat} {c0 : Array Value} (O : Own r v l) (ha : a.get e = some v) (hp : eget e j = some (.agg c0)) (hn : n = l2.length) (hc : c0.toList = encL l2) (hok : ∀ x ∈ l2, Flat.ok x) (d : Dj g r) (hh : h = g.add r) (hsz : esz = Ty.sz α) (hz : zero.length = Ty.sz α)
    (hb : (l.length + l2.length) * bytes ≤ 140737488355328) (hn2 : l.length + l2.length < 2 ^ 62)
    (K : ∀ v' r', Dj g r' → Own r' v' (l ++ l2) → k (eset e dst (some v')) (g.add r')) : (A.ex (some dst) (.app bytes esz zero (.o a) (.p n j))).wp P k e h := by
  subst hsz hn
  refine a_app (rs := Heap.nil) (l2 := l2) O ha ?_ (encL_len hok) (ownL_enc hok) d Dj_nil (by simp [hh]) rfl hz hb hn2 K
  have h1 := encL_len hok
  have h2 : c0.size = l2.length * Ty.sz α := by rw [← h1, ← hc]; simp
  simp only [AO.src, hp, h2, if_true, hc]
end
def elpo (sz : Nat) (v : Value) (i fo : Nat) : Value :=
  match v with
  | .slice (some p) _ _ => .pointer (some ((p.add (i * sz)).add fo))
  | _ => undef
theorem setC_one {cs : List Value} {n : Nat} {u : Value} (h : n < cs.length) : setC cs n [u] = cs.set n u := by
  rw [← setC_cons cs n u [] h]
  simp [setC]
theorem setC_fld {cs : List Value} {n m fo : Nat} {u : Value} (hf : fo < m) (hl : n + m ≤ cs.length) : setC cs (n + fo) [u] = setC cs n (((cs.drop n).take m).set fo u) := by
  rw [setC_one (by omega)]
  have h1 : (((cs.drop n).take m).set fo u).length = m := by simp; omega
  unfold setC
  rw [h1]
  conv => lhs; rw [← List.take_append_drop n cs, ← List.take_append_drop m (cs.drop n), List.drop_drop]
  rw [List.set_append_right _ _ (by simp; omega), List.set_append_left _ _ (by simp; omega)]
  rw [← List.append_assoc]
  congr 3
  simp; omega
section
variable {α : Type} [Ty α] {P : Program} {k : Env → Heap → Prop} {e : Env} {h g r : Heap} {v : Value} {l : List α} {i : Nat}
theorem Rep.fa {n : Nat} (hr : Rep h v l) (hi : i < l.length) {fo : Nat} : faV fo (elp n v i) = some (elpo n v i fo) := by
  obtain ⟨p, cap, rfl, hc, hp, hl⟩ := Rep_list.1 hr
  obtain ⟨b, off, vs, rfl, _⟩ := hl i hi
  rfl
theorem a_store_fldF [Flat α] {a x : O} (y : α) {fo : Nat} {u : Value} (O : Own r v l) (hi : i < l.length) (d : Dj g r) (hh : h = g.add r) (hp : a.get e = some (elpo (Ty.sz α) v i fo)) (hx : x.get e = some u) (hu : u.cells = #[u]) (hu1 : u.oneCell' = true)
    (hfo : fo < Ty.sz α) (hy : Flat.enc y = (Flat.enc l[i]).set fo u) (hok : Flat.ok y) (K : ∀ r', Dj g r' → Own r' v (l.set i y) → k e (g.add r')) : (A.ex none (.store 1 a x)).wp P k e h := by
  subst hh
  rcases Own_list.1 O with ⟨p, _, rfl, _⟩ | ⟨b, off, cap, cells, el, r', rfl, h1, h2, rfl, h4, h5⟩
  · simp at hi
  · obtain ⟨s1, s2, g1, g2, g3, g4⟩ := ownL_at h5 i hi
    obtain ⟨rfl, e1, _⟩ := Flat.own_iff.1 g3
    have hs := slot_le (s := Ty.sz α) hi h1.1
    obtain ⟨d3, d4⟩ := Dj_add.1 d
    have hb : (g.add ((Heap.one b (.cells cells.toArray el (0, 0))).add r')) b = some (.cells cells.toArray el (0, 0)) := by
      have := Dj_one.1 d3
      simp [Heap.add, Heap.one, this, h4]
    have hset : setC cells (off + i * Ty.sz α + fo) [u] = setC cells (off + i * Ty.sz α) (Flat.enc y) := by
      rw [setC_fld hfo (by omega), hy, ← e1, List.drop_drop]
    have hlen : (Flat.enc y).length = Ty.sz α := by
      rw [hy, List.length_set, ← e1]; simp; omega
    refine ⟨b, off + i * Ty.sz α + fo, u, g.add ((Heap.one b (.cells (setC cells (off + i * Ty.sz α + fo) [u]).toArray el (0, 0))).add r'), ?_, hx, by simp [hu], ?_, Fgt.keep ?_⟩
    · rw [hp]; simp [elpo, add_none]
    · unfold hstore
      rw [hb]
      simp only [hu]
      rw [if_pos (by refine ⟨trivial, ?_, by simpa using hu1⟩; simp; omega), add_one_set (Dj_one.1 d3) h4]
    · refine K _ (Dj_add.2 ⟨Dj_one.2 (Dj_one.1 d3), d4⟩) ?_
      have h7 := g4 Heap.nil (Flat.enc y) y nil_Dj (Flat.own_iff.2 ⟨rfl, rfl, hok⟩)
      rw [nil_add] at g1 h7
      refine Own_list.2 (.inr ⟨b, off, cap, _, el, r', by simp, ⟨by simpa using h1.1, by simpa using h1.2⟩, ?_, rfl, h4, ?_⟩)
      · rw [hset, setC_length (by rw [hlen]; omega)]; exact h2
      · rw [hset, drop_setC (by rw [hlen]; omega), g1]; exact h7
end
def same {α : Sort u} (x : α) : α := x
@[simp] theorem same_eq {α : Sort u} (x : α) : same x = x := Eq.trans (Eq.refl x) (Eq.refl x)
section
variable {P : Program} {e e' : Env} {h : Heap} {Q : Ex → Env → Heap → Prop} {k : Env → Heap → Prop}
@[congr] theorem C.wp_congr {c : C} (he : same e = e') : C.wp P c Q e h = C.wp P c Q e' h := by rw [← he, same_eq]
@[congr] theorem Pl.wp_congr {p : Pl} (he : same e = e') : Pl.wp P k p e h = Pl.wp P k p e' h := by rw [← he, same_eq]
@[congr] theorem S.wp_congr {s : S} (he : same e = e') : S.wp P k e h s = S.wp P k e' h s := by rw [← he, same_eq]
@[congr] theorem A.wp_congr {x : A} (he : same e = e') : A.wp P k e h x = A.wp P k e' h x := by rw [← he, same_eq]
@[congr] theorem seqQ_congr {b : C} {x x' : Ex} (hx : x = x') (he : same e = e') : seqQ P b Q x e h = seqQ P b Q x' e' h := by rw [hx, ← he, same_eq]
@[congr] theorem blockQ_congr {i : Nat} {x x' : Ex} (hx : x = x') (he : same e = e') : blockQ i Q x e h = blockQ i Q x' e' h := by rw [hx, ← he, same_eq]
@[congr] theorem loopQ_congr {n : Nat} {fg : List Nat} {I : Env → Heap → Prop} {x x' : Ex} (hx : x = x') (he : same e = e') : loopQ n fg I Q x e h = loopQ n fg I Q x' e' h := by rw [hx, ← he, same_eq]
@[congr] theorem Fgt_congr (he : same e = e') : Fgt k e h = Fgt k e' h := by rw [← he, same_eq]
@[congr] theorem RetK_congr {k : Value → Heap → Prop} {v v' : Value} (hv : same v = v') : RetK k v h = RetK k v' h := by rw [← hv, same_eq]
@[congr] theorem CallE_congr {f f' : FuncId} {a a' : List Value} {q : Value → Heap → Prop} (hf : f = f') (ha : same a = a') : CallE P f a h q = CallE P f' a' h q := by rw [hf, ← ha, same_eq]
@[congr] theorem IteW_congr {p p' A B : Prop} (hp : same p = p') : IteW p A B = IteW p' A B := by rw [← hp, same_eq]
@[congr] theorem condW_congr {v v' : Option Value} {A B : Prop} (hv : same v = v') : condW v A B = condW v' A B := by rw [← hv, same_eq]
@[congr] theorem guardW_congr' {v v' : Option Value} {w : Bool} {A B : Prop} (hv : same v = v') : guardW v w A B = guardW v' w A B := by rw [← hv, same_eq]
@[congr] theorem ExW_congr {α : Type} {x x' : Option α} {k : α → Prop} (hx : same x = x') : ExW x k = ExW x' k := by rw [← hx, same_eq]
@[congr] theorem AndW_congr {p p' A : Prop} (hp : same p = p') : AndW p A = AndW p' A := by rw [← hp, same_eq]
attribute [simp] List.getElem?_cons_zero List.getElem?_cons_succ List.getElem_cons_zero List.getElem_cons_succ
theorem C.wpe {c c' : C} (hc : c = c') {P : Program} {Q : Ex → Env → Heap → Prop} {e : Env} {h : Heap} : C.wp P c Q e h = C.wp P c' Q e h := by rw [hc]
theorem Pl.wpe {c c' : Pl} (hc : c = c') {P : Program} {k : Env → Heap → Prop} {e : Env} {h : Heap} : Pl.wp P k c e h = Pl.wp P k c' e h := by rw [hc]
end
theorem CallE.go {P : Program} {f : FuncId} {args : List Value} {h : Heap} {Q : Value → Heap → Prop} {k : Env → Heap → Prop} {d : Option Nat} {e : Env} (hc : CallE P f args h Q) (hk : ∀ v h', Q v h' → k (dput d (some v) e) h') :
    CallE P f args h fun v h' => Fgt k (dput d (some v) e) h' := CallE.mono (fun v h' hq => Fgt.keep (hk v h' hq)) hc
abbrev HP := Heap → Prop
def HS : Heap → List HP → Heap → Prop
  | g, [], h => g.le h
  | g, p :: Γ, h => ∃ g' r, h = g'.add r ∧ Dj g' r ∧ p r ∧ HS g Γ g'
def Heap.minus (h r : Heap) : Heap := fun b => match r b with
  | none => h b
  | some _ => none
section
variable {g h h' r : Heap}
theorem minus_add (hl : r.le h) : (h.minus r).add r = h := by
  funext b
  simp only [Heap.add, Heap.minus]
  cases hr : r b with
  | none => simp
  | some o => simp [hl b o hr]
theorem minus_Dj : Dj (h.minus r) r := fun b => by
  cases hr : r b with
  | none => exact .inr rfl
  | some o => exact .inl (by simp [Heap.minus, hr])
theorem le_minus (hl : g.le h) (d : Dj g r) : g.le (h.minus r) := fun b o hb => by
  rcases d b with h1 | h1
  · rw [h1] at hb; simp at hb
  · simp [Heap.minus, h1, hl b o hb]
def ow {α : Type} [Ty α] (v : Value) (x : α) : HP := fun r => Own r v x
def hole {α : Type} [Ty α] (v : Value) (l : List α) (i : Nat) (u : Value) : HP := fun r => Hole r v l i u
def bx (b : Nat) (c : List Value) : HP := fun r => ∃ el, r = Heap.one b (.cells c.toArray el (0, 0))
theorem HS.le : ∀ {Γ : List HP} {h h' : Heap}, HS g Γ h → h.le h' → HS g Γ h'
  | [], _, _, H, hl => Heap.le.trans H hl
  | _ :: _, _, h', ⟨g', r, e, d, hp, H⟩, hl => by
    subst e
    have h1 : r.le h' := (le_add' d).trans hl
    have h2 : g'.le h' := (le_add d).trans hl
    exact ⟨h'.minus r, r, (minus_add h1).symm, minus_Dj, hp, H.le (le_minus h2 d)⟩
theorem HS.base : ∀ {Γ : List HP} {h : Heap}, HS g Γ h → g.le h
  | [], _, H => H
  | _ :: _, _, ⟨_, _, e, d, _, H⟩ => by subst e; exact H.base.trans (le_add d)
theorem HS.init : HS h [] h := Heap.le.refl h
theorem HS.drop {p : HP} {Γ : List HP} (H : HS g (p :: Γ) h) : HS g Γ h := by
  obtain ⟨g', r, rfl, d, hp, H⟩ := H
  exact H.le (le_add d)
theorem HS.app : ∀ {Δ Γ : List HP} {h h' : Heap}, HS h Δ h' → HS g Γ h → HS g (Δ ++ Γ) h'
  | [], _, _, _, H1, H => H.le H1
  | _ :: _, _, _, _, ⟨g', r, e, d, hp, H1⟩, H => ⟨g', r, e, d, hp, H1.app H⟩
theorem HS.sw1 {p q : HP} {Γ : List HP} (H : HS g (p :: q :: Γ) h) : HS g (q :: p :: Γ) h := by
  obtain ⟨g1, r1, rfl, d1, hp, g2, r2, rfl, d2, hq, H⟩ := H
  obtain ⟨d3, d4⟩ := add_Dj.1 d1
  exact ⟨g2.add r1, r2, add_swap d4, add_Dj.2 ⟨d2, d4.symm⟩, hq, g2, r1, rfl, d3, hp, H⟩
theorem HS.under {p : HP} {Γ Γ' : List HP} (hH : ∀ h, HS g Γ h → HS g Γ' h) (H : HS g (p :: Γ) h) : HS g (p :: Γ') h := by
  obtain ⟨g', r, rfl, d, hp, H⟩ := H
  exact ⟨g', r, rfl, d, hp, hH _ H⟩
theorem HS.imp {p q : HP} {Γ : List HP} (H : HS g (p :: Γ) h) (hpq : ∀ r, p r → q r) : HS g (q :: Γ) h := by
  obtain ⟨g', r, e, d, hp, H⟩ := H
  exact ⟨g', r, e, d, hpq r hp, H⟩
theorem HS.sw2 {a b c : HP} {Γ : List HP} (H : HS g (a :: b :: c :: Γ) h) : HS g (c :: a :: b :: Γ) h := (H.under fun _ => HS.sw1).sw1
theorem HS.sw3 {a b c d : HP} {Γ : List HP} (H : HS g (a :: b :: c :: d :: Γ) h) : HS g (d :: a :: b :: c :: Γ) h := (H.under fun _ => HS.sw2).sw1
theorem HS.sw4 {a b c d f : HP} {Γ : List HP} (H : HS g (a :: b :: c :: d :: f :: Γ) h) : HS g (f :: a :: b :: c :: d :: Γ) h := (H.under fun _ => HS.sw3).sw1
theorem HS.sw5 {a b c d f f' : HP} {Γ : List HP} (H : HS g (a :: b :: c :: d :: f :: f' :: Γ) h) : HS g (f' :: a :: b :: c :: d :: f :: Γ) h := (H.under fun _ => HS.sw4).sw1
theorem HS.sw6 {a b c d f f' f2 : HP} {Γ : List HP} (H : HS g (a :: b :: c :: d :: f :: f' :: f2 :: Γ) h) : HS g (f2 :: a :: b :: c :: d :: f :: f' :: Γ) h := (H.under fun _ => HS.sw5).sw1
theorem HS.bk2 {a b c : HP} {Γ : List HP} (H : HS g (c :: a :: b :: Γ) h) : HS g (a :: b :: c :: Γ) h := H.sw2.sw2
theorem HS.bk3 {a b c d : HP} {Γ : List HP} (H : HS g (d :: a :: b :: c :: Γ) h) : HS g (a :: b :: c :: d :: Γ) h := H.sw3.sw3.sw3
theorem HS.bk4 {a b c d f : HP} {Γ : List HP} (H : HS g (f :: a :: b :: c :: d :: Γ) h) : HS g (a :: b :: c :: d :: f :: Γ) h := H.sw4.sw4.sw4.sw4
theorem HS.of {α : Type} [Ty α] {v : Value} {x : α} (H : ∃ r, Dj h r ∧ h' = h.add r ∧ Own r v x) : HS h [ow v x] h' := by
  obtain ⟨r, d, rfl, O⟩ := H
  exact ⟨h, r, rfl, d, O, HS.init⟩
theorem HS.rep {α : Type} [Ty α] {v : Value} {x : α} {Γ : List HP} (H : HS g (ow v x :: Γ) h) : Rep h v x := by
  obtain ⟨g', r, rfl, d, O, _⟩ := H
  exact Own.rep' O d
theorem Rep.on {α : Type} [Ty α] {v : Value} {x : α} {Γ : List HP} (R : Rep g v x) (H : HS g Γ h) : Rep h v x := R.le H.base
end
section
variable {α : Type} [Ty α] {P : Program} {k : Env → Heap → Prop} {e : Env} {g h : Heap} {Γ : List HP} {v u : Value} {l l2 : List α} {i : Nat}
theorem HS.storeF [Flat α] (H : HS g (ow v l :: Γ) h) (y : α) {sz : Nat} {a x : O} (hi : i < l.length) (hp : a.get e = some (elp (Ty.sz α) v i)) (hx : x.get e = some (valC (Ty.agg α) (Flat.enc y))) (hy : Flat.ok y) (hsz : sz = Ty.sz α)
    (K : ∀ h', HS g (ow v (l.set i y) :: Γ) h' → k e h') : (A.ex none (.store sz a x)).wp P k e h := by
  obtain ⟨g', r, rfl, d, O, H⟩ := H
  exact a_storeF y O hi d rfl hp hx hy hsz fun r' d' O' => K _ ⟨g', r', rfl, d', O', H⟩
theorem HS.store {y : α} {u' : Value} (H : HS g (ow u' y :: ow v l :: Γ) h) {sz : Nat} {a x : O} (hi : i < l.length) (hp : a.get e = some (elp (Ty.sz α) v i)) (hx : x.get e = some u') (hsz : sz = Ty.sz α)
    (K : ∀ h', HS g (ow v (l.set i y) :: Γ) h' → k e h') : (A.ex none (.store sz a x)).wp P k e h := by
  obtain ⟨g1, ru, rfl, d2, Ou, g', r, rfl, d, O, H⟩ := H
  exact a_store O hi Ou d d2 rfl hp hx hsz fun r' d' O' => K _ ⟨g', r', rfl, d', O', H⟩
theorem HS.take (H : HS g (ow v l :: Γ) h) (hi : i < l.length) : ∃ u, hload h (some (elp (Ty.sz α) v i)) (szo α) = some u ∧ HS g (ow u l[i] :: hole v l i u :: Γ) h := by
  obtain ⟨g', r, rfl, d, O, H⟩ := H
  obtain ⟨u, r1, r2, rfl, d1, O1, Ho⟩ := Own.take O hi
  obtain ⟨d2, d3⟩ := Dj_add.1 d
  refine ⟨u, hload_le (Heap.le.trans (le_add' d1) (le_add' d)) Ho.ld, g'.add r2, r1, ?_, add_Dj.2 ⟨d2, d1.symm⟩, O1, g', r2, rfl, d3, Ho, H⟩
  rw [add_assoc, d1.comm]
theorem HS.put {y : α} (H : HS g (ow u y :: hole v l i u :: Γ) h) : HS g (ow v (l.set i y) :: Γ) h := by
  obtain ⟨g1, r1, rfl, d1, O1, g', r2, rfl, d2, Ho, H⟩ := H
  obtain ⟨d3, d4⟩ := add_Dj.1 d1
  refine ⟨g', r1.add r2, ?_, Dj_add.2 ⟨d3, d2⟩, Ho.put d4.symm O1, H⟩
  rw [add_assoc, d4.comm]
theorem HS.holeld (H : HS g (hole v l i u :: Γ) h) : hload h (some (elp (Ty.sz α) v i)) (szo α) = some u := by
  obtain ⟨g', r, rfl, d, Ho, H⟩ := H
  exact hload_le (le_add' d) (Hole.ld Ho)
theorem HS.holeia (H : HS g (hole v l i u :: Γ) h) {n : Nat} (hn : n = Ty.sz α) {kd : IntKind} {j : Nat} (hj : j < l.length) : iaV n v (.int kd j) = some (elp n v j) := by
  obtain ⟨g', r, rfl, d, Ho, H⟩ := H
  subst hn
  simpa using Hole.ia Ho (k := kd) (n := (j : Int)) (by omega) (by omega)
theorem HS.mks (H : HS g Γ h) {bytes esz : Nat} {zero : List Value} {len cap : O} {j j' : IntKind} {n c : Nat} {dst : Nat} {z : α} (hl : len.get e = some (.int j n)) (hc : cap.get e = some (.int j' c)) (hz : Ty.own Heap.nil zero z) (h1 : n ≤ c) (h2 : c < 2 ^ 62) (h3 : bytes * c ≤ 2 ^ 48)
    (K : ∀ v h', HS g (ow v (List.replicate n z) :: Γ) h' → k (eset e dst (some v)) h') : (A.ex (some dst) (.mks bytes esz zero len cap)).wp P k e h :=
  a_mks hl hc hz h1 h2 h3 fun v r d O => K _ _ ⟨h, r, rfl, d, O, H⟩
theorem HS.appF [Flat α] (H : HS g (ow v l :: Γ) h) (l2 : List α) {bytes esz : Nat} {zero : List Value} {a : O} {n j : Nat} {dst : Nat} {c0 : Array Value} (ha : a.get e = some v) (hp : eget e j = some (.agg c0)) (hn : n = l2.length) (hc : c0.toList = encL l2) (hok : ∀ x ∈ l2, Flat.ok x) (hsz : esz = Ty.sz α) (hz : zero.length = Ty.sz α)
    (hb : (l.length + l2.length) * bytes ≤ 140737488355328) (hn2 : l.length + l2.length < 2 ^ 62)
    (K : ∀ v' h', HS g (ow v' (l ++ l2) :: Γ) h' → k (eset e dst (some v')) h') : (A.ex (some dst) (.app bytes esz zero (.o a) (.p n j))).wp P k e h := by
  obtain ⟨g', r, rfl, d, O, H⟩ := H
  exact a_appF O ha hp hn hc hok d rfl hsz hz hb hn2 fun v' r' d' O' => K _ _ ⟨g', r', rfl, d', O', H⟩
theorem HS.app1 [Flat α] (H : HS g (ow v l :: Γ) h) (y : α) {bytes esz : Nat} {zero : List Value} {a : O} {j : Nat} {dst : Nat} {c0 : Array Value} (ha : a.get e = some v) (hp : eget e j = some (.agg c0)) (hc : c0.toList = Flat.enc y) (hok : Flat.ok y) (hsz : esz = Ty.sz α) (hz : zero.length = Ty.sz α)
    (hb : (l.length + 1) * bytes ≤ 140737488355328) (hl1 : l.length + 1 < 2 ^ 62)
    (K : ∀ v' h', HS g (ow v' (l ++ [y]) :: Γ) h' → k (eset e dst (some v')) h') : (A.ex (some dst) (.app bytes esz zero (.o a) (.p 1 j))).wp P k e h := by
  refine H.appF [y] ha hp rfl (by simpa [encL] using hc) (by simpa using hok) hsz hz (by simpa using hb) ?_ K
  exact hl1
theorem HS.appO {y : α} (H : HS g (ow u y :: ow v l :: Γ) h) {bytes esz : Nat} {zero : List Value} {a : O} {j : Nat} {dst : Nat} {c0 : Array Value} (ha : a.get e = some v) (hp : eget e j = some (.agg c0)) (hc : c0.toList = u.cells.toList) (hsz : esz = Ty.sz α) (hz : zero.length = Ty.sz α)
    (hb : (l.length + 1) * bytes ≤ 140737488355328) (hl1 : l.length + 1 < 2 ^ 62)
    (K : ∀ v' h', HS g (ow v' (l ++ [y]) :: Γ) h' → k (eset e dst (some v')) h') : (A.ex (some dst) (.app bytes esz zero (.o a) (.p 1 j))).wp P k e h := by
  obtain ⟨g1, ru, rfl, d2, ⟨cs, rfl, ho⟩, g', r, rfl, d, O, H⟩ := H
  have h1 := Ty.len (Ty.own_rep ho)
  rw [rep_cells (Ty.own_rep ho)] at hc
  have h2 : c0.size = 1 * esz := by rw [hsz, Nat.one_mul, ← h1, ← hc]; simp
  refine a_app (l2 := [y]) (cs := cs) (rs := ru) O ha ?_ (by simpa using h1) ⟨ru, Heap.nil, by simp, by simp, by simpa [← h1] using ho, rfl⟩ d d2 rfl hsz hz (by simpa using hb) hl1 fun v' r' d' O' => K _ _ ⟨g', r', rfl, d', O', H⟩
  simp only [AO.src, hp, h2, if_true, hc, List.length_singleton]
theorem HS.appPL [Flat α] (H : HS g Γ h) {bytes esz : Nat} {zero : List Value} {j : Nat} {x : O} {dst : Nat} {c0 : Array Value} (hp : eget e j = some (.agg c0)) (hx : x.get e = some u) (hr : Rep h u l2) (hsz : esz = Ty.sz α) (hz : zero.length = Ty.sz α) (hb : l2.length * bytes ≤ 140737488355328)
    (K : ∀ v' h', HS g (ow v' l2 :: Γ) h' → k (eset e dst (some v')) h') : (A.ex (some dst) (.app bytes esz zero (.p 0 j) (.o x))).wp P k e h :=
  a_appPL hp hx hr hsz hz hb fun v' r' d' O' => K _ _ ⟨h, r', rfl, d', O', H⟩
theorem HS.nil_ow (H : HS g Γ h) : HS g (ow (.slice none 0 0) ([] : List α) :: Γ) h := ⟨h, Heap.nil, by simp, by simp, Own_nils, H⟩
theorem HS.bls [Flat α] (H : HS g Γ h) (l2 : List α) {esz len : Nat} {zero : List Value} {parts : List (Nat × Nat × O)} {dst : Nat} (hf : fillP e (reps len zero) parts = some (encL l2)) (hn : len = l2.length) (hok : ∀ x ∈ l2, Flat.ok x) (hl : len < 4611686018427387904)
    (K : ∀ v' h', HS g (ow v' l2 :: Γ) h' → k (eset e dst (some v')) h') : (A.ex (some dst) (.bls esz len zero parts)).wp P k e h := by
  subst hn
  refine ⟨_, hf, fun b el hb => Fgt.keep ?_⟩
  rw [set_new hb]
  refine K _ _ ⟨h, _, rfl, Dj_one.2 hb, Own_list.2 (.inr ⟨b, 0, l2.length, encL l2, el, Heap.nil, rfl, ⟨Nat.le_refl _, hl⟩, ?_, by simp, rfl, by simpa using ownL_enc hok⟩), H⟩
  rw [encL_len hok]; omega
end
section
variable {P : Program} {k : Env → Heap → Prop} {e : Env} {g h : Heap} {Γ : List HP}
theorem HS.alloc (H : HS g Γ h) {x : O} {dst : Nat} {u : Value} (hx : x.get e = some u) (K : ∀ b h', HS g (bx b u.cells.toList :: Γ) h' → k (eset e dst (some (.pointer (some ⟨b, 0, none⟩)))) h') : (A.ex (some dst) (.alloc x)).wp P k e h := by
  refine ⟨u, hx, fun b el hb => Fgt.keep ?_⟩
  rw [set_new hb]
  exact K _ _ ⟨h, _, rfl, Dj_one.2 hb, ⟨el, rfl⟩, H⟩
theorem HS.bxld {b : Nat} {c : List Value} (H : HS g (bx b c :: Γ) h) {o : Nat} {u : Value} (ho : c[o]? = some u) : hload h (some (.pointer (some ⟨b, o, none⟩))) none = some u := by
  obtain ⟨g', r, rfl, d, ⟨el, rfl⟩, H⟩ := H
  refine hload_le (le_add' d) ?_
  simp [hload, hcell, Heap.one, ho]
theorem HS.bxld0 {b : Nat} {u : Value} (H : HS g (bx b [u] :: Γ) h) : hload h (some (.pointer (some ⟨b, 0, none⟩))) none = some u := H.bxld rfl
theorem HS.bxlds {b : Nat} {c : List Value} (H : HS g (bx b c :: Γ) h) {o n : Nat} (ho : o + n ≤ c.length) : hload h (some (.pointer (some ⟨b, o, none⟩))) (some n) = some (.agg ((c.drop o).take n).toArray) := by
  obtain ⟨g', r, rfl, d, ⟨el, rfl⟩, H⟩ := H
  refine hload_le (le_add' d) ?_
  have hb : (Heap.one b (.cells c.toArray el (0, 0))) b = some (.cells c.toArray el (0, 0)) := by simp [Heap.one]
  simp only [hload]
  rw [hcells_mk hb (by simpa using ho)]
  rfl
theorem HS.bxst {b : Nat} {c : List Value} (H : HS g (bx b c :: Γ) h) {o sz : Nat} {a x : O} {u : Value} (hp : a.get e = some (.pointer (some ⟨b, o, none⟩))) (hx : x.get e = some u) (hu : u.cells.size = sz) (hu1 : allOne u.cells.toList = true) (ho : o + sz ≤ c.length)
    (K : ∀ h', HS g (bx b (setC c o u.cells.toList) :: Γ) h' → k e h') : (A.ex none (.store sz a x)).wp P k e h := by
  obtain ⟨g', r, rfl, d, ⟨el, rfl⟩, H⟩ := H
  have hn := Dj_one.1 d
  refine ⟨b, o, u, g'.add (Heap.one b (.cells (setC c o u.cells.toList).toArray el (0, 0))), hp, hx, hu, ?_, Fgt.keep (K _ ⟨g', _, rfl, Dj_one.2 hn, ⟨el, rfl⟩, H⟩)⟩
  have hb : (g'.add (Heap.one b (.cells c.toArray el (0, 0)))) b = some (.cells c.toArray el (0, 0)) := by simp [Heap.add, Heap.one, hn]
  unfold hstore
  rw [hb]
  simp only
  rw [if_pos ⟨trivial, by simpa [hu] using ho, by rw [allOne_eq]; exact hu1⟩, set_one hn]
end
def Pl.x (d : Nat) (a : PX) (p : Pl) : Pl := .st (.act none (.px (some d) a)) p
def Pl.m (d s : Nat) (p : Pl) : Pl := .st (.act none (.px (some d) (.mv (.v s)))) p
def Pl.l (d s : Nat) (p : Pl) : Pl := .st (.act none (.ld (some d) (.v s) none)) p
def Pl.a (d n : Nat) (p : Pl) : Pl := .st (.act none (.als d none n)) p
def Pl.g (d s n o : Nat) (p : Pl) : Pl := .st (.act none (.pget (some d) (some s) n o none)) p
def Pl.o (a : A) (p : Pl) : Pl := .st (.act none a) p
def Pl.c (d : Nat) (a : EX) (p : Pl) : Pl := .st (.act none (.ex (some d) a)) p
def Pl.e (n m : Nat) (p : Pl) : Pl := .st (.ext n m) p
def Pl.y (i : Nat) (a : A) (p : Pl) : Pl := .st (.act (some (.v i, true)) a) p
def Pl.n (i : Nat) (a : A) (p : Pl) : Pl := .st (.act (some (.v i, false)) a) p
section
variable {P : Program} {k : Env → Heap → Prop} {e : Env} {h : Heap} {d s n m o i : Nat} {p : Pl}
@[simp] theorem Pl.x_wp {a : PX} : Pl.wp P k (Pl.x d a p) e h = Pl.wp P k (.st (.act none (.px (some d) a)) p) e h := by unfold Pl.x; exact rfl
@[simp] theorem Pl.m_wp : Pl.wp P k (Pl.m d s p) e h = Pl.wp P k (.st (.act none (.px (some d) (.mv (.v s)))) p) e h := by unfold Pl.m; exact rfl
@[simp] theorem Pl.l_wp : Pl.wp P k (Pl.l d s p) e h = Pl.wp P k (.st (.act none (.ld (some d) (.v s) none)) p) e h := by unfold Pl.l; exact rfl
@[simp] theorem Pl.a_wp : Pl.wp P k (Pl.a d n p) e h = Pl.wp P k (.st (.act none (.als d none n)) p) e h := by unfold Pl.a; exact rfl
@[simp] theorem Pl.g_wp : Pl.wp P k (Pl.g d s n o p) e h = Pl.wp P k (.st (.act none (.pget (some d) (some s) n o none)) p) e h := by unfold Pl.g; exact rfl
@[simp] theorem Pl.e_wp : Pl.wp P k (Pl.e n m p) e h = Pl.wp P k (.st (.ext n m) p) e h := by unfold Pl.e; exact rfl
@[simp] theorem Pl.o_wp {a : A} : Pl.wp P k (Pl.o a p) e h = Pl.wp P k (.st (.act none a) p) e h := by unfold Pl.o; exact rfl
@[simp] theorem Pl.c_wp {a : EX} : Pl.wp P k (Pl.c d a p) e h = Pl.wp P k (.st (.act none (.ex (some d) a)) p) e h := by unfold Pl.c; exact rfl
@[simp] theorem Pl.y_wp {a : A} : Pl.wp P k (Pl.y i a p) e h = Pl.wp P k (.st (.act (some (.v i, true)) a) p) e h := by unfold Pl.y; exact rfl
@[simp] theorem Pl.n_wp {a : A} : Pl.wp P k (Pl.n i a p) e h = Pl.wp P k (.st (.act (some (.v i, false)) a) p) e h := by unfold Pl.n; exact rfl
end
theorem C.w {c c' : C} (hc : c = c') : ∀ ⦃P : Program⦄ ⦃Q : Ex → Env → Heap → Prop⦄ ⦃e : Env⦄ ⦃h : Heap⦄, C.wp P c Q e h = C.wp P c' Q e h := fun _ _ _ _ => C.wpe hc
theorem Pl.w {c c' : Pl} (hc : c = c') : ∀ ⦃P : Program⦄ ⦃k : Env → Heap → Prop⦄ ⦃e : Env⦄ ⦃h : Heap⦄, Pl.wp P k c e h = Pl.wp P k c' e h := fun _ _ _ _ => Pl.wpe hc
def ENT (P : Program) (B : C) (r : List (Nat × Option (Option Nat))) (n m : Nat) (f : FuncId) : Prop := ∀ {args : List Value} {h : Heap} {k : Value → Heap → Prop}, args.length = n → B.wp P (retQ r k) (env0 args m) h → CallE P f args h k
end Go.Proofs.Ytbanccfdojgocaa

namespace Go.Proofs.Ytbanccfdojgocaa
open Go
abbrev fn_main_main : Nat := 0
abbrev fn_gosem_cut : Nat := 1
abbrev fn_gosem_cut_init : Nat := 2
abbrev fn_laws_FnExactTranslateFormula : Nat := 3
abbrev fn_laws_szFormula : Nat := 4
abbrev fn_spec_TranslateFormula : Nat := 5
abbrev fn_laws_toFormula : Nat := 6
abbrev fn_impl_TranslateFormula : Nat := 7
abbrev fn_laws_eqAutomaton : Nat := 8
abbrev fn_laws_eqFormula : Nat := 9
abbrev fn_laws_markFormula : Nat := 10
abbrev fn_laws_markAutomaton : Nat := 11
abbrev fn_laws_heldAutomaton : Nat := 12
abbrev fn_laws_szFormulaS : Nat := 13
abbrev fn_spec_BasicFormulas : Nat := 14
abbrev fn_spec_NormalForm : Nat := 15
abbrev fn_spec_l7Untils : Nat := 16
abbrev fn_spec_l7Value : Nat := 17
abbrev fn_spec_l7Phase : Nat := 18
abbrev fn_spec_l7Letter : Nat := 19
abbrev fn_spec_l7Follows : Nat := 20
abbrev fn_spec_l7Pair : Nat := 21
abbrev fn_laws_toFormulaS : Nat := 22
abbrev fn_impl_BasicFormulas : Nat := 23
abbrev fn_impl_Formula_normalForm : Nat := 24
abbrev fn_impl_translator_holds : Nat := 25
abbrev fn_impl_TranslateFormula_1 : Nat := 26
abbrev fn_impl_translator_fulfils : Nat := 27
abbrev fn_impl_explore_impl_phased : Nat := 28
abbrev fn_impl_translator_moves : Nat := 29
abbrev fn_laws_eqIntS : Nat := 30
abbrev fn_laws_eqBoolS : Nat := 31
abbrev fn_laws_eqTransitionS : Nat := 32
abbrev fn_laws_eqFormulaS : Nat := 33
abbrev fn_laws_markFormulaS : Nat := 34
abbrev fn_laws_markIntS : Nat := 35
abbrev fn_laws_markBoolS : Nat := 36
abbrev fn_laws_markTransitionS : Nat := 37
abbrev fn_laws_heldIntS : Nat := 38
abbrev fn_laws_heldBoolS : Nat := 39
abbrev fn_laws_heldTransitionS : Nat := 40
abbrev fn_spec_l5Subs : Nat := 41
abbrev fn_spec_l7Basic : Nat := 42
abbrev fn_spec_FormulaValid : Nat := 43
abbrev fn_spec_l5Push : Nat := 44
abbrev fn_spec_l6Has : Nat := 45
abbrev fn_spec_l5Find : Nat := 46
abbrev fn_spec_l7Fulfils : Nat := 47
abbrev fn_spec_l2Ints : Nat := 48
abbrev fn_impl_NormalForm : Nat := 49
abbrev fn_impl_basics : Nat := 50
abbrev fn_impl_Formula_normal : Nat := 51
abbrev fn_impl_FormulaValid : Nat := 52
abbrev fn_impl_formulaAt : Nat := 53
abbrev fn_impl_explore_impl_phased_1 : Nat := 54
abbrev fn_impl_AutomatonValid : Nat := 55
abbrev fn_impl_Automaton_copyOf : Nat := 56
abbrev fn_impl_translator_follows : Nat := 57
abbrev fn_laws_eqTransition : Nat := 58
abbrev fn_spec_l5Copy : Nat := 59
abbrev fn_spec_l5Shape : Nat := 60
abbrev fn_spec_l5Count : Nat := 61
abbrev fn_spec_l5Not : Nat := 62
abbrev fn_spec_l5True : Nat := 63
abbrev fn_spec_l5Dual : Nat := 64
abbrev fn_spec_FormulaSame : Nat := 65
abbrev fn_impl_Formula_subformulas : Nat := 66
abbrev fn_slices_Clip_S_impl_Formula_impl_Formula : Nat := 67
abbrev fn_impl_formula : Nat := 68
abbrev fn_impl_Formula_normal_1 : Nat := 69
abbrev fn_impl_Formula_normal_2 : Nat := 70
abbrev fn_impl_FormulaNodes : Nat := 71
abbrev fn_slices_IndexFunc_S_impl_Formula_impl_Formula : Nat := 72
abbrev fn_impl_formulaAt_1 : Nat := 73
abbrev fn_impl_FormulaSame : Nat := 74
abbrev fn_impl_in : Nat := 75
abbrev fn_slices_ContainsFunc_S_impl_Transition_impl_Transition : Nat := 76
abbrev fn_impl_AutomatonValid_1 : Nat := 77
abbrev fn_impl_clone_int : Nat := 78
abbrev fn_impl_clone_bool : Nat := 79
abbrev fn_impl_clone_impl_Transition : Nat := 80
abbrev fn_spec_l5Arity : Nat := 81
abbrev fn_impl_Formula_subformulas_1 : Nat := 82
abbrev fn_impl_Formula_copyOf : Nat := 83
abbrev fn_impl_clone_impl_Formula : Nat := 84
abbrev fn_impl_Formula_walk : Nat := 85
abbrev fn_slices_EqualFunc_S_impl_Formula_S_impl_Formula_impl_Formula_impl_Formula : Nat := 86
abbrev fn_slices_IndexFunc_S_impl_Transition_impl_Transition : Nat := 87
abbrev fn_slices_Clip_S_int_int : Nat := 88
abbrev fn_slices_Clone_S_int_int : Nat := 89
abbrev fn_slices_Clip_S_bool_bool : Nat := 90
abbrev fn_slices_Clone_S_bool_bool : Nat := 91
abbrev fn_slices_Clip_S_impl_Transition_impl_Transition : Nat := 92
abbrev fn_slices_Clone_S_impl_Transition_impl_Transition : Nat := 93
abbrev fn_slices_Clone_S_impl_Formula_impl_Formula : Nat := 94
abbrev fn_impl_operands : Nat := 95
abbrev fn_slices_ContainsFunc_S_impl_Formula_impl_Formula : Nat := 96
abbrev fn_impl_Formula_walk_1 : Nat := 97
abbrev fn_runtime_boundsError_Error : Nat := 98
abbrev fn_runtime_boundsError_RuntimeError : Nat := 99
abbrev fn_runtime_errorString_Error : Nat := 100
abbrev fn_runtime_errorString_RuntimeError : Nat := 101
abbrev fn_runtime_plainError_Error : Nat := 102
abbrev fn_runtime_plainError_RuntimeError : Nat := 103
abbrev fn_runtime_errorAddressString_Error : Nat := 104
abbrev fn_runtime_errorAddressString_RuntimeError : Nat := 105
abbrev fn_runtime_TypeAssertionError_Error : Nat := 106
abbrev fn_runtime_TypeAssertionError_RuntimeError : Nat := 107
abbrev fn_runtime_PanicNilError_Error : Nat := 108
abbrev fn_runtime_PanicNilError_RuntimeError : Nat := 109
abbrev fn_internal_abi_Type_Align : Nat := 110
abbrev fn_internal_runtime_maps_unhashableTypeError_Error : Nat := 111
abbrev fn_internal_runtime_maps_unhashableTypeError_RuntimeError : Nat := 112
abbrev fn_impl_Automaton_accepting : Nat := 113
abbrev fn_impl_Formula_text : Nat := 114
abbrev fn_impl_Transition_takes : Nat := 115
abbrev fn_internal_abi_Kind_String : Nat := 116
end Go.Proofs.Ytbanccfdojgocaa

namespace Go.Proofs.Ytbanccfdojgocaa
open Go
def H_impl_formulaAt : Hint := ⟨[(0, false), (1, false), (3, false), (4, false)], []⟩
def K53_1 : Pl := .m 3 6 .done
@[simp] def W53_1 := Pl.w K53_1.eq_1
def K53_2 : C := .seq (.pl <| .e 4 3 <|
 .m 4 0 <|
 .x 5 (.mkf (.func fn_impl_formulaAt_1) [] [.v 2]) <|
 .c 6 (.call fn_slices_IndexFunc_S_impl_Formula_impl_Formula [.v 4, .v 5]) K53_1) (.ret)
@[simp] def W53_2 := C.w K53_2.eq_1
def K53_3 : Pl := .x 3 (.mv (.c (.int .i64 0))) .done
@[simp] def W53_3 := Pl.w K53_3.eq_1
def B_impl_formulaAt : C := .seq (.pl <| .e 4 0 <|
 .c 2 (.alloc (.v 1)) K53_3) K53_2
@[simp] def WB_impl_formulaAt := C.w B_impl_formulaAt.eq_1
def R_impl_formulaAt : FIR := ⟨B_impl_formulaAt, 4, [(3, none)]⟩
theorem IR_impl_formulaAt : cfun Try.prog H_impl_formulaAt Try.f53 = some R_impl_formulaAt := by kernel_rfl
theorem EN_impl_formulaAt : ENT Try.prog B_impl_formulaAt [(3, none)] 2 4 fn_impl_formulaAt := fun hargs hw => enter Try.func53 rfl IR_impl_formulaAt hargs hw
def H_impl_formulaAt_1 : Hint := ⟨[(0, false), (1, false), (2, true), (3, false)], []⟩
def K73_1 : Pl := .m 3 6 .done
@[simp] def W73_1 := Pl.w K73_1.eq_1
def K73_2 : C := .seq (.pl <| .e 4 3 <|
 .o (.pget (some 4) none 2 0 (some 3)) <|
 .o (.ld (some 5) (.v 1) (some 3)) <|
 .c 6 (.call fn_impl_FormulaSame [.v 4, .v 5]) K73_1) (.ret)
@[simp] def W73_2 := C.w K73_2.eq_1
def B_impl_formulaAt_1 : C := .seq (.pl <| .e 4 0 <|
 .o (.pnew 2 (.v 0) []) <|
 .x 3 (.mv (.c (.bool false))) .done) K73_2
@[simp] def WB_impl_formulaAt_1 := C.w B_impl_formulaAt_1.eq_1
def R_impl_formulaAt_1 : FIR := ⟨B_impl_formulaAt_1, 4, [(3, none)]⟩
theorem IR_impl_formulaAt_1 : cfun Try.prog H_impl_formulaAt_1 Try.f73 = some R_impl_formulaAt_1 := by kernel_rfl
theorem EN_impl_formulaAt_1 : ENT Try.prog B_impl_formulaAt_1 [(3, none)] 2 4 fn_impl_formulaAt_1 := fun hargs hw => enter Try.func73 rfl IR_impl_formulaAt_1 hargs hw
def H_impl_in : Hint := ⟨[(0, false), (1, false), (2, false), (6, false)], []⟩
def K75_1 : C := .seq (.pl <| .e 4 8 <|
 .m 4 0 <|
 .m 5 1 <|
 .x 6 (.bin .geq (.v 4) (.v 5)) <|
 .m 7 6 <|
 .y 7 (.px (some 8) (.mv (.v 0))) <|
 .y 7 (.px (some 9) (.mv (.v 2))) <|
 .y 7 (.px (some 10) (.bin .leq (.v 8) (.v 9))) <|
 .x 11 (.pick (.v 7) (.v 10) (.c (.bool false))) <|
 .m 3 11 .done) (.ret)
@[simp] def W75_1 := C.w K75_1.eq_1
def B_impl_in : C := .seq (.pl <| .e 4 0 <|
 .x 3 (.mv (.c (.bool false))) .done) K75_1
@[simp] def WB_impl_in := C.w B_impl_in.eq_1
def R_impl_in : FIR := ⟨B_impl_in, 4, [(3, none)]⟩
theorem IR_impl_in : cfun Try.prog H_impl_in Try.f75 = some R_impl_in := by kernel_rfl
theorem EN_impl_in : ENT Try.prog B_impl_in [(3, none)] 3 4 fn_impl_in := fun hargs hw => enter Try.func75 rfl IR_impl_in hargs hw
def H_impl_operands : Hint := ⟨[(0, false), (2, false), (3, false), (4, false), (7, false)], []⟩
def K95_1 : C := .seq (.pl <| .e 5 0 <|
 .x 1 (.mv (.c (.int .i64 1))) .done) (.ret)
@[simp] def W95_1 := C.w K95_1.eq_1
def K95_2 : C := .seq (.pl <| .e 5 0 <|
 .x 1 (.mv (.c (.int .i64 0))) .done) (.ret)
@[simp] def W95_2 := C.w K95_2.eq_1
def K95_3 : C := .seq (.pl <| .e 5 0 <|
 .x 1 (.mv (.c (.int .i64 2))) .done) (.ret)
@[simp] def W95_3 := C.w K95_3.eq_1
def K95_4 : C := .cond 5 (.v 4) K95_3 (.skip)
@[simp] def W95_4 := C.w K95_4.eq_1
def K95_5 : C := .pl <| .e 5 1 <|
 .x 5 (.bin .eql (.v 2) (.c (.int .i64 8))) <|
 .m 4 5 .done
@[simp] def W95_5 := C.w K95_5.eq_1
def K95_6 : C := .cond 5 (.v 4) (.skip) K95_5
@[simp] def W95_6 := C.w K95_6.eq_1
def K95_7 : C := .seq (.pl <| .e 5 1 <|
 .x 5 (.bin .eql (.v 2) (.c (.int .i64 7))) <|
 .m 4 5 .done) K95_6
@[simp] def W95_7 := C.w K95_7.eq_1
def K95_8 : C := .cond 5 (.v 4) (.skip) K95_7
@[simp] def W95_8 := C.w K95_8.eq_1
def K95_9 : C := .seq (.pl <| .e 5 1 <|
 .x 5 (.bin .eql (.v 2) (.c (.int .i64 5))) <|
 .m 4 5 .done) K95_8
@[simp] def W95_9 := C.w K95_9.eq_1
def K95_10 : C := .cond 5 (.v 4) (.skip) K95_9
@[simp] def W95_10 := C.w K95_10.eq_1
def K95_11 : C := .seq (.seq (.pl <| .e 5 1 <|
 .x 5 (.bin .eql (.v 2) (.c (.int .i64 4))) <|
 .m 4 5 .done) K95_10) K95_4
@[simp] def W95_11 := C.w K95_11.eq_1
def K95_12 : C := .cond 5 (.v 3) K95_2 K95_11
@[simp] def W95_12 := C.w K95_12.eq_1
def K95_13 : C := .pl <| .e 5 1 <|
 .x 5 (.bin .eql (.v 2) (.c (.int .i64 2))) <|
 .m 3 5 .done
@[simp] def W95_13 := C.w K95_13.eq_1
def K95_14 : C := .cond 5 (.v 3) (.skip) K95_13
@[simp] def W95_14 := C.w K95_14.eq_1
def K95_15 : C := .block 0 (.seq (.seq (.pl <| .e 5 1 <|
 .x 5 (.bin .eql (.v 2) (.c (.int .i64 1))) <|
 .m 3 5 .done) K95_14) K95_12)
@[simp] def W95_15 := C.w K95_15.eq_1
def K95_16 : C := .seq (.seq (.pl <| .e 5 0 <|
 .m 2 0 .done) K95_15) K95_1
@[simp] def W95_16 := C.w K95_16.eq_1
def B_impl_operands : C := .seq (.pl <| .e 5 0 <|
 .x 1 (.mv (.c (.int .i64 0))) .done) K95_16
@[simp] def WB_impl_operands := C.w B_impl_operands.eq_1
def R_impl_operands : FIR := ⟨B_impl_operands, 5, [(1, none)]⟩
theorem IR_impl_operands : cfun Try.prog H_impl_operands Try.f95 = some R_impl_operands := by kernel_rfl
theorem EN_impl_operands : ENT Try.prog B_impl_operands [(1, none)] 1 5 fn_impl_operands := fun hargs hw => enter Try.func95 rfl IR_impl_operands hargs hw
def H_impl_translator_follows : Hint := ⟨[(0, false), (1, false), (2, false), (6, false), (7, false), (8, true), (9, false), (10, false), (11, false), (15, false), (16, false), (17, false), (34, false)], [[3, 4, 5, 6, 7, 8, 12]]⟩
def K57_1 : C := .seq (.pl <| .e 13 0 <|
 .x 3 (.mv (.c (.bool true))) .done) (.ret)
@[simp] def W57_1 := C.w K57_1.eq_1
def K57_2 : C := .pl <| .e 13 1 <|
 .x 13 (.bin .add (.v 11) (.c (.int .i64 1))) <|
 .m 11 13 .done
@[simp] def W57_2 := C.w K57_2.eq_1
def K57_3 : C := .seq (.pl <| .e 13 0 <|
 .x 3 (.mv (.c (.bool false))) .done) (.ret)
@[simp] def W57_3 := C.w K57_3.eq_1
def K57_4 : C := .cond 13 (.v 15) K57_3 (.skip)
@[simp] def W57_4 := C.w K57_4.eq_1
def K57_5 : C := .seq (.pl <| .e 13 3 <|
 .m 13 6 <|
 .m 14 8 <|
 .x 15 (.eqb true (.v 13) (.v 14)) .done) K57_4
@[simp] def W57_5 := C.w K57_5.eq_1
def K57_6 : Pl := .m 8 19 .done
@[simp] def W57_6 := Pl.w K57_6.eq_1
def K57_7 : C := .pl <| .e 13 7 <|
 .m 13 0 <|
 .a 14 5 <|
 .g 15 14 5 2 <|
 .x 16 (.ia 3 (.v 15) (.c (.int .i64 0))) <|
 .o (.ld (some 17) (.v 16) (some 3)) <|
 .m 18 2 <|
 .c 19 (.call fn_impl_translator_holds [.v 13, .v 17, .v 18]) K57_6
@[simp] def W57_7 := C.w K57_7.eq_1
def K57_8 : Pl := .n 20 (.px (some 28) (.mv (.v 27))) <|
 .y 28 (.px (some 29) (.mv (.v 7))) <|
 .n 20 (.px (some 30) (.pick (.v 28) (.v 29) (.c (.bool false)))) <|
 .x 31 (.pick (.v 20) (.c (.bool true)) (.v 30)) <|
 .m 8 31 .done
@[simp] def W57_8 := Pl.w K57_8.eq_1
def K57_9 : Pl := .m 20 19 <|
 .n 20 (.px (some 21) (.mv (.v 0))) <|
 .n 20 (.als 22 none 5) <|
 .n 20 (.pget (some 23) (some 22) 5 2 none) <|
 .n 20 (.px (some 24) (.ia 3 (.v 23) (.c (.int .i64 0)))) <|
 .n 20 (.ld (some 25) (.v 24) (some 3)) <|
 .n 20 (.px (some 26) (.mv (.v 1))) <|
 .st (.act (some (.v 20, false)) (.ex (some 27) (.call fn_impl_translator_holds [.v 21, .v 25, .v 26]))) K57_8
@[simp] def W57_9 := Pl.w K57_9.eq_1
def K57_10 : C := .pl <| .e 13 19 <|
 .m 13 0 <|
 .a 14 5 <|
 .g 15 14 5 2 <|
 .x 16 (.ia 3 (.v 15) (.c (.int .i64 1))) <|
 .o (.ld (some 17) (.v 16) (some 3)) <|
 .m 18 1 <|
 .c 19 (.call fn_impl_translator_holds [.v 13, .v 17, .v 18]) K57_9
@[simp] def W57_10 := C.w K57_10.eq_1
def K57_11 : Pl := .y 20 (.px (some 28) (.mv (.v 27))) <|
 .n 28 (.px (some 29) (.mv (.v 7))) <|
 .y 20 (.px (some 30) (.pick (.v 28) (.c (.bool true)) (.v 29))) <|
 .x 31 (.pick (.v 20) (.v 30) (.c (.bool false))) <|
 .m 8 31 .done
@[simp] def W57_11 := Pl.w K57_11.eq_1
def K57_12 : Pl := .m 20 19 <|
 .y 20 (.px (some 21) (.mv (.v 0))) <|
 .y 20 (.als 22 none 5) <|
 .y 20 (.pget (some 23) (some 22) 5 2 none) <|
 .y 20 (.px (some 24) (.ia 3 (.v 23) (.c (.int .i64 0)))) <|
 .y 20 (.ld (some 25) (.v 24) (some 3)) <|
 .y 20 (.px (some 26) (.mv (.v 1))) <|
 .st (.act (some (.v 20, true)) (.ex (some 27) (.call fn_impl_translator_holds [.v 21, .v 25, .v 26]))) K57_11
@[simp] def W57_12 := Pl.w K57_12.eq_1
def K57_13 : C := .pl <| .e 13 19 <|
 .m 13 0 <|
 .a 14 5 <|
 .g 15 14 5 2 <|
 .x 16 (.ia 3 (.v 15) (.c (.int .i64 1))) <|
 .o (.ld (some 17) (.v 16) (some 3)) <|
 .m 18 1 <|
 .c 19 (.call fn_impl_translator_holds [.v 13, .v 17, .v 18]) K57_12
@[simp] def W57_13 := C.w K57_13.eq_1
def K57_14 : C := .cond 13 (.v 14) K57_13 (.skip)
@[simp] def W57_14 := C.w K57_14.eq_1
def K57_15 : C := .seq (.pl <| .e 13 2 <|
 .x 13 (.bin .eql (.v 12) (.c (.int .i64 8))) <|
 .m 14 13 .done) K57_14
@[simp] def W57_15 := C.w K57_15.eq_1
def K57_16 : C := .cond 13 (.v 14) K57_10 K57_15
@[simp] def W57_16 := C.w K57_16.eq_1
def K57_17 : C := .seq (.pl <| .e 13 2 <|
 .x 13 (.bin .eql (.v 12) (.c (.int .i64 7))) <|
 .m 14 13 .done) K57_16
@[simp] def W57_17 := C.w K57_17.eq_1
def K57_18 : C := .cond 13 (.v 14) K57_7 K57_17
@[simp] def W57_18 := C.w K57_18.eq_1
def K57_19 : C := .block 2 (.seq (.pl <| .e 13 2 <|
 .x 13 (.bin .eql (.v 12) (.c (.int .i64 6))) <|
 .m 14 13 .done) K57_18)
@[simp] def W57_19 := C.w K57_19.eq_1
def K57_20 : C := .seq (.seq (.pl <| .e 13 1 <|
 .a 13 5 <|
 .g 12 13 5 0 .done) K57_19) K57_5
@[simp] def W57_20 := C.w K57_20.eq_1
def K57_21 : C := .seq (.pl <| .e 13 1 <|
 .m 13 6 <|
 .m 8 13 .done) K57_20
@[simp] def W57_21 := C.w K57_21.eq_1
def K57_22 : C := .seq (.pl <| .e 13 10 <|
 .m 13 1 <|
 .m 14 4 <|
 .x 15 (.bin .shr (.v 13) (.v 14)) <|
 .x 16 (.bin .and (.v 15) (.c (.int .i64 1))) <|
 .x 17 (.bin .eql (.v 16) (.c (.int .i64 1))) <|
 .m 18 2 <|
 .m 19 4 <|
 .x 20 (.bin .shr (.v 18) (.v 19)) <|
 .x 21 (.bin .and (.v 20) (.c (.int .i64 1))) <|
 .x 22 (.bin .eql (.v 21) (.c (.int .i64 1))) <|
 .m 6 17 <|
 .m 7 22 .done) K57_21
@[simp] def W57_22 := C.w K57_22.eq_1
def K57_23 : C := .seq (.block 1 (.seq (.pl <| .e 13 3 <|
 .m 13 11 <|
 .x 14 (.ia 3 (.v 9) (.v 11)) <|
 .o (.ld (some 15) (.v 14) (some 3)) <|
 .o (.pnew 5 (.c (.agg #[.int .i64 0, .int .i64 0, .slice none 0 0])) []) <|
 .m 4 13 <|
 .o (.pset none 5 0 3 (.v 15)) .done) K57_22)) K57_2
@[simp] def W57_23 := C.w K57_23.eq_1
def K57_24 : C := .seq (.cond 13 (.v 13) (.skip) (.exit 0)) K57_23
@[simp] def W57_24 := C.w K57_24.eq_1
def K57_25 : C := .seq (.pl <| .e 13 1 <|
 .x 13 (.bin .lss (.v 11) (.v 10)) .done) K57_24
@[simp] def W57_25 := C.w K57_25.eq_1
def K57_26 : C := .block 0 (.loop 13 [3, 4, 5, 6, 7, 8, 12] K57_25)
@[simp] def W57_26 := C.w K57_26.eq_1
def K57_27 : C := .seq (.seq (.pl <| .e 13 3 <|
 .m 13 0 <|
 .x 14 (.nilc (.v 13)) <|
 .x 15 (.fa 0 (.v 14)) <|
 .l 9 15 <|
 .x 10 (.lenV (.v 9)) <|
 .x 11 (.mv (.c (.int .i64 0))) .done) K57_26) K57_1
@[simp] def W57_27 := C.w K57_27.eq_1
def B_impl_translator_follows : C := .seq (.pl <| .e 13 0 <|
 .x 3 (.mv (.c (.bool false))) .done) K57_27
@[simp] def WB_impl_translator_follows := C.w B_impl_translator_follows.eq_1
def R_impl_translator_follows : FIR := ⟨B_impl_translator_follows, 13, [(3, none)]⟩
theorem IR_impl_translator_follows : cfun Try.prog H_impl_translator_follows Try.f57 = some R_impl_translator_follows := by kernel_rfl
theorem EN_impl_translator_follows : ENT Try.prog B_impl_translator_follows [(3, none)] 3 13 fn_impl_translator_follows := fun hargs hw => enter Try.func57 rfl IR_impl_translator_follows hargs hw
def H_impl_translator_fulfils : Hint := ⟨[(0, false), (1, false), (2, false), (6, false), (7, false)], []⟩
def K27_1 : Pl := .x 24 (.pick (.v 10) (.c (.bool true)) (.v 23)) <|
 .m 3 24 .done
@[simp] def W27_1 := Pl.w K27_1.eq_1
def K27_2 : C := .seq (.pl <| .e 5 20 <|
 .m 5 1 <|
 .m 6 4 <|
 .x 7 (.bin .shr (.v 5) (.v 6)) <|
 .x 8 (.bin .and (.v 7) (.c (.int .i64 1))) <|
 .x 9 (.bin .eql (.v 8) (.c (.int .i64 0))) <|
 .m 10 9 <|
 .n 10 (.px (some 11) (.mv (.v 0))) <|
 .n 10 (.px (some 12) (.mv (.v 0))) <|
 .n 10 (.px (some 13) (.nilc (.v 12))) <|
 .n 10 (.px (some 14) (.fa 0 (.v 13))) <|
 .n 10 (.ld (some 15) (.v 14) none) <|
 .n 10 (.px (some 16) (.mv (.v 4))) <|
 .n 10 (.px (some 17) (.ia 3 (.v 15) (.v 16))) <|
 .n 10 (.px (some 18) (.fa 2 (.v 17))) <|
 .n 10 (.ld (some 19) (.v 18) none) <|
 .n 10 (.px (some 20) (.ia 3 (.v 19) (.c (.int .i64 1)))) <|
 .n 10 (.ld (some 21) (.v 20) (some 3)) <|
 .n 10 (.px (some 22) (.mv (.v 1))) <|
 .st (.act (some (.v 10, false)) (.ex (some 23) (.call fn_impl_translator_holds [.v 11, .v 21, .v 22]))) K27_1) (.ret)
@[simp] def W27_2 := C.w K27_2.eq_1
def K27_3 : C := .seq (.pl <| .e 5 7 <|
 .m 5 0 <|
 .x 6 (.nilc (.v 5)) <|
 .x 7 (.fa 1 (.v 6)) <|
 .l 8 7 <|
 .m 9 2 <|
 .x 10 (.ia 1 (.v 8) (.v 9)) <|
 .l 11 10 <|
 .m 4 11 .done) K27_2
@[simp] def W27_3 := C.w K27_3.eq_1
def B_impl_translator_fulfils : C := .seq (.pl <| .e 5 0 <|
 .x 3 (.mv (.c (.bool false))) .done) K27_3
@[simp] def WB_impl_translator_fulfils := C.w B_impl_translator_fulfils.eq_1
def R_impl_translator_fulfils : FIR := ⟨B_impl_translator_fulfils, 5, [(3, none)]⟩
theorem IR_impl_translator_fulfils : cfun Try.prog H_impl_translator_fulfils Try.f27 = some R_impl_translator_fulfils := by kernel_rfl
theorem EN_impl_translator_fulfils : ENT Try.prog B_impl_translator_fulfils [(3, none)] 3 5 fn_impl_translator_fulfils := fun hargs hw => enter Try.func27 rfl IR_impl_translator_fulfils hargs hw
def H_impl_translator_holds : Hint := ⟨[(0, false), (1, false), (2, false), (4, true), (6, false), (7, false), (22, false)], []⟩
def K25_1 : C := .seq (.pl <| .e 7 0 <|
 .x 4 (.mv (.c (.bool true))) .done) (.ret)
@[simp] def W25_1 := C.w K25_1.eq_1
def K25_2 : Pl := .x 14 (.un .not (.v 13)) <|
 .m 4 14 .done
@[simp] def W25_2 := Pl.w K25_2.eq_1
def K25_3 : C := .seq (.pl <| .e 7 8 <|
 .m 7 0 <|
 .a 8 3 <|
 .g 9 8 3 2 <|
 .x 10 (.ia 3 (.v 9) (.c (.int .i64 0))) <|
 .o (.ld (some 11) (.v 10) (some 3)) <|
 .m 12 2 <|
 .c 13 (.call fn_impl_translator_holds [.v 7, .v 11, .v 12]) K25_2) (.ret)
@[simp] def W25_3 := C.w K25_3.eq_1
def K25_4 : Pl := .x 22 (.pick (.v 14) (.v 21) (.c (.bool false))) <|
 .m 4 22 .done
@[simp] def W25_4 := Pl.w K25_4.eq_1
def K25_5 : Pl := .m 14 13 <|
 .y 14 (.px (some 15) (.mv (.v 0))) <|
 .y 14 (.als 16 none 3) <|
 .y 14 (.pget (some 17) (some 16) 3 2 none) <|
 .y 14 (.px (some 18) (.ia 3 (.v 17) (.c (.int .i64 1)))) <|
 .y 14 (.ld (some 19) (.v 18) (some 3)) <|
 .y 14 (.px (some 20) (.mv (.v 2))) <|
 .st (.act (some (.v 14, true)) (.ex (some 21) (.call fn_impl_translator_holds [.v 15, .v 19, .v 20]))) K25_4
@[simp] def W25_5 := Pl.w K25_5.eq_1
def K25_6 : C := .seq (.pl <| .e 7 16 <|
 .m 7 0 <|
 .a 8 3 <|
 .g 9 8 3 2 <|
 .x 10 (.ia 3 (.v 9) (.c (.int .i64 0))) <|
 .o (.ld (some 11) (.v 10) (some 3)) <|
 .m 12 2 <|
 .c 13 (.call fn_impl_translator_holds [.v 7, .v 11, .v 12]) K25_5) (.ret)
@[simp] def W25_6 := C.w K25_6.eq_1
def K25_7 : Pl := .x 22 (.pick (.v 14) (.c (.bool true)) (.v 21)) <|
 .m 4 22 .done
@[simp] def W25_7 := Pl.w K25_7.eq_1
def K25_8 : Pl := .m 14 13 <|
 .n 14 (.px (some 15) (.mv (.v 0))) <|
 .n 14 (.als 16 none 3) <|
 .n 14 (.pget (some 17) (some 16) 3 2 none) <|
 .n 14 (.px (some 18) (.ia 3 (.v 17) (.c (.int .i64 1)))) <|
 .n 14 (.ld (some 19) (.v 18) (some 3)) <|
 .n 14 (.px (some 20) (.mv (.v 2))) <|
 .st (.act (some (.v 14, false)) (.ex (some 21) (.call fn_impl_translator_holds [.v 15, .v 19, .v 20]))) K25_7
@[simp] def W25_8 := Pl.w K25_8.eq_1
def K25_9 : C := .seq (.pl <| .e 7 16 <|
 .m 7 0 <|
 .a 8 3 <|
 .g 9 8 3 2 <|
 .x 10 (.ia 3 (.v 9) (.c (.int .i64 0))) <|
 .o (.ld (some 11) (.v 10) (some 3)) <|
 .m 12 2 <|
 .c 13 (.call fn_impl_translator_holds [.v 7, .v 11, .v 12]) K25_8) (.ret)
@[simp] def W25_9 := C.w K25_9.eq_1
def K25_10 : C := .cond 7 (.v 8) K25_9 (.skip)
@[simp] def W25_10 := C.w K25_10.eq_1
def K25_11 : C := .seq (.pl <| .e 7 2 <|
 .x 7 (.bin .eql (.v 6) (.c (.int .i64 5))) <|
 .m 8 7 .done) K25_10
@[simp] def W25_11 := C.w K25_11.eq_1
def K25_12 : C := .cond 7 (.v 8) K25_6 K25_11
@[simp] def W25_12 := C.w K25_12.eq_1
def K25_13 : C := .seq (.pl <| .e 7 2 <|
 .x 7 (.bin .eql (.v 6) (.c (.int .i64 4))) <|
 .m 8 7 .done) K25_12
@[simp] def W25_13 := C.w K25_13.eq_1
def K25_14 : C := .cond 7 (.v 8) K25_3 K25_13
@[simp] def W25_14 := C.w K25_14.eq_1
def K25_15 : C := .block 0 (.seq (.pl <| .e 7 2 <|
 .x 7 (.bin .eql (.v 6) (.c (.int .i64 3))) <|
 .m 8 7 .done) K25_14)
@[simp] def W25_15 := C.w K25_15.eq_1
def K25_16 : C := .seq (.seq (.pl <| .e 7 1 <|
 .a 7 3 <|
 .g 6 7 3 0 .done) K25_15) K25_1
@[simp] def W25_16 := C.w K25_16.eq_1
def K25_17 : C := .seq (.pl <| .e 7 5 <|
 .m 7 2 <|
 .m 8 5 <|
 .x 9 (.bin .shr (.v 7) (.v 8)) <|
 .x 10 (.bin .and (.v 9) (.c (.int .i64 1))) <|
 .x 11 (.bin .eql (.v 10) (.c (.int .i64 1))) <|
 .m 4 11 .done) (.ret)
@[simp] def W25_17 := C.w K25_17.eq_1
def K25_18 : C := .cond 7 (.v 8) K25_17 (.skip)
@[simp] def W25_18 := C.w K25_18.eq_1
def K25_19 : C := .seq (.pl <| .e 7 2 <|
 .m 7 5 <|
 .x 8 (.bin .geq (.v 7) (.c (.int .i64 0))) .done) K25_18
@[simp] def W25_19 := C.w K25_19.eq_1
def K25_20 : Pl := .m 5 12 .done
@[simp] def W25_20 := Pl.w K25_20.eq_1
def K25_21 : C := .seq (.seq (.pl <| .e 7 6 <|
 .m 7 0 <|
 .x 8 (.nilc (.v 7)) <|
 .x 9 (.fa 0 (.v 8)) <|
 .l 10 9 <|
 .o (.pget (some 11) none 3 0 (some 3)) <|
 .c 12 (.call fn_impl_formulaAt [.v 10, .v 11]) K25_20) K25_19) K25_16
@[simp] def W25_21 := C.w K25_21.eq_1
def B_impl_translator_holds : C := .seq (.pl <| .e 7 0 <|
 .o (.pnew 3 (.v 1) []) <|
 .x 4 (.mv (.c (.bool false))) .done) K25_21
@[simp] def WB_impl_translator_holds := C.w B_impl_translator_holds.eq_1
def R_impl_translator_holds : FIR := ⟨B_impl_translator_holds, 7, [(4, none)]⟩
theorem IR_impl_translator_holds : cfun Try.prog H_impl_translator_holds Try.f25 = some R_impl_translator_holds := by kernel_rfl
theorem EN_impl_translator_holds : ENT Try.prog B_impl_translator_holds [(4, none)] 3 7 fn_impl_translator_holds := fun hargs hw => enter Try.func25 rfl IR_impl_translator_holds hargs hw
def H_impl_translator_moves : Hint := ⟨[(0, false), (1, false), (3, true), (4, false), (5, false), (6, false), (7, false), (8, false), (9, true), (10, false), (11, false), (12, false), (18, false), (19, false), (20, false), (67, false), (68, false)], [[1, 3, 7, 8, 9, 10, 11, 15, 16], [1, 3, 7, 8, 9, 11, 12, 13, 14]]⟩
def K29_1 : C := .seq (.pl <| .e 17 1 <|
 .m 17 10 <|
 .m 3 17 .done) (.ret)
@[simp] def W29_1 := C.w K29_1.eq_1
def K29_2 : C := .pl <| .e 17 1 <|
 .x 17 (.bin .add (.v 16) (.c (.int .i64 1))) <|
 .m 16 17 .done
@[simp] def W29_2 := C.w K29_2.eq_1
def K29_3 : Pl := .m 10 25 .done
@[simp] def W29_3 := Pl.w K29_3.eq_1
def K29_4 : C := .pl <| .e 17 9 <|
 .m 17 10 <|
 .m 18 4 <|
 .m 19 5 <|
 .m 20 11 <|
 .m 21 6 <|
 .x 22 (.build [.int .i64 0, .int .i64 0] [(0, 1, .v 20), (1, 1, .v 21)]) <|
 .x 23 (.build [.int .i64 0, .int .i64 0, .int .i64 0, .int .i64 0] [(0, 1, .v 18), (1, 1, .v 19), (2, 2, .v 22)]) <|
 .o (.psl 24 [.int .i64 0, .int .i64 0, .int .i64 0, .int .i64 0] [(0, 4, .v 23)]) <|
 .c 25 (.app 32 4 [.int .i64 0, .int .i64 0, .int .i64 0, .int .i64 0] (.o (.v 17)) (.p 1 24)) K29_3
@[simp] def W29_4 := C.w K29_4.eq_1
def K29_5 : C := .cond 17 (.v 21) K29_4 (.skip)
@[simp] def W29_5 := C.w K29_5.eq_1
def K29_6 : C := .seq (.pl <| .e 17 5 <|
 .m 17 0 <|
 .a 18 2 <|
 .g 19 18 2 0 <|
 .m 20 11 <|
 .c 21 (.call fn_impl_translator_follows [.v 17, .v 19, .v 20]) .done) K29_5
@[simp] def W29_6 := C.w K29_6.eq_1
def K29_7 : C := .seq (.block 3 (.seq (.pl <| .e 17 1 <|
 .m 17 16 <|
 .m 11 17 .done) K29_6)) K29_2
@[simp] def W29_7 := C.w K29_7.eq_1
def K29_8 : C := .seq (.cond 17 (.v 17) (.skip) (.exit 2)) K29_7
@[simp] def W29_8 := C.w K29_8.eq_1
def K29_9 : C := .seq (.pl <| .e 17 1 <|
 .x 17 (.bin .lss (.v 16) (.v 15)) .done) K29_8
@[simp] def W29_9 := C.w K29_9.eq_1
def K29_10 : C := .block 2 (.loop 17 [1, 3, 7, 8, 9, 11, 12, 13, 14] K29_9)
@[simp] def W29_10 := C.w K29_10.eq_1
def K29_11 : C := .seq (.seq (.pl <| .e 17 5 <|
 .m 17 0 <|
 .x 18 (.nilc (.v 17)) <|
 .x 19 (.fa 0 (.v 18)) <|
 .l 20 19 <|
 .x 21 (.lenV (.v 20)) <|
 .x 15 (.bin .shl (.c (.int .i64 1)) (.v 21)) <|
 .x 16 (.mv (.c (.int .i64 0))) .done) K29_10) K29_1
@[simp] def W29_11 := C.w K29_11.eq_1
def K29_12 : C := .seq (.pl <| .e 17 0 <|
 .x 10 (.mv (.c (.slice none 0 0))) .done) K29_11
@[simp] def W29_12 := C.w K29_12.eq_1
def K29_13 : C := .pl <| .e 17 4 <|
 .m 17 6 <|
 .x 18 (.bin .add (.v 17) (.c (.int .i64 1))) <|
 .m 19 9 <|
 .x 20 (.bin .rem (.v 18) (.v 19)) <|
 .m 6 20 .done
@[simp] def W29_13 := C.w K29_13.eq_1
def K29_14 : C := .cond 17 (.v 25) K29_13 (.skip)
@[simp] def W29_14 := C.w K29_14.eq_1
def K29_15 : Pl := .x 25 (.pick (.v 19) (.v 24) (.c (.bool false))) .done
@[simp] def W29_15 := Pl.w K29_15.eq_1
def K29_16 : C := .seq (.pl <| .e 17 9 <|
 .m 17 9 <|
 .x 18 (.bin .gtr (.v 17) (.c (.int .i64 0))) <|
 .m 19 18 <|
 .y 19 (.px (some 20) (.mv (.v 0))) <|
 .y 19 (.als 21 none 2) <|
 .y 19 (.pget (some 22) (some 21) 2 0 none) <|
 .y 19 (.px (some 23) (.mv (.v 6))) <|
 .st (.act (some (.v 19, true)) (.ex (some 24) (.call fn_impl_translator_fulfils [.v 20, .v 22, .v 23]))) K29_15) K29_14
@[simp] def W29_16 := C.w K29_16.eq_1
def K29_17 : C := .seq (.seq (.pl <| .e 17 5 <|
 .m 17 0 <|
 .x 18 (.nilc (.v 17)) <|
 .x 19 (.fa 1 (.v 18)) <|
 .l 20 19 <|
 .x 21 (.lenV (.v 20)) <|
 .m 9 21 .done) K29_16) K29_12
@[simp] def W29_17 := C.w K29_17.eq_1
def K29_18 : C := .pl <| .e 17 1 <|
 .x 17 (.bin .add (.v 14) (.c (.int .i64 1))) <|
 .m 14 17 .done
@[simp] def W29_18 := C.w K29_18.eq_1
def K29_19 : C := .pl <| .e 17 10 <|
 .m 17 5 <|
 .a 18 2 <|
 .g 19 18 2 0 <|
 .m 20 7 <|
 .x 21 (.bin .shr (.v 19) (.v 20)) <|
 .x 22 (.bin .and (.v 21) (.c (.int .i64 1))) <|
 .a 23 8 <|
 .g 24 23 8 1 <|
 .x 25 (.bin .shl (.v 22) (.v 24)) <|
 .x 26 (.bin .or (.v 17) (.v 25)) <|
 .m 5 26 .done
@[simp] def W29_19 := C.w K29_19.eq_1
def K29_20 : C := .seq (.pl <| .e 17 5 <|
 .m 17 4 <|
 .a 18 8 <|
 .g 19 18 8 1 <|
 .x 20 (.bin .shl (.c (.int .i64 1)) (.v 19)) <|
 .x 21 (.bin .or (.v 17) (.v 20)) <|
 .m 4 21 .done) K29_19
@[simp] def W29_20 := C.w K29_20.eq_1
def K29_21 : C := .cond 17 (.v 19) K29_20 (.skip)
@[simp] def W29_21 := C.w K29_21.eq_1
def K29_22 : C := .seq (.pl <| .e 17 3 <|
 .a 17 8 <|
 .g 18 17 8 0 <|
 .x 19 (.bin .eql (.v 18) (.c (.int .i64 2))) .done) K29_21
@[simp] def W29_22 := C.w K29_22.eq_1
def K29_23 : C := .seq (.block 1 (.seq (.pl <| .e 17 3 <|
 .m 17 14 <|
 .x 18 (.ia 3 (.v 12) (.v 14)) <|
 .o (.ld (some 19) (.v 18) (some 3)) <|
 .o (.pnew 8 (.c (.agg #[.int .i64 0, .int .i64 0, .slice none 0 0])) []) <|
 .m 7 17 <|
 .o (.pset none 8 0 3 (.v 19)) .done) K29_22)) K29_18
@[simp] def W29_23 := C.w K29_23.eq_1
def K29_24 : C := .seq (.cond 17 (.v 17) (.skip) (.exit 0)) K29_23
@[simp] def W29_24 := C.w K29_24.eq_1
def K29_25 : C := .seq (.pl <| .e 17 1 <|
 .x 17 (.bin .lss (.v 14) (.v 13)) .done) K29_24
@[simp] def W29_25 := C.w K29_25.eq_1
def K29_26 : C := .block 0 (.loop 17 [1, 3, 7, 8, 9, 10, 11, 15, 16] K29_25)
@[simp] def W29_26 := C.w K29_26.eq_1
def K29_27 : C := .seq (.seq (.pl <| .e 17 3 <|
 .m 17 0 <|
 .x 18 (.nilc (.v 17)) <|
 .x 19 (.fa 0 (.v 18)) <|
 .l 12 19 <|
 .x 13 (.lenV (.v 12)) <|
 .x 14 (.mv (.c (.int .i64 0))) .done) K29_26) K29_17
@[simp] def W29_27 := C.w K29_27.eq_1
def K29_28 : C := .seq (.pl <| .e 17 2 <|
 .a 17 2 <|
 .g 18 17 2 1 <|
 .x 4 (.mv (.c (.int .i64 0))) <|
 .x 5 (.mv (.c (.int .i64 0))) <|
 .m 6 18 .done) K29_27
@[simp] def W29_28 := C.w K29_28.eq_1
def B_impl_translator_moves : C := .seq (.pl <| .e 17 0 <|
 .o (.pnew 2 (.v 1) []) <|
 .x 3 (.mv (.c (.slice none 0 0))) .done) K29_28
@[simp] def WB_impl_translator_moves := C.w B_impl_translator_moves.eq_1
def R_impl_translator_moves : FIR := ⟨B_impl_translator_moves, 17, [(3, none)]⟩
theorem IR_impl_translator_moves : cfun Try.prog H_impl_translator_moves Try.f29 = some R_impl_translator_moves := by kernel_rfl
theorem EN_impl_translator_moves : ENT Try.prog B_impl_translator_moves [(3, none)] 2 17 fn_impl_translator_moves := fun hargs hw => enter Try.func29 rfl IR_impl_translator_moves hargs hw
def H_laws_FnExactTranslateFormula : Hint := ⟨[(0, false), (1, true), (2, false), (3, false), (4, true), (5, false), (6, true), (7, true), (8, false), (9, false), (10, false), (11, false), (12, true), (13, false)], []⟩
def K3_1 : C := .seq (.pl <| .e 14 0 <|
 .x 2 (.mv (.c (.bool true))) .done) (.ret)
@[simp] def W3_1 := C.w K3_1.eq_1
def K3_2 : C := .seq (.pl <| .e 14 0 <|
 .x 2 (.mv (.c (.bool false))) .done) (.ret)
@[simp] def W3_2 := C.w K3_2.eq_1
def K3_3 : C := .cond 14 (.v 16) K3_2 (.skip)
@[simp] def W3_3 := C.w K3_3.eq_1
def K3_4 : C := .seq (.seq (.pl <| .e 14 3 <|
 .m 14 11 <|
 .m 15 10 <|
 .x 16 (.bin .neq (.v 14) (.v 15)) .done) K3_3) K3_1
@[simp] def W3_4 := C.w K3_4.eq_1
def K3_5 : C := .seq (.pl <| .e 14 0 <|
 .x 2 (.mv (.c (.bool false))) .done) (.ret)
@[simp] def W3_5 := C.w K3_5.eq_1
def K3_6 : C := .cond 14 (.v 15) K3_5 (.skip)
@[simp] def W3_6 := C.w K3_6.eq_1
def K3_7 : C := .seq (.seq (.pl <| .e 14 2 <|
 .m 14 11 <|
 .x 15 (.bin .lss (.v 14) (.c (.int .i64 0))) .done) K3_6) K3_4
@[simp] def W3_7 := C.w K3_7.eq_1
def K3_8 : Pl := .m 11 16 .done
@[simp] def W3_8 := Pl.w K3_8.eq_1
def K3_9 : C := .seq (.pl <| .e 14 3 <|
 .o (.pget (some 14) none 7 0 (some 3)) <|
 .m 15 11 <|
 .c 16 (.call fn_laws_heldAutomaton [.v 14, .v 15]) K3_8) K3_7
@[simp] def W3_9 := C.w K3_9.eq_1
def K3_10 : C := .seq (.pl <| .e 14 0 <|
 .x 11 (.mv (.c (.int .i64 1))) .done) K3_9
@[simp] def W3_10 := C.w K3_10.eq_1
def K3_11 : C := .seq (.pl <| .e 14 0 <|
 .x 2 (.mv (.c (.bool false))) .done) (.ret)
@[simp] def W3_11 := C.w K3_11.eq_1
def K3_12 : C := .cond 14 (.v 22) K3_11 (.skip)
@[simp] def W3_12 := C.w K3_12.eq_1
def K3_13 : Pl := .x 17 (.un .not (.v 16)) <|
 .m 18 17 <|
 .n 18 (.px (some 19) (.mv (.v 13))) <|
 .n 18 (.px (some 20) (.mv (.v 5))) <|
 .n 18 (.px (some 21) (.eqb true (.v 19) (.v 20))) <|
 .x 22 (.pick (.v 18) (.c (.bool true)) (.v 21)) .done
@[simp] def W3_13 := Pl.w K3_13.eq_1
def K3_14 : C := .seq (.seq (.pl <| .e 14 9 <|
 .o (.pget (some 14) none 12 0 (some 3)) <|
 .o (.pget (some 15) none 4 0 (some 3)) <|
 .c 16 (.call fn_laws_eqAutomaton [.v 14, .v 15]) K3_13) K3_12) K3_10
@[simp] def W3_14 := C.w K3_14.eq_1
def K3_15 : Pl := .m 17 16 <|
 .x 18 (.extract 0 (.v 17)) <|
 .x 19 (.extract 1 (.v 17)) <|
 .o (.pnew 12 (.c (.agg #[.slice none 0 0, .slice none 0 0, .slice none 0 0])) []) <|
 .o (.pset none 12 0 3 (.v 18)) <|
 .m 13 19 .done
@[simp] def W3_15 := Pl.w K3_15.eq_1
def K3_16 : Pl := .c 16 (.call fn_impl_TranslateFormula [.v 15]) K3_15
@[simp] def W3_16 := Pl.w K3_16.eq_1
def K3_17 : C := .seq (.pl <| .e 14 6 <|
 .o (.pget (some 14) none 1 0 (some 3)) <|
 .c 15 (.call fn_laws_toFormula [.v 14]) K3_16) K3_14
@[simp] def W3_17 := C.w K3_17.eq_1
def K3_18 : C := .seq (.pl <| .e 14 0 <|
 .x 2 (.mv (.c (.bool false))) .done) (.ret)
@[simp] def W3_18 := C.w K3_18.eq_1
def K3_19 : C := .cond 14 (.v 16) K3_18 (.skip)
@[simp] def W3_19 := C.w K3_19.eq_1
def K3_20 : C := .seq (.seq (.pl <| .e 14 3 <|
 .m 14 11 <|
 .m 15 10 <|
 .x 16 (.bin .neq (.v 14) (.v 15)) .done) K3_19) K3_17
@[simp] def W3_20 := C.w K3_20.eq_1
def K3_21 : C := .seq (.pl <| .e 14 0 <|
 .x 2 (.mv (.c (.bool false))) .done) (.ret)
@[simp] def W3_21 := C.w K3_21.eq_1
def K3_22 : C := .cond 14 (.v 15) K3_21 (.skip)
@[simp] def W3_22 := C.w K3_22.eq_1
def K3_23 : C := .seq (.seq (.pl <| .e 14 2 <|
 .m 14 11 <|
 .x 15 (.bin .lss (.v 14) (.c (.int .i64 0))) .done) K3_22) K3_20
@[simp] def W3_23 := C.w K3_23.eq_1
def K3_24 : Pl := .m 11 16 .done
@[simp] def W3_24 := Pl.w K3_24.eq_1
def K3_25 : C := .seq (.pl <| .e 14 3 <|
 .o (.pget (some 14) none 7 0 (some 3)) <|
 .m 15 11 <|
 .c 16 (.call fn_laws_heldAutomaton [.v 14, .v 15]) K3_24) K3_23
@[simp] def W3_25 := C.w K3_25.eq_1
def K3_26 : C := .seq (.pl <| .e 14 0 <|
 .x 11 (.mv (.c (.int .i64 1))) .done) K3_25
@[simp] def W3_26 := C.w K3_26.eq_1
def K3_27 : Pl := .m 10 16 .done
@[simp] def W3_27 := Pl.w K3_27.eq_1
def K3_28 : C := .seq (.pl <| .e 14 3 <|
 .o (.pget (some 14) none 7 0 (some 3)) <|
 .m 15 10 <|
 .c 16 (.call fn_laws_markAutomaton [.v 14, .v 15]) K3_27) K3_26
@[simp] def W3_28 := C.w K3_28.eq_1
def K3_29 : C := .seq (.pl <| .e 14 0 <|
 .x 10 (.mv (.c (.int .i64 1))) .done) K3_28
@[simp] def W3_29 := C.w K3_29.eq_1
def K3_30 : C := .seq (.pl <| .e 14 0 <|
 .x 2 (.mv (.c (.bool false))) .done) (.ret)
@[simp] def W3_30 := C.w K3_30.eq_1
def K3_31 : C := .cond 14 (.v 26) K3_30 (.skip)
@[simp] def W3_31 := C.w K3_31.eq_1
def K3_32 : Pl := .n 16 (.px (some 20) (.un .not (.v 19))) <|
 .x 21 (.pick (.v 16) (.c (.bool true)) (.v 20)) <|
 .m 22 21 <|
 .n 22 (.px (some 23) (.mv (.v 8))) <|
 .n 22 (.px (some 24) (.mv (.v 5))) <|
 .n 22 (.px (some 25) (.eqb true (.v 23) (.v 24))) <|
 .x 26 (.pick (.v 22) (.c (.bool true)) (.v 25)) .done
@[simp] def W3_32 := Pl.w K3_32.eq_1
def K3_33 : C := .seq (.seq (.pl <| .e 14 13 <|
 .m 14 9 <|
 .x 15 (.bin .lss (.v 14) (.c (.int .i64 0))) <|
 .m 16 15 <|
 .n 16 (.pget (some 17) none 7 0 (some 3)) <|
 .n 16 (.pget (some 18) none 4 0 (some 3)) <|
 .st (.act (some (.v 16, false)) (.ex (some 19) (.call fn_laws_eqAutomaton [.v 17, .v 18]))) K3_32) K3_31) K3_29
@[simp] def W3_33 := C.w K3_33.eq_1
def K3_34 : Pl := .m 9 16 .done
@[simp] def W3_34 := Pl.w K3_34.eq_1
def K3_35 : C := .seq (.pl <| .e 14 3 <|
 .o (.pget (some 14) none 6 0 (some 3)) <|
 .m 15 9 <|
 .c 16 (.call fn_laws_markFormula [.v 14, .v 15]) K3_34) K3_33
@[simp] def W3_35 := C.w K3_35.eq_1
def K3_36 : C := .seq (.pl <| .e 14 0 <|
 .x 9 (.mv (.c (.int .i64 1))) .done) K3_35
@[simp] def W3_36 := C.w K3_36.eq_1
def K3_37 : C := .seq (.pl <| .e 14 0 <|
 .x 2 (.mv (.c (.bool false))) .done) (.ret)
@[simp] def W3_37 := C.w K3_37.eq_1
def K3_38 : C := .cond 14 (.v 18) K3_37 (.skip)
@[simp] def W3_38 := C.w K3_38.eq_1
def K3_39 : Pl := .x 18 (.un .not (.v 17)) .done
@[simp] def W3_39 := Pl.w K3_39.eq_1
def K3_40 : Pl := .c 17 (.call fn_laws_eqFormula [.v 14, .v 16]) K3_39
@[simp] def W3_40 := Pl.w K3_40.eq_1
def K3_41 : C := .seq (.seq (.pl <| .e 14 5 <|
 .o (.pget (some 14) none 6 0 (some 3)) <|
 .o (.pget (some 15) none 1 0 (some 3)) <|
 .c 16 (.call fn_laws_toFormula [.v 15]) K3_40) K3_38) K3_36
@[simp] def W3_41 := C.w K3_41.eq_1
def K3_42 : C := .seq (.pl <| .e 14 0 <|
 .x 2 (.mv (.c (.bool false))) .done) (.ret)
@[simp] def W3_42 := C.w K3_42.eq_1
def K3_43 : C := .cond 14 (.v 22) K3_42 (.skip)
@[simp] def W3_43 := C.w K3_43.eq_1
def K3_44 : Pl := .x 17 (.un .not (.v 16)) <|
 .m 18 17 <|
 .n 18 (.px (some 19) (.mv (.v 8))) <|
 .n 18 (.px (some 20) (.mv (.v 5))) <|
 .n 18 (.px (some 21) (.eqb true (.v 19) (.v 20))) <|
 .x 22 (.pick (.v 18) (.c (.bool true)) (.v 21)) .done
@[simp] def W3_44 := Pl.w K3_44.eq_1
def K3_45 : C := .seq (.seq (.pl <| .e 14 9 <|
 .o (.pget (some 14) none 7 0 (some 3)) <|
 .o (.pget (some 15) none 4 0 (some 3)) <|
 .c 16 (.call fn_laws_eqAutomaton [.v 14, .v 15]) K3_44) K3_43) K3_41
@[simp] def W3_45 := C.w K3_45.eq_1
def K3_46 : Pl := .m 16 15 <|
 .x 17 (.extract 0 (.v 16)) <|
 .x 18 (.extract 1 (.v 16)) <|
 .o (.pnew 7 (.c (.agg #[.slice none 0 0, .slice none 0 0, .slice none 0 0])) []) <|
 .o (.pset none 7 0 3 (.v 17)) <|
 .m 8 18 .done
@[simp] def W3_46 := Pl.w K3_46.eq_1
def K3_47 : C := .seq (.pl <| .e 14 5 <|
 .o (.pget (some 14) none 6 0 (some 3)) <|
 .c 15 (.call fn_impl_TranslateFormula [.v 14]) K3_46) K3_45
@[simp] def W3_47 := C.w K3_47.eq_1
def K3_48 : Pl := .o (.pnew 6 (.c (.agg #[.int .i64 0, .int .i64 0, .slice none 0 0])) []) <|
 .o (.pset none 6 0 3 (.v 15)) .done
@[simp] def W3_48 := Pl.w K3_48.eq_1
def K3_49 : C := .seq (.pl <| .e 14 2 <|
 .o (.pget (some 14) none 1 0 (some 3)) <|
 .c 15 (.call fn_laws_toFormula [.v 14]) K3_48) K3_47
@[simp] def W3_49 := C.w K3_49.eq_1
def K3_50 : Pl := .m 17 16 <|
 .x 18 (.extract 0 (.v 17)) <|
 .x 19 (.extract 1 (.v 17)) <|
 .o (.pnew 4 (.c (.agg #[.slice none 0 0, .slice none 0 0, .slice none 0 0])) []) <|
 .o (.pset none 4 0 3 (.v 18)) <|
 .m 5 19 .done
@[simp] def W3_50 := Pl.w K3_50.eq_1
def K3_51 : Pl := .c 16 (.call fn_spec_TranslateFormula [.v 15]) K3_50
@[simp] def W3_51 := Pl.w K3_51.eq_1
def K3_52 : C := .seq (.pl <| .e 14 6 <|
 .o (.pget (some 14) none 1 0 (some 3)) <|
 .c 15 (.call fn_laws_toFormula [.v 14]) K3_51) K3_49
@[simp] def W3_52 := C.w K3_52.eq_1
def K3_53 : C := .seq (.pl <| .e 14 0 <|
 .x 2 (.mv (.c (.bool true))) .done) (.ret)
@[simp] def W3_53 := C.w K3_53.eq_1
def K3_54 : C := .cond 14 (.v 15) K3_53 (.skip)
@[simp] def W3_54 := C.w K3_54.eq_1
def K3_55 : C := .seq (.seq (.pl <| .e 14 2 <|
 .m 14 3 <|
 .x 15 (.bin .lss (.v 14) (.c (.int .i64 0))) .done) K3_54) K3_52
@[simp] def W3_55 := C.w K3_55.eq_1
def K3_56 : Pl := .m 3 16 .done
@[simp] def W3_56 := Pl.w K3_56.eq_1
def K3_57 : C := .seq (.pl <| .e 14 3 <|
 .o (.pget (some 14) none 1 0 (some 3)) <|
 .m 15 3 <|
 .c 16 (.call fn_laws_szFormula [.v 14, .v 15]) K3_56) K3_55
@[simp] def W3_57 := C.w K3_57.eq_1
def K3_58 : C := .seq (.pl <| .e 14 0 <|
 .x 3 (.mv (.c (.int .i64 1048576))) .done) K3_57
@[simp] def W3_58 := C.w K3_58.eq_1
def B_laws_FnExactTranslateFormula : C := .seq (.pl <| .e 14 0 <|
 .o (.pnew 1 (.v 0) []) <|
 .x 2 (.mv (.c (.bool false))) .done) K3_58
@[simp] def WB_laws_FnExactTranslateFormula := C.w B_laws_FnExactTranslateFormula.eq_1
def R_laws_FnExactTranslateFormula : FIR := ⟨B_laws_FnExactTranslateFormula, 14, [(2, none)]⟩
theorem IR_laws_FnExactTranslateFormula : cfun Try.prog H_laws_FnExactTranslateFormula Try.f3 = some R_laws_FnExactTranslateFormula := by kernel_rfl
theorem EN_laws_FnExactTranslateFormula : ENT Try.prog B_laws_FnExactTranslateFormula [(2, none)] 1 14 fn_laws_FnExactTranslateFormula := fun hargs hw => enter Try.func3 rfl IR_laws_FnExactTranslateFormula hargs hw
def H_laws_eqAutomaton : Hint := ⟨[(0, false), (1, false), (2, true), (3, true), (4, false)], []⟩
def K8_1 : C := .seq (.pl <| .e 5 0 <|
 .x 4 (.mv (.c (.bool true))) .done) (.ret)
@[simp] def W8_1 := C.w K8_1.eq_1
def K8_2 : C := .seq (.pl <| .e 5 0 <|
 .x 4 (.mv (.c (.bool false))) .done) (.ret)
@[simp] def W8_2 := C.w K8_2.eq_1
def K8_3 : C := .cond 5 (.v 10) K8_2 (.skip)
@[simp] def W8_3 := C.w K8_3.eq_1
def K8_4 : Pl := .x 10 (.un .not (.v 9)) .done
@[simp] def W8_4 := Pl.w K8_4.eq_1
def K8_5 : C := .seq (.seq (.pl <| .e 5 6 <|
 .a 5 2 <|
 .g 6 5 2 2 <|
 .a 7 3 <|
 .g 8 7 3 2 <|
 .c 9 (.call fn_laws_eqTransitionS [.v 6, .v 8]) K8_4) K8_3) K8_1
@[simp] def W8_5 := C.w K8_5.eq_1
def K8_6 : C := .seq (.pl <| .e 5 0 <|
 .x 4 (.mv (.c (.bool false))) .done) (.ret)
@[simp] def W8_6 := C.w K8_6.eq_1
def K8_7 : C := .cond 5 (.v 10) K8_6 (.skip)
@[simp] def W8_7 := C.w K8_7.eq_1
def K8_8 : Pl := .x 10 (.un .not (.v 9)) .done
@[simp] def W8_8 := Pl.w K8_8.eq_1
def K8_9 : C := .seq (.seq (.pl <| .e 5 6 <|
 .a 5 2 <|
 .g 6 5 2 1 <|
 .a 7 3 <|
 .g 8 7 3 1 <|
 .c 9 (.call fn_laws_eqBoolS [.v 6, .v 8]) K8_8) K8_7) K8_5
@[simp] def W8_9 := C.w K8_9.eq_1
def K8_10 : C := .seq (.pl <| .e 5 0 <|
 .x 4 (.mv (.c (.bool false))) .done) (.ret)
@[simp] def W8_10 := C.w K8_10.eq_1
def K8_11 : C := .cond 5 (.v 10) K8_10 (.skip)
@[simp] def W8_11 := C.w K8_11.eq_1
def K8_12 : Pl := .x 10 (.un .not (.v 9)) .done
@[simp] def W8_12 := Pl.w K8_12.eq_1
def K8_13 : C := .seq (.seq (.pl <| .e 5 6 <|
 .a 5 2 <|
 .g 6 5 2 0 <|
 .a 7 3 <|
 .g 8 7 3 0 <|
 .c 9 (.call fn_laws_eqIntS [.v 6, .v 8]) K8_12) K8_11) K8_9
@[simp] def W8_13 := C.w K8_13.eq_1
def B_laws_eqAutomaton : C := .seq (.pl <| .e 5 0 <|
 .o (.pnew 2 (.v 0) []) <|
 .o (.pnew 3 (.v 1) []) <|
 .x 4 (.mv (.c (.bool false))) .done) K8_13
@[simp] def WB_laws_eqAutomaton := C.w B_laws_eqAutomaton.eq_1
def R_laws_eqAutomaton : FIR := ⟨B_laws_eqAutomaton, 5, [(4, none)]⟩
theorem IR_laws_eqAutomaton : cfun Try.prog H_laws_eqAutomaton Try.f8 = some R_laws_eqAutomaton := by kernel_rfl
theorem EN_laws_eqAutomaton : ENT Try.prog B_laws_eqAutomaton [(4, none)] 2 5 fn_laws_eqAutomaton := fun hargs hw => enter Try.func8 rfl IR_laws_eqAutomaton hargs hw
def H_laws_eqBoolS : Hint := ⟨[(0, false), (1, false), (4, false), (5, false)], [[2]]⟩
def K31_1 : C := .seq (.pl <| .e 4 0 <|
 .x 2 (.mv (.c (.bool true))) .done) (.ret)
@[simp] def W31_1 := C.w K31_1.eq_1
def K31_2 : C := .pl <| .e 4 2 <|
 .m 4 3 <|
 .x 5 (.bin .add (.v 4) (.c (.int .i64 1))) <|
 .m 3 5 .done
@[simp] def W31_2 := C.w K31_2.eq_1
def K31_3 : C := .seq (.pl <| .e 4 0 <|
 .x 2 (.mv (.c (.bool false))) .done) (.ret)
@[simp] def W31_3 := C.w K31_3.eq_1
def K31_4 : C := .cond 4 (.v 12) K31_3 (.skip)
@[simp] def W31_4 := C.w K31_4.eq_1
def K31_5 : C := .seq (.block 1 (.seq (.pl <| .e 4 9 <|
 .m 4 0 <|
 .m 5 3 <|
 .x 6 (.ia 1 (.v 4) (.v 5)) <|
 .l 7 6 <|
 .m 8 1 <|
 .m 9 3 <|
 .x 10 (.ia 1 (.v 8) (.v 9)) <|
 .l 11 10 <|
 .x 12 (.eqb true (.v 7) (.v 11)) .done) K31_4)) K31_2
@[simp] def W31_5 := C.w K31_5.eq_1
def K31_6 : C := .cond 4 (.v 7) (.skip) (.exit 0)
@[simp] def W31_6 := C.w K31_6.eq_1
def K31_7 : C := .seq (.seq (.pl <| .e 4 4 <|
 .m 4 3 <|
 .m 5 0 <|
 .x 6 (.lenV (.v 5)) <|
 .x 7 (.bin .lss (.v 4) (.v 6)) .done) K31_6) K31_5
@[simp] def W31_7 := C.w K31_7.eq_1
def K31_8 : C := .block 0 (.loop 4 [2] K31_7)
@[simp] def W31_8 := C.w K31_8.eq_1
def K31_9 : C := .seq (.seq (.pl <| .e 4 0 <|
 .x 3 (.mv (.c (.int .i64 0))) .done) K31_8) K31_1
@[simp] def W31_9 := C.w K31_9.eq_1
def K31_10 : C := .seq (.pl <| .e 4 0 <|
 .x 2 (.mv (.c (.bool false))) .done) (.ret)
@[simp] def W31_10 := C.w K31_10.eq_1
def K31_11 : C := .cond 4 (.v 8) K31_10 (.skip)
@[simp] def W31_11 := C.w K31_11.eq_1
def K31_12 : C := .seq (.seq (.pl <| .e 4 5 <|
 .m 4 0 <|
 .x 5 (.lenV (.v 4)) <|
 .m 6 1 <|
 .x 7 (.lenV (.v 6)) <|
 .x 8 (.bin .neq (.v 5) (.v 7)) .done) K31_11) K31_9
@[simp] def W31_12 := C.w K31_12.eq_1
def B_laws_eqBoolS : C := .seq (.pl <| .e 4 0 <|
 .x 2 (.mv (.c (.bool false))) .done) K31_12
@[simp] def WB_laws_eqBoolS := C.w B_laws_eqBoolS.eq_1
def R_laws_eqBoolS : FIR := ⟨B_laws_eqBoolS, 4, [(2, none)]⟩
theorem IR_laws_eqBoolS : cfun Try.prog H_laws_eqBoolS Try.f31 = some R_laws_eqBoolS := by kernel_rfl
theorem EN_laws_eqBoolS : ENT Try.prog B_laws_eqBoolS [(2, none)] 2 4 fn_laws_eqBoolS := fun hargs hw => enter Try.func31 rfl IR_laws_eqBoolS hargs hw
def H_laws_eqFormula : Hint := ⟨[(0, false), (1, false), (2, true), (3, true), (4, false)], []⟩
def K9_1 : C := .seq (.pl <| .e 5 0 <|
 .x 4 (.mv (.c (.bool true))) .done) (.ret)
@[simp] def W9_1 := C.w K9_1.eq_1
def K9_2 : C := .seq (.pl <| .e 5 0 <|
 .x 4 (.mv (.c (.bool false))) .done) (.ret)
@[simp] def W9_2 := C.w K9_2.eq_1
def K9_3 : C := .cond 5 (.v 10) K9_2 (.skip)
@[simp] def W9_3 := C.w K9_3.eq_1
def K9_4 : Pl := .x 10 (.un .not (.v 9)) .done
@[simp] def W9_4 := Pl.w K9_4.eq_1
def K9_5 : C := .seq (.seq (.pl <| .e 5 6 <|
 .a 5 2 <|
 .g 6 5 2 2 <|
 .a 7 3 <|
 .g 8 7 3 2 <|
 .c 9 (.call fn_laws_eqFormulaS [.v 6, .v 8]) K9_4) K9_3) K9_1
@[simp] def W9_5 := C.w K9_5.eq_1
def K9_6 : C := .seq (.pl <| .e 5 0 <|
 .x 4 (.mv (.c (.bool false))) .done) (.ret)
@[simp] def W9_6 := C.w K9_6.eq_1
def K9_7 : C := .cond 5 (.v 9) K9_6 (.skip)
@[simp] def W9_7 := C.w K9_7.eq_1
def K9_8 : C := .seq (.seq (.pl <| .e 5 5 <|
 .a 5 2 <|
 .g 6 5 2 1 <|
 .a 7 3 <|
 .g 8 7 3 1 <|
 .x 9 (.bin .neq (.v 6) (.v 8)) .done) K9_7) K9_5
@[simp] def W9_8 := C.w K9_8.eq_1
def K9_9 : C := .seq (.pl <| .e 5 0 <|
 .x 4 (.mv (.c (.bool false))) .done) (.ret)
@[simp] def W9_9 := C.w K9_9.eq_1
def K9_10 : C := .cond 5 (.v 9) K9_9 (.skip)
@[simp] def W9_10 := C.w K9_10.eq_1
def K9_11 : C := .seq (.seq (.pl <| .e 5 5 <|
 .a 5 2 <|
 .g 6 5 2 0 <|
 .a 7 3 <|
 .g 8 7 3 0 <|
 .x 9 (.bin .neq (.v 6) (.v 8)) .done) K9_10) K9_8
@[simp] def W9_11 := C.w K9_11.eq_1
def B_laws_eqFormula : C := .seq (.pl <| .e 5 0 <|
 .o (.pnew 2 (.v 0) []) <|
 .o (.pnew 3 (.v 1) []) <|
 .x 4 (.mv (.c (.bool false))) .done) K9_11
@[simp] def WB_laws_eqFormula := C.w B_laws_eqFormula.eq_1
def R_laws_eqFormula : FIR := ⟨B_laws_eqFormula, 5, [(4, none)]⟩
theorem IR_laws_eqFormula : cfun Try.prog H_laws_eqFormula Try.f9 = some R_laws_eqFormula := by kernel_rfl
theorem EN_laws_eqFormula : ENT Try.prog B_laws_eqFormula [(4, none)] 2 5 fn_laws_eqFormula := fun hargs hw => enter Try.func9 rfl IR_laws_eqFormula hargs hw
def H_laws_eqFormulaS : Hint := ⟨[(0, false), (1, false), (4, false), (5, false)], [[2]]⟩
def K33_1 : C := .seq (.pl <| .e 4 0 <|
 .x 2 (.mv (.c (.bool true))) .done) (.ret)
@[simp] def W33_1 := C.w K33_1.eq_1
def K33_2 : C := .pl <| .e 4 2 <|
 .m 4 3 <|
 .x 5 (.bin .add (.v 4) (.c (.int .i64 1))) <|
 .m 3 5 .done
@[simp] def W33_2 := C.w K33_2.eq_1
def K33_3 : C := .seq (.pl <| .e 4 0 <|
 .x 2 (.mv (.c (.bool false))) .done) (.ret)
@[simp] def W33_3 := C.w K33_3.eq_1
def K33_4 : C := .cond 4 (.v 13) K33_3 (.skip)
@[simp] def W33_4 := C.w K33_4.eq_1
def K33_5 : Pl := .x 13 (.un .not (.v 12)) .done
@[simp] def W33_5 := Pl.w K33_5.eq_1
def K33_6 : C := .seq (.block 1 (.seq (.pl <| .e 4 10 <|
 .m 4 0 <|
 .m 5 3 <|
 .x 6 (.ia 3 (.v 4) (.v 5)) <|
 .o (.ld (some 7) (.v 6) (some 3)) <|
 .m 8 1 <|
 .m 9 3 <|
 .x 10 (.ia 3 (.v 8) (.v 9)) <|
 .o (.ld (some 11) (.v 10) (some 3)) <|
 .c 12 (.call fn_laws_eqFormula [.v 7, .v 11]) K33_5) K33_4)) K33_2
@[simp] def W33_6 := C.w K33_6.eq_1
def K33_7 : C := .cond 4 (.v 7) (.skip) (.exit 0)
@[simp] def W33_7 := C.w K33_7.eq_1
def K33_8 : C := .seq (.seq (.pl <| .e 4 4 <|
 .m 4 3 <|
 .m 5 0 <|
 .x 6 (.lenV (.v 5)) <|
 .x 7 (.bin .lss (.v 4) (.v 6)) .done) K33_7) K33_6
@[simp] def W33_8 := C.w K33_8.eq_1
def K33_9 : C := .block 0 (.loop 4 [2] K33_8)
@[simp] def W33_9 := C.w K33_9.eq_1
def K33_10 : C := .seq (.seq (.pl <| .e 4 0 <|
 .x 3 (.mv (.c (.int .i64 0))) .done) K33_9) K33_1
@[simp] def W33_10 := C.w K33_10.eq_1
def K33_11 : C := .seq (.pl <| .e 4 0 <|
 .x 2 (.mv (.c (.bool false))) .done) (.ret)
@[simp] def W33_11 := C.w K33_11.eq_1
def K33_12 : C := .cond 4 (.v 8) K33_11 (.skip)
@[simp] def W33_12 := C.w K33_12.eq_1
def K33_13 : C := .seq (.seq (.pl <| .e 4 5 <|
 .m 4 0 <|
 .x 5 (.lenV (.v 4)) <|
 .m 6 1 <|
 .x 7 (.lenV (.v 6)) <|
 .x 8 (.bin .neq (.v 5) (.v 7)) .done) K33_12) K33_10
@[simp] def W33_13 := C.w K33_13.eq_1
def B_laws_eqFormulaS : C := .seq (.pl <| .e 4 0 <|
 .x 2 (.mv (.c (.bool false))) .done) K33_13
@[simp] def WB_laws_eqFormulaS := C.w B_laws_eqFormulaS.eq_1
def R_laws_eqFormulaS : FIR := ⟨B_laws_eqFormulaS, 4, [(2, none)]⟩
theorem IR_laws_eqFormulaS : cfun Try.prog H_laws_eqFormulaS Try.f33 = some R_laws_eqFormulaS := by kernel_rfl
theorem EN_laws_eqFormulaS : ENT Try.prog B_laws_eqFormulaS [(2, none)] 2 4 fn_laws_eqFormulaS := fun hargs hw => enter Try.func33 rfl IR_laws_eqFormulaS hargs hw
def H_laws_eqIntS : Hint := ⟨[(0, false), (1, false), (4, false), (5, false)], [[2]]⟩
def K30_1 : C := .seq (.pl <| .e 4 0 <|
 .x 2 (.mv (.c (.bool true))) .done) (.ret)
@[simp] def W30_1 := C.w K30_1.eq_1
def K30_2 : C := .pl <| .e 4 2 <|
 .m 4 3 <|
 .x 5 (.bin .add (.v 4) (.c (.int .i64 1))) <|
 .m 3 5 .done
@[simp] def W30_2 := C.w K30_2.eq_1
def K30_3 : C := .seq (.pl <| .e 4 0 <|
 .x 2 (.mv (.c (.bool false))) .done) (.ret)
@[simp] def W30_3 := C.w K30_3.eq_1
def K30_4 : C := .cond 4 (.v 12) K30_3 (.skip)
@[simp] def W30_4 := C.w K30_4.eq_1
def K30_5 : C := .seq (.block 1 (.seq (.pl <| .e 4 9 <|
 .m 4 0 <|
 .m 5 3 <|
 .x 6 (.ia 1 (.v 4) (.v 5)) <|
 .l 7 6 <|
 .m 8 1 <|
 .m 9 3 <|
 .x 10 (.ia 1 (.v 8) (.v 9)) <|
 .l 11 10 <|
 .x 12 (.bin .neq (.v 7) (.v 11)) .done) K30_4)) K30_2
@[simp] def W30_5 := C.w K30_5.eq_1
def K30_6 : C := .cond 4 (.v 7) (.skip) (.exit 0)
@[simp] def W30_6 := C.w K30_6.eq_1
def K30_7 : C := .seq (.seq (.pl <| .e 4 4 <|
 .m 4 3 <|
 .m 5 0 <|
 .x 6 (.lenV (.v 5)) <|
 .x 7 (.bin .lss (.v 4) (.v 6)) .done) K30_6) K30_5
@[simp] def W30_7 := C.w K30_7.eq_1
def K30_8 : C := .block 0 (.loop 4 [2] K30_7)
@[simp] def W30_8 := C.w K30_8.eq_1
def K30_9 : C := .seq (.seq (.pl <| .e 4 0 <|
 .x 3 (.mv (.c (.int .i64 0))) .done) K30_8) K30_1
@[simp] def W30_9 := C.w K30_9.eq_1
def K30_10 : C := .seq (.pl <| .e 4 0 <|
 .x 2 (.mv (.c (.bool false))) .done) (.ret)
@[simp] def W30_10 := C.w K30_10.eq_1
def K30_11 : C := .cond 4 (.v 8) K30_10 (.skip)
@[simp] def W30_11 := C.w K30_11.eq_1
def K30_12 : C := .seq (.seq (.pl <| .e 4 5 <|
 .m 4 0 <|
 .x 5 (.lenV (.v 4)) <|
 .m 6 1 <|
 .x 7 (.lenV (.v 6)) <|
 .x 8 (.bin .neq (.v 5) (.v 7)) .done) K30_11) K30_9
@[simp] def W30_12 := C.w K30_12.eq_1
def B_laws_eqIntS : C := .seq (.pl <| .e 4 0 <|
 .x 2 (.mv (.c (.bool false))) .done) K30_12
@[simp] def WB_laws_eqIntS := C.w B_laws_eqIntS.eq_1
def R_laws_eqIntS : FIR := ⟨B_laws_eqIntS, 4, [(2, none)]⟩
theorem IR_laws_eqIntS : cfun Try.prog H_laws_eqIntS Try.f30 = some R_laws_eqIntS := by kernel_rfl
theorem EN_laws_eqIntS : ENT Try.prog B_laws_eqIntS [(2, none)] 2 4 fn_laws_eqIntS := fun hargs hw => enter Try.func30 rfl IR_laws_eqIntS hargs hw
def H_laws_eqTransition : Hint := ⟨[(0, false), (1, false), (2, true), (3, true), (4, false)], []⟩
def K58_1 : C := .seq (.pl <| .e 5 0 <|
 .x 4 (.mv (.c (.bool true))) .done) (.ret)
@[simp] def W58_1 := C.w K58_1.eq_1
def K58_2 : C := .seq (.pl <| .e 5 0 <|
 .x 4 (.mv (.c (.bool false))) .done) (.ret)
@[simp] def W58_2 := C.w K58_2.eq_1
def K58_3 : C := .cond 5 (.v 9) K58_2 (.skip)
@[simp] def W58_3 := C.w K58_3.eq_1
def K58_4 : C := .seq (.seq (.pl <| .e 5 5 <|
 .a 5 2 <|
 .g 6 5 2 3 <|
 .a 7 3 <|
 .g 8 7 3 3 <|
 .x 9 (.bin .neq (.v 6) (.v 8)) .done) K58_3) K58_1
@[simp] def W58_4 := C.w K58_4.eq_1
def K58_5 : C := .seq (.pl <| .e 5 0 <|
 .x 4 (.mv (.c (.bool false))) .done) (.ret)
@[simp] def W58_5 := C.w K58_5.eq_1
def K58_6 : C := .cond 5 (.v 9) K58_5 (.skip)
@[simp] def W58_6 := C.w K58_6.eq_1
def K58_7 : C := .seq (.seq (.pl <| .e 5 5 <|
 .a 5 2 <|
 .g 6 5 2 2 <|
 .a 7 3 <|
 .g 8 7 3 2 <|
 .x 9 (.bin .neq (.v 6) (.v 8)) .done) K58_6) K58_4
@[simp] def W58_7 := C.w K58_7.eq_1
def K58_8 : C := .seq (.pl <| .e 5 0 <|
 .x 4 (.mv (.c (.bool false))) .done) (.ret)
@[simp] def W58_8 := C.w K58_8.eq_1
def K58_9 : C := .cond 5 (.v 9) K58_8 (.skip)
@[simp] def W58_9 := C.w K58_9.eq_1
def K58_10 : C := .seq (.seq (.pl <| .e 5 5 <|
 .a 5 2 <|
 .g 6 5 2 1 <|
 .a 7 3 <|
 .g 8 7 3 1 <|
 .x 9 (.bin .neq (.v 6) (.v 8)) .done) K58_9) K58_7
@[simp] def W58_10 := C.w K58_10.eq_1
def K58_11 : C := .seq (.pl <| .e 5 0 <|
 .x 4 (.mv (.c (.bool false))) .done) (.ret)
@[simp] def W58_11 := C.w K58_11.eq_1
def K58_12 : C := .cond 5 (.v 9) K58_11 (.skip)
@[simp] def W58_12 := C.w K58_12.eq_1
def K58_13 : C := .seq (.seq (.pl <| .e 5 5 <|
 .a 5 2 <|
 .g 6 5 2 0 <|
 .a 7 3 <|
 .g 8 7 3 0 <|
 .x 9 (.bin .neq (.v 6) (.v 8)) .done) K58_12) K58_10
@[simp] def W58_13 := C.w K58_13.eq_1
def B_laws_eqTransition : C := .seq (.pl <| .e 5 0 <|
 .o (.pnew 2 (.v 0) []) <|
 .o (.pnew 3 (.v 1) []) <|
 .x 4 (.mv (.c (.bool false))) .done) K58_13
@[simp] def WB_laws_eqTransition := C.w B_laws_eqTransition.eq_1
def R_laws_eqTransition : FIR := ⟨B_laws_eqTransition, 5, [(4, none)]⟩
theorem IR_laws_eqTransition : cfun Try.prog H_laws_eqTransition Try.f58 = some R_laws_eqTransition := by kernel_rfl
theorem EN_laws_eqTransition : ENT Try.prog B_laws_eqTransition [(4, none)] 2 5 fn_laws_eqTransition := fun hargs hw => enter Try.func58 rfl IR_laws_eqTransition hargs hw
def H_laws_eqTransitionS : Hint := ⟨[(0, false), (1, false), (4, false), (5, false)], [[2]]⟩
def K32_1 : C := .seq (.pl <| .e 4 0 <|
 .x 2 (.mv (.c (.bool true))) .done) (.ret)
@[simp] def W32_1 := C.w K32_1.eq_1
def K32_2 : C := .pl <| .e 4 2 <|
 .m 4 3 <|
 .x 5 (.bin .add (.v 4) (.c (.int .i64 1))) <|
 .m 3 5 .done
@[simp] def W32_2 := C.w K32_2.eq_1
def K32_3 : C := .seq (.pl <| .e 4 0 <|
 .x 2 (.mv (.c (.bool false))) .done) (.ret)
@[simp] def W32_3 := C.w K32_3.eq_1
def K32_4 : C := .cond 4 (.v 13) K32_3 (.skip)
@[simp] def W32_4 := C.w K32_4.eq_1
def K32_5 : Pl := .x 13 (.un .not (.v 12)) .done
@[simp] def W32_5 := Pl.w K32_5.eq_1
def K32_6 : C := .seq (.block 1 (.seq (.pl <| .e 4 10 <|
 .m 4 0 <|
 .m 5 3 <|
 .x 6 (.ia 4 (.v 4) (.v 5)) <|
 .o (.ld (some 7) (.v 6) (some 4)) <|
 .m 8 1 <|
 .m 9 3 <|
 .x 10 (.ia 4 (.v 8) (.v 9)) <|
 .o (.ld (some 11) (.v 10) (some 4)) <|
 .c 12 (.call fn_laws_eqTransition [.v 7, .v 11]) K32_5) K32_4)) K32_2
@[simp] def W32_6 := C.w K32_6.eq_1
def K32_7 : C := .cond 4 (.v 7) (.skip) (.exit 0)
@[simp] def W32_7 := C.w K32_7.eq_1
def K32_8 : C := .seq (.seq (.pl <| .e 4 4 <|
 .m 4 3 <|
 .m 5 0 <|
 .x 6 (.lenV (.v 5)) <|
 .x 7 (.bin .lss (.v 4) (.v 6)) .done) K32_7) K32_6
@[simp] def W32_8 := C.w K32_8.eq_1
def K32_9 : C := .block 0 (.loop 4 [2] K32_8)
@[simp] def W32_9 := C.w K32_9.eq_1
def K32_10 : C := .seq (.seq (.pl <| .e 4 0 <|
 .x 3 (.mv (.c (.int .i64 0))) .done) K32_9) K32_1
@[simp] def W32_10 := C.w K32_10.eq_1
def K32_11 : C := .seq (.pl <| .e 4 0 <|
 .x 2 (.mv (.c (.bool false))) .done) (.ret)
@[simp] def W32_11 := C.w K32_11.eq_1
def K32_12 : C := .cond 4 (.v 8) K32_11 (.skip)
@[simp] def W32_12 := C.w K32_12.eq_1
def K32_13 : C := .seq (.seq (.pl <| .e 4 5 <|
 .m 4 0 <|
 .x 5 (.lenV (.v 4)) <|
 .m 6 1 <|
 .x 7 (.lenV (.v 6)) <|
 .x 8 (.bin .neq (.v 5) (.v 7)) .done) K32_12) K32_10
@[simp] def W32_13 := C.w K32_13.eq_1
def B_laws_eqTransitionS : C := .seq (.pl <| .e 4 0 <|
 .x 2 (.mv (.c (.bool false))) .done) K32_13
@[simp] def WB_laws_eqTransitionS := C.w B_laws_eqTransitionS.eq_1
def R_laws_eqTransitionS : FIR := ⟨B_laws_eqTransitionS, 4, [(2, none)]⟩
theorem IR_laws_eqTransitionS : cfun Try.prog H_laws_eqTransitionS Try.f32 = some R_laws_eqTransitionS := by kernel_rfl
theorem EN_laws_eqTransitionS : ENT Try.prog B_laws_eqTransitionS [(2, none)] 2 4 fn_laws_eqTransitionS := fun hargs hw => enter Try.func32 rfl IR_laws_eqTransitionS hargs hw
def H_laws_heldAutomaton : Hint := ⟨[(0, false), (1, false), (2, true), (4, false)], []⟩
def K12_1 : C := .seq (.pl <| .e 4 1 <|
 .m 4 1 <|
 .m 3 4 .done) (.ret)
@[simp] def W12_1 := C.w K12_1.eq_1
def K12_2 : C := .seq (.pl <| .e 4 0 <|
 .x 3 (.mv (.c (.int .i64 (-1)))) .done) (.ret)
@[simp] def W12_2 := C.w K12_2.eq_1
def K12_3 : C := .cond 4 (.v 5) K12_2 (.skip)
@[simp] def W12_3 := C.w K12_3.eq_1
def K12_4 : C := .seq (.seq (.pl <| .e 4 2 <|
 .m 4 1 <|
 .x 5 (.bin .lss (.v 4) (.c (.int .i64 0))) .done) K12_3) K12_1
@[simp] def W12_4 := C.w K12_4.eq_1
def K12_5 : Pl := .m 1 7 .done
@[simp] def W12_5 := Pl.w K12_5.eq_1
def K12_6 : C := .seq (.pl <| .e 4 4 <|
 .a 4 2 <|
 .g 5 4 2 2 <|
 .m 6 1 <|
 .c 7 (.call fn_laws_heldTransitionS [.v 5, .v 6]) K12_5) K12_4
@[simp] def W12_6 := C.w K12_6.eq_1
def K12_7 : C := .seq (.pl <| .e 4 0 <|
 .x 3 (.mv (.c (.int .i64 (-1)))) .done) (.ret)
@[simp] def W12_7 := C.w K12_7.eq_1
def K12_8 : C := .cond 4 (.v 5) K12_7 (.skip)
@[simp] def W12_8 := C.w K12_8.eq_1
def K12_9 : C := .seq (.seq (.pl <| .e 4 2 <|
 .m 4 1 <|
 .x 5 (.bin .lss (.v 4) (.c (.int .i64 0))) .done) K12_8) K12_6
@[simp] def W12_9 := C.w K12_9.eq_1
def K12_10 : Pl := .m 1 7 .done
@[simp] def W12_10 := Pl.w K12_10.eq_1
def K12_11 : C := .seq (.pl <| .e 4 4 <|
 .a 4 2 <|
 .g 5 4 2 1 <|
 .m 6 1 <|
 .c 7 (.call fn_laws_heldBoolS [.v 5, .v 6]) K12_10) K12_9
@[simp] def W12_11 := C.w K12_11.eq_1
def K12_12 : C := .seq (.pl <| .e 4 0 <|
 .x 3 (.mv (.c (.int .i64 (-1)))) .done) (.ret)
@[simp] def W12_12 := C.w K12_12.eq_1
def K12_13 : C := .cond 4 (.v 5) K12_12 (.skip)
@[simp] def W12_13 := C.w K12_13.eq_1
def K12_14 : C := .seq (.seq (.pl <| .e 4 2 <|
 .m 4 1 <|
 .x 5 (.bin .lss (.v 4) (.c (.int .i64 0))) .done) K12_13) K12_11
@[simp] def W12_14 := C.w K12_14.eq_1
def K12_15 : Pl := .m 1 7 .done
@[simp] def W12_15 := Pl.w K12_15.eq_1
def K12_16 : C := .seq (.pl <| .e 4 4 <|
 .a 4 2 <|
 .g 5 4 2 0 <|
 .m 6 1 <|
 .c 7 (.call fn_laws_heldIntS [.v 5, .v 6]) K12_15) K12_14
@[simp] def W12_16 := C.w K12_16.eq_1
def B_laws_heldAutomaton : C := .seq (.pl <| .e 4 0 <|
 .o (.pnew 2 (.v 0) []) <|
 .x 3 (.mv (.c (.int .i64 0))) .done) K12_16
@[simp] def WB_laws_heldAutomaton := C.w B_laws_heldAutomaton.eq_1
def R_laws_heldAutomaton : FIR := ⟨B_laws_heldAutomaton, 4, [(3, none)]⟩
theorem IR_laws_heldAutomaton : cfun Try.prog H_laws_heldAutomaton Try.f12 = some R_laws_heldAutomaton := by kernel_rfl
theorem EN_laws_heldAutomaton : ENT Try.prog B_laws_heldAutomaton [(3, none)] 2 4 fn_laws_heldAutomaton := fun hargs hw => enter Try.func12 rfl IR_laws_heldAutomaton hargs hw
def H_laws_heldBoolS : Hint := ⟨[(0, false), (1, false), (4, false), (5, false)], [[2]]⟩
def K39_1 : C := .seq (.pl <| .e 4 1 <|
 .m 4 1 <|
 .m 2 4 .done) (.ret)
@[simp] def W39_1 := C.w K39_1.eq_1
def K39_2 : C := .pl <| .e 4 2 <|
 .m 4 3 <|
 .x 5 (.bin .add (.v 4) (.c (.int .i64 1))) <|
 .m 3 5 .done
@[simp] def W39_2 := C.w K39_2.eq_1
def K39_3 : C := .pl <| .e 4 2 <|
 .m 4 1 <|
 .x 5 (.bin .add (.v 4) (.c (.int .i64 1))) <|
 .m 1 5 .done
@[simp] def W39_3 := C.w K39_3.eq_1
def K39_4 : C := .seq (.pl <| .e 4 0 <|
 .x 2 (.mv (.c (.int .i64 (-1)))) .done) (.ret)
@[simp] def W39_4 := C.w K39_4.eq_1
def K39_5 : C := .cond 4 (.v 11) K39_4 (.skip)
@[simp] def W39_5 := C.w K39_5.eq_1
def K39_6 : C := .seq (.block 1 (.seq (.seq (.pl <| .e 4 8 <|
 .m 4 0 <|
 .m 5 3 <|
 .x 6 (.ia 1 (.v 4) (.v 5)) <|
 .l 7 6 <|
 .m 8 1 <|
 .x 9 (.bin .rem (.v 8) (.c (.int .i64 3))) <|
 .x 10 (.bin .eql (.v 9) (.c (.int .i64 0))) <|
 .x 11 (.eqb true (.v 7) (.v 10)) .done) K39_5) K39_3)) K39_2
@[simp] def W39_6 := C.w K39_6.eq_1
def K39_7 : C := .cond 4 (.v 7) (.skip) (.exit 0)
@[simp] def W39_7 := C.w K39_7.eq_1
def K39_8 : C := .seq (.seq (.pl <| .e 4 4 <|
 .m 4 3 <|
 .m 5 0 <|
 .x 6 (.lenV (.v 5)) <|
 .x 7 (.bin .lss (.v 4) (.v 6)) .done) K39_7) K39_6
@[simp] def W39_8 := C.w K39_8.eq_1
def K39_9 : C := .block 0 (.loop 4 [2] K39_8)
@[simp] def W39_9 := C.w K39_9.eq_1
def K39_10 : C := .seq (.seq (.pl <| .e 4 0 <|
 .x 3 (.mv (.c (.int .i64 0))) .done) K39_9) K39_1
@[simp] def W39_10 := C.w K39_10.eq_1
def B_laws_heldBoolS : C := .seq (.pl <| .e 4 0 <|
 .x 2 (.mv (.c (.int .i64 0))) .done) K39_10
@[simp] def WB_laws_heldBoolS := C.w B_laws_heldBoolS.eq_1
def R_laws_heldBoolS : FIR := ⟨B_laws_heldBoolS, 4, [(2, none)]⟩
theorem IR_laws_heldBoolS : cfun Try.prog H_laws_heldBoolS Try.f39 = some R_laws_heldBoolS := by kernel_rfl
theorem EN_laws_heldBoolS : ENT Try.prog B_laws_heldBoolS [(2, none)] 2 4 fn_laws_heldBoolS := fun hargs hw => enter Try.func39 rfl IR_laws_heldBoolS hargs hw
def H_laws_heldIntS : Hint := ⟨[(0, false), (1, false), (4, false), (5, false)], [[2]]⟩
def K38_1 : C := .seq (.pl <| .e 4 1 <|
 .m 4 1 <|
 .m 2 4 .done) (.ret)
@[simp] def W38_1 := C.w K38_1.eq_1
def K38_2 : C := .pl <| .e 4 2 <|
 .m 4 3 <|
 .x 5 (.bin .add (.v 4) (.c (.int .i64 1))) <|
 .m 3 5 .done
@[simp] def W38_2 := C.w K38_2.eq_1
def K38_3 : C := .pl <| .e 4 2 <|
 .m 4 1 <|
 .x 5 (.bin .add (.v 4) (.c (.int .i64 1))) <|
 .m 1 5 .done
@[simp] def W38_3 := C.w K38_3.eq_1
def K38_4 : C := .seq (.pl <| .e 4 0 <|
 .x 2 (.mv (.c (.int .i64 (-1)))) .done) (.ret)
@[simp] def W38_4 := C.w K38_4.eq_1
def K38_5 : C := .cond 4 (.v 9) K38_4 (.skip)
@[simp] def W38_5 := C.w K38_5.eq_1
def K38_6 : C := .seq (.block 1 (.seq (.seq (.pl <| .e 4 6 <|
 .m 4 0 <|
 .m 5 3 <|
 .x 6 (.ia 1 (.v 4) (.v 5)) <|
 .l 7 6 <|
 .m 8 1 <|
 .x 9 (.bin .neq (.v 7) (.v 8)) .done) K38_5) K38_3)) K38_2
@[simp] def W38_6 := C.w K38_6.eq_1
def K38_7 : C := .cond 4 (.v 7) (.skip) (.exit 0)
@[simp] def W38_7 := C.w K38_7.eq_1
def K38_8 : C := .seq (.seq (.pl <| .e 4 4 <|
 .m 4 3 <|
 .m 5 0 <|
 .x 6 (.lenV (.v 5)) <|
 .x 7 (.bin .lss (.v 4) (.v 6)) .done) K38_7) K38_6
@[simp] def W38_8 := C.w K38_8.eq_1
def K38_9 : C := .block 0 (.loop 4 [2] K38_8)
@[simp] def W38_9 := C.w K38_9.eq_1
def K38_10 : C := .seq (.seq (.pl <| .e 4 0 <|
 .x 3 (.mv (.c (.int .i64 0))) .done) K38_9) K38_1
@[simp] def W38_10 := C.w K38_10.eq_1
def B_laws_heldIntS : C := .seq (.pl <| .e 4 0 <|
 .x 2 (.mv (.c (.int .i64 0))) .done) K38_10
@[simp] def WB_laws_heldIntS := C.w B_laws_heldIntS.eq_1
def R_laws_heldIntS : FIR := ⟨B_laws_heldIntS, 4, [(2, none)]⟩
theorem IR_laws_heldIntS : cfun Try.prog H_laws_heldIntS Try.f38 = some R_laws_heldIntS := by kernel_rfl
theorem EN_laws_heldIntS : ENT Try.prog B_laws_heldIntS [(2, none)] 2 4 fn_laws_heldIntS := fun hargs hw => enter Try.func38 rfl IR_laws_heldIntS hargs hw
def H_laws_heldTransitionS : Hint := ⟨[(0, false), (1, false), (4, false), (5, false)], [[2]]⟩
def K40_1 : C := .seq (.pl <| .e 4 1 <|
 .m 4 1 <|
 .m 2 4 .done) (.ret)
@[simp] def W40_1 := C.w K40_1.eq_1
def K40_2 : C := .pl <| .e 4 2 <|
 .m 4 3 <|
 .x 5 (.bin .add (.v 4) (.c (.int .i64 1))) <|
 .m 3 5 .done
@[simp] def W40_2 := C.w K40_2.eq_1
def K40_3 : C := .pl <| .e 4 2 <|
 .m 4 1 <|
 .x 5 (.bin .add (.v 4) (.c (.int .i64 1))) <|
 .m 1 5 .done
@[simp] def W40_3 := C.w K40_3.eq_1
def K40_4 : C := .seq (.pl <| .e 4 0 <|
 .x 2 (.mv (.c (.int .i64 (-1)))) .done) (.ret)
@[simp] def W40_4 := C.w K40_4.eq_1
def K40_5 : C := .cond 4 (.v 10) K40_4 (.skip)
@[simp] def W40_5 := C.w K40_5.eq_1
def K40_6 : C := .seq (.seq (.pl <| .e 4 7 <|
 .m 4 0 <|
 .m 5 3 <|
 .x 6 (.ia 4 (.v 4) (.v 5)) <|
 .x 7 (.fa 3 (.v 6)) <|
 .l 8 7 <|
 .m 9 1 <|
 .x 10 (.bin .neq (.v 8) (.v 9)) .done) K40_5) K40_3
@[simp] def W40_6 := C.w K40_6.eq_1
def K40_7 : C := .seq (.pl <| .e 4 2 <|
 .m 4 1 <|
 .x 5 (.bin .add (.v 4) (.c (.int .i64 1))) <|
 .m 1 5 .done) K40_6
@[simp] def W40_7 := C.w K40_7.eq_1
def K40_8 : C := .seq (.pl <| .e 4 0 <|
 .x 2 (.mv (.c (.int .i64 (-1)))) .done) (.ret)
@[simp] def W40_8 := C.w K40_8.eq_1
def K40_9 : C := .cond 4 (.v 10) K40_8 (.skip)
@[simp] def W40_9 := C.w K40_9.eq_1
def K40_10 : C := .seq (.seq (.pl <| .e 4 7 <|
 .m 4 0 <|
 .m 5 3 <|
 .x 6 (.ia 4 (.v 4) (.v 5)) <|
 .x 7 (.fa 2 (.v 6)) <|
 .l 8 7 <|
 .m 9 1 <|
 .x 10 (.bin .neq (.v 8) (.v 9)) .done) K40_9) K40_7
@[simp] def W40_10 := C.w K40_10.eq_1
def K40_11 : C := .seq (.pl <| .e 4 2 <|
 .m 4 1 <|
 .x 5 (.bin .add (.v 4) (.c (.int .i64 1))) <|
 .m 1 5 .done) K40_10
@[simp] def W40_11 := C.w K40_11.eq_1
def K40_12 : C := .seq (.pl <| .e 4 0 <|
 .x 2 (.mv (.c (.int .i64 (-1)))) .done) (.ret)
@[simp] def W40_12 := C.w K40_12.eq_1
def K40_13 : C := .cond 4 (.v 10) K40_12 (.skip)
@[simp] def W40_13 := C.w K40_13.eq_1
def K40_14 : C := .seq (.seq (.pl <| .e 4 7 <|
 .m 4 0 <|
 .m 5 3 <|
 .x 6 (.ia 4 (.v 4) (.v 5)) <|
 .x 7 (.fa 1 (.v 6)) <|
 .l 8 7 <|
 .m 9 1 <|
 .x 10 (.bin .neq (.v 8) (.v 9)) .done) K40_13) K40_11
@[simp] def W40_14 := C.w K40_14.eq_1
def K40_15 : C := .seq (.pl <| .e 4 2 <|
 .m 4 1 <|
 .x 5 (.bin .add (.v 4) (.c (.int .i64 1))) <|
 .m 1 5 .done) K40_14
@[simp] def W40_15 := C.w K40_15.eq_1
def K40_16 : C := .seq (.pl <| .e 4 0 <|
 .x 2 (.mv (.c (.int .i64 (-1)))) .done) (.ret)
@[simp] def W40_16 := C.w K40_16.eq_1
def K40_17 : C := .cond 4 (.v 10) K40_16 (.skip)
@[simp] def W40_17 := C.w K40_17.eq_1
def K40_18 : C := .seq (.block 1 (.seq (.seq (.pl <| .e 4 7 <|
 .m 4 0 <|
 .m 5 3 <|
 .x 6 (.ia 4 (.v 4) (.v 5)) <|
 .x 7 (.fa 0 (.v 6)) <|
 .l 8 7 <|
 .m 9 1 <|
 .x 10 (.bin .neq (.v 8) (.v 9)) .done) K40_17) K40_15)) K40_2
@[simp] def W40_18 := C.w K40_18.eq_1
def K40_19 : C := .cond 4 (.v 7) (.skip) (.exit 0)
@[simp] def W40_19 := C.w K40_19.eq_1
def K40_20 : C := .seq (.seq (.pl <| .e 4 4 <|
 .m 4 3 <|
 .m 5 0 <|
 .x 6 (.lenV (.v 5)) <|
 .x 7 (.bin .lss (.v 4) (.v 6)) .done) K40_19) K40_18
@[simp] def W40_20 := C.w K40_20.eq_1
def K40_21 : C := .block 0 (.loop 4 [2] K40_20)
@[simp] def W40_21 := C.w K40_21.eq_1
def K40_22 : C := .seq (.seq (.pl <| .e 4 0 <|
 .x 3 (.mv (.c (.int .i64 0))) .done) K40_21) K40_1
@[simp] def W40_22 := C.w K40_22.eq_1
def B_laws_heldTransitionS : C := .seq (.pl <| .e 4 0 <|
 .x 2 (.mv (.c (.int .i64 0))) .done) K40_22
@[simp] def WB_laws_heldTransitionS := C.w B_laws_heldTransitionS.eq_1
def R_laws_heldTransitionS : FIR := ⟨B_laws_heldTransitionS, 4, [(2, none)]⟩
theorem IR_laws_heldTransitionS : cfun Try.prog H_laws_heldTransitionS Try.f40 = some R_laws_heldTransitionS := by kernel_rfl
theorem EN_laws_heldTransitionS : ENT Try.prog B_laws_heldTransitionS [(2, none)] 2 4 fn_laws_heldTransitionS := fun hargs hw => enter Try.func40 rfl IR_laws_heldTransitionS hargs hw
def H_laws_markAutomaton : Hint := ⟨[(0, false), (1, false), (2, true), (4, false)], []⟩
def K11_1 : C := .seq (.pl <| .e 4 1 <|
 .m 4 1 <|
 .m 3 4 .done) (.ret)
@[simp] def W11_1 := C.w K11_1.eq_1
def K11_2 : Pl := .m 1 7 .done
@[simp] def W11_2 := Pl.w K11_2.eq_1
def K11_3 : C := .seq (.pl <| .e 4 4 <|
 .a 4 2 <|
 .g 5 4 2 2 <|
 .m 6 1 <|
 .c 7 (.call fn_laws_markTransitionS [.v 5, .v 6]) K11_2) K11_1
@[simp] def W11_3 := C.w K11_3.eq_1
def K11_4 : Pl := .m 1 7 .done
@[simp] def W11_4 := Pl.w K11_4.eq_1
def K11_5 : C := .seq (.pl <| .e 4 4 <|
 .a 4 2 <|
 .g 5 4 2 1 <|
 .m 6 1 <|
 .c 7 (.call fn_laws_markBoolS [.v 5, .v 6]) K11_4) K11_3
@[simp] def W11_5 := C.w K11_5.eq_1
def K11_6 : Pl := .m 1 7 .done
@[simp] def W11_6 := Pl.w K11_6.eq_1
def K11_7 : C := .seq (.pl <| .e 4 4 <|
 .a 4 2 <|
 .g 5 4 2 0 <|
 .m 6 1 <|
 .c 7 (.call fn_laws_markIntS [.v 5, .v 6]) K11_6) K11_5
@[simp] def W11_7 := C.w K11_7.eq_1
def B_laws_markAutomaton : C := .seq (.pl <| .e 4 0 <|
 .o (.pnew 2 (.v 0) []) <|
 .x 3 (.mv (.c (.int .i64 0))) .done) K11_7
@[simp] def WB_laws_markAutomaton := C.w B_laws_markAutomaton.eq_1
def R_laws_markAutomaton : FIR := ⟨B_laws_markAutomaton, 4, [(3, none)]⟩
theorem IR_laws_markAutomaton : cfun Try.prog H_laws_markAutomaton Try.f11 = some R_laws_markAutomaton := by kernel_rfl
theorem EN_laws_markAutomaton : ENT Try.prog B_laws_markAutomaton [(3, none)] 2 4 fn_laws_markAutomaton := fun hargs hw => enter Try.func11 rfl IR_laws_markAutomaton hargs hw
def H_laws_markBoolS : Hint := ⟨[(0, false), (1, false), (4, false), (5, false)], [[2]]⟩
def K36_1 : C := .seq (.pl <| .e 4 1 <|
 .m 4 1 <|
 .m 2 4 .done) (.ret)
@[simp] def W36_1 := C.w K36_1.eq_1
def K36_2 : C := .pl <| .e 4 2 <|
 .m 4 3 <|
 .x 5 (.bin .add (.v 4) (.c (.int .i64 1))) <|
 .m 3 5 .done
@[simp] def W36_2 := C.w K36_2.eq_1
def K36_3 : C := .pl <| .e 4 2 <|
 .m 4 1 <|
 .x 5 (.bin .add (.v 4) (.c (.int .i64 1))) <|
 .m 1 5 .done
@[simp] def W36_3 := C.w K36_3.eq_1
def K36_4 : C := .seq (.block 1 (.seq (.pl <| .e 4 6 <|
 .m 4 0 <|
 .m 5 3 <|
 .m 6 1 <|
 .x 7 (.bin .rem (.v 6) (.c (.int .i64 3))) <|
 .x 8 (.bin .eql (.v 7) (.c (.int .i64 0))) <|
 .x 9 (.ia 1 (.v 4) (.v 5)) <|
 .o (.ex none (.store 1 (.v 9) (.v 8))) .done) K36_3)) K36_2
@[simp] def W36_4 := C.w K36_4.eq_1
def K36_5 : C := .cond 4 (.v 7) (.skip) (.exit 0)
@[simp] def W36_5 := C.w K36_5.eq_1
def K36_6 : C := .seq (.seq (.pl <| .e 4 4 <|
 .m 4 3 <|
 .m 5 0 <|
 .x 6 (.lenV (.v 5)) <|
 .x 7 (.bin .lss (.v 4) (.v 6)) .done) K36_5) K36_4
@[simp] def W36_6 := C.w K36_6.eq_1
def K36_7 : C := .block 0 (.loop 4 [2] K36_6)
@[simp] def W36_7 := C.w K36_7.eq_1
def K36_8 : C := .seq (.seq (.pl <| .e 4 0 <|
 .x 3 (.mv (.c (.int .i64 0))) .done) K36_7) K36_1
@[simp] def W36_8 := C.w K36_8.eq_1
def B_laws_markBoolS : C := .seq (.pl <| .e 4 0 <|
 .x 2 (.mv (.c (.int .i64 0))) .done) K36_8
@[simp] def WB_laws_markBoolS := C.w B_laws_markBoolS.eq_1
def R_laws_markBoolS : FIR := ⟨B_laws_markBoolS, 4, [(2, none)]⟩
theorem IR_laws_markBoolS : cfun Try.prog H_laws_markBoolS Try.f36 = some R_laws_markBoolS := by kernel_rfl
theorem EN_laws_markBoolS : ENT Try.prog B_laws_markBoolS [(2, none)] 2 4 fn_laws_markBoolS := fun hargs hw => enter Try.func36 rfl IR_laws_markBoolS hargs hw
def H_laws_markFormula : Hint := ⟨[(0, false), (1, false), (2, true), (4, false)], []⟩
def K10_1 : C := .seq (.pl <| .e 4 1 <|
 .m 4 1 <|
 .m 3 4 .done) (.ret)
@[simp] def W10_1 := C.w K10_1.eq_1
def K10_2 : Pl := .m 1 7 .done
@[simp] def W10_2 := Pl.w K10_2.eq_1
def K10_3 : C := .seq (.pl <| .e 4 4 <|
 .a 4 2 <|
 .g 5 4 2 2 <|
 .m 6 1 <|
 .c 7 (.call fn_laws_markFormulaS [.v 5, .v 6]) K10_2) K10_1
@[simp] def W10_3 := C.w K10_3.eq_1
def B_laws_markFormula : C := .seq (.pl <| .e 4 0 <|
 .o (.pnew 2 (.v 0) []) <|
 .x 3 (.mv (.c (.int .i64 0))) .done) K10_3
@[simp] def WB_laws_markFormula := C.w B_laws_markFormula.eq_1
def R_laws_markFormula : FIR := ⟨B_laws_markFormula, 4, [(3, none)]⟩
theorem IR_laws_markFormula : cfun Try.prog H_laws_markFormula Try.f10 = some R_laws_markFormula := by kernel_rfl
theorem EN_laws_markFormula : ENT Try.prog B_laws_markFormula [(3, none)] 2 4 fn_laws_markFormula := fun hargs hw => enter Try.func10 rfl IR_laws_markFormula hargs hw
end Go.Proofs.Ytbanccfdojgocaa
