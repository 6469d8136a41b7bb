/-
  Statements that have no effect but on one place of the environment: their values, and what they hang on.
-/
import Derived.Test.YtfhjclhchbagnaaG10
namespace Go.Proofs.Ytfhjclhchbagnaa
open Go
set_option linter.all false
set_option linter.unusedVariables false
set_option linter.unusedSimpArgs false
set_option linter.defProp false

section
variable {e e2 : Env} {h h2 : Heap}

theorem oget_congr {o : O} (hr : ∀ p ∈ o.rd, eget e p = eget e2 p) : o.get e = o.get e2 := by
  cases o with
  | v i => exact hr i (by simp [O.rd])
  | c x => rfl

theorem ogets_congr : ∀ {l : List O}, (∀ p ∈ ords l, eget e p = eget e2 p) → ogets e l = ogets e2 l
  | [], _ => rfl
  | o :: l, hr => by
    simp only [ogets]
    rw [oget_congr (o := o) fun p hp => hr p (by simp [ords, hp]), ogets_congr (l := l) fun p hp => hr p (by simp [ords, hp])]

theorem fillP_congr : ∀ {ps : List (Nat × Nat × O)} {c : List Value}, (∀ p ∈ prds ps, eget e p = eget e2 p) → fillP e c ps = fillP e2 c ps
  | [], _, _ => rfl
  | (off, sz, o) :: r, c, hr => by
    simp only [fillP]
    rw [oget_congr (o := o) fun p hp => hr p (by simp [prds, hp])]
    cases o.get e2 with
    | none => rfl
    | some v => simp only; split
                · exact fillP_congr fun p hp => hr p (by simp [prds, hp])
                · rfl

theorem oordO_congr {o : Option O} (hr : ∀ p ∈ oordO o, eget e p = eget e2 p) : o.map (·.get e) = o.map (·.get e2) := by
  cases o with
  | none => rfl
  | some o => simp only [Option.map_some]; rw [oget_congr (o := o) fun p hp => hr p (by simpa [oordO] using hp)]

theorem ev_congr {x : PX} (hr : ∀ p ∈ x.rd, eget e p = eget e2 p) : x.ev e = x.ev e2 := by
  cases x <;> simp only [PX.rd, List.mem_append] at hr <;> simp only [PX.ev]
  case mv a => exact oget_congr hr
  case pick c a b =>
    rw [oget_congr (o := c) fun p hp => hr p (.inl (.inl hp)), oget_congr (o := a) fun p hp => hr p (.inl (.inr hp)), oget_congr (o := b) fun p hp => hr p (.inr hp)]
  case build z ps => rw [fillP_congr hr]
  case sliceS a l h =>
    rw [oget_congr (o := a) fun p hp => hr p (.inl (.inl hp)), oordO_congr (o := l) fun p hp => hr p (.inl (.inr hp)), oordO_congr (o := h) fun p hp => hr p (.inr hp)]
  case sliceV n a l h m =>
    rw [oget_congr (o := a) fun p hp => hr p (.inl (.inl (.inl hp))), oordO_congr (o := l) fun p hp => hr p (.inl (.inl (.inr hp))), oordO_congr (o := h) fun p hp => hr p (.inl (.inr hp)), oordO_congr (o := m) fun p hp => hr p (.inr hp)]
  case mkf f a b => rw [ogets_congr (l := a) fun p hp => hr p (.inl hp), ogets_congr (l := b) fun p hp => hr p (.inr hp)]
  all_goals first
    | (rename_i a b; rw [oget_congr (o := a) fun p hp => hr p (.inl hp), oget_congr (o := b) fun p hp => hr p (.inr hp)]; done)
    | (rename_i a; rw [oget_congr (o := a) hr]; done)

def A.nv (e : Env) (h : Heap) : A → Option (Option Nat × Option Value)
  | .px d x => (x.ev e).map fun v => (d, some v)
  | .ld d a sz => (hload h (a.get e) sz).map fun v => (d, some v)
  | .pget d c i off sz => (pgetC e c i off sz).map fun v => (d, some v)
  | .als d c i => if aok e c = true ∧ (eget e i).isSome = true then some (some d, some (.bool true)) else none
  | .psl d z ps => (fillP e z ps).map fun cs => (some d, some (.agg cs.toArray))
  | .pnew i x _ => (x.get e).map fun v => (some i, some v)
  | _ => none

def S.nv (e : Env) (h : Heap) : S → Option (Option Nat × Option Value)
  | .act g x => match gcond e g with
    | none => none
    | some b => if b then x.nv e h else some (x.dst, some undef)
  | _ => none

theorem map_some2 {α β : Type} {o : Option α} {f : α → β} {v : β} (h : o.map f = some v) : ∃ a, o = some a ∧ f a = v := by simpa [Option.map_eq_some_iff] using h

/-- what such a statement does -/
theorem nwp {P : Program} {k : Env → Heap → Prop} {s : S} (hn : isN s = true) : s.wp P k e h ↔ ∃ d v, s.nv e h = some (d, v) ∧ k (dput d v e) h := by
  unfold isN at hn
  split at hn
  · rename_i g d x
    cases g with
    | none =>
      simp only [S.wp, A.wp, S.nv, gcond, A.nv, if_true]
      constructor
      · rintro ⟨v, hv, hk⟩; exact ⟨d, some v, by simp [hv], hk⟩
      · rintro ⟨d', v', hv, hk⟩
        obtain ⟨v, hu, he⟩ := map_some2 hv
        simp only [Prod.mk.injEq] at he
        obtain ⟨rfl, rfl⟩ := he
        exact ⟨v, hu, hk⟩
    | some gg =>
      simp only [S.wp, S.nv, A.nv, A.val, A.dst]
      constructor
      · rintro ⟨b, hb, h1, hk⟩
        cases b with
        | true =>
          obtain ⟨u, hu⟩ := Option.isSome_iff_exists.1 (h1 rfl)
          exact ⟨d, some u, by simp [hb, hu], by simpa [gval, hu] using hk⟩
        | false => exact ⟨d, some undef, by simp [hb], by simpa [gval] using hk⟩
      · rintro ⟨d', v', hv, hk⟩
        cases hb : gcond e (some gg) with
        | none => simp [hb] at hv
        | some b =>
          simp only [hb] at hv
          refine ⟨b, rfl, ?_⟩
          cases b with
          | true =>
            simp only [if_true] at hv
            obtain ⟨v, hu, he⟩ := map_some2 hv
            simp only [Prod.mk.injEq] at he
            obtain ⟨rfl, rfl⟩ := he
            exact ⟨by simp [hu], by simpa [gval, hu] using hk⟩
          | false =>
            simp only [Bool.false_eq_true, if_false, Option.some.injEq, Prod.mk.injEq] at hv
            obtain ⟨rfl, rfl⟩ := hv
            exact ⟨by simp, by simpa [gval] using hk⟩
  · rename_i g d a sz
    cases g with
    | none =>
      simp only [S.wp, A.wp, S.nv, gcond, A.nv, if_true]
      constructor
      · rintro ⟨v, hv, hk⟩; exact ⟨d, some v, by simp [hv], hk⟩
      · rintro ⟨d', v', hv, hk⟩
        obtain ⟨v, hu, he⟩ := map_some2 hv
        simp only [Prod.mk.injEq] at he
        obtain ⟨rfl, rfl⟩ := he
        exact ⟨v, hu, hk⟩
    | some gg =>
      simp only [S.wp, S.nv, A.nv, A.val, A.dst]
      constructor
      · rintro ⟨b, hb, h1, hk⟩
        cases b with
        | true =>
          obtain ⟨u, hu⟩ := Option.isSome_iff_exists.1 (h1 rfl)
          exact ⟨d, some u, by simp [hb, hu], by simpa [gval, hu] using hk⟩
        | false => exact ⟨d, some undef, by simp [hb], by simpa [gval] using hk⟩
      · rintro ⟨d', v', hv, hk⟩
        cases hb : gcond e (some gg) with
        | none => simp [hb] at hv
        | some b =>
          simp only [hb] at hv
          refine ⟨b, rfl, ?_⟩
          cases b with
          | true =>
            simp only [if_true] at hv
            obtain ⟨v, hu, he⟩ := map_some2 hv
            simp only [Prod.mk.injEq] at he
            obtain ⟨rfl, rfl⟩ := he
            exact ⟨by simp [hu], by simpa [gval, hu] using hk⟩
          | false =>
            simp only [Bool.false_eq_true, if_false, Option.some.injEq, Prod.mk.injEq] at hv
            obtain ⟨rfl, rfl⟩ := hv
            exact ⟨by simp, by simpa [gval] using hk⟩
  · rename_i g d c i off sz
    cases g with
    | none =>
      simp only [S.wp, A.wp, S.nv, gcond, A.nv, if_true]
      constructor
      · rintro ⟨v, hv, hk⟩; exact ⟨d, some v, by simp [hv], hk⟩
      · rintro ⟨d', v', hv, hk⟩
        obtain ⟨v, hu, he⟩ := map_some2 hv
        simp only [Prod.mk.injEq] at he
        obtain ⟨rfl, rfl⟩ := he
        exact ⟨v, hu, hk⟩
    | some gg =>
      simp only [S.wp, S.nv, A.nv, A.val, A.dst]
      constructor
      · rintro ⟨b, hb, h1, hk⟩
        cases b with
        | true =>
          obtain ⟨u, hu⟩ := Option.isSome_iff_exists.1 (h1 rfl)
          exact ⟨d, some u, by simp [hb, hu], by simpa [gval, hu] using hk⟩
        | false => exact ⟨d, some undef, by simp [hb], by simpa [gval] using hk⟩
      · rintro ⟨d', v', hv, hk⟩
        cases hb : gcond e (some gg) with
        | none => simp [hb] at hv
        | some b =>
          simp only [hb] at hv
          refine ⟨b, rfl, ?_⟩
          cases b with
          | true =>
            simp only [if_true] at hv
            obtain ⟨v, hu, he⟩ := map_some2 hv
            simp only [Prod.mk.injEq] at he
            obtain ⟨rfl, rfl⟩ := he
            exact ⟨by simp [hu], by simpa [gval, hu] using hk⟩
          | false =>
            simp only [Bool.false_eq_true, if_false, Option.some.injEq, Prod.mk.injEq] at hv
            obtain ⟨rfl, rfl⟩ := hv
            exact ⟨by simp, by simpa [gval] using hk⟩
  · rename_i g d c i
    cases g with
    | none =>
      simp only [S.wp, A.wp, S.nv, gcond, A.nv, if_true]
      constructor
      · rintro ⟨h1, h2, hk⟩; exact ⟨some d, some (.bool true), by simp [h1, h2], hk⟩
      · rintro ⟨d', v', hv, hk⟩
        split at hv
        · rename_i hc
          simp only [Option.some.injEq, Prod.mk.injEq] at hv
          obtain ⟨rfl, rfl⟩ := hv
          exact ⟨hc.1, hc.2, hk⟩
        · simp at hv
    | some gg =>
      simp only [S.wp, S.nv, A.nv, A.val, A.dst, A.wp]
      constructor
      · rintro ⟨b, hb, h1, h2⟩
        cases b with
        | true =>
          obtain ⟨g1, g2, hk⟩ := h1 rfl
          exact ⟨some d, some (.bool true), by simp [hb, g1, g2], hk⟩
        | false => exact ⟨some d, some undef, by simp [hb], h2 rfl⟩
      · rintro ⟨d', v', hv, hk⟩
        cases hb : gcond e (some gg) with
        | none => simp [hb] at hv
        | some b =>
          simp only [hb] at hv
          refine ⟨b, rfl, ?_⟩
          cases b with
          | true =>
            simp only [if_true] at hv
            split at hv
            · rename_i hc
              simp only [Option.some.injEq, Prod.mk.injEq] at hv
              obtain ⟨rfl, rfl⟩ := hv
              exact ⟨fun _ => ⟨hc.1, hc.2, hk⟩, by simp⟩
            · simp at hv
          | false =>
            simp only [Bool.false_eq_true, if_false, Option.some.injEq, Prod.mk.injEq] at hv
            obtain ⟨rfl, rfl⟩ := hv
            exact ⟨by simp, fun _ => hk⟩
  · rename_i d z ps
    simp only [S.wp, A.wp, S.nv, gcond, A.nv, if_true]
    constructor
    · rintro ⟨v, hv, hk⟩; exact ⟨some d, some (.agg v.toArray), by simp [hv], hk⟩
    · rintro ⟨d', v', hv, hk⟩
      obtain ⟨v, hu, he⟩ := map_some2 hv
      simp only [Prod.mk.injEq] at he
      obtain ⟨rfl, rfl⟩ := he
      exact ⟨v, hu, hk⟩
  · rename_i i x
    simp only [S.wp, A.wp, S.nv, gcond, A.nv, if_true, efgt]
    constructor
    · rintro ⟨v, hv, hk⟩; exact ⟨some i, some v, by simp [hv], hk⟩
    · rintro ⟨d', v', hv, hk⟩
      obtain ⟨v, hu, he⟩ := map_some2 hv
      simp only [Prod.mk.injEq] at he
      obtain ⟨rfl, rfl⟩ := he
      exact ⟨v, hu, hk⟩
  · simp at hn

theorem gcond_congr {g : Guard} (hr : ∀ p ∈ grd g, eget e p = eget e2 p) : gcond e g = gcond e2 g := by
  cases g with
  | none => rfl
  | some ow => obtain ⟨o, w⟩ := ow; simp only [gcond]; rw [oget_congr (o := o) hr]

theorem aok_congr {c : Option Nat} (hr : ∀ p ∈ c.toList, eget e p = eget e2 p) : aok e c = aok e2 c := by
  cases c with
  | none => rfl
  | some p => simp only [aok]; rw [hr p (by simp)]

/-- a load that comes later finds the same -/
def LdSame (s : S) (e : Env) (h : Heap) (e2 : Env) (h2 : Heap) : Prop :=
  match s with
  | .act g (.ld _ a sz) => gcond e g = some true → hload h2 (a.get e2) sz = hload h (a.get e) sz
  | _ => True

theorem nv_congr {s : S} (hn : isN s = true) (hr : ∀ p ∈ s.rd, eget e p = eget e2 p) (hw : ∀ p ∈ s.wk, (eget e p).isSome = true → (eget e2 p).isSome = true) (hl : LdSame s e h e2 h2)
    {r : Option Nat × Option Value} (hv : s.nv e h = some r) : s.nv e2 h2 = some r := by
  have key : ∀ g x, s = .act g x → (gcond e g = some true → x.nv e h = some r → x.nv e2 h2 = some r) → s.nv e2 h2 = some r := by
    intro g x hs hx
    subst hs
    simp only [S.nv] at hv ⊢
    rw [← gcond_congr fun p hp => hr p (by simp [S.rd, hp])]
    cases hb : gcond e g with
    | none => simp [hb] at hv
    | some b =>
      simp only [hb] at hv ⊢
      cases b with
      | true => simp only [if_true] at hv ⊢; exact hx hb hv
      | false => simpa using hv
  unfold isN at hn
  split at hn
  · rename_i g d x
    exact key g _ rfl fun _ hx => by simpa only [A.nv, ← ev_congr (x := x) fun p hp => hr p (by simp [S.rd, A.rd, hp])] using hx
  · rename_i g d a sz
    exact key g _ rfl fun hb hx => by
      simp only [A.nv] at hx ⊢
      rw [hl hb]
      exact hx
  · rename_i g d c i off sz
    refine key g _ rfl fun _ hx => ?_
    simp only [A.nv, pgetC] at hx ⊢
    rw [← aok_congr (c := c) fun p hp => hr p (by simp [S.rd, A.rd]; exact .inr (.inr (by simpa using hp))), ← hr i (by simp [S.rd, A.rd])]
    exact hx
  · rename_i g d c i
    refine key g _ rfl fun _ hx => ?_
    simp only [A.nv] at hx ⊢
    split at hx
    · rename_i hc
      rw [if_pos ⟨by rw [← aok_congr (c := c) fun p hp => hr p (by simp [S.rd, A.rd]; exact .inr (by simpa using hp))]; exact hc.1, hw i (by simp [S.wk, A.wkp]) hc.2⟩]
      exact hx
    · simp at hx
  · rename_i d z ps
    exact key none _ rfl fun _ hx => by simpa only [A.nv, ← fillP_congr (ps := ps) fun p hp => hr p (by simp [S.rd, A.rd, hp])] using hx
  · rename_i i x
    exact key none _ rfl fun _ hx => by simpa only [A.nv, ← oget_congr (o := x) fun p hp => hr p (by simp [S.rd, A.rd, hp])] using hx
  · simp at hn

theorem nv_wr {s : S} (hn : isN s = true) {d : Option Nat} {v : Option Value} (hv : s.nv e h = some (d, v)) : ∀ p, d = some p → p ∈ s.wr := by
  have key : ∀ g x, s = .act g x → (∀ d v, x.nv e h = some (d, v) → ∀ p, d = some p → p ∈ x.wrp) → (∀ p, x.dst = some p → p ∈ x.wrp) → ∀ p, d = some p → p ∈ s.wr := by
    intro g x hs h1 h2 p hp
    subst hs
    simp only [S.nv] at hv
    split at hv
    · simp at hv
    · split at hv
      · exact h1 d v hv p hp
      · simp only [Option.some.injEq, Prod.mk.injEq] at hv
        exact h2 p (hv.1.trans hp)
  unfold isN at hn
  split at hn
  · rename_i g d' x
    exact key g _ rfl (fun d v hx p hp => by obtain ⟨_, _, he⟩ := map_some2 hx; simp only [Prod.mk.injEq] at he; simp [A.wrp, he.1, hp]) (fun p hp => by simpa [A.wrp, A.dst] using hp)
  · rename_i g d' a sz
    exact key g _ rfl (fun d v hx p hp => by obtain ⟨_, _, he⟩ := map_some2 hx; simp only [Prod.mk.injEq] at he; simp [A.wrp, he.1, hp]) (fun p hp => by simpa [A.wrp, A.dst] using hp)
  · rename_i g d' c i off sz
    exact key g _ rfl (fun d v hx p hp => by obtain ⟨_, _, he⟩ := map_some2 hx; simp only [Prod.mk.injEq] at he; simp [A.wrp, he.1, hp]) (fun p hp => by simpa [A.wrp, A.dst] using hp)
  · rename_i g d' c i
    refine key g _ rfl (fun d v hx p hp => ?_) (fun p hp => by simp [A.dst] at hp; simp [A.wrp, hp])
    simp only [A.nv] at hx
    split at hx
    · simp only [Option.some.injEq, Prod.mk.injEq] at hx
      rw [← hx.1] at hp
      simp at hp
      simp [A.wrp, hp]
    · simp at hx
  · rename_i d' z ps
    exact key none _ rfl (fun d v hx p hp => by obtain ⟨_, _, he⟩ := map_some2 hx; simp only [Prod.mk.injEq] at he; rw [← he.1] at hp; simp at hp; simp [A.wrp, hp]) (fun p hp => by simp [A.dst] at hp; simp [A.wrp, hp])
  · rename_i i x
    exact key none _ rfl (fun d v hx p hp => by obtain ⟨_, _, he⟩ := map_some2 hx; simp only [Prod.mk.injEq] at he; rw [← he.1] at hp; simp at hp; simp [A.wrp, hp]) (fun p hp => by simp [A.dst] at hp)
  · simp at hn

theorem eset_self_iff : ∀ {e : Env} {p : Nat} {v : Option Value}, eset e p v = e ↔ (p < e.length → eget e p = v)
  | [], p, v => by simp [eset]
  | x :: t, 0, v => by simp [eset, eget, eq_comm]
  | x :: t, n + 1, v => by simp [eset, eget, eset_self_iff (e := t)]

/-- the statement, done once more, changes nothing -/
def Idem (s : S) (e : Env) (h : Heap) : Prop := ∃ d v, s.nv e h = some (d, v) ∧ dput d v e = e

theorem Idem.congr {s : S} (hn : isN s = true) (hi : Idem s e h) (hlen : e2.length = e.length) (hr : ∀ p ∈ s.rd, eget e p = eget e2 p) (hw : ∀ p ∈ s.wk, (eget e p).isSome = true → (eget e2 p).isSome = true)
    (hwr : ∀ p ∈ s.wr, eget e p = eget e2 p) (hl : LdSame s e h e2 h2) : Idem s e2 h2 := by
  obtain ⟨d, v, hv, hd⟩ := hi
  refine ⟨d, v, nv_congr hn hr hw hl hv, ?_⟩
  cases d with
  | none => rfl
  | some p =>
    simp only [dput] at hd ⊢
    rw [eset_self_iff] at hd ⊢
    intro hp
    rw [← hwr p (nv_wr hn hv p rfl)]
    exact hd (by omega)

theorem eset_eset : ∀ (e : Env) (p : Nat) (v : Option Value), eset (eset e p v) p v = eset e p v
  | [], _, _ => rfl
  | _ :: _, 0, _ => rfl
  | _ :: t, n + 1, v => by simp [eset, eset_eset t n v]

theorem dput_ne {d : Option Nat} {v : Option Value} {p : Nat} (hp : ∀ q, d = some q → q ≠ p) : eget (dput d v e) p = eget e p := by
  cases d with
  | none => rfl
  | some q => exact eget_eset_ne _ _ _ _ (hp q rfl)

/-- right after it has been done -/
theorem Idem.self {s : S} (hn : isN s = true) {d : Option Nat} {v : Option Value} (hv : s.nv e h = some (d, v)) (hrw : ∀ p ∈ s.wr, p ∉ s.rd ∧ p ∉ s.wk) : Idem s (dput d v e) h := by
  refine ⟨d, v, nv_congr hn (fun p hp => ?_) (fun p hp => ?_) ?_ hv, ?_⟩
  · rw [dput_ne]
    intro q hq he
    subst he
    exact (hrw q (nv_wr hn hv q hq)).1 hp
  · rw [dput_ne]
    · exact id
    · intro q hq he
      subst he
      exact (hrw q (nv_wr hn hv q hq)).2 hp
  · unfold LdSame
    split
    · rename_i g d' a sz
      intro _
      congr 1
      apply oget_congr
      intro p hp
      rw [dput_ne]
      intro q hq he
      subst he
      exact (hrw q (nv_wr hn hv q hq)).1 (by simp [S.rd, A.rd, hp])
    · trivial
  · cases d with
    | none => rfl
    | some p => exact eset_eset _ _ _

end
end Go.Proofs.Ytfhjclhchbagnaa
