/-
  Guards; regions whose order is fixed.
-/
import Derived.Test.YtfhjclhchbagnaaG9
namespace Go.Proofs.Ytfhjclhchbagnaa
open Go
set_option linter.all false
set_option linter.unusedVariables false
set_option linter.unusedSimpArgs false
set_option linter.defProp false

section
variable {P : Program} {base : Nat} {lay : Lay} {L : Nat → Prop} {e : Env} {h : Heap} {w : World} {a : Act}

theorem upon_wp {o : Oper} {R : Value → World → Prop} {K : Act → World → Prop} {Q : Exit → Act → World → Prop} (hr : UponE P ((execOp a.eval o).run P w) R) (hK : ∀ v w', R v w' → K (a.put o.dst v) w') : o.wp P a w K Q := by
  unfold Oper.wp
  unfold UponE at hr
  generalize (execOp a.eval o).run P w = r at hr
  cases r with
  | halt x w' => cases x <;> exact hr.elim
  | ok n w' =>
    cases n <;> first | exact hr.elim | skip
    · exact hK _ _ hr
    · exact hK _ _ hr
    · exact Calls.mono hr fun e w'' ⟨v, he, hv⟩ => by subst he; exact hK _ _ hv

/-- an operation's guard is a place of which the state speaks -/
def GdL (lay : Lay) (L : Nat → Prop) (ops : Array Oper) (o : Oper) : Prop :=
  ∀ j b t i, o.guard = some (j, b) → (ops[j]?).bind (·.dst) = some t → plainAt lay t = some i → L i

theorem guard_spec (S : St base lay L e h w a) {ops : Array Oper} {o : Oper} {g : Guard} (hg : guardOf lay ops o.guard = some g) (hG : GdL lay L ops o) {b : Bool} (hb : gcond e g = some b) :
    Region.wanted o (yielded ops a.tmps) = b := by
  unfold Region.wanted
  cases ho : o.guard with
  | none =>
    rw [ho] at hg
    simp only [guardOf, Option.some.injEq] at hg
    subst hg
    simpa [gcond] using hb
  | some jw =>
    obtain ⟨j, want⟩ := jw
    rw [ho] at hg
    simp only [guardOf] at hg
    split at hg
    · rename_i t ht
      simp only [Option.map_eq_some_iff] at hg
      obtain ⟨i, hi, rfl⟩ := hg
      have hLi := hG j want t i ho ht hi
      obtain ⟨blk, hcov, _⟩ := S.cov
      have hl := lfind_spec (plainAt_spec hi)
      have hc := hcov i t .pl hl hLi
      have hsz := S.sz i t .pl hl
      simp only [gcond, O.get] at hb
      simp only
      have hy : yielded ops a.tmps j = match a.eval (.tmp t) with | .bool b => some b | _ => none := by
        unfold yielded
        rw [ht]
        simp only [Option.bind_some, Act.eval, Array.getD_eq_getD_getElem?]
        have : a.tmps[t]? = some a.tmps[t] := Array.getElem?_eq_getElem hsz
        rw [this]
        simp only [Option.getD_some]
        split <;> simp_all
      split at hb
      · rename_i c hcv
        simp only [Option.some.injEq] at hb
        rw [hy, hc _ hcv, ← hb]
        cases c <;> cases want <;> rfl
      · rename_i v hv hcv
        simp only [Option.some.injEq] at hb
        rw [hy, hc _ hcv, ← hb]
        cases v <;> first | rfl | exact absurd rfl (hv _)
      · simp at hb
    · simp at hg

/-- what stands at the result's place of an operation -/
theorem cact_dst {g : Guard} {o : Oper} {x : A} (hx : cact P lay g o = some x) :
    (cdst lay o.dst = some x.dst ∧ (∀ d v, x.val e h = some (d, v) → d = x.dst)) ∨
    (x.val e h = none ∧ ((∃ t0 d j off, o.dst = some t0 ∧ lfind lay t0 = some (d, .al j off) ∧ x.dst = some d) ∨ (o.dst = none ∧ x.dst = none) ∨ g = none)) := by
  unfold cact at hx
  split at hx
  · rename_i s hs
    simp only [Option.some.injEq] at hx
    subst hx
    unfold cprv at hs
    split at hs
    · split at hs
      · simp only [Option.some.injEq] at hs; subst hs; exact .inr ⟨rfl, .inr (.inr rfl)⟩
      · simp at hs
    · split at hs
      · simp only [Option.some.injEq] at hs; subst hs; exact .inr ⟨rfl, .inr (.inr rfl)⟩
      · simp at hs
    · split at hs
      · rename_i c i off d i' off' hp hb
        split at hs
        · simp only [Option.some.injEq] at hs; subst hs
          simp only [Option.bind_eq_some_iff] at hb
          obtain ⟨t0, ho, hi⟩ := hb
          exact .inr ⟨rfl, .inl ⟨t0, d, _, _, ho, hi, rfl⟩⟩
        · simp at hs
      · simp at hs
    · split at hs
      · rename_i c i off d i' off' hp hb
        split at hs
        · simp only [Option.some.injEq] at hs; subst hs
          simp only [Option.bind_eq_some_iff] at hb
          obtain ⟨t0, ho, hi⟩ := hb
          exact .inr ⟨rfl, .inl ⟨t0, d, _, _, ho, hi, rfl⟩⟩
        · simp at hs
      · simp at hs
    · split at hs
      · rename_i c i off fo d i' off' hp hf hb
        split at hs
        · simp only [Option.some.injEq] at hs; subst hs
          simp only [Option.bind_eq_some_iff] at hb
          obtain ⟨t0, ho, hi⟩ := hb
          exact .inr ⟨rfl, .inl ⟨t0, d, _, _, ho, hi, rfl⟩⟩
        · simp at hs
      · simp at hs
    · split at hs
      · rename_i c i off s d hp hsz hdst
        simp only [Option.some.injEq] at hs; subst hs
        refine .inl ⟨hdst, ?_⟩
        intro d' v hv
        simp only [A.val, Option.some.injEq, Prod.mk.injEq] at hv
        exact hv.1.symm
      · simp at hs
    · split at hs
      · rename_i c i off y inf hp hy hi hdn
        simp only [Option.some.injEq] at hs; subst hs
        exact .inr ⟨rfl, .inr (.inl ⟨hdn, rfl⟩)⟩
      · simp at hs
    · split at hs
      · split at hs
        · simp only [Option.some.injEq] at hs; subst hs; exact .inr ⟨rfl, .inr (.inr rfl)⟩
        · simp at hs
      · simp at hs
    · simp at hs
  · split at hx
    · simp at hx
    · rename_i d hdst
      split at hx
      · split at hx
        · simp only [Option.some.injEq] at hx; subst hx
          refine .inl ⟨hdst, ?_⟩
          intro d' v hv
          simp only [A.val, Option.some.injEq, Prod.mk.injEq] at hv
          exact hv.1.symm
        · simp at hx
      · split at hx
        · simp only [Option.some.injEq] at hx; subst hx
          refine .inl ⟨hdst, ?_⟩
          intro d' v hv
          simp only [A.val, Option.some.injEq, Prod.mk.injEq] at hv
          exact hv.1.symm
        · split at hx
          · simp only [Option.some.injEq] at hx; subst hx
            refine .inl ⟨hdst, ?_⟩
            intro d' v hv
            simp [A.val] at hv
          · simp at hx

theorem St.skipAl (hd : Dist lay) (S : St base lay L e h w a) {t0 p j off : Nat} (hp : lfind lay t0 = some (p, .al j off)) {o : Oper} (ho : o.dst = some t0) :
    St base lay (fun i => L i ∨ Wr lay o i) (eset e p (some undef)) h w (a.put o.dst undef) := by
  obtain ⟨blk, hcov, hinj⟩ := S.cov
  have hp' := lfind_spec hp
  refine ⟨⟨blk, ?_, ?_⟩, S.sub, ?_, S.low, by simpa [eset_length] using S.len⟩
  · intro i t k hi hl
    by_cases hpi : p = i
    · subst hpi
      rw [hp'] at hi
      simp only [Option.some.injEq, Prod.mk.injEq] at hi
      obtain ⟨rfl, rfl⟩ := hi
      intro hv
      rcases eget_eset_same e p (some undef) with g | g <;> rw [g] at hv <;> simp [undef] at hv
    · have hli : L i := by
        rcases hl with hl | ⟨t', k', g1, g2⟩
        · exact hl
        · rw [ho] at g1; simp only [Option.some.injEq] at g1; subst g1; rw [hp] at g2; simp at g2; exact absurd g2.1 hpi
      have hne : o.dst ≠ some t := by
        rw [ho]; intro he; simp only [Option.some.injEq] at he; subst he; exact hpi (hd _ _ _ _ _ hp' hi)
      exact (hcov i t k hi hli).keep (.inl (eget_eset_ne _ _ _ _ hpi)) (put_eval_ne hne) rfl (fun _ _ _ => .inr rfl) (fun _ _ _ hb => hb)
  · have back : ∀ x, (L x ∨ Wr lay o x) → Act' lay (eset e p (some undef)) x → L x ∧ Act' lay e x := by
      rintro x hx ax
      have ax' : Act' lay e x := Act'.of_set ax (fun t k htk => by rw [hp'] at htk; simp at htk; rw [← htk.2]; rfl)
      refine ⟨?_, ax'⟩
      rcases hx with hx | ⟨t', k', g1, g2⟩
      · exact hx
      · rw [ho] at g1; simp only [Option.some.injEq] at g1; subst g1; rw [hp] at g2; simp at g2
        obtain ⟨rfl, rfl⟩ := g2
        obtain ⟨t, k, _, q1, q2, _⟩ := ax'
        rw [hp'] at q1; simp at q1; rw [← q1.2] at q2; simp [isOwn] at q2
    intro x y hx hy ax ay hxy
    obtain ⟨h1, h2⟩ := back x hx ax
    obtain ⟨h3, h4⟩ := back y hy ay
    exact hinj x y h1 h3 h2 h4 hxy
  · intro i t k hi; rw [put_size]; exact S.sz i t k hi

theorem put_defers' {d : Option Tmp} {v : Value} : SameA a (a.put d v) := ⟨by cases d <;> rfl, put_size⟩

/-- ONE OPERATION of a region -/
theorem op_step (hd : Dist lay) (S : St base lay L e h w a) {ops : Array Oper} {i : Nat} {o : Oper} (hi : ops[i]? = some o) (hL : OpL lay L o) (hG : GdL lay L ops o) {k : Env → Heap → Prop}
    (hw : (cop P lay ops o).wp P k e h) {K : Act → World → Prop} {Q : Exit → Act → World → Prop}
    (hK : ∀ e' h' a' w', k e' h' → St base lay (fun j => L j ∨ Wr lay o j) e' h' w' a' → FrB base h w h' w' → SameA a a' → K a' w') : wpOp P ops Q i K a w := by
  have hstuck : ∀ k : Env → Heap → Prop, (stuckS none).wp P k e h → False := by
    intro k hs
    simp [stuckS, stuckA, Go.Proofs.Ytfhjclhchbagnaa.S.wp, A.wp, PX.ev, O.get, undef] at hs
  unfold cop at hw
  split at hw
  · exact (hstuck _ hw).elim
  · rename_i g hg
    split at hw
    · exact (hstuck _ hw).elim
    · rename_i x hx
      -- where the guard says yes
      have yes : Region.wanted o (yielded ops a.tmps) = true → x.wp P k e h → wpOp P ops Q i K a w := by
        intro hwant hxw
        unfold wpOp
        simp only [hi, hwant, if_true]
        left
        refine upon_wp (act_step hd S hL hx hxw) ?_
        rintro v w' ⟨e', h', hk, hS, hF⟩
        exact hK e' h' _ w' hk hS hF put_defers'
      cases g with
      | none =>
        simp only [Go.Proofs.Ytfhjclhchbagnaa.S.wp] at hw
        exact yes (guard_spec S hg hG rfl) hw
      | some gg =>
        simp only [Go.Proofs.Ytfhjclhchbagnaa.S.wp] at hw
        obtain ⟨b, hb, hw⟩ := hw
        have hwant := guard_spec S hg hG hb
        rcases cact_dst (e := e) (h := h) hx with ⟨hdst, hval⟩ | ⟨hval, hkind⟩
        · -- a plain place
          cases b with
          | true =>
            refine yes hwant ?_
            cases hv : x.val e h with
            | none => simp only [hv] at hw; exact hw.1 (by simp)
            | some dv =>
              obtain ⟨d, v⟩ := dv
              simp only [hv] at hw
              obtain ⟨h1, h2⟩ := hw
              obtain ⟨u, rfl⟩ := Option.isSome_iff_exists.1 (h1 trivial)
              cases x <;> simp only [A.val, Option.some.injEq, Prod.mk.injEq, reduceCtorEq] at hv
              · obtain ⟨rfl, hv⟩ := hv; exact ⟨u, hv, by simpa [gval] using h2⟩
              · obtain ⟨rfl, hv⟩ := hv; exact ⟨u, hv, by simpa [gval] using h2⟩
              · obtain ⟨rfl, hv⟩ := hv; exact ⟨u, hv, by simpa [gval] using h2⟩
          | false =>
            unfold wpOp
            simp only [hi, hwant, Bool.false_eq_true, if_false]
            have hSk := S.value2 hd S.sub (Frm.refl _ _) hdst undef
            refine hK _ _ _ _ ?_ hSk (FrB.refl _ _ _) put_defers'
            cases hv : x.val e h with
            | none => simp only [hv] at hw; exact hw.2 (by simp)
            | some dv =>
              obtain ⟨d, v⟩ := dv
              simp only [hv] at hw
              rw [← hval d v hv]
              simpa [gval] using hw.2
        · rw [hval] at hw
          simp only at hw
          cases b with
          | true => exact yes hwant (hw.1 (by simp))
          | false =>
            unfold wpOp
            simp only [hi, hwant, Bool.false_eq_true, if_false]
            rcases hkind with ⟨t0, d, j, off, ho, hl, hxd⟩ | ⟨ho, hxd⟩ | hgn
            · refine hK _ _ _ _ (hw.2 (by simp)) ?_ (FrB.refl _ _ _) put_defers'
              rw [hxd]
              exact S.skipAl hd hl ho
            · refine hK _ _ _ _ (hw.2 (by simp)) ?_ (FrB.refl _ _ _) put_defers'
              rw [hxd, ho]
              refine S.weaken ?_
              rintro j (hj | ⟨t, k, q1, _⟩)
              · exact hj
              · rw [ho] at q1; simp at q1
            · simp at hgn

/-- a region whose order is fixed -/
theorem seq_ops (hd : Dist lay) {ops : Array Oper} {k : Env → Heap → Prop} {Q : Exit → Act → World → Prop} : ∀ (r : List Oper) (n : Nat) (e : Env) (h : Heap) (w : World) (a : Act), (∀ j, j < r.length → ops[n + j]? = r[j]?) →
    St base lay (fun _ => True) e h w a → (seqP P lay ops r).wp P k e h →
    (∀ e' h' a' w', k e' h' → St base lay (fun _ => True) e' h' w' a' → FrB base h w h' w' → SameA a a' → Q .normal a' w') → wpOps P ops Q (List.range' n r.length) a w
  | [], n, e, h, w, a, _, S, hw, hQ => by
    simp only [List.length_nil, List.range'_zero, wpOps]
    exact hQ e h a w hw S (FrB.refl _ _ _) ⟨rfl, rfl⟩
  | o :: r, n, e, h, w, a, hr, S, hw, hQ => by
    simp only [List.length_cons, List.range'_succ, wpOps_cons]
    have hi : ops[n]? = some o := by simpa using hr 0 (by simp)
    simp only [seqP, Pl.wp] at hw
    refine op_step hd S hi (fun _ _ _ _ _ => ⟨trivial, fun _ _ _ => trivial⟩) (fun _ _ _ _ _ _ _ => trivial) hw ?_
    intro e' h' a' w' hk S' hF hdef
    refine seq_ops hd r (n + 1) e' h' w' a' (fun j hj => by
      have := hr (j + 1) (by simpa using hj)
      rw [show n + 1 + j = n + (j + 1) by omega, this]
      simp) (S'.weaken fun _ _ => .inl trivial) hk ?_
    intro e2 h2 a2 w2 hk2 S2 hF2 hd2
    exact hQ e2 h2 a2 w2 hk2 S2 (hF.trans hF2) (hd2.trans hdef)

end
end Go.Proofs.Ytfhjclhchbagnaa
