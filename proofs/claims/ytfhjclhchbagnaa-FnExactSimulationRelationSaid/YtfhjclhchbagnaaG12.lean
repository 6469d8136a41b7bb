/-
  A region that draws its order: whatever order is drawn, the tree's conditions are enough.
-/
import Derived.Test.YtfhjclhchbagnaaG11
namespace Go.Proofs.Ytfhjclhchbagnaa
open Go
set_option linter.all false
set_option linter.unusedVariables false
set_option linter.unusedSimpArgs false
set_option linter.defProp false

theorem CallE.mono {P : Program} {f : FuncId} {vs : List Value} {h : Heap} {k k' : Value → Heap → Prop} (hk : ∀ v h', k v h' → k' v h') (hc : CallE P f vs h k) : CallE P f vs h k' := by
  intro w hs
  have := hc w hs
  unfold Landed at *
  split at this
  · exact Calls.mono this fun e w' ⟨v, h', he, h1, h2, h3⟩ => ⟨v, h', he, hk _ _ h1, h2, h3⟩
  · obtain ⟨v, h', he, h1, h2, h3⟩ := this
    exact ⟨v, h', he, hk _ _ h1, h2, h3⟩
  · exact this.elim

theorem EX.wp_mono {P : Program} {e : Env} {h : Heap} {k k' : Value → Heap → Prop} (hk : ∀ v h', k v h' → k' v h') {x : EX} (hx : x.wp P e h k) : x.wp P e h k' := by
  cases x <;> simp only [EX.wp] at hx ⊢
  case store => obtain ⟨b, off, v, h', h1, h2, h3, h4, h5⟩ := hx; exact ⟨b, off, v, h', h1, h2, h3, h4, hk _ _ h5⟩
  case alloc => obtain ⟨v, h1, h2⟩ := hx; exact ⟨v, h1, fun b el hb => hk _ _ (h2 b el hb)⟩
  case mks => obtain ⟨l, c, j, j', h1, h2, h3, h4, h5, h6⟩ := hx; exact ⟨l, c, j, j', h1, h2, h3, h4, h5, fun b el hb => hk _ _ (h6 b el hb)⟩
  case bls => obtain ⟨cs, h1, h2⟩ := hx; exact ⟨cs, h1, fun b el hb => hk _ _ (h2 b el hb)⟩
  case app a b =>
    obtain ⟨n, cs, h1, h2⟩ := hx
    refine ⟨n, cs, h1, ?_⟩
    cases a with
    | o y =>
      simp only at h2 ⊢
      obtain ⟨p, len, cap, g1, g2, g3⟩ := h2
      refine ⟨p, len, cap, g1, fun hle => ?_, fun hlt => ?_⟩
      · have := g2 hle
        split at this
        · exact ⟨this.1, hk _ _ this.2⟩
        · rcases this with ⟨h, h'⟩ | ⟨h', g, g'⟩
          · exact .inl ⟨h, hk _ _ h'⟩
          · exact .inr ⟨h', g, hk _ _ g'⟩
        · exact this.elim
      · obtain ⟨m, old, q1, q2, q3, q4⟩ := g3 hlt
        exact ⟨m, old, q1, q2, q3, fun b el c hb hc => hk _ _ (q4 b el c hb hc)⟩
    | p m i =>
      simp only at h2 ⊢
      obtain ⟨g1, g2, g3, g4⟩ := h2
      refine ⟨g1, g2, fun hn p => hk _ _ (g3 hn p), fun hn => ?_⟩
      obtain ⟨q1, q2, q3⟩ := g4 hn
      exact ⟨q1, q2, fun b el c hb hc => hk _ _ (q3 b el c hb hc)⟩
  case copy =>
    obtain ⟨p, n, m, cap, cs, h1, h2, h3⟩ := hx
    refine ⟨p, n, m, cap, cs, h1, h2, ?_⟩
    split at h3
    · exact hk _ _ h3
    · obtain ⟨h', g, g'⟩ := h3; exact ⟨h', g, hk _ _ g'⟩
    · exact h3.elim
  case call => obtain ⟨vs, h1, h2⟩ := hx; exact ⟨vs, h1, h2.mono hk⟩
  case callv => obtain ⟨f, a, b, vs, h1, h2, h3⟩ := hx; exact ⟨f, a, b, vs, h1, h2, h3.mono hk⟩
  case mkm => exact fun b hb => hk _ _ (hx b hb)
  case mget => obtain ⟨b, es, cl, kv, r, h1, h2, h3, h4, h5, h6⟩ := hx; exact ⟨b, es, cl, kv, r, h1, h2, h3, h4, h5, hk _ _ h6⟩
  case mput =>
    obtain ⟨b, es, cl, kv, v, r, h1, h2, h3, h4, h5, h6, h7⟩ := hx
    refine ⟨b, es, cl, kv, v, r, h1, h2, h3, h4, h5, h6, ?_⟩
    cases r with
    | none => exact hk _ _ h7
    | some ij => exact fun kk => hk _ _ (h7 kk)
  case mlen => obtain ⟨b, es, cl, h1, h2, h3⟩ := hx; exact ⟨b, es, cl, h1, h2, hk _ _ h3⟩

/-- what a statement leaves as it was -/
structure Kp (s : S) (e e' : Env) : Prop where
  len : e'.length = e.length
  same : ∀ p, p ∉ s.wr → p ∉ s.cw → eget e' p = eget e p
  ex : ∀ p, p ∉ s.wr → (eget e p).isSome = true → (eget e' p).isSome = true

theorem Kp.put {s : S} {e : Env} {d : Option Nat} {v : Option Value} (hd : ∀ p, d = some p → p ∈ s.wr) : Kp s e (dput d v e) where
  len := dput_length _ _ _
  same p h1 _ := dput_ne fun q hq he => by subst he; exact h1 (hd q hq)
  ex p h1 h2 := by rw [dput_ne fun q hq he => by subst he; exact h1 (hd q hq)]; exact h2

theorem efgt_same : ∀ (l : List Nat) (e : Env) (p : Nat), p ∉ l → eget (efgt e l) p = eget e p
  | [], _, _, _ => rfl
  | i :: l, e, p, hp => by
    simp only [List.mem_cons, not_or] at hp
    simp only [efgt]
    rw [efgt_same l _ p hp.2, eget_eset_ne _ _ _ _ (Ne.symm hp.1)]

theorem A.keep {P : Program} {e : Env} {h : Heap} {k : Env → Heap → Prop} {g : Guard} {x : A} (hx : x.wp P k e h) : x.wp P (fun e' h' => k e' h' ∧ Kp (.act g x) e e') e h := by
  cases x <;> simp only [A.wp] at hx ⊢
  case px d x => obtain ⟨v, h1, h2⟩ := hx; exact ⟨v, h1, h2, Kp.put fun p hp => by simp [S.wr, A.wrp, hp]⟩
  case ld d a sz => obtain ⟨v, h1, h2⟩ := hx; exact ⟨v, h1, h2, Kp.put fun p hp => by simp [S.wr, A.wrp, hp]⟩
  case ex d x => exact EX.wp_mono (fun v h' ⟨h2, hle, hk⟩ => ⟨h2, hle, hk, Kp.put fun p hp => by simp [S.wr, A.wrp, hp]⟩) hx
  case pnew i x cl =>
    obtain ⟨v, h1, h2⟩ := hx
    refine ⟨v, h1, h2, by simp [efgt_length, eset_length], ?_, ?_⟩
    · intro p hp _
      simp only [S.wr, A.wrp, List.mem_cons, not_or] at hp
      rw [efgt_same _ _ _ hp.2, eget_eset_ne _ _ _ _ (Ne.symm hp.1)]
    · intro p hp hs
      simp only [S.wr, A.wrp, List.mem_cons, not_or] at hp
      rw [efgt_same _ _ _ hp.2, eget_eset_ne _ _ _ _ (Ne.symm hp.1)]
      exact hs
  case pget d c i off sz => obtain ⟨v, h1, h2⟩ := hx; exact ⟨v, h1, h2, Kp.put fun p hp => by simp [S.wr, A.wrp, hp]⟩
  case pset c i off sz x =>
    obtain ⟨h0, v, h1, h2⟩ := hx
    refine ⟨h0, v, h1, h2, eset_length _ _ _, ?_, ?_⟩
    · intro p _ hp
      simp only [S.cw, A.cwp, List.mem_singleton] at hp
      exact eget_eset_ne _ _ _ _ (Ne.symm hp)
    · intro p _ hs
      by_cases hip : i = p
      · subst hip
        have hlt : i < e.length := by
          rcases Nat.lt_or_ge i e.length with h | h
          · exact h
          · have : ∀ (e : Env) (i : Nat), e.length ≤ i → eget e i = none := by
              intro e
              induction e with
              | nil => intro i _; rfl
              | cons x t ih =>
                intro i hi
                cases i with
                | zero => simp at hi
                | succ i => exact ih i (by simpa using hi)
            rw [this e i h] at hs
            simp at hs
        rcases eget_eset_same e i (some v) with g | g
        · rw [g]; rfl
        · have h3 : eset (eset e i (some v)) i (some v) = eset e i (some v) := eset_eset _ _ _
          rw [eset_self_iff] at h3
          rw [h3 (by rw [eset_length]; exact hlt)]
          rfl
      · rw [eget_eset_ne _ _ _ _ hip]; exact hs
  case als d c i => obtain ⟨h1, h2, h3⟩ := hx; exact ⟨h1, h2, h3, Kp.put (d := some d) fun p hp => by simp at hp; simp [S.wr, A.wrp, hp]⟩
  case psl d z ps => obtain ⟨cs, h1, h2⟩ := hx; exact ⟨cs, h1, h2, Kp.put (d := some d) fun p hp => by simp at hp; simp [S.wr, A.wrp, hp]⟩

theorem S.keep {P : Program} {e : Env} {h : Heap} {k : Env → Heap → Prop} {g : Guard} {x : A} (hw : (S.act g x).wp P k e h) : (S.act g x).wp P (fun e' h' => k e' h' ∧ Kp (.act g x) e e') e h := by
  cases g with
  | none => simp only [S.wp] at hw ⊢; exact A.keep hw
  | some gg =>
    simp only [S.wp] at hw ⊢
    obtain ⟨b, hb, hw⟩ := hw
    refine ⟨b, hb, ?_⟩
    cases hv : x.val e h with
    | some dv =>
      obtain ⟨d, v⟩ := dv
      simp only [hv] at hw ⊢
      refine ⟨hw.1, hw.2, Kp.put fun p hp => ?_⟩
      cases x <;> simp only [A.val, Option.some.injEq, Prod.mk.injEq, reduceCtorEq] at hv
      · simp [S.wr, A.wrp, hv.1, hp]
      · simp [S.wr, A.wrp, hv.1, hp]
      · simp [S.wr, A.wrp, hv.1, hp]
    | none =>
      simp only [hv] at hw ⊢
      refine ⟨fun hb => A.keep (hw.1 hb), fun hb => ⟨hw.2 hb, Kp.put fun p hp => ?_⟩⟩
      cases x <;> simp only [A.dst, Option.some.injEq, reduceCtorEq] at hp <;> simp [S.wr, A.wrp, hp]

/- what stands ahead of an operation -/

theorem beforeOf_spec : ∀ (l : List Oper) (acc : List Nat), (beforeOf l acc).take acc.length = acc ∧ (beforeOf l acc).length = acc.length + l.length ∧
    ∀ i (hi : i < l.length), (beforeOf l acc)[acc.length + i]? = some (l[i].after.foldl (fun s e => if Region.binds .any e then s ||| 2 ^ e.on ||| ((beforeOf l acc).take (acc.length + i)).getD e.on 0 else s) 0)
  | [], acc => by simp [beforeOf]
  | o :: r, acc => by
    obtain ⟨h1, h2, h3⟩ := beforeOf_spec r (acc ++ [o.after.foldl (fun s e => if Region.binds .any e then s ||| 2 ^ e.on ||| acc.getD e.on 0 else s) 0])
    simp only [beforeOf]
    have h1' : (beforeOf r (acc ++ [o.after.foldl (fun s e => if Region.binds .any e then s ||| 2 ^ e.on ||| acc.getD e.on 0 else s) 0])).take acc.length = acc := by
      have := congrArg (List.take acc.length) h1
      rw [List.take_take] at this
      simpa using this
    refine ⟨h1', by rw [h2]; simp; omega, ?_⟩
    intro i hi
    cases i with
    | zero =>
      simp only [Nat.add_zero, List.getElem_cons_zero, h1']
      have := congrArg (fun l : List Nat => l[acc.length]?) h1
      simp only [List.length_append, List.length_cons, List.length_nil] at this
      rw [List.getElem?_take] at this
      simpa using this
    | succ i =>
      have := h3 i (by simpa using hi)
      simp only [List.length_append, List.length_cons, List.length_nil] at this
      rw [show acc.length + (0 + 1) + i = acc.length + (i + 1) by omega] at this
      simpa using this

theorem foldl_bits (g : Nat → Nat) : ∀ (l : List Edge) (s j : Nat), (l.foldl (fun s e => if Region.binds .any e then s ||| 2 ^ e.on ||| g e.on else s) s).testBit j = true →
    s.testBit j = true ∨ ∃ e ∈ l, Region.binds .any e = true ∧ (e.on = j ∨ (g e.on).testBit j = true)
  | [], s, j, h => .inl h
  | x :: l, s, j, h => by
    simp only [List.foldl_cons] at h
    rcases foldl_bits g l _ j h with h | ⟨e, he, hb⟩
    · split at h
      · rename_i hx
        simp only [Nat.testBit_or, Bool.or_eq_true, Nat.testBit_two_pow, decide_eq_true_eq] at h
        rcases h with (h | h) | h
        · exact .inl h
        · exact .inr ⟨x, by simp, hx, .inl h⟩
        · exact .inr ⟨x, by simp, hx, .inr h⟩
      · exact .inl h
    · exact .inr ⟨e, by simp [he], hb⟩

/-- closed: whoever is in has all in that stand ahead -/
def Closed (ops : Array Oper) (F : Nat → Prop) : Prop := ∀ i o, ops[i]? = some o → F i → ∀ e ∈ o.after.toList, Region.binds .any e = true → F e.on

theorem before_sub {ops : Array Oper} {F : Nat → Prop} (hF : Closed ops F) (hedge : ∀ i o, ops[i]? = some o → ∀ e ∈ o.after.toList, Region.binds .any e = true → e.on < i) :
    ∀ i o, ops[i]? = some o → (∀ e ∈ o.after.toList, Region.binds .any e = true → F e.on) → ∀ j, (((beforeOf ops.toList []).toArray).getD i 0).testBit j = true → F j := by
  intro i
  induction i using Nat.strongRecOn with
  | _ i ih =>
    intro o ho hpre j hj
    obtain ⟨_, h2, h3⟩ := beforeOf_spec ops.toList []
    have hi : i < ops.toList.length := by simpa using (Array.getElem?_eq_some_iff.1 ho).1
    have hoi : ops.toList[i] = o := by
      have := (Array.getElem?_eq_some_iff.1 ho).2
      simpa using this
    have h3 := h3 i hi
    simp only [List.length_nil, Nat.zero_add, hoi] at h3
    rw [Array.getD_eq_getD_getElem?, List.getElem?_toArray, h3] at hj
    simp only [Option.getD_some] at hj
    rw [← Array.foldl_toList] at hj
    rcases foldl_bits (fun x => ((beforeOf ops.toList []).take i).getD x 0) o.after.toList 0 j hj with h | ⟨e, he, hb, h⟩
    · simp at h
    · have hlt := hedge i o ho e he hb
      rcases h with h | h
      · subst h; exact hpre e he hb
      · have hin : e.on < ops.size := by
          have : i < ops.size := by simpa using hi
          omega
        refine ih e.on hlt ops[e.on] (Array.getElem?_eq_getElem hin) (fun e' he' hb' => hF e.on _ (Array.getElem?_eq_getElem hin) (hpre e he hb) e' he' hb') j ?_
        rw [Array.getD_eq_getD_getElem?, List.getElem?_toArray]
        simp only [List.getD_eq_getElem?_getD, List.getElem?_take, hlt, if_true] at h
        exact h

end Go.Proofs.Ytfhjclhchbagnaa
