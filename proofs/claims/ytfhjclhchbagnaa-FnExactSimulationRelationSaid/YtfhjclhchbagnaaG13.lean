/-
  A region that draws its order: the proof.
-/
import Derived.Test.YtfhjclhchbagnaaG12
namespace Go.Proofs.Ytfhjclhchbagnaa
open Go
set_option linter.all false
set_option linter.unusedVariables false
set_option linter.unusedSimpArgs false
set_option linter.defProp false

theorem itsFrom_mem {P : Program} {lay : Lay} {n : Nat} {ops : Array Oper} {b : Array Nat} : ∀ {l : List Oper} {i0 : Nat} {x : It}, x ∈ itsFrom P lay n ops b l i0 → ∃ j o, l[j]? = some o ∧ x = itOf P lay n ops b (i0 + j) o
  | [], _, _, h => by simp [itsFrom] at h
  | o :: r, i0, x, h => by
    simp only [itsFrom, List.mem_cons] at h
    rcases h with rfl | h
    · exact ⟨0, o, rfl, rfl⟩
    · obtain ⟨j, o', h1, h2⟩ := itsFrom_mem h
      exact ⟨j + 1, o', by simpa using h1, by rw [h2]; congr 1; omega⟩
theorem itsFrom_of {P : Program} {lay : Lay} {n : Nat} {ops : Array Oper} {b : Array Nat} : ∀ {l : List Oper} {i0 j : Nat} {o : Oper}, l[j]? = some o → itOf P lay n ops b (i0 + j) o ∈ itsFrom P lay n ops b l i0
  | [], _, _, _, h => by simp at h
  | o' :: r, i0, 0, o, h => by simp at h; subst h; simp [itsFrom]
  | o' :: r, i0, j + 1, o, h => by
    have := itsFrom_of (P := P) (lay := lay) (n := n) (ops := ops) (b := b) (l := r) (i0 := i0 + 1) (j := j) (o := o) (by simpa using h)
    rw [show i0 + 1 + j = i0 + (j + 1) by omega] at this
    simp [itsFrom, this]

/-- the items of a region -/
def itsR (P : Program) (lay : Lay) (n : Nat) (ops : Array Oper) : List It := itsFrom P lay n ops (beforeOf ops.toList []).toArray ops.toList 0

section
variable {P : Program} {lay : Lay} {n : Nat} {ops : Array Oper}

theorem its_of {i : Nat} {o : Oper} (ho : ops[i]? = some o) : itOf P lay n ops (beforeOf ops.toList []).toArray i o ∈ itsR P lay n ops := by
  have := itsFrom_of (P := P) (lay := lay) (n := n) (ops := ops) (b := (beforeOf ops.toList []).toArray) (l := ops.toList) (i0 := 0) (j := i) (o := o) (by simpa using ho)
  simpa [itsR] using this
theorem its_mem {x : It} (hx : x ∈ itsR P lay n ops) : ∃ o, ops[x.i]? = some o ∧ x = itOf P lay n ops (beforeOf ops.toList []).toArray x.i o := by
  obtain ⟨j, o, h1, h2⟩ := itsFrom_mem hx
  have hi : x.i = j := by rw [h2]; simp [itOf]
  refine ⟨o, by rw [hi]; simpa using h1, ?_⟩
  rw [hi, h2]
  simp
theorem its_inj {x y : It} (hx : x ∈ itsR P lay n ops) (hy : y ∈ itsR P lay n ops) (h : x.i = y.i) : x = y := by
  obtain ⟨o, h1, h2⟩ := its_mem hx
  obtain ⟨o', h3, h4⟩ := its_mem hy
  rw [h] at h1
  rw [h1] at h3
  simp only [Option.some.injEq] at h3
  subst h3
  rw [h2, h4, h]

theorem edge_of (hk : drawOk n ops (itsR P lay n ops) = true) : ∀ i o, ops[i]? = some o → ∀ e ∈ o.after.toList, Region.binds .any e = true → e.on < i := by
  intro i o ho e he hb
  have := List.all_eq_true.1 hk _ (its_of ho)
  simp only [Bool.and_eq_true] at this
  have h1 := this.1.1
  simp only [edgesOk, itOf, ho] at h1
  rw [← Array.all_toList] at h1
  have := List.all_eq_true.1 h1 e he
  rw [hb] at this
  simp only [Bool.not_true, Bool.false_or] at this
  exact of_decide_eq_true this

theorem pair_of (hk : drawOk n ops (itsR P lay n ops) = true) {x y : It} (hx : x ∈ itsR P lay n ops) (hy : y ∈ itsR P lay n ops) : pairOk n x y = true := by
  have := List.all_eq_true.1 hk _ hx
  simp only [Bool.and_eq_true] at this
  exact List.all_eq_true.1 this.2 _ hy

theorem wr_ds (hk : drawOk n ops (itsR P lay n ops) = true) {x : It} (hx : x ∈ itsR P lay n ops) {p : Nat} (hp : p ∈ x.wr) : p ∈ x.ds := by
  have := List.all_eq_true.1 hk _ hx
  simp only [Bool.and_eq_true] at this
  simpa using List.all_eq_true.1 this.1.2 _ hp

theorem mem_meets {a b : List Nat} {p : Nat} (ha : p ∈ a) (hb : p ∈ b) : p ∈ meets a b := by
  simp [meets, ha, hb]

/-- two operations that touch one place stand in an order -/
theorem touch_cases (hk : drawOk n ops (itsR P lay n ops) = true) {x y : It} (hx : x ∈ itsR P lay n ops) (hy : y ∈ itsR P lay n ops) (hne : x.i ≠ y.i) {p : Nat} (hp : p ∈ touch x y) :
    y.before.testBit x.i = true ∨ (x.eff = true ∧ p < n ∧ x.before.testBit y.i = true) := by
  have := pair_of hk hx hy
  simp only [pairOk, if_neg hne, Bool.or_eq_true, Bool.and_eq_true] at this
  rcases this with (h | h) | ⟨⟨h1, h2⟩, h3⟩
  · rw [List.isEmpty_iff] at h; rw [h] at hp; simp at hp
  · exact .inl h
  · exact .inr ⟨h1, by simpa using List.all_eq_true.1 h2 p hp, h3⟩

theorem self_cases (hk : drawOk n ops (itsR P lay n ops) = true) {x : It} (hx : x ∈ itsR P lay n ops) {p : Nat} (hp : p ∈ x.wr) (hp' : p ∈ x.rd ∨ p ∈ x.op) : x.eff = true ∧ p < n := by
  have := pair_of hk hx hx
  simp only [pairOk, if_true] at this
  have := List.all_eq_true.1 this p (mem_meets hp (List.mem_append.2 hp'))
  simpa using this

def Unl (listed : Array Bool) (i : Nat) : Prop := listed.getD i false = false
def Lst (listed : Array Bool) (i : Nat) : Prop := listed.getD i false = true

theorem dstPos_wr {o : Oper} {p : Nat} : p ∈ dstPos lay o ↔ Wr lay o p := by
  unfold dstPos Wr
  constructor
  · intro h
    split at h
    · rename_i t ht
      split at h
      · rename_i i k hi
        simp only [List.mem_singleton] at h
        subst h
        exact ⟨t, k, ht, hi⟩
      · simp at h
    · simp at h
  · rintro ⟨t, k, h1, h2⟩
    simp [h1, h2]

/-- the places of which the state speaks -/
def LL (lay : Lay) (ops : Array Oper) (n : Nat) (listed : Array Bool) (D : Nat) (p : Nat) : Prop := ∀ i o, ops[i]? = some o → Wr lay o p → Lst listed i ∨ (p < n ∧ D.testBit i = false)

structure Inv (P : Program) (lay : Lay) (n : Nat) (ops : Array Oper) (listed : Array Bool) (D : Nat) (past : List It) (e : Env) (h : Heap) : Prop where
  sz : listed.size = ops.size
  sub : ∀ i o, ops[i]? = some o → Lst listed i → D.testBit i = true
  clS : Closed ops (Lst listed)
  clD : Closed ops fun i => D.testBit i = true
  effS : ∀ x ∈ itsR P lay n ops, x.eff = true → D.testBit x.i = true → Lst listed x.i
  idem : ∀ x ∈ itsR P lay n ops, x.eff = false → D.testBit x.i = true → Unl listed x.i → Idem x.s e h
  past : ∀ x ∈ itsR P lay n ops, x.eff = false → D.testBit x.i = true → x ∈ past

theorem isN_of {x : It} (hx : x ∈ itsR P lay n ops) (he : x.eff = false) : isN x.s = true := by
  obtain ⟨o, _, h⟩ := its_mem hx
  rw [h] at he ⊢
  simp only [itOf, isEff, Bool.or_eq_false_iff, Bool.not_eq_false'] at he ⊢
  exact he.1

theorem it_rd {x : It} (hx : x ∈ itsR P lay n ops) : x.rd = x.s.rd ∧ (∀ p ∈ x.s.wk, p ∈ x.op) ∧ (∀ p ∈ x.s.wr, p ∈ x.wr) ∧ x.cw = x.s.cw := by
  obtain ⟨o, _, h⟩ := its_mem hx
  rw [h]
  exact ⟨rfl, fun p hp => by simp [itOf] at hp ⊢; simp [hp], fun p hp => by simp [itOf] at hp ⊢; simp [hp], rfl⟩

theorem in_touch_wr {x y : It} {p : Nat} (h1 : p ∈ x.wr) (h2 : p ∈ y.rd ∨ p ∈ y.op ∨ p ∈ y.wr ∨ p ∈ y.cw) : p ∈ touch x y := by
  unfold touch
  refine List.mem_append.2 (.inl (mem_meets h1 ?_))
  simp only [List.mem_append]
  rcases h2 with h | h | h | h <;> simp [h]
theorem in_touch_cw {x y : It} {p : Nat} (h1 : p ∈ x.cw) (h2 : p ∈ y.rd ∨ p ∈ y.wr ∨ p ∈ y.cw) : p ∈ touch x y := by
  unfold touch
  refine List.mem_append.2 (.inr (mem_meets h1 ?_))
  simp only [List.mem_append]
  rcases h2 with h | h | h <;> simp [h]

theorem ready_iff {d : Nat} {i : Nat} {o : Oper} (ho : ops[i]? = some o) : readyIt d ops i = true ↔ ∀ e ∈ o.after.toList, Region.binds .any e = true → d.testBit e.on = true := by
  unfold readyIt
  rw [ho]
  simp only
  rw [← Array.all_toList, List.all_eq_true]
  constructor
  · intro h e he hb
    have := h e he
    simpa [hb] using this
  · intro h e he
    cases hb : Region.binds .any e
    · simp
    · simp [h e he hb]

theorem testBit_set (d i j : Nat) : (d ||| 2 ^ i).testBit j = (d.testBit j || decide (i = j)) := by
  rw [Nat.testBit_or, Nat.testBit_two_pow]

/-- what has no effect is done: in the text's order, as far as it can be -/
theorem advance (hk : drawOk n ops (itsR P lay n ops) = true) {k : Env → Heap → Prop} {h : Heap} {listed : Array Bool} {T : Pl} : ∀ (rest : List It) (d : Nat) (e : Env), (∀ x ∈ rest, x ∈ itsR P lay n ops) →
    (∀ x ∈ itsR P lay n ops, x.eff = false → d.testBit x.i = true → Unl listed x.i → Idem x.s e h) → (Closed ops fun i => d.testBit i = true) →
    (stepsP (freeOf ops rest d).1 T).wp P k e h →
    ∃ e2, T.wp P k e2 h ∧ e2.length = e.length ∧ (∀ p, (∀ y ∈ (freeOf ops rest d).1, p ∉ y.s.wr) → eget e2 p = eget e p) ∧
      (∀ x ∈ itsR P lay n ops, x.eff = false → (freeOf ops rest d).2.testBit x.i = true → Unl listed x.i → Idem x.s e2 h) ∧
      (Closed ops fun i => (freeOf ops rest d).2.testBit i = true) ∧
      (∀ i, d.testBit i = true → (freeOf ops rest d).2.testBit i = true) ∧
      (∀ i, (freeOf ops rest d).2.testBit i = true → d.testBit i = true ∨ ∃ y ∈ (freeOf ops rest d).1, y.i = i) ∧
      (∀ y ∈ (freeOf ops rest d).1, y ∈ rest ∧ y.eff = false ∧ d.testBit y.i = false ∧ (freeOf ops rest d).2.testBit y.i = true)
  | [], d, e, _, hidem, hcl, hw => by
    simp only [freeOf, stepsP] at hw ⊢
    exact ⟨e, hw, rfl, fun _ _ => rfl, hidem, hcl, fun _ h => h, fun _ h => .inl h, by simp⟩
  | x :: r, d, e, hrest, hidem, hcl, hw => by
    have hrest' : ∀ y ∈ r, y ∈ itsR P lay n ops := fun y hy => hrest y (by simp [hy])
    by_cases hc : (!x.eff && !d.testBit x.i && readyIt d ops x.i) = true
    · simp only [Bool.and_eq_true, Bool.not_eq_true'] at hc
      have hfr : freeOf ops (x :: r) d = (x :: (freeOf ops r (d ||| 2 ^ x.i)).1, (freeOf ops r (d ||| 2 ^ x.i)).2) := by
        simp only [freeOf, hc.1.1, hc.1.2, hc.2, Bool.not_false, Bool.and_self, if_true]
      rw [hfr] at hw ⊢
      simp only [stepsP, Pl.wp] at hw
      have hxm := hrest x (by simp)
      obtain ⟨o, ho, hxo⟩ := its_mem hxm
      have hN := isN_of hxm hc.1.1
      obtain ⟨dd, v, hv, hk1⟩ := (nwp hN).1 hw
      have hwr : ∀ p, dd = some p → p ∈ x.wr := fun p hp => (it_rd hxm).2.2.1 p (nv_wr hN hv p hp)
      have hready := (ready_iff ho).1 hc.2
      -- the others are not touched
      have hoth : ∀ y ∈ itsR P lay n ops, y.eff = false → d.testBit y.i = true → ∀ p, dd = some p → p ∉ y.rd ∧ p ∉ y.op ∧ p ∉ y.wr := by
        intro y hy hye hyd p hp
        have hne : x.i ≠ y.i := fun he => by rw [he, hyd] at hc; simp at hc
        have hno : p ∉ touch x y := by
          intro ht
          rcases touch_cases hk hxm hy hne ht with h1 | ⟨h1, _, _⟩
          · obtain ⟨o', ho', hyo⟩ := its_mem hy
            have : d.testBit x.i = true := by
              refine before_sub hcl (edge_of hk) y.i o' ho' (fun e he hb => hcl y.i o' ho' hyd e he hb) x.i ?_
              rw [hyo] at h1
              simpa [itOf] using h1
            rw [hc.1.2] at this
            simp at this
          · rw [hc.1.1] at h1; simp at h1
        exact ⟨fun h => hno (in_touch_wr (hwr p hp) (.inl h)), fun h => hno (in_touch_wr (hwr p hp) (.inr (.inl h))), fun h => hno (in_touch_wr (hwr p hp) (.inr (.inr (.inl h))))⟩
      have hidem1 : ∀ y ∈ itsR P lay n ops, y.eff = false → (d ||| 2 ^ x.i).testBit y.i = true → Unl listed y.i → Idem y.s (dput dd v e) h := by
        intro y hy hye hyd hyu
        rw [testBit_set] at hyd
        by_cases hxy : x.i = y.i
        · have := its_inj hxm hy hxy
          subst this
          refine Idem.self hN hv fun p hp => ?_
          have hpw := (it_rd hxm).2.2.1 p hp
          refine ⟨fun hr => ?_, fun hr => ?_⟩
          · have := (self_cases hk hxm hpw (.inl (by rw [(it_rd hxm).1]; exact hr))).1
            rw [hc.1.1] at this; simp at this
          · have := (self_cases hk hxm hpw (.inr ((it_rd hxm).2.1 p hr))).1
            rw [hc.1.1] at this; simp at this
        · have hyd' : d.testBit y.i = true := by simpa [hxy] using hyd
          have hyN := isN_of hy hye
          have hsame : ∀ p, (p ∈ y.s.rd ∨ p ∈ y.s.wk ∨ p ∈ y.s.wr) → eget (dput dd v e) p = eget e p := by
            intro p hp
            refine dput_ne fun q hq he => ?_
            subst he
            obtain ⟨g1, g2, g3⟩ := hoth y hy hye hyd' q hq
            rcases hp with hp | hp | hp
            · exact g1 (by rw [(it_rd hy).1]; exact hp)
            · exact g2 ((it_rd hy).2.1 q hp)
            · exact g3 ((it_rd hy).2.2.1 q hp)
          refine (hidem y hy hye hyd' hyu).congr hyN (dput_length _ _ _) (fun p hp => (hsame p (.inl hp)).symm) (fun p hp hs => by rw [hsame p (.inr (.inl hp))]; exact hs) (fun p hp => (hsame p (.inr (.inr hp))).symm) ?_
          unfold LdSame
          split
          · rename_i g d' a sz hs
            intro _
            congr 1
            apply oget_congr
            intro p hp
            exact hsame p (.inl (by rw [hs]; simp [S.rd, A.rd, hp]))
          · trivial
      have hcl1 : Closed ops fun i => (d ||| 2 ^ x.i).testBit i = true := by
        intro i o' ho' hi e' he' hb
        simp only [testBit_set] at hi ⊢
        by_cases hxi : x.i = i
        · subst hxi
          rw [ho] at ho'
          simp only [Option.some.injEq] at ho'
          subst ho'
          simp [hready e' he' hb]
        · simp only [hxi, decide_false, Bool.or_false] at hi
          simp [hcl i o' ho' hi e' he' hb]
      obtain ⟨e2, g1, g2, g3, g4, g5, g6, g7, g8⟩ := advance hk r (d ||| 2 ^ x.i) (dput dd v e) hrest' hidem1 hcl1 hk1
      refine ⟨e2, g1, g2.trans (dput_length _ _ _), ?_, g4, g5, ?_, ?_, ?_⟩
      · intro p hp
        rw [g3 p fun y hy => hp y (by simp [hy]), dput_ne]
        intro q hq he
        subst he
        exact hp x (by simp) (nv_wr hN hv q hq)
      · intro i hi; exact g6 i (by rw [testBit_set, hi]; rfl)
      · intro i hi
        rcases g7 i hi with h1 | ⟨y, hy, h1⟩
        · rw [testBit_set] at h1
          simp only [Bool.or_eq_true, decide_eq_true_eq] at h1
          rcases h1 with h1 | h1
          · exact .inl h1
          · exact .inr ⟨x, by simp, h1⟩
        · exact .inr ⟨y, by simp [hy], h1⟩
      · intro y hy
        rcases List.mem_cons.1 hy with rfl | hy
        · exact ⟨by simp, hc.1.1, hc.1.2, g6 y.i (by rw [testBit_set]; simp)⟩
        · obtain ⟨q1, q2, q3, q4⟩ := g8 y hy
          rw [testBit_set] at q3
          simp only [Bool.or_eq_false_iff] at q3
          exact ⟨by simp [q1], q2, q3.1, q4⟩
    · have hfr : freeOf ops (x :: r) d = freeOf ops r d := by
        simp only [freeOf, hc, Bool.false_eq_true, if_false]
      rw [hfr] at hw ⊢
      obtain ⟨e2, g1, g2, g3, g4, g5, g6, g7, g8⟩ := advance hk r d e hrest' hidem hcl hw
      exact ⟨e2, g1, g2, g3, g4, g5, g6, g7, fun y hy => by obtain ⟨q1, q2, q3⟩ := g8 y hy; exact ⟨by simp [q1], q2, q3⟩⟩

theorem again_spec {k : Env → Heap → Prop} {e : Env} {h : Heap} {x : It} {T : Pl} : ∀ {past : List It}, (againP x past T).wp P k e h → T.wp P k e h ∧
    ∀ y ∈ past, ∀ g d a sz, y.s = .act g (.ld d a sz) → x.before.testBit y.i = false → ∃ p, d = some p ∧ ∃ b, gcond e g = some b ∧ (b = true → hload h (a.get e) sz = eget e p)
  | [], hw => ⟨hw, by simp⟩
  | y :: r, hw => by
    have hstuck : ∀ (k : Env → Heap → Prop), (Pl.st (stuckS none) .done).wp P k e h → False := by
      intro k hs
      simp [Pl.wp, stuckS, stuckA, S.wp, A.wp, PX.ev, O.get, undef] at hs
    simp only [againP] at hw
    split at hw
    · rename_i g d a sz hs
      split at hw
      · rename_i hb
        obtain ⟨h1, h2⟩ := again_spec hw
        refine ⟨h1, fun z hz g' d' a' sz' hzs hzb => ?_⟩
        rcases List.mem_cons.1 hz with rfl | hz
        · rw [hb] at hzb; simp at hzb
        · exact h2 z hz g' d' a' sz' hzs hzb
      · simp only [Pl.wp] at hw
        have hre : ∃ b, gcond e g = some b ∧ (b = true → hload h (a.get e) sz = eget e d) ∧ (againP x r T).wp P k e h := by
          cases g with
          | none => simp only [S.wp] at hw; exact ⟨true, rfl, fun _ => hw.1, hw.2⟩
          | some gg => simpa only [S.wp] using hw
        obtain ⟨b, hb, hbl, hw⟩ := hre
        obtain ⟨h1, h2⟩ := again_spec hw
        refine ⟨h1, fun z hz g' d' a' sz' hzs hzb => ?_⟩
        rcases List.mem_cons.1 hz with rfl | hz
        · rw [hs] at hzs
          simp only [S.act.injEq, A.ld.injEq] at hzs
          obtain ⟨rfl, rfl, rfl, rfl⟩ := hzs
          exact ⟨d, rfl, b, hb, hbl⟩
        · exact h2 z hz g' d' a' sz' hzs hzb
    · exact (hstuck _ hw).elim
    · rename_i hn1 hn2
      obtain ⟨h1, h2⟩ := again_spec hw
      refine ⟨h1, fun z hz g' d' a' sz' hzs hzb => ?_⟩
      rcases List.mem_cons.1 hz with rfl | hz
      · cases d' with
        | none => exact (hn2 _ _ _ hzs).elim
        | some p => exact (hn1 _ _ _ _ hzs).elim
      · exact h2 z hz g' d' a' sz' hzs hzb

theorem both_mem {k : Env → Heap → Prop} {e : Env} {h : Heap} {p : Pl} : ∀ {l : List Pl}, (bothP l).wp P k e h → p ∈ l → p.wp P k e h
  | [], _, hp => by simp at hp
  | [q], hw, hp => by simp at hp; subst hp; exact hw
  | q :: q' :: r, hw, hp => by
    simp only [bothP, Pl.wp] at hw
    rcases List.mem_cons.1 hp with rfl | hp
    · exact hw.1
    · exact both_mem (l := q' :: r) hw.2 hp

end
end Go.Proofs.Ytfhjclhchbagnaa
