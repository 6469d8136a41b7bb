/-
  Whole functions: from the small language's condition to the model's contract of the call.
-/
import Derived.Test.YtfhjclhchbagnaaG14
namespace Go.Proofs.Ytfhjclhchbagnaa
open Go
set_option linter.all false
set_option linter.unusedVariables false
set_option linter.unusedSimpArgs false
set_option linter.defProp false

theorem exists_least {p : Nat → Prop} (h : ∃ m, p m) : ∃ m, p m ∧ ∀ k, p k → m ≤ k := by
  obtain ⟨m, hm⟩ := h
  induction m using Nat.strongRecOn with
  | _ m ih =>
    by_cases hx : ∃ k, k < m ∧ p k
    · obtain ⟨k, hk, hp⟩ := hx
      exact ih k hk hp
    · refine ⟨m, hm, fun k hk => ?_⟩
      rcases Nat.lt_or_ge k m with h | h
      · exact absurd ⟨k, h, hk⟩ hx
      · exact h

theorem layOf_prefix {P : Program} {ops : Array Oper} : ∀ (l : List Oper) (lay : Lay), ∃ r, layOf P ops lay l = lay ++ r
  | [], lay => ⟨[], by simp [layOf]⟩
  | o :: l, lay => by
    simp only [layOf]
    split
    · exact layOf_prefix l lay
    · rename_i t _
      split
      · exact layOf_prefix l lay
      · obtain ⟨r, hr⟩ := layOf_prefix (P := P) (ops := ops) l (lay ++ [(t, kndOf P lay ops t o)])
        exact ⟨_, by rw [hr, List.append_assoc]⟩

theorem distinctN_get : ∀ {l : List Nat}, distinctN l = true → ∀ (i j t : Nat), l[i]? = some t → l[j]? = some t → i = j
  | [], _, i, j, t, h, _ => by simp at h
  | a :: l, hd, 0, 0, t, _, _ => rfl
  | a :: l, hd, 0, j + 1, t, h1, h2 => by
    simp only [distinctN, Bool.and_eq_true, Bool.not_eq_true'] at hd
    simp at h1 h2
    subst h1
    have := List.mem_of_getElem? h2
    simp [this] at hd
  | a :: l, hd, i + 1, 0, t, h1, h2 => by
    simp only [distinctN, Bool.and_eq_true, Bool.not_eq_true'] at hd
    simp at h1 h2
    subst h2
    have := List.mem_of_getElem? h1
    simp [this] at hd
  | a :: l, hd, i + 1, j + 1, t, h1, h2 => by
    simp only [distinctN, Bool.and_eq_true] at hd
    rw [distinctN_get hd.2 i j t (by simpa using h1) (by simpa using h2)]

theorem okLay_dist {nt : Nat} {lay : Lay} (h : okLay nt lay = true) : Dist lay := by
  intro i j t k k' h1 h2
  simp only [okLay, Bool.and_eq_true] at h
  exact distinctN_get h.1 i j t (by simp [h1]) (by simp [h2])
theorem okLay_lt {nt : Nat} {lay : Lay} (h : okLay nt lay = true) {i t : Nat} {k : Knd} (h1 : lay[i]? = some (t, k)) : t < nt := by
  simp only [okLay, Bool.and_eq_true] at h
  simpa using List.all_eq_true.1 h.2 _ (List.mem_of_getElem? h1)

theorem eget_none : ∀ (e : Env) (i : Nat), e.length ≤ i → eget e i = none
  | [], _, _ => rfl
  | _ :: _, 0, h => by simp at h
  | _ :: t, n + 1, h => eget_none t n (by simpa using h)
theorem eget_take : ∀ (e : Env) (n i : Nat), i < n → eget (e.take n) i = eget e i
  | [], _, _, _ => by simp [eget]
  | _ :: _, 0, i, h => by omega
  | _ :: _, n + 1, 0, _ => rfl
  | _ :: t, n + 1, i + 1, h => by simp only [List.take_succ_cons, eget]; exact eget_take t n i (by omega)
theorem eget_append : ∀ (e r : Env) (i : Nat), eget (e ++ r) i = if i < e.length then eget e i else eget r (i - e.length)
  | [], r, i => by simp
  | _ :: _, r, 0 => by simp [eget]
  | _ :: t, r, i + 1 => by
    simp only [List.cons_append, eget, List.length_cons, Nat.add_lt_add_iff_right]
    rw [eget_append t r i, Nat.add_sub_add_right]
theorem eget_replicate : ∀ (m i : Nat), eget (List.replicate m none) i = none
  | 0, _ => rfl
  | _ + 1, 0 => rfl
  | m + 1, i + 1 => by simp only [List.replicate_succ, eget]; exact eget_replicate m i

section
variable {P : Program} {b0 : Nat} {nt : Nat} {base : Lay}

/-- a shared state over one layout is one over its beginning, and over each layout with this beginning, if nothing is known behind it -/
theorem St.relay {lay lay' : Lay} {e e2 : Env} {h : Heap} {w : World} {a : Act} (T : St b0 lay (fun _ => True) e h w a) {r r' : Lay} (hl : lay = base ++ r) (hl' : lay' = base ++ r')
    (hsame : ∀ i, i < base.length → eget e2 i = eget e i ∨ eget e2 i = none) (hnone : ∀ i, base.length ≤ i → eget e2 i = none) (hsz : ∀ (i t : Nat) (k : Knd), lay'[i]? = some (t, k) → t < a.tmps.size) (hlen : lay'.length ≤ e2.length) :
    St b0 lay' (fun _ => True) e2 h w a := by
  obtain ⟨blk, hcov, hinj⟩ := T.cov
  have hb : ∀ i t k, lay'[i]? = some (t, k) → i < base.length → lay[i]? = some (t, k) := by
    intro i t k hi hlt
    rw [hl', List.getElem?_append_left hlt] at hi
    rw [hl, List.getElem?_append_left hlt]
    exact hi
  refine ⟨⟨blk, ?_, ?_⟩, T.sub, hsz, T.low, hlen⟩
  · intro i t k hi _
    by_cases hlt : i < base.length
    · refine (hcov i t k (hb i t k hi hlt) trivial).keep (hsame i hlt) rfl rfl (fun _ _ _ => .inr rfl) (fun _ _ _ hb => hb)
    · have := hnone i (by omega)
      cases k with
      | pl => intro v hv; rw [this] at hv; simp at hv
      | bx => intro v hv; rw [this] at hv; simp at hv
      | al j off => intro hv; rw [this] at hv; simp at hv
      | ps n => intro v hv; rw [this] at hv; simp at hv
  · intro i j _ _ ai aj hij
    have back : ∀ x, Act' lay' e2 x → Act' lay e x := by
      rintro x ⟨t, k, v, h1, h2, h3⟩
      have hlt : x < base.length := by
        rcases Nat.lt_or_ge x base.length with h | h
        · exact h
        · rw [hnone x h] at h3; simp at h3
      refine ⟨t, k, v, hb x t k h1 hlt, h2, ?_⟩
      rcases hsame x hlt with g | g
      · rw [← g]; exact h3
      · rw [g] at h3; simp at h3
    exact hinj i j trivial trivial (back i ai) (back j aj) hij

def exOf : Ex → Exit
  | .nrm => .normal
  | .exit i => .exit i
  | .ret => .ret

/-- what is known where a piece of code is left -/
def SP (b0 : Nat) (base lay : Lay) (x : Ex) (e : Env) (h : Heap) (w : World) (a : Act) : Prop :=
  match x with
  | .nrm => St b0 lay (fun _ => True) e h w a
  | _ => ∃ r, St b0 (base ++ r) (fun _ => True) e h w a

theorem SP.any {lay : Lay} {x : Ex} {e : Env} {h : Heap} {w : World} {a : Act} (hl : ∃ r, lay = base ++ r) (T : SP b0 base lay x e h w a) : ∃ r, St b0 (base ++ r) (fun _ => True) e h w a := by
  obtain ⟨r, rfl⟩ := hl
  cases x with
  | nrm => exact ⟨r, T⟩
  | _ => exact T

theorem SP.size {lay : Lay} {x : Ex} {e : Env} {h : Heap} {w : World} {a : Act} (hl : ∃ r, lay = base ++ r) (T : SP b0 base lay x e h w a) : base.length ≤ e.length ∧ ∀ (i t : Nat) (k : Knd), base[i]? = some (t, k) → t < a.tmps.size := by
  obtain ⟨r, T⟩ := T.any hl
  refine ⟨by have := T.len; simp at this; omega, fun i t k hi => T.sz i t k ?_⟩
  rw [List.getElem?_append_left (List.getElem?_eq_some_iff.1 hi).1]
  exact hi

theorem St.toBase {r : Lay} {e : Env} {h : Heap} {w : World} {a : Act} (T : St b0 (base ++ r) (fun _ => True) e h w a) : St b0 base (fun _ => True) (e.take base.length) h w a := by
  refine T.relay (base := base) (r := r) (r' := []) rfl (by simp) (fun i hi => .inl (eget_take e _ i hi)) (fun i hi => eget_none _ _ (by simp; omega)) (fun i t k hi => T.sz i t k ?_) ?_
  · rw [List.getElem?_append_left (List.getElem?_eq_some_iff.1 hi).1]; exact hi
  · have := T.len; simp at this ⊢; omega

theorem St.toBase' {r : Lay} {e : Env} {h : Heap} {w : World} {a : Act} (T : St b0 (base ++ r) (fun _ => True) e h w a) : St b0 base (fun _ => True) e h w a := by
  obtain ⟨blk, hcov, hinj⟩ := T.cov
  have hb : ∀ (i t : Nat) (k : Knd), base[i]? = some (t, k) → (base ++ r)[i]? = some (t, k) := by
    intro i t k hi
    rw [List.getElem?_append_left (List.getElem?_eq_some_iff.1 hi).1]; exact hi
  refine ⟨⟨blk, fun i t k hi hl => hcov i t k (hb i t k hi) hl, ?_⟩, T.sub, fun i t k hi => T.sz i t k (hb i t k hi), T.low, by have := T.len; simp at this; omega⟩
  intro i j hi hj ai aj hij
  have back : ∀ x, Act' base e x → Act' (base ++ r) e x := by
    rintro x ⟨t, k, v, h1, h2, h3⟩
    exact ⟨t, k, v, hb x t k h1, h2, h3⟩
  exact hinj i j hi hj (back i ai) (back j aj) hij

theorem St.weakEnv {lay : Lay} {e e2 : Env} {h : Heap} {w : World} {a : Act} (T : St b0 lay (fun _ => True) e h w a) (hs : ∀ i, eget e2 i = eget e i ∨ eget e2 i = none) (hl : e2.length = e.length) : St b0 lay (fun _ => True) e2 h w a := by
  obtain ⟨blk, hcov, hinj⟩ := T.cov
  refine ⟨⟨blk, fun i t k hi hL => (hcov i t k hi hL).keep (hs i) rfl rfl (fun _ _ _ => .inr rfl) (fun _ _ _ hb => hb), ?_⟩, T.sub, T.sz, T.low, by rw [hl]; exact T.len⟩
  intro i j hi hj ai aj hij
  have back : ∀ x, Act' lay e2 x → Act' lay e x := by
    rintro x ⟨t, k, v, h1, h2, h3⟩
    refine ⟨t, k, v, h1, h2, ?_⟩
    rcases hs x with g | g
    · rw [← g]; exact h3
    · rw [g] at h3; simp at h3
  exact hinj i j hi hj (back i ai) (back j aj) hij

theorem St.forget {lay : Lay} {e : Env} {h : Heap} {w : World} {a : Act} (T : St b0 lay (fun _ => True) e h w a) (fg : List Nat) : St b0 lay (fun _ => True) (efgt e fg) h w a :=
  T.weakEnv (fun i => eget_efgt fg e i) (efgt_length _ _)

theorem cco_lay : ∀ (c : Code) (lay : Lay) (fg : List (List Nat)), (∃ r, lay = base ++ r) → ∃ r, (cco P nt base c lay fg).2.1 = base ++ r
  | .skip, lay, fg, h => by simpa [cco] using h
  | .region _ ops draw, lay, fg, h => by
    simp only [cco]
    split
    · exact layOf_prefix _ _
    · exact ⟨[], by simp⟩
  | .seq x y, lay, fg, h => by
    simp only [cco]
    exact cco_lay y _ _ (cco_lay x lay fg h)
  | .cond c x y, lay, fg, h => by
    simp only [cco]
    split <;> exact ⟨[], by simp⟩
  | .block id x, lay, fg, h => ⟨[], by simp [cco]⟩
  | .loop x, lay, fg, h => ⟨[], by simp [cco]⟩
  | .exit id, lay, fg, h => by simpa [cco] using h
  | .ret, lay, fg, h => by simpa [cco] using h
  | .scope _, _, _, _ => ⟨[], by simp [cco]⟩
  | .label _, _, _, _ => ⟨[], by simp [cco]⟩
  | .goto _, _, _, _ => ⟨[], by simp [cco]⟩
  | .refuse _, _, _, _ => ⟨[], by simp [cco]⟩
  | .rangeFunc .., _, _, _ => ⟨[], by simp [cco]⟩

theorem stuckC_false {Q : Ex → Env → Heap → Prop} {e : Env} {h : Heap} (hs : stuckC.wp P Q e h) : False := by
  simp [stuckC, C.wp, Pl.wp, stuckS, stuckA, S.wp, A.wp, PX.ev, O.get, undef] at hs

theorem eext_get {n m : Nat} {e : Env} (hn : n ≤ e.length) (i : Nat) : eget (eext n m e) i = if i < n then eget e i else none := by
  unfold eext
  rw [eget_append]
  have : (e.take n).length = n := by simp [Nat.min_eq_left hn]
  rw [this]
  split
  · rename_i h; exact eget_take e n i h
  · exact eget_replicate _ _

/-- THE CODE -/
theorem cco_sound (hok : okLay nt base = true) : ∀ (c : Code) (lay : Lay) (fg : List (List Nat)) (Q : Ex → Env → Heap → Prop) (R : Exit → Act → World → Prop) (e : Env) (h : Heap) (w : World) (a : Act),
    (∃ r, lay = base ++ r) → St b0 lay (fun _ => True) e h w a → nt ≤ a.tmps.size → (cco P nt base c lay fg).1.wp P Q e h →
    (∀ x e' h' a' w', Q x e' h' → SP b0 base (cco P nt base c lay fg).2.1 x e' h' w' a' → FrB b0 h w h' w' → SameA a a' → R (exOf x) a' w') → c.wp P R a w
  | .skip, lay, fg, Q, R, e, h, w, a, hl, T, hnt, hw, hR => by
    simp only [cco, C.wp] at hw hR
    exact wp_skip (hR .nrm e h a w hw T (FrB.refl _ _ _) ⟨rfl, rfl⟩)
  | .exit id, lay, fg, Q, R, e, h, w, a, hl, T, hnt, hw, hR => by
    simp only [cco, C.wp] at hw hR
    obtain ⟨r, rfl⟩ := hl
    exact wp_exit (hR (.exit id) e h a w hw ⟨r, T⟩ (FrB.refl _ _ _) ⟨rfl, rfl⟩)
  | .ret, lay, fg, Q, R, e, h, w, a, hl, T, hnt, hw, hR => by
    simp only [cco, C.wp] at hw hR
    obtain ⟨r, rfl⟩ := hl
    exact wp_ret (hR .ret e h a w hw ⟨r, T⟩ (FrB.refl _ _ _) ⟨rfl, rfl⟩)
  | .region id ops draw, lay, fg, Q, R, e, h, w, a, hl, T, hnt, hw, hR => by
    simp only [cco] at hw hR
    split at hw
    case isFalse => exact (stuckC_false hw).elim
    rename_i hokr
    rw [if_pos hokr] at hR
    obtain ⟨r, rfl⟩ := hl
    obtain ⟨r', hr'⟩ := layOf_prefix (P := P) (ops := ops) ops.toList base
    have hd := okLay_dist hokr
    have hlen : base.length ≤ e.length := by have := T.len; simp at this; omega
    have T' : St b0 (layOf P ops base ops.toList) (fun _ => True) (eext base.length ((layOf P ops base ops.toList).length - base.length) e) h w a := by
      refine T.relay rfl hr' (fun i hi => .inl (by rw [eext_get hlen, if_pos hi])) (fun i hi => by rw [eext_get hlen, if_neg (by omega)]) (fun i t k hi => Nat.lt_of_lt_of_le (okLay_lt hokr hi) hnt) ?_
      rw [hr']
      simp [eext]
      omega
    simp only [C.wp, Pl.wp, S.wp] at hw
    cases draw with
    | true =>
      simp only [if_true] at hw
      exact draw_region hd T' hw fun e' h' a' w' hq T2 hF hS => hR .nrm e' h' a' w' hq T2 hF hS
    | false =>
      simp only [Bool.false_eq_true, if_false] at hw
      refine wp_region ?_
      have := seq_ops (Q := R) hd ops.toList 0 _ h w a (fun j hj => by simp) T' hw fun e' h' a' w' hq T2 hF hS => hR .nrm e' h' a' w' hq T2 hF hS
      simpa [List.range_eq_range'] using this
  | .seq x y, lay, fg, Q, R, e, h, w, a, hl, T, hnt, hw, hR => by
    simp only [cco, C.wp] at hw hR
    refine wp_seq (cco_sound hok x lay fg _ _ e h w a hl T hnt hw ?_)
    intro z e1 h1 a1 w1 hq hsp hF hS
    cases z with
    | nrm =>
      simp only [exOf, Exit.then] at hq ⊢
      refine cco_sound hok y _ _ Q R e1 h1 w1 a1 (cco_lay x lay fg hl) hsp (by rw [hS.2]; exact hnt) hq ?_
      intro z2 e2 h2 a2 w2 hq2 hsp2 hF2 hS2
      exact hR z2 e2 h2 a2 w2 hq2 hsp2 (hF.trans hF2) (hS2.trans hS)
    | exit i => exact hR (.exit i) e1 h1 a1 w1 hq hsp hF hS
    | ret => exact hR .ret e1 h1 a1 w1 hq hsp hF hS
  | .cond c x y, lay, fg, Q, R, e, h, w, a, hl, T, hnt, hw, hR => by
    simp only [cco] at hw hR
    cases ho : opr lay c with
    | none => rw [ho] at hw; exact (stuckC_false hw).elim
    | some o =>
      rw [ho] at hw hR
      simp only [C.wp] at hw
      obtain ⟨t, ht, h1, h2⟩ := hw
      obtain ⟨r, rfl⟩ := hl
      have hc : a.eval c = .bool t := by
        obtain ⟨blk, hcov, _⟩ := T.cov
        cases c with
        | tmp s =>
          simp only [opr, Option.map_eq_some_iff] at ho
          obtain ⟨i, hi, rfl⟩ := ho
          exact hcov i s .pl (lfind_spec (plainAt_spec hi)) trivial _ ht
        | const v => simp only [opr, Option.some.injEq] at ho; subst ho; simpa [O.get, Act.eval] using ht
        | global g => simp only [opr, Option.some.injEq] at ho; subst ho; simp [O.get] at ht
        | func f => simp only [opr, Option.some.injEq] at ho; subst ho; simp [O.get] at ht
      have hback : ∀ (lz : Lay), (∃ r, lz = base ++ r) → ∀ z e' h' a' w', Q z e' h' → SP b0 base lz z e' h' w' a' → FrB b0 h w h' w' → SameA a a' → R (exOf z) a' w' := by
        intro lz hlz z e' h' a' w' hq hsp hF hS
        refine hR z e' h' a' w' hq ?_ hF hS
        cases z with
        | nrm => obtain ⟨r', rfl⟩ := hlz; exact hsp.toBase'
        | exit i => exact hsp
        | ret => exact hsp
      refine wp_cond_split hc (fun htt => ?_) (fun htf => ?_)
      · exact cco_sound hok x base fg Q R _ h w a ⟨[], by simp⟩ T.toBase hnt (h1 htt) (hback _ (cco_lay x base fg ⟨[], by simp⟩))
      · exact cco_sound hok y base _ Q R _ h w a ⟨[], by simp⟩ T.toBase hnt (h2 htf) (hback _ (cco_lay y base _ ⟨[], by simp⟩))
  | .block id x, lay, fg, Q, R, e, h, w, a, hl, T, hnt, hw, hR => by
    simp only [cco, C.wp] at hw hR
    refine wp_block (cco_sound hok x lay fg _ _ e h w a hl T hnt hw ?_)
    intro z e1 h1 a1 w1 hq hsp hF hS
    obtain ⟨r, T1⟩ := hsp.any (cco_lay x lay fg hl)
    cases z with
    | nrm => exact hR .nrm e1 h1 a1 w1 hq T1.toBase' hF hS
    | exit i =>
      simp only [exOf, Exit.inBlock] at hq ⊢
      split at hq
      · rename_i hi; rw [if_pos hi]; exact hR .nrm e1 h1 a1 w1 hq T1.toBase' hF hS
      · rename_i hi; rw [if_neg hi]; exact hR (.exit i) e1 h1 a1 w1 hq ⟨r, T1⟩ hF hS
    | ret => exact hR .ret e1 h1 a1 w1 hq ⟨r, T1⟩ hF hS
  | .loop x, lay, fg, Q, R, e, h, w, a, hl, T, hnt, hw, hR => by
    simp only [cco, C.wp] at hw hR
    obtain ⟨I, ⟨m0, hI0⟩, hround⟩ := hw
    obtain ⟨r, rfl⟩ := hl
    -- the model's loop, by what the small language keeps
    let J : Nat → Act → World → Prop := fun m a1 w1 => ∃ e1 h1, I m e1 h1 ∧ St b0 base (fun _ => True) e1 h1 w1 a1 ∧ FrB b0 h w h1 w1 ∧ SameA a a1
    let μ : Act → World → Nat := fun a1 w1 => by classical exact if hx : ∃ m, J m a1 w1 then Classical.choose (exists_least hx) else 0
    have hμ : ∀ m a1 w1, J m a1 w1 → J (μ a1 w1) a1 w1 ∧ μ a1 w1 ≤ m := by
      intro m a1 w1 hJ
      have hx : ∃ m, J m a1 w1 := ⟨m, hJ⟩
      have := Classical.choose_spec (exists_least hx)
      have hm : μ a1 w1 = Classical.choose (exists_least hx) := by simp only [μ, dif_pos hx]
      rw [hm]
      exact ⟨this.1, this.2 m hJ⟩
    refine wp_loop (fun a1 w1 => ∃ m, J m a1 w1) μ ⟨m0, _, _, hI0, T.toBase.forget _, FrB.refl _ _ _, ⟨rfl, rfl⟩⟩ ?_
    rintro a1 w1 ⟨m, hJ⟩
    obtain ⟨⟨e1, h1, hI, T1, hF1, hS1⟩, _⟩ := hμ m a1 w1 hJ
    refine cco_sound hok x base fg.tail _ _ e1 h1 w1 a1 ⟨[], by simp⟩ T1 (by rw [hS1.2]; exact hnt) (hround _ _ _ hI) ?_
    intro z e2 h2 a2 w2 hq hsp hF2 hS2
    cases z with
    | nrm =>
      simp only at hq
      obtain ⟨m', hlt, hI'⟩ := hq
      simp only [exOf, Exit.then]
      obtain ⟨r2, T2⟩ := hsp.any (cco_lay x base fg.tail ⟨[], by simp⟩)
      have hJ2 : J m' a2 w2 := ⟨_, h2, hI', T2.toBase.forget _, hF1.trans hF2, hS2.trans hS1⟩
      exact ⟨⟨m', hJ2⟩, Nat.lt_of_le_of_lt (hμ m' a2 w2 hJ2).2 hlt⟩
    | exit i =>
      exact hR (.exit i) e2 h2 a2 w2 hq (hsp.any (cco_lay x base fg.tail ⟨[], by simp⟩)) (hF1.trans hF2) (hS2.trans hS1)
    | ret =>
      exact hR .ret e2 h2 a2 w2 hq (hsp.any (cco_lay x base fg.tail ⟨[], by simp⟩)) (hF1.trans hF2) (hS2.trans hS1)
  | .scope _, lay, fg, Q, R, e, h, w, a, hl, T, hnt, hw, hR => (stuckC_false (by simpa [cco] using hw)).elim
  | .label _, lay, fg, Q, R, e, h, w, a, hl, T, hnt, hw, hR => (stuckC_false (by simpa [cco] using hw)).elim
  | .goto _, lay, fg, Q, R, e, h, w, a, hl, T, hnt, hw, hR => (stuckC_false (by simpa [cco] using hw)).elim
  | .refuse _, lay, fg, Q, R, e, h, w, a, hl, T, hnt, hw, hR => (stuckC_false (by simpa [cco] using hw)).elim
  | .rangeFunc .., lay, fg, Q, R, e, h, w, a, hl, T, hnt, hw, hR => (stuckC_false (by simpa [cco] using hw)).elim

/- functions -/

theorem parsOk_spec : ∀ {n i : Nat} {l : List (Nat × Bool)}, parsOk n i l = true → n ≤ l.length ∧ ∀ j, j < n → l[j]? = some (i + j, false)
  | 0, _, _, _ => ⟨Nat.zero_le _, fun j hj => by omega⟩
  | n + 1, i, [], h => by simp [parsOk] at h
  | n + 1, i, (t, b) :: r, h => by
    simp only [parsOk, Bool.and_eq_true, beq_iff_eq, Bool.not_eq_true'] at h
    obtain ⟨⟨h1, h2⟩, h3⟩ := h
    obtain ⟨g1, g2⟩ := parsOk_spec h3
    refine ⟨by simp; omega, fun j hj => ?_⟩
    cases j with
    | zero => simp [h1, h2]
    | succ j =>
      have := g2 j (by omega)
      rw [List.getElem?_cons_succ, this]
      congr 2
      omega

theorem env0_get {args : List Value} {n i : Nat} : eget (env0 args n) i = args[i]? := by
  unfold env0
  rw [eget_append]
  simp only [List.length_map]
  split
  · rename_i h
    have : ∀ (l : List Value) (i : Nat), i < l.length → eget (l.map some) i = l[i]? := by
      intro l
      induction l with
      | nil => intro i hi; simp at hi
      | cons x l ih =>
        intro i hi
        cases i with
        | zero => rfl
        | succ i => simp only [List.map_cons, eget, List.getElem?_cons_succ]; exact ih i (by simpa using hi)
    exact this args i h
  · rename_i h
    rw [eget_replicate, List.getElem?_eq_none (by omega)]

def resM (tmps : Array Value) : ResultVar → Sem Value
  | .tmp t => pure (tmps.getD t undef)
  | .cell s t => do loadVar t (← asAddr (tmps.getD s undef))

theorem cres_run {lay : Lay} {e : Env} {h : Heap} {w : World} {a : Act} (T : St b0 lay (fun _ => True) e h w a) : ∀ {l : List ResultVar} {r : List (Nat × Option (Option Nat))} {vs : List Value}, cres P lay l = some r → resV e r = some vs →
    (l.mapM (resM a.tmps)).run P w = .ok vs w
  | [], r, vs, h1, h2 => by simp [cres] at h1; subst h1; simp [resV] at h2; simp [h2]
  | .tmp t :: l, r, vs, h1, h2 => by
    simp only [cres] at h1
    split at h1
    · rename_i i r' hi hr
      simp only [Option.some.injEq] at h1
      subst h1
      simp only [resV] at h2
      split at h2
      · rename_i v vs' hv hvs
        simp only [Option.some.injEq] at h2
        subst h2
        obtain ⟨blk, hcov, _⟩ := T.cov
        have : a.tmps.getD t undef = v := hcov i t .pl (lfind_spec (plainAt_spec hi)) trivial v hv
        have ih := cres_run T hr hvs
        simp only [List.mapM_cons, resM, Sem.run_bind, Sem.run_pure, Result.andThen_ok, this]
        rw [ih]
        rfl
      · simp at h2
    · simp at h1
  | .cell s t :: l, r, vs, h1, h2 => by
    simp only [cres] at h1
    split at h1
    · rename_i i sz r' hi hsz hr
      simp only [Option.some.injEq] at h1
      subst h1
      simp only [resV] at h2
      split at h2
      · rename_i v vs' hv hvs
        simp only [Option.some.injEq] at h2
        subst h2
        obtain ⟨blk, hcov, _⟩ := T.cov
        cases hg : eget e i with
        | none => rw [hg] at hv; simp [pgetV] at hv
        | some u =>
          rw [hg] at hv
          obtain ⟨g1, g2, _⟩ := hcov i s .bx (lfind_spec hi) trivial u hg
          have g1' : a.tmps.getD s undef = .pointer (some ⟨blk i, 0, none⟩) := g1
          have hload := pgetV_run (P := P) hsz g2 hv
          have hload' : (loadVar t ⟨blk i, 0, none⟩).run P w = .ok v w := by
            simpa [Instr.loadAt, Instr.sureAddr] using hload
          have ih := cres_run T hr hvs
          simp only [List.mapM_cons, resM, Sem.run_bind, g1', asAddr, Sem.run_pure, Result.andThen_ok, hload']
          rw [ih]
          rfl
      · simp at h2
    · simp at h1

/-- THE CONTRACT OF A FUNCTION, from the small language's condition over its translation -/
theorem enter {hn : Hint} {f : FuncId} {fn : Func} {ir : FIR} {args : List Value} {h : Heap} {k : Value → Heap → Prop} (hf : P.funcs[f]? = some fn) (hname : (fn.name == "runtime.NumGoroutine") = false) (hc : cfun P hn fn = some ir)
    (hargs : args.length = fn.params.size + fn.nfree) (hw : ir.body.wp P (fun x e h' => match x with
      | .exit _ => False
      | _ => ∃ vs, resV e ir.res = some vs ∧ ∃ h2, h2.le h' ∧ k (tupV vs) h2) (env0 args ir.size) h) : CallE P f args h k := by
  unfold cfun at hc
  split at hc
  case h_2 => simp at hc
  rename_i c r hb hr
  split at hc
  case isFalse => simp at hc
  rename_i hck
  simp only [Option.some.injEq] at hc
  subst hc
  simp only at hw
  rw [Bool.and_eq_true] at hck
  obtain ⟨hp, hok⟩ := hck
  obtain ⟨hp1, hp2⟩ := parsOk_spec hp
  intro w hs
  have hname' : ¬ fn.name = "runtime.NumGoroutine" := by simpa using hname
  have hcall : (callFunc f args.toArray).run P w = .ok (.enter f args.toArray) w := by
    simp [callFunc, hf, hname', hb]
  rw [hcall]
  refine calls_of_wp hf hb ?_
  have hsz : fn.ntmps ≤ (args.toArray ++ Array.replicate (fn.ntmps - args.toArray.size) undef).size := by simp; omega
  have hlay : ∀ (i t : Nat) (kk : Knd), (baseLay hn)[i]? = some (t, kk) → ∃ b, hn.vars[i]? = some (t, b) ∧ kk = if b then .bx else .pl := by
    intro i t kk hi
    simp only [baseLay, List.getElem?_map, Option.map_eq_some_iff] at hi
    obtain ⟨⟨t', b⟩, h1, h2⟩ := hi
    simp only [Prod.mk.injEq] at h2
    obtain ⟨rfl, rfl⟩ := h2
    exact ⟨b, h1, rfl⟩
  have T : St w.heap.size (baseLay hn) (fun _ => True) (env0 args hn.vars.length) h w { tmps := args.toArray ++ Array.replicate (fn.ntmps - args.toArray.size) undef, defers := [] } := by
    have hpar : ∀ (i t : Nat) (kk : Knd) (v : Value), (baseLay hn)[i]? = some (t, kk) → eget (env0 args hn.vars.length) i = some v → kk = .pl ∧ t = i ∧ args[i]? = some v := by
      intro i t kk v hi hv
      rw [env0_get] at hv
      have hlt : i < args.length := (List.getElem?_eq_some_iff.1 hv).1
      obtain ⟨b, hb', hkk⟩ := hlay i t kk hi
      have := hp2 i (by omega)
      rw [this] at hb'
      simp only [Option.some.injEq, Prod.mk.injEq] at hb'
      obtain ⟨h1, h2⟩ := hb'
      subst h2
      exact ⟨hkk, by omega, hv⟩
    refine ⟨⟨fun _ => 0, ?_, ?_⟩, hs, fun i t kk hi => Nat.lt_of_lt_of_le (okLay_lt hok hi) hsz, Nat.le_refl _, ?_⟩
    · intro i t kk hi _
      cases kk with
      | pl =>
        intro v hv
        obtain ⟨_, rfl, h1⟩ := hpar i t _ v hi hv
        have hlt := (List.getElem?_eq_some_iff.1 h1).1
        have h2 : (args.toArray ++ Array.replicate (fn.ntmps - args.toArray.size) undef)[t]? = some v := by
          rw [Array.getElem?_append_left (by simpa using hlt)]
          simpa using h1
        simp only [Act.eval, Array.getD_eq_getD_getElem?, h2, Option.getD_some]
      | bx => intro v hv; obtain ⟨h1, _, _⟩ := hpar i t _ v hi hv; simp at h1
      | al j off => obtain ⟨b, _, h1⟩ := hlay i t _ hi; split at h1 <;> simp at h1
      | ps m => obtain ⟨b, _, h1⟩ := hlay i t _ hi; split at h1 <;> simp at h1
    · rintro i j _ _ ⟨t, kk, v, h1, h2, h3⟩ _ _
      obtain ⟨rfl, _, _⟩ := hpar i t kk v h1 h3
      simp [isOwn] at h2
    · simp [baseLay, env0]; omega
  refine cco_sound hok c (baseLay hn) hn.fg _ _ _ h w _ ⟨[], by simp⟩ T hsz hw ?_
  intro x e' h' a' w' hq hsp hF hS
  obtain ⟨r', T'⟩ := hsp.any (cco_lay c (baseLay hn) hn.fg ⟨[], by simp⟩)
  have hpost : (∃ vs, resV e' r = some vs ∧ ∃ h2, h2.le h' ∧ k (tupV vs) h2) → a'.defers = [] ∧ ∃ v, (results fn a'.tmps).run P w' = .ok v w' ∧ ∃ v' h'', Ending.returned v = .returned v' ∧ k v' h'' ∧ h''.sub w' ∧ Frm h w h'' w' := by
    rintro ⟨vs, hvs, h2, hle, hk⟩
    have hres := cres_run T'.toBase' hr hvs
    refine ⟨hS.1, tupV vs, ?_, tupV vs, h2, rfl, hk, fun b o hb => T'.sub b o (hle b o hb), ⟨hF.tape, hF.os, hF.output, hF.size, hF.keep, fun b hb hn => by
      cases hh : h2 b with
      | none => rfl
      | some o => have := hle b o hh; rw [hF.fresh b hb hn] at this; simp at this⟩⟩
    have hres' : (fn.results.mapM (resM a'.tmps)).run P w' = .ok vs.toArray w' := by
      rw [Array.mapM_eq_mapM_toList, Sem.run_map, hres]
      rfl
    have hdef : results fn a'.tmps = (do let vs ← fn.results.mapM (resM a'.tmps); pure (if h : vs.size = 1 then vs[0] else .tuple vs)) := by
      unfold results
      congr 1
    rw [hdef]
    simp only [Sem.run_bind]
    rw [hres']
    simp only [Result.andThen_ok, Sem.run_pure]
    congr 1
    cases vs with
    | nil => rfl
    | cons v vs =>
      cases vs with
      | nil => rfl
      | cons u vs => simp [tupV]
  cases x with
  | exit i => exact hq.elim
  | nrm => exact hpost hq
  | ret => exact hpost hq

end
end Go.Proofs.Ytfhjclhchbagnaa
