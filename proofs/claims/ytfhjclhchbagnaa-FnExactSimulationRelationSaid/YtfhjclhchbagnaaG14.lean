/-
  A region that draws its order, whole: 'draw_any'.
-/
import Derived.Test.YtfhjclhchbagnaaG13
namespace Go.Proofs.Ytfhjclhchbagnaa
open Go
set_option linter.all false
set_option linter.unusedVariables false
set_option linter.unusedSimpArgs false
set_option linter.defProp false

/-- how many operations are still to come -/
def cntU (listed : Array Bool) : Nat → Nat
  | 0 => 0
  | n + 1 => (if listed.getD n false then 0 else 1) + cntU listed n

theorem getD_set {l : Array Bool} {i j : Nat} (hi : i < l.size) : (l.setIfInBounds i true).getD j false = if i = j then true else l.getD j false := by
  simp only [Array.getD_eq_getD_getElem?, Array.getElem?_setIfInBounds]
  split
  · rename_i h; subst h; simp [hi]
  · rfl

theorem cntU_set {l : Array Bool} {i : Nat} (hi : i < l.size) (hu : l.getD i false = false) : ∀ n, (i < n → cntU (l.setIfInBounds i true) n + 1 = cntU l n) ∧ (n ≤ i → cntU (l.setIfInBounds i true) n = cntU l n)
  | 0 => ⟨fun h => by omega, fun _ => rfl⟩
  | n + 1 => by
    obtain ⟨h1, h2⟩ := cntU_set hi hu n
    simp only [cntU, getD_set hi]
    refine ⟨fun h => ?_, fun h => ?_⟩
    · by_cases hin : i = n
      · subst hin
        have := h2 (Nat.le_refl _)
        simp [hu, this]; omega
      · have := h1 (by omega)
        simp only [if_neg hin]
        omega
    · have hin : i ≠ n := by omega
      simp only [if_neg hin]
      rw [h2 (by omega)]

theorem cntU_zero {l : Array Bool} : ∀ {n}, cntU l n = 0 → ∀ i < n, l.getD i false = true
  | 0, _, i, hi => by omega
  | n + 1, h, i, hi => by
    simp only [cntU] at h
    by_cases hin : i = n
    · subst hin
      cases hb : l.getD i false
      · simp [hb] at h
      · rfl
    · exact cntU_zero (n := n) (by omega) i (by omega)

section
variable {P : Program} {base : Nat} {lay : Lay} {n : Nat} {ops : Array Oper}

theorem mem_ready {listed : Array Bool} (hsz : listed.size = ops.size) {i : Nat} : i ∈ Region.ready .any ops listed ↔ ∃ o, ops[i]? = some o ∧ Unl listed i ∧ ∀ e ∈ o.after.toList, Region.binds .any e = true → Lst listed e.on := by
  unfold Region.ready
  rw [List.mem_filter]
  constructor
  · rintro ⟨h1, h2⟩
    have hi : i < ops.size := by simpa using h1
    have ho : ops[i]? = some ops[i] := Array.getElem?_eq_getElem hi
    rw [ho] at h2
    simp only [Option.map_some, Option.getD_some, Bool.and_eq_true, Bool.not_eq_true'] at h2
    refine ⟨_, ho, ?_, ?_⟩
    · have : listed.getD i true = listed.getD i false := by
        simp only [Array.getD_eq_getD_getElem?, Array.getElem?_eq_getElem (show i < listed.size by omega), Option.getD_some]
      unfold Unl; rw [← this]; exact h2.1
    · intro e he hb
      have h3 := h2.2
      rw [← Array.all_toList] at h3
      have := List.all_eq_true.1 h3 e he
      rw [hb] at this
      simpa [Lst] using this
  · rintro ⟨o, ho, hu, hp⟩
    have hi : i < ops.size := (Array.getElem?_eq_some_iff.1 ho).1
    refine ⟨by simpa using hi, ?_⟩
    rw [ho]
    simp only [Option.map_some, Option.getD_some, Bool.and_eq_true, Bool.not_eq_true']
    refine ⟨?_, ?_⟩
    · have : listed.getD i true = listed.getD i false := by
        simp only [Array.getD_eq_getD_getElem?, Array.getElem?_eq_getElem (show i < listed.size by omega), Option.getD_some]
      rw [this]; exact hu
    · rw [← Array.all_toList, List.all_eq_true]
      intro e he
      cases hb : Region.binds .any e
      · simp
      · simpa [Lst] using hp e he hb

/-- nobody is ready: all is done -/
theorem all_listed (hk : drawOk n ops (itsR P lay n ops) = true) {listed : Array Bool} (hsz : listed.size = ops.size) (hr : Region.ready .any ops listed = []) : ∀ i o, ops[i]? = some o → Lst listed i := by
  intro i
  induction i using Nat.strongRecOn with
  | _ i ih =>
    intro o ho
    cases hu : listed.getD i false with
    | true => exact hu
    | false =>
      exfalso
      have : i ∈ Region.ready .any ops listed := (mem_ready hsz).2 ⟨o, ho, hu, fun e he hb => by
        have hlt := edge_of hk i o ho e he hb
        have hin : e.on < ops.size := by have := (Array.getElem?_eq_some_iff.1 ho).1; omega
        exact ih e.on hlt _ (Array.getElem?_eq_getElem hin)⟩
      rw [hr] at this
      simp at this

theorem St.envc {e e2 : Env} {h : Heap} {w : World} {a : Act} {L : Nat → Prop} (S : St base lay L e h w a) (hlen : e2.length = e.length) (hs : ∀ p, L p → eget e2 p = eget e p) : St base lay L e2 h w a := by
  obtain ⟨blk, hcov, hinj⟩ := S.cov
  refine ⟨⟨blk, ?_, ?_⟩, S.sub, S.sz, S.low, by rw [hlen]; exact S.len⟩
  · intro i t k hi hl
    exact (hcov i t k hi hl).keep (.inl (hs i hl)) rfl rfl (fun _ _ _ => .inr rfl) (fun _ _ _ hb => hb)
  · intro i j hi hj ai aj hij
    have back : ∀ x, L x → Act' lay e2 x → Act' lay e x := by
      rintro x hx ⟨t, k, v, h1, h2, h3⟩
      exact ⟨t, k, v, h1, h2, by rw [← hs x hx]; exact h3⟩
    exact hinj i j hi hj (back i hi ai) (back j hj aj) hij

theorem mem_opPos : ∀ {l : List Operand} {t i : Nat} {k : Knd}, Operand.tmp t ∈ l → lfind lay t = some (i, k) → i ∈ opPos lay l ∧ ∀ j off, k = .al j off → j ∈ opPos lay l
  | [], _, _, _, h, _ => by simp at h
  | x :: l, t, i, k, h, hf => by
    rcases List.mem_cons.1 h with rfl | h
    · simp only [opPos, posOf, hf]
      cases k with
      | al j off => exact ⟨by simp, fun j' off' h => by cases h; simp⟩
      | pl => exact ⟨by simp, by simp⟩
      | bx => exact ⟨by simp, by simp⟩
      | ps m => exact ⟨by simp, by simp⟩
    · obtain ⟨h1, h2⟩ := mem_opPos h hf
      cases x <;> simp only [opPos]
      · exact ⟨List.mem_append.2 (.inr h1), fun j off hk => List.mem_append.2 (.inr (h2 j off hk))⟩
      all_goals exact ⟨h1, h2⟩

theorem tree_any (hd : Dist lay) (hk : drawOk n ops (itsR P lay n ops) = true) {k : Env → Heap → Prop} {Q : Exit → Act → World → Prop} : ∀ (fuel tf : Nat) (listed : Array Bool) (D : Nat) (past : List It) (e : Env) (h : Heap) (w : World) (a : Act),
    Inv P lay n ops listed D past e h → cntU listed ops.size ≤ fuel → St base lay (LL lay ops n listed D) e h w a →
    (nodeP ops (itsR P lay n ops) (treeP ops (itsR P lay n ops) tf) D past).wp P k e h →
    (∀ e' h' a' w', k e' h' → St base lay (fun _ => True) e' h' w' a' → FrB base h w h' w' → SameA a a' → Q .normal a' w') →
    wpAny P .any ops Q fuel listed a w := by
  have hstuck : ∀ (k : Env → Heap → Prop) (e : Env) (h : Heap), (Pl.st (stuckS none) .done).wp P k e h → False := by
    intro k e h hs
    simp [Pl.wp, stuckS, stuckA, Go.Proofs.Ytfhjclhchbagnaa.S.wp, A.wp, PX.ev, O.get, undef] at hs
  -- the end
  have fin : ∀ (tf : Nat) (listed : Array Bool) (D : Nat) (past : List It) (e : Env) (h : Heap) (w : World) (a : Act),
      Inv P lay n ops listed D past e h → St base lay (LL lay ops n listed D) e h w a → (nodeP ops (itsR P lay n ops) (treeP ops (itsR P lay n ops) tf) D past).wp P k e h →
      (∀ e' h' a' w', k e' h' → St base lay (fun _ => True) e' h' w' a' → FrB base h w h' w' → SameA a a' → Q .normal a' w') → (∀ i o, ops[i]? = some o → Lst listed i) → Q .normal a w := by
    intro tf listed D past e h w a I T hw hQ hall
    simp only [nodeP] at hw
    split at hw
    · have hbr : ((itsR P lay n ops).filter fun x => x.eff && !D.testBit x.i && readyIt D ops x.i) = [] := by
        rw [List.filter_eq_nil_iff]
        intro x hx
        obtain ⟨o, ho, _⟩ := its_mem hx
        simp [I.sub x.i o ho (hall x.i o ho)]
      rw [hbr] at hw
      simp only [List.map_nil, bothP, Pl.wp] at hw
      exact hQ e h a w hw (T.weaken fun p _ i o ho _ => .inl (hall i o ho)) (FrB.refl _ _ _) ⟨rfl, rfl⟩
    · exact (hstuck _ _ _ hw).elim
  intro fuel
  induction fuel with
  | zero =>
    intro tf listed D past e h w a I hc T hw hQ
    have hall : ∀ i o, ops[i]? = some o → Lst listed i := fun i o ho => cntU_zero (by omega) i (Array.getElem?_eq_some_iff.1 ho).1
    refine ⟨?_, fin tf listed D past e h w a I T hw hQ hall⟩
    rw [List.eq_nil_iff_forall_not_mem]
    intro i hi
    obtain ⟨o, ho, hu, _⟩ := (mem_ready I.sz).1 hi
    have := hall i o ho
    unfold Lst at this
    unfold Unl at hu
    rw [hu] at this
    simp at this
  | succ fuel ih =>
    intro tf listed D past e h w a I hc T hw hQ
    refine ⟨fun hr => fin tf listed D past e h w a I T hw hQ (all_listed hk I.sz hr), ?_⟩
    intro i hi
    obtain ⟨o, ho, hu, hpre⟩ := (mem_ready I.sz).1 hi
    have hisz : i < ops.size := (Array.getElem?_eq_some_iff.1 ho).1
    have hlsz : i < listed.size := by rw [I.sz]; exact hisz
    have hxm := its_of (P := P) (lay := lay) (n := n) ho
    generalize hx : itOf P lay n ops (beforeOf ops.toList []).toArray i o = x at hxm
    have hxi : x.i = i := by rw [← hx]; rfl
    have hxs : x.s = cop P lay ops o := by rw [← hx]; rfl
    have hxop : x.op = x.s.wk ++ opPos lay o.op.operands.toList ++ gdPos lay ops o := by rw [← hx]; rfl
    have hxds : x.ds = dstPos lay o := by rw [← hx]; rfl
    -- whoever stands ahead has been done
    have hbefore : ∀ j, x.before.testBit j = true → Lst listed j := by
      intro j hj
      refine before_sub I.clS (edge_of hk) i o ho hpre j ?_
      rw [← hx] at hj
      exact hj
    have hnotbefore : ∀ y ∈ itsR P lay n ops, Lst listed y.i → y.before.testBit i = false := by
      intro y hy hl
      cases hb : y.before.testBit i with
      | false => rfl
      | true =>
        obtain ⟨oy, hoy, hyy⟩ := its_mem hy
        have : Lst listed i := by
          refine before_sub I.clS (edge_of hk) y.i oy hoy (fun e he hb' => I.clS y.i oy hoy hl e he hb') i ?_
          rw [hyy] at hb
          exact hb
        unfold Lst at this
        unfold Unl at hu
        rw [hu] at this
        simp at this
    -- its operands can be trusted
    have hOp : ∀ p ∈ x.op, (x.eff = true → D.testBit i = false) → LL lay ops n listed D p := by
      intro p hp hself j oj hoj hw'
      have hym := its_of (P := P) (lay := lay) (n := n) hoj
      generalize hy : itOf P lay n ops (beforeOf ops.toList []).toArray j oj = y at hym
      have hyi : y.i = j := by rw [← hy]; rfl
      have hywr : p ∈ y.wr := by rw [← hy]; simp only [itOf]; exact List.mem_append.2 (.inr (dstPos_wr.2 hw'))
      by_cases hij : y.i = x.i
      · have := its_inj hym hxm hij
        subst this
        obtain ⟨h1, h2⟩ := self_cases hk hym hywr (.inr hp)
        have : j = i := by rw [← hyi, hxi]
        subst this
        exact .inr ⟨h2, hself h1⟩
      · rcases touch_cases hk hym hxm hij (in_touch_wr hywr (.inr (.inl hp))) with h1 | ⟨h1, h2, h3⟩
        · left; rw [← hyi]; exact hbefore y.i h1
        · right
          refine ⟨h2, ?_⟩
          cases hDj : D.testBit j with
          | false => rfl
          | true =>
            have hl := I.effS y hym h1 (by rw [hyi]; exact hDj)
            have := hnotbefore y hym hl
            rw [hxi] at h3
            rw [h3] at this
            simp at this
    have hOpL : (x.eff = true → D.testBit i = false) → OpL lay (LL lay ops n listed D) o := by
      intro hself t ht i' k' hf
      obtain ⟨h1, h2⟩ := mem_opPos (l := o.op.operands.toList) (by simpa using ht) hf
      exact ⟨hOp i' (by rw [hxop]; simp [h1]) hself, fun j off hk' => hOp j (by rw [hxop]; simp [h2 j off hk']) hself⟩
    have hGd : (x.eff = true → D.testBit i = false) → GdL lay (LL lay ops n listed D) ops o := by
      intro hself j b t i' h1 h2 h3
      exact hOp i' (by rw [hxop]; simp [gdPos, h1, h2, h3]) hself
    have hlist : ∀ j, (listed.setIfInBounds i true).getD j false = if i = j then true else listed.getD j false := fun j => getD_set hlsz
    have hLst' : ∀ j, Lst (listed.setIfInBounds i true) j ↔ i = j ∨ Lst listed j := by
      intro j; unfold Lst; rw [hlist]; split <;> simp_all
    have hUnl' : ∀ j, Unl (listed.setIfInBounds i true) j ↔ i ≠ j ∧ Unl listed j := by
      intro j; unfold Unl; rw [hlist]; split <;> simp_all
    have hclS' : Closed ops (Lst (listed.setIfInBounds i true)) := by
      intro j oj hoj hl e' he' hb
      rw [hLst'] at hl ⊢
      rcases hl with rfl | hl
      · rw [ho] at hoj; simp only [Option.some.injEq] at hoj; subst hoj
        exact .inr (hpre e' he' hb)
      · exact .inr (I.clS j oj hoj hl e' he' hb)
    have hcnt : cntU (listed.setIfInBounds i true) ops.size ≤ fuel := by
      have := (cntU_set hlsz hu ops.size).1 hisz
      omega
    have hready : readyIt D ops i = true := (ready_iff ho).2 fun e' he' hb => by
      have hl := hpre e' he' hb
      have hlt := edge_of hk i o ho e' he' hb
      exact I.sub e'.on _ (Array.getElem?_eq_getElem (show e'.on < ops.size by omega)) hl
    simp only [nodeP] at hw
    split at hw
    case isFalse => exact (hstuck _ _ _ hw).elim
    rename_i hsat
    cases hxe : x.eff with
    | false =>
      -- an operation without effect: it has been reckoned with
      have hD : D.testBit i = true := by
        have := List.all_eq_true.1 hsat x hxm
        rw [hxe, hxi, hready] at this
        simpa using this
      have hN := isN_of hxm hxe
      obtain ⟨d, v, hv, hdv⟩ := I.idem x hxm hxe (by rw [hxi]; exact hD) (by rw [hxi]; exact hu)
      have hself : x.eff = true → D.testBit i = false := by intro h; rw [hxe] at h; simp at h
      have hwp : (cop P lay ops o).wp P (fun e' h' => e' = e ∧ h' = h) e h := by
        rw [← hxs]
        exact (nwp hN).2 ⟨d, v, hv, hdv, rfl⟩
      refine op_step hd T ho (hOpL hself) (hGd hself) hwp ?_
      rintro e' h' a' w' ⟨rfl, rfl⟩ T' hF hdf
      have I' : Inv P lay n ops (listed.setIfInBounds i true) D past e' h' := by
        refine ⟨by simp [I.sz], ?_, hclS', I.clD, ?_, ?_, I.past⟩
        · intro j oj hoj hl
          rw [hLst'] at hl
          rcases hl with rfl | hl
          · exact hD
          · exact I.sub j oj hoj hl
        · intro y hy h1 h2; rw [hLst']; exact .inr (I.effS y hy h1 h2)
        · intro y hy h1 h2 h3; rw [hUnl'] at h3; exact I.idem y hy h1 h2 h3.2
      refine ih tf _ D past e' h' w' a' I' hcnt ?_ (by simp only [nodeP]; rw [if_pos hsat]; exact hw) ?_
      · refine T'.weaken fun p hp => ?_
        by_cases hwp : Wr lay o p
        · exact .inr hwp
        · left
          intro j oj hoj hw'
          rcases hp j oj hoj hw' with h1 | h1
          · rw [hLst'] at h1
            rcases h1 with rfl | h1
            · rw [ho] at hoj; simp only [Option.some.injEq] at hoj; subst hoj; exact absurd hw' hwp
            · exact .inl h1
          · exact .inr h1
      · intro e2 h2 a2 w2 hk2 T2 hF2 hd2
        exact hQ e2 h2 a2 w2 hk2 T2 (hF.trans hF2) (hd2.trans hdf)
    | true =>
      -- an effect: a branch of the tree
      have hD : D.testBit i = false := by
        cases hDi : D.testBit i with
        | false => rfl
        | true =>
          have := I.effS x hxm hxe (by rw [hxi]; exact hDi)
          rw [hxi] at this
          unfold Lst at this
          unfold Unl at hu
          rw [hu] at this
          simp at this
      have hmem : x ∈ (itsR P lay n ops).filter fun x => x.eff && !D.testBit x.i && readyIt D ops x.i := by
        rw [List.mem_filter]
        refine ⟨hxm, ?_⟩
        rw [hxi, hxe, hD, hready]
        rfl
      have hbr := both_mem hw (List.mem_map.2 ⟨x, hmem, rfl⟩)
      simp only [Pl.wp] at hbr
      rw [hxs] at hbr
      -- the statement, with what it leaves
      have hbr' : (cop P lay ops o).wp P (fun e' h' => (againP x past (treeP ops (itsR P lay n ops) tf (D ||| 2 ^ x.i) past)).wp P k e' h' ∧ Kp x.s e e') e h := by
        rw [hxs]
        unfold cop at hbr ⊢
        split at hbr
        · exact (hstuck _ _ _ (by simpa [Pl.wp] using hbr)).elim
        · split at hbr
          · exact (hstuck _ _ _ (by simpa [Pl.wp] using hbr)).elim
          · exact Go.Proofs.Ytfhjclhchbagnaa.S.keep hbr
      refine op_step hd T ho (hOpL fun _ => hD) (hGd fun _ => hD) hbr' ?_
      rintro e' h' a' w' ⟨hagain, hKp⟩ T' hF hdf
      obtain ⟨htree, hre⟩ := again_spec hagain
      cases tf with
      | zero => simp only [treeP] at htree; exact (hstuck _ _ _ htree).elim
      | succ tf =>
        simp only [treeP] at htree
        rw [hxi] at htree
        -- what is pending is as it was
        have hpend : ∀ y ∈ itsR P lay n ops, y.eff = false → (D ||| 2 ^ i).testBit y.i = true → Unl (listed.setIfInBounds i true) y.i → Idem y.s e' h' := by
          intro y hy hye hyD hyu
          rw [hUnl'] at hyu
          rw [testBit_set] at hyD
          have hyD' : D.testBit y.i = true := by simpa [hyu.1] using hyD
          have hid := I.idem y hy hye hyD' hyu.2
          have hyN := isN_of hy hye
          obtain ⟨oy, hoy, hyy⟩ := its_mem hy
          have hyb : y.before.testBit i = false := by
            cases hb : y.before.testBit i with
            | false => rfl
            | true =>
              have : D.testBit i = true := by
                refine before_sub I.clD (edge_of hk) y.i oy hoy (fun e he hb' => I.clD y.i oy hoy hyD' e he hb') i ?_
                rw [hyy] at hb
                exact hb
              rw [hD] at this
              simp at this
          have hxb : x.before.testBit y.i = false := by
            cases hb : x.before.testBit y.i with
            | false => rfl
            | true =>
              have := hbefore y.i hb
              unfold Lst at this
              have h2 := hyu.2
              unfold Unl at h2
              rw [h2] at this
              simp at this
          have hno : ∀ p, p ∉ touch x y := by
            intro p hp
            have hne : x.i ≠ y.i := by rw [hxi]; exact hyu.1
            rcases touch_cases hk hxm hy hne hp with h1 | ⟨_, _, h1⟩
            · rw [hxi, hyb] at h1; simp at h1
            · rw [hxb] at h1; simp at h1
          obtain ⟨q1, q2, q3, q4⟩ := it_rd hxm
          obtain ⟨r1, r2, r3, r4⟩ := it_rd hy
          have hsame : ∀ p, (p ∈ y.s.rd ∨ p ∈ y.s.wr) → eget e' p = eget e p := by
            intro p hp
            refine hKp.same p (fun hw => ?_) (fun hw => ?_)
            · exact hno p (in_touch_wr (q3 p hw) (by rcases hp with hp | hp; exact .inl (by rw [r1]; exact hp); exact .inr (.inr (.inl (r3 p hp)))))
            · exact hno p (in_touch_cw (by rw [q4]; exact hw) (by rcases hp with hp | hp; exact .inl (by rw [r1]; exact hp); exact .inr (.inl (r3 p hp))))
          refine hid.congr hyN hKp.len (fun p hp => (hsame p (.inl hp)).symm) (fun p hp hs => hKp.ex p (fun hw => hno p (in_touch_wr (q3 p hw) (.inr (.inl (r2 p hp))))) hs) (fun p hp => (hsame p (.inr hp)).symm) ?_
          unfold LdSame
          split
          · rename_i g d a0 sz hys
            intro hg
            obtain ⟨p, rfl, b, hb, hbl⟩ := hre y (I.past y hy hye hyD') g d a0 sz hys hxb
            have hgc : gcond e' g = gcond e g := gcond_congr fun p hp => hsame p (.inl (by rw [hys]; simp [Go.Proofs.Ytfhjclhchbagnaa.S.rd, hp]))
            rw [hgc, hg] at hb
            simp only [Option.some.injEq] at hb
            rw [hbl hb.symm]
            obtain ⟨d', v', hv', hd'⟩ := hid
            rw [hys] at hv'
            simp only [S.nv, hg, if_true, A.nv] at hv'
            obtain ⟨u, hu', he'⟩ := map_some2 hv'
            simp only [Prod.mk.injEq] at he'
            obtain ⟨rfl, rfl⟩ := he'
            rw [hsame p (.inr (by rw [hys]; simp [Go.Proofs.Ytfhjclhchbagnaa.S.wr, A.wrp])), hu']
            simp only [dput] at hd'
            have hpl : p < e.length := by
              have hpw : p ∈ y.wr := r3 p (by rw [hys]; simp [Go.Proofs.Ytfhjclhchbagnaa.S.wr, A.wrp])
              have := wr_ds hk hy hpw
              have : p ∈ dstPos lay oy := by rw [hyy] at this; exact this
              obtain ⟨t, kk, _, hf⟩ := dstPos_wr.1 this
              have hlt := (List.getElem?_eq_some_iff.1 (lfind_spec hf)).1
              exact Nat.lt_of_lt_of_le hlt T.len
            exact eset_self_iff.1 hd' hpl
          · trivial
        have hcl' : Closed ops fun j => (D ||| 2 ^ i).testBit j = true := by
          intro j oj hoj hl e2 he2 hb
          simp only [testBit_set, Bool.or_eq_true, decide_eq_true_eq] at hl ⊢
          rcases hl with hl | rfl
          · exact .inl (I.clD j oj hoj hl e2 he2 hb)
          · rw [ho] at hoj; simp only [Option.some.injEq] at hoj; subst hoj
            exact .inl ((ready_iff ho).1 hready e2 he2 hb)
        obtain ⟨e2, g1, g2, g3, g4, g5, g6, g7, g8⟩ := advance hk (itsR P lay n ops) (D ||| 2 ^ i) e' (fun _ hx => hx) hpend hcl' htree
        generalize hfree : freeOf ops (itsR P lay n ops) (D ||| 2 ^ i) = fr at g1 g3 g4 g5 g6 g7 g8
        have I' : Inv P lay n ops (listed.setIfInBounds i true) fr.2 (past ++ fr.1) e2 h' := by
          refine ⟨by simp [I.sz], ?_, hclS', g5, ?_, g4, ?_⟩
          · intro j oj hoj hl
            rw [hLst'] at hl
            refine g6 j ?_
            rw [testBit_set]
            rcases hl with rfl | hl
            · simp
            · simp [I.sub j oj hoj hl]
          · intro y hy h1 h2
            rw [hLst']
            rcases g7 y.i h2 with h3 | ⟨z, hz, h3⟩
            · rw [testBit_set] at h3
              simp only [Bool.or_eq_true, decide_eq_true_eq] at h3
              rcases h3 with h3 | h3
              · exact .inr (I.effS y hy h1 h3)
              · exact .inl h3
            · obtain ⟨z1, z2, _⟩ := g8 z hz
              have := its_inj z1 hy h3
              subst this
              rw [h1] at z2; simp at z2
          · intro y hy h1 h2
            rcases g7 y.i h2 with h3 | ⟨z, hz, h3⟩
            · rw [testBit_set] at h3
              simp only [Bool.or_eq_true, decide_eq_true_eq] at h3
              rcases h3 with h3 | h3
              · exact List.mem_append.2 (.inl (I.past y hy h1 h3))
              · have := its_inj hxm hy (by rw [hxi]; exact h3)
                subst this
                rw [hxe] at h1; simp at h1
            · obtain ⟨z1, _, _⟩ := g8 z hz
              have := its_inj z1 hy h3
              subst this
              exact List.mem_append.2 (.inr hz)
        have hLL : ∀ p, LL lay ops n (listed.setIfInBounds i true) fr.2 p → (LL lay ops n listed D p ∨ Wr lay o p) ∧ ∀ y ∈ fr.1, p ∉ y.s.wr := by
          intro p hp
          refine ⟨?_, ?_⟩
          · by_cases hwp : Wr lay o p
            · exact .inr hwp
            · left
              intro j oj hoj hw'
              rcases hp j oj hoj hw' with h1 | ⟨h1, h2⟩
              · rw [hLst'] at h1
                rcases h1 with rfl | h1
                · rw [ho] at hoj; simp only [Option.some.injEq] at hoj; subst hoj; exact absurd hw' hwp
                · exact .inl h1
              · right
                refine ⟨h1, ?_⟩
                cases hDj : D.testBit j with
                | false => rfl
                | true => rw [g6 j (by rw [testBit_set, hDj]; rfl)] at h2; simp at h2
          · intro y hy hpy
            obtain ⟨y1, y2, y3, y4⟩ := g8 y hy
            obtain ⟨oy, hoy, hyy⟩ := its_mem y1
            have hpw := (it_rd y1).2.2.1 p hpy
            have hds := wr_ds hk y1 hpw
            have hds' : p ∈ dstPos lay oy := by rw [hyy] at hds; exact hds
            rcases hp y.i oy hoy (dstPos_wr.1 hds') with h1 | ⟨_, h1⟩
            · rw [hLst'] at h1
              rw [testBit_set] at y3
              simp only [Bool.or_eq_false_iff, decide_eq_false_iff_not] at y3
              rcases h1 with h1 | h1
              · exact y3.2 h1
              · have := I.sub y.i oy hoy h1
                rw [y3.1] at this
                simp at this
            · rw [y4] at h1; simp at h1
        refine ih tf _ fr.2 (past ++ fr.1) e2 h' w' a' I' hcnt ((T'.weaken fun p hp => (hLL p hp).1).envc g2 fun p hp => g3 p (hLL p hp).2) g1 ?_
        intro e3 h3 a3 w3 hk3 T3 hF3 hd3
        exact hQ e3 h3 a3 w3 hk3 T3 (hF.trans hF3) (hd3.trans hdf)

/-- A REGION THAT DRAWS ITS ORDER -/
theorem draw_region (hd : Dist lay) {id : Nat} {k : Env → Heap → Prop} {Q : Exit → Act → World → Prop} {e : Env} {h : Heap} {w : World} {a : Act} (T : St base lay (fun _ => True) e h w a)
    (hw : (drawP P lay n ops).wp P k e h)
    (hQ : ∀ e' h' a' w', k e' h' → St base lay (fun _ => True) e' h' w' a' → FrB base h w h' w' → SameA a a' → Q .normal a' w') : (Code.region id ops true).wp P Q a w := by
  have hstuck : ∀ (k : Env → Heap → Prop) (e : Env) (h : Heap), (Pl.st (stuckS none) .done).wp P k e h → False := by
    intro k e h hs
    simp [Pl.wp, stuckS, stuckA, S.wp, A.wp, PX.ev, O.get, undef] at hs
  unfold drawP at hw
  simp only at hw
  split at hw
  case isFalse => exact (hstuck _ _ _ hw).elim
  rename_i hc
  rw [Bool.and_eq_true] at hc
  obtain ⟨hm, hk⟩ := hc
  change drawOk n ops (itsR P lay n ops) = true at hk
  change (treeP ops (itsR P lay n ops) (effCount (itsR P lay n ops) + 1) 0 []).wp P k e h at hw
  generalize effCount (itsR P lay n ops) = tf at hw
  refine wp_region_any hm ?_
  simp only [treeP, List.nil_append] at hw
  have hrep : ∀ i, (Array.replicate ops.size false).getD i false = false := by
    intro i
    simp only [Array.getD_eq_getD_getElem?, Array.getElem?_replicate]
    split <;> rfl
  have hnl : ∀ i, ¬ Lst (Array.replicate ops.size false) i := by intro i h; unfold Lst at h; rw [hrep] at h; simp at h
  obtain ⟨e2, g1, g2, g3, g4, g5, g6, g7, g8⟩ := advance (listed := Array.replicate ops.size false) hk (itsR P lay n ops) 0 e (fun _ hx => hx) (fun x _ _ h1 => by simp at h1) (fun i o _ h1 => by simp at h1) hw
  generalize freeOf ops (itsR P lay n ops) 0 = fr at g1 g3 g4 g5 g6 g7 g8
  have T0 : St base lay (fun _ => True) e h { w with drawn := w.drawn + 1 } a := by
    obtain ⟨blk, h1, h2⟩ := T.cov
    exact ⟨⟨blk, fun i t kk hi hl => by
      have := h1 i t kk hi hl
      cases kk <;> exact this, h2⟩, T.sub, T.sz, T.low, T.len⟩
  have I : Inv P lay n ops (Array.replicate ops.size false) fr.2 fr.1 e2 h := by
    refine ⟨by simp, fun i o _ hl => absurd hl (hnl i), fun i o _ hl => absurd hl (hnl i), g5, ?_, g4, ?_⟩
    · intro y hy h1 h2
      rcases g7 y.i h2 with h3 | ⟨z, hz, h3⟩
      · simp at h3
      · obtain ⟨z1, z2, _⟩ := g8 z hz
        have := its_inj z1 hy h3
        subst this
        rw [h1] at z2; simp at z2
    · intro y hy h1 h2
      rcases g7 y.i h2 with h3 | ⟨z, hz, h3⟩
      · simp at h3
      · obtain ⟨z1, _, _⟩ := g8 z hz
        have := its_inj z1 hy h3
        subst this
        exact hz
  have hLL : ∀ p, LL lay ops n (Array.replicate ops.size false) fr.2 p → ∀ y ∈ fr.1, p ∉ y.s.wr := by
    intro p hp y hy hpy
    obtain ⟨y1, y2, y3, y4⟩ := g8 y hy
    obtain ⟨oy, hoy, hyy⟩ := its_mem y1
    have hds := wr_ds hk y1 ((it_rd y1).2.2.1 p hpy)
    have hds' : p ∈ dstPos lay oy := by rw [hyy] at hds; exact hds
    rcases hp y.i oy hoy (dstPos_wr.1 hds') with h1 | ⟨_, h1⟩
    · exact hnl _ h1
    · rw [y4] at h1; simp at h1
  refine tree_any hd hk ops.size tf _ fr.2 fr.1 e2 h _ a I ?_ ((T0.weaken fun _ _ => trivial).envc g2 fun p hp => g3 p (hLL p hp)) g1 ?_
  · have : ∀ (l : Array Bool) m, cntU l m ≤ m := by
      intro l m
      induction m with
      | zero => simp [cntU]
      | succ m ih => simp only [cntU]; split <;> omega
    exact this _ _
  · intro e' h' a' w' hk' T' hF hdf
    refine hQ e' h' a' w' hk' T' ?_ hdf
    exact ⟨hF.tape, hF.os, hF.output, hF.size, hF.keep, hF.fresh⟩

end
end Go.Proofs.Ytfhjclhchbagnaa
