/-
  Every operation that reads or makes memory, or calls: 'ex_run'.
-/
import Derived.Test.YtfhjclhchbagnaaG6
namespace Go.Proofs.Ytfhjclhchbagnaa
open Go
set_option linter.all false
set_option linter.unusedVariables false
set_option linter.unusedSimpArgs false
set_option linter.defProp false

section
variable {P : Program} {lay : Lay} {e : Env} {ρ : Operand → Value} {h : Heap} {w : World}

theorem good_of {k : Value → Heap → Prop} {s : Sem Value} (hx : ∃ v w', s.run P w = .ok v w' ∧ ∃ h', k v h' ∧ h'.sub w' ∧ Frm h w h' w') :
    Good P k h w ((do pure (.value (← s)) : Sem Next).run P w) := by
  obtain ⟨v, w', hr, hh⟩ := hx
  simp only [Sem.run_bind, hr, Result.andThen_ok, Sem.run_pure]
  exact hh

theorem partsBls {t : TypeId} {len sz : Nat} {ps : Array (Nat × Operand)} {z : List Value} {l : List (Nat × Nat × O)} {cs : List Value} (hb : blsOf P lay t len ps = some (sz, z, l)) (hf : fillP e (reps len z) l = some cs)
    (hag : ∀ y ∈ ps.toList, Ag lay e ρ y.2) :
    ∃ el, 0 < sz ∧ (Instr.buildSlice t len (ps.map fun (i, x) => (i, ρ x))).run P w = .ok (.slice (some ⟨w.heap.size, 0, none⟩) len len) (w.alloc (.cells cs.toArray el (0, 0))) := by
  unfold blsOf at hb
  split at hb
  · rename_i el hu
    split at hb
    · rename_i i hi
      split at hb
      · rename_i zv hz
        split at hb
        · rename_i hc
          obtain ⟨hlen, hzs, hpos⟩ := hc
          simp only [Option.map_eq_some_iff, Prod.mk.injEq] at hb
          obtain ⟨l', hl', rfl, rfl, rfl⟩ := hb
          have hfill := partsAt_spec (ρ := ρ) hl' hf hag
          refine ⟨el, hpos, ?_⟩
          have hgt : ¬ len * i.size > 2 ^ 24 := by omega
          by_cases h0 : len * i.size = 0
          · have hl0 : len = 0 := by
              rcases Nat.mul_eq_zero.1 h0 with h | h
              · exact h
              · omega
            subst hl0
            simp only [Instr.buildSlice, Sem.run_bind, run_underlying hu, Result.andThen_ok, run_sizeOf hi, if_neg hgt, if_pos h0, Sem.run_pure]
            rw [show (Array.map (fun x => (#[] : Array Value)[x % (#[] : Array Value).size]!) (Array.range (0 * i.size))) = (reps 0 zv.cells.toList).toArray by simp [reps]]
            simp only [Array.toList_map]
            simp only [hfill]
            rfl
          · simp only [Instr.buildSlice, Sem.run_bind, run_underlying hu, Result.andThen_ok, run_sizeOf hi, if_neg hgt, if_neg h0, Sem.run_pure, run_zero_of hi hz]
            rw [reps_cells hzs len]
            simp only [Array.toList_map]
            simp only [hfill]
            rfl
        · simp at hb
      · simp at hb
    · simp at hb
  · simp at hb

theorem calls_good {f : FuncId} {vs : List Value} {k : Value → Heap → Prop} (hs : h.sub w) (hc : CallE P f vs h k) : Good P k h w ((callFunc f vs.toArray).run P w) := by
  have := hc w hs
  refine Landed.upon (R := fun v w' => ∃ h', k v h' ∧ h'.sub w' ∧ Frm h w h' w') ?_
  unfold Landed at *
  split at this
  · exact Calls.mono this fun e w' ⟨v, h', he, hk, hs', hf⟩ => ⟨v, he, h', hk, hs', hf⟩
  · obtain ⟨v', h', he, hk, hs', hf⟩ := this
    exact ⟨v', he, h', hk, hs', hf⟩
  · exact this.elim

/- maps -/

theorem run_checkFields {b : Bool} {xs : Array Value} {d : Nat} : ∀ {fs : List Field} {i : Nat} {ks : List BK}, flatFields P fs i = some ks → (eqL ks (xs.toList.drop i) (xs.toList.drop i)).isSome = true → ∀ w,
    (forIn fs PUnit.unit fun f _ => (do
      if f.name ≠ "_" then Instr.checkKey b (d + 1) f.type (← part f.type xs f.offset)
      pure (ForInStep.yield PUnit.unit) : Sem (ForInStep PUnit))).run P w = .ok PUnit.unit w
  | [], i, ks, h, he, w => by simp
  | f :: fs, i, ks, h, he, w => by
    simp only [flatFields] at h
    split at h
    · rename_i k l hk hl
      split at h
      · rename_i ho
        obtain ⟨hoff, hname⟩ := ho
        simp only [Option.some.injEq] at h
        subst h
        cases hx : xs.toList.drop i with
        | nil => simp [hx, eqL] at he
        | cons a x' =>
          rw [hx] at he
          simp only [eqL] at he
          have hx' : xs.toList.drop (i + 1) = x' := by rw [← List.tail_drop, hx]; rfl
          have hxa : xs[i]? = some a := by
            rw [← Array.getElem?_toList, ← List.head?_drop, hx]; rfl
          have he' : (eqL l (xs.toList.drop (i + 1)) (xs.toList.drop (i + 1))).isSome = true := by
            rw [hx']
            cases h1 : eqB k a a <;> cases h2 : eqL l x' x' <;> simp [h1, h2] at he ⊢
          have ih := run_checkFields (b := b) (d := d) hl he' w
          have pa : ∀ w, (part f.type xs f.offset).run P w = .ok a w := fun w => by simp [part, basicT_agg hk w, hoff, hxa]
          have hc : (Instr.checkKey b (d + 1) f.type a).run P w = .ok () w := by
            unfold basicT at hk
            cases hu : P.underlying f.type with
            | none => simp [hu] at hk
            | some u => cases u <;> simp [hu] at hk <;> simp [Instr.checkKey, run_underlying hu]
          simp only [List.forIn_cons, Sem.run_bind, hname, ne_eq, not_false_eq_true, if_true, pa, Result.andThen_ok, hc, Sem.run_pure]
          exact ih
      · simp at h
    · simp at h

theorem keyT_check {kt : TypeId} {K : KT} (hK : keyT P kt = some K) {v : Value} (hv : (keyEq K v v).isSome = true) (b : Bool) (d : Nat) (w : World) : (Instr.checkKey b (d + 2) kt v).run P w = .ok () w := by
  unfold keyT at hK
  split at hK
  · rename_i k hk
    unfold basicT at hk
    cases hu : P.underlying kt with
    | none => simp [hu] at hk
    | some u => cases u <;> simp [hu] at hk <;> simp [Instr.checkKey, run_underlying hu]
  · simp only [Option.map_eq_some_iff] at hK
    obtain ⟨ks, hks, rfl⟩ := hK
    cases v <;> simp [keyEq] at hv
    rename_i cs
    unfold flatT at hks
    cases hu : P.underlying kt with
    | none => simp [hu] at hks
    | some u =>
      cases u <;> simp [hu] at hks
      rename_i fs
      unfold Instr.checkKey
      simp only [Sem.run_bind, run_underlying hu, Result.andThen_ok]
      rw [← Array.forIn_toList]
      have := run_checkFields (P := P) (b := b) (d := d) (xs := cs) hks.2 (by simpa using hv) w
      rw [this]
      rfl

theorem findNow_basic {d : TypeDesc} {k : BK} (hd : match k with | .i => ∃ j, d = .int j | .b => d = .bool | .s => d = .string) {v : Value} : ∀ {es : List MapEntry} {i : Nat} {r : Option (Nat × Value)}, mfind (.one k) v es i = some r → Instr.findNow d v es i = some r
  | [], i, r, h => by simp [mfind] at h; subst h; simp [Instr.findNow]
  | x :: es, i, r, h => by
    have hsame : ∀ t, eqB k v x.key = some t → Instr.sameNow d v x.key = some t := by
      intro t ht
      cases k <;> simp only at hd
      · obtain ⟨j, rfl⟩ := hd
        cases v <;> cases hxk : x.key <;> simp [hxk, eqB] at ht
        obtain ⟨h1, rfl⟩ := ht
        simp [Instr.sameNow, h1, beq_dec]
      · subst hd
        cases v <;> cases hxk : x.key <;> simp [hxk, eqB] at ht
        simp [Instr.sameNow, ht]
      · subst hd
        cases v <;> cases hxk : x.key <;> simp [hxk, eqB] at ht
        simp only [Instr.sameNow, Option.some.injEq]
        rw [← ht, beq_toListBytes, ByteArray.toList_eq, ByteArray.toList_eq, beq_dec]
        simp
    simp only [mfind, keyEq] at h
    split at h
    · rename_i ht; simp only [Option.some.injEq] at h; subst h; simp [Instr.findNow, hsame _ ht]
    · rename_i ht; simp only [Instr.findNow, hsame _ ht]; exact findNow_basic hd h
    · simp at h

theorem findAsking_run {kt : TypeId} {ks : List BK} (hks : flatT P kt = some ks) {v : Value} : ∀ {es : List MapEntry} {i : Nat} {r : Option (Nat × Value)}, mfind (.many ks) v es i = some r → ∀ w, (Instr.findAsking kt v es i).run P w = .ok r w
  | [], i, r, h, w => by simp [mfind] at h; subst h; simp [Instr.findAsking]
  | x :: es, i, r, h, w => by
    have hsame : ∀ t, keyEq (.many ks) v x.key = some t → (Op.equal kt v x.key).run P w = .ok t w := by
      intro t ht
      cases v <;> cases hxk : x.key <;> simp [hxk, keyEq] at ht
      exact eqf_run (d := 9998) hks ht w
    simp only [mfind] at h
    split at h
    · rename_i ht; simp only [Option.some.injEq] at h; subst h; simp [Instr.findAsking, hsame _ ht]
    · rename_i ht; simp only [Instr.findAsking, Sem.run_bind, hsame _ ht, Result.andThen_ok, Bool.false_eq_true, if_false]; exact findAsking_run hks h w
    · simp at h

theorem findKey_run {kt : TypeId} {K : KT} (hK : keyT P kt = some K) {v : Value} {es : List MapEntry} {r : Option (Nat × Value)} (h : mfind K v es 0 = some r) (w : World) : (Instr.findKey kt v es).run P w = .ok r w := by
  unfold keyT at hK
  split at hK
  · rename_i k hk
    simp only [Option.some.injEq] at hK; subst hK
    unfold basicT at hk
    cases hu : P.underlying kt with
    | none => simp [hu] at hk
    | some u =>
      cases u <;> simp [hu] at hk <;> subst hk <;> simp only [Instr.findKey, Sem.run_bind, run_underlying hu, Result.andThen_ok]
      · rw [findNow_basic (k := .b) rfl h]; rfl
      · rw [findNow_basic (k := .i) ⟨_, rfl⟩ h]; rfl
      · rw [findNow_basic (k := .s) rfl h]; rfl
  · simp only [Option.map_eq_some_iff] at hK
    obtain ⟨ks, hks, rfl⟩ := hK
    have hks' := hks
    unfold flatT at hks
    cases hu : P.underlying kt with
    | none => simp [hu] at hks
    | some u =>
      cases u <;> simp [hu] at hks
      simp only [Instr.findKey, Sem.run_bind, run_underlying hu, Result.andThen_ok]
      cases es with
      | nil => simp [mfind] at h; subst h; rfl
      | cons x es => simp only [Instr.findNow, Instr.sameNow]; exact findAsking_run hks' h w

theorem run_getObj_map {r : Nat} {es : Array MapEntry} {clock : Nat} (hg : w.heap[r]? = some (.map es clock)) : (getObj r).run P w = .ok (.map es clock) w := by
  simp [getObj, Sem.run, hg]

theorem run_setObj_map {r : Nat} {es es' : Array MapEntry} {clock clock' : Nat} (hs : h.sub w) (hg : h r = some (.map es clock)) :
    ∃ w', (setObj r (.map es' clock')).run P w = .ok () w' ∧ (h.set r (.map es' clock')).sub w' ∧ Frm h w (h.set r (.map es' clock')) w' := by
  have hw := hs _ _ hg
  have hlt : r < w.heap.size := (Array.getElem?_eq_some_iff.1 hw).1
  refine ⟨{ w with heap := w.heap.setIfInBounds r (.map es' clock') }, by simp [setObj, Sem.run, hw], ?_, ?_⟩
  · intro b o hb
    unfold Heap.set at hb
    split at hb
    · rename_i hbb; subst hbb; simp only [Option.some.injEq] at hb; subst hb
      simp [hlt]
    · rename_i hne
      simp [Ne.symm hne, hs _ _ hb]
  · refine ⟨rfl, rfl, rfl, by simp, ?_, ?_⟩
    · intro b hb hn
      have hne : r ≠ b := fun he => by subst he; rw [hg] at hn; simp at hn
      simp [hne]
    · intro b hb hn
      have hne : b ≠ r := fun he => by subst he; rw [hg] at hn; simp at hn
      unfold Heap.set; rw [if_neg hne]; exact hn

theorem ex_run {o : Oper} {x : EX} {k : Value → Heap → Prop} (hx : cex P lay o.op = some x) (hag : ∀ y ∈ o.op.operands, Ag lay e ρ y) (hps : PrivS lay e h w ρ o.op.operands) (hs : h.sub w) (hwp : x.wp P e h k) :
    Good P k h w ((execOp ρ o).run P w) := by
  obtain ⟨dst, op, type, pos, after, guard⟩ := o
  cases op
  case store t y z =>
    simp only [cex] at hx
    split at hx
    · rename_i a b i ha hb hi
      simp only [Option.some.injEq] at hx; subst hx
      simp only [EX.wp] at hwp
      obtain ⟨bb, off, v, h', hp, hv, hsz, hst, hk⟩ := hwp
      have e1 := ag_get (hag y (by simp [Op.operands])) ha hp
      have e2 := ag_get (hag z (by simp [Op.operands])) hb hv
      obtain ⟨w', hr, hs', hf⟩ := hstore_run (P := P) hs hst
      simp only [execOp, e1, e2, Instr.storeAt, Instr.sureAddr, storeVar, Sem.run_bind, Sem.run_pure, Result.andThen_ok, run_sizeOf hi, hsz, ne_eq, not_true_eq_false, if_false, hr]
      exact ⟨h', hk, hs', hf⟩
    · simp at hx
  case alloc t =>
    simp only [cex, Option.map_eq_some_iff] at hx
    obtain ⟨z, hz, rfl⟩ := hx
    simp only [EX.wp, O.get] at hwp
    obtain ⟨v, hv, hk⟩ := hwp
    simp only [Option.some.injEq] at hv; subst hv
    have hr : (Instr.alloc t true (.tuple #[])).run P w = .ok (.pointer (some ⟨w.heap.size, 0, none⟩)) (w.alloc (.cells z.cells t (0, 0))) := by
      simp only [Instr.alloc, Sem.run_bind, run_zeroValue hz, Result.andThen_ok, newVar, newRow, run_newObj, Sem.run_pure]
      rfl
    simp only [execOp, Sem.run_bind, hr, Result.andThen_ok, Sem.run_pure]
    exact fresh_new (f := fun b => .pointer (some ⟨b, 0, none⟩)) hs hk
  case box t y =>
    simp only [cex, Option.map_eq_some_iff] at hx
    obtain ⟨a, ha, rfl⟩ := hx
    simp only [EX.wp] at hwp
    obtain ⟨v, hv, hk⟩ := hwp
    have hr : (Instr.box t (ρ y)).run P w = .ok (.pointer (some ⟨w.heap.size, 0, none⟩)) (w.alloc (.cells v.cells t (0, 0))) := by
      simp only [ag_get (hag y (by simp [Op.operands])) ha hv, Instr.box, newVar, newRow, Sem.run_bind, run_newObj, Result.andThen_ok, Sem.run_pure]
      rfl
    simp only [execOp, Sem.run_bind, hr, Result.andThen_ok, Sem.run_pure]
    exact fresh_new (f := fun b => .pointer (some ⟨b, 0, none⟩)) hs hk
  case makeSlice t l c =>
    simp only [cex] at hx
    split at hx
    · rename_i by_ sz z lo co he hl hc
      simp only [Option.some.injEq] at hx; subst hx
      obtain ⟨el, i, zv, hut, hi, hz, rfl, rfl, rfl, hzs, hpos⟩ := elemOf_spec he
      simp only [EX.wp] at hwp
      obtain ⟨n, m, j, j', hn, hm, hle, hlt, hb, hk⟩ := hwp
      have e1 := ag_get (hag l (by simp [Op.operands])) hl hn
      have e2 := ag_get (hag c (by simp [Op.operands])) hc hm
      have w1 : IntKind.i64.wrap (n : Int) = n := by simp only [IntKind.wrap, IntKind.bits, IntKind.signed]; simp; omega
      have w2 : IntKind.i64.wrap (m : Int) = m := by simp only [IntKind.wrap, IntKind.bits, IntKind.signed]; simp; omega
      have c1 : ¬ ((m : Int) < 0) := by omega
      have c2 : ¬ ((i.bytes : Int) * m > 2 ^ 48) := by
        have : ((i.bytes * m : Nat) : Int) ≤ ((2 ^ 48 : Nat) : Int) := by exact_mod_cast hb
        rw [Int.natCast_mul] at this
        have h2 : ((2 ^ 48 : Nat) : Int) = 2 ^ 48 := by rfl
        rw [h2] at this
        omega
      have c3 : ¬ ((n : Int) < 0) := by omega
      have c4 : ¬ ((n : Int) > m) := by omega
      have hr : (Instr.makeSlice t (.int j n) (.int j' m)).run P w = .ok (.slice (some ⟨w.heap.size, 0, none⟩) n m) (w.alloc (.cells (reps m zv.cells.toList).toArray el (0, 0))) := by
        simp only [Instr.makeSlice, Sem.run_bind, run_underlying hut, Result.andThen_ok, asInt, asIntOf, Sem.run_pure, run_typeInfo hi, w1, w2, c1, c2, c3, c4, decide_false, Bool.or_false, Bool.false_eq_true, if_false, run_askRoom, run_sizeOf hi, Int.toNat_natCast]
        by_cases h0 : m * i.size = 0
        · have hl0 : m = 0 := by
            rcases Nat.mul_eq_zero.1 h0 with h | h
            · exact h
            · omega
          subst hl0
          simp only [if_pos h0, Sem.run_bind, Sem.run_pure, Result.andThen_ok]
          rw [show (Array.map (fun x => (#[] : Array Value)[x % (#[] : Array Value).size]!) (Array.range (0 * i.size))) = (reps 0 zv.cells.toList).toArray by simp [reps]]
          rfl
        · simp only [if_neg h0, Sem.run_bind, run_zero_of hi hz, Sem.run_pure, Result.andThen_ok]
          rw [reps_cells hzs m]
          rfl
      simp only [execOp, e1, e2, Sem.run_bind, hr, Result.andThen_ok, Sem.run_pure]
      exact fresh_new (f := fun b => .slice (some ⟨b, 0, none⟩) n m) hs hk
    · simp at hx
  case buildSlice t len ps =>
    simp only [cex, Option.map_eq_some_iff] at hx
    obtain ⟨⟨sz, z, l⟩, hb, rfl⟩ := hx
    simp only [EX.wp] at hwp
    obtain ⟨cs, hcs, hk⟩ := hwp
    obtain ⟨el, _, hr⟩ := partsBls (w := w) hb hcs (fun y hy => hag y.2 (by simp [Op.operands]; exact ⟨y.1, by simpa using hy⟩))
    simp only [execOp, Sem.run_bind, hr, Result.andThen_ok, Sem.run_pure]
    exact fresh_new (f := fun b => .slice (some ⟨b, 0, none⟩) len len) hs hk
  case makeMap t r =>
    cases r with
    | some y => simp [cex] at hx
    | none =>
      simp only [cex, Option.some.injEq] at hx; subst hx
      simp only [EX.wp] at hwp
      have hr : (Instr.makeMap t (none.map ρ)).run P w = .ok (.map (some w.heap.size)) (w.alloc (.map #[] 0)) := rfl
      simp only [execOp, Sem.run_bind, hr, Result.andThen_ok, Sem.run_pure]
      exact good_value (hwp _ (sub_fresh hs)) (sub_new hs _) (frm_new _)
  case lookup t m y ok =>
    simp only [cex] at hx
    split at hx
    · rename_i kt el mo yo hu hm hy
      split at hx
      · rename_i z K hz hK
        simp only [Option.some.injEq] at hx; subst hx
        simp only [EX.wp] at hwp
        obtain ⟨b, es, clock, kv, r, h1, h2, h3, h4, h5, hk⟩ := hwp
        have e1 := ag_get (hag m (by simp [Op.operands])) hm h1
        have e2 := ag_get (hag y (by simp [Op.operands])) hy h3
        have hr : (Instr.lookup t (.map (some b)) kv ok).run P w = .ok (let (v, t) := match r with | some (_, v) => (v, true) | none => (z, false)
            if ok then .tuple #[v, .bool t] else v) w := by
          simp only [Instr.lookup, Sem.run_bind, run_underlying hu, Result.andThen_ok, run_getObj_map (hs _ _ h2), Sem.run_pure, keyT_check hK h4 _ 9998, findKey_run hK h5]
          cases r with
          | none => simp only [Sem.run_bind, run_zeroValue hz, Result.andThen_ok, Sem.run_pure]
          | some p => simp only [Sem.run_bind, Sem.run_pure, Result.andThen_ok]
        simp only [execOp, e1, e2, Sem.run_bind, hr, Result.andThen_ok, Sem.run_pure]
        exact good_value hk hs (Frm.refl _ _)
      · simp at hx
    · simp at hx
  case mapUpdate t m y z =>
    simp only [cex] at hx
    split at hx
    · rename_i kt el mo yo zo hu hm hy hz
      simp only [Option.map_eq_some_iff] at hx
      obtain ⟨K, hK, rfl⟩ := hx
      simp only [EX.wp] at hwp
      obtain ⟨b, es, clock, kv, v, r, h1, h2, h3, h3', h4, h5, hk⟩ := hwp
      have e1 := ag_get (hag m (by simp [Op.operands])) hm h1
      have e2 := ag_get (hag y (by simp [Op.operands])) hy h3
      have e3 := ag_get (hag z (by simp [Op.operands])) hz h3'
      cases r with
      | none =>
        simp only at hk
        obtain ⟨w', hr, hs', hf⟩ := run_setObj_map (P := P) (es' := es.push { key := kv, val := v, born := clock }) (clock' := clock + 1) hs h2
        have hr' : (Instr.mapUpdate t (.map (some b)) kv v).run P w = .ok () w' := by
          simp only [Instr.mapUpdate, Sem.run_bind, run_underlying hu, Result.andThen_ok, run_getObj_map (hs _ _ h2), keyT_check hK h4 _ 9998, findKey_run hK h5, hr]
        simp only [execOp, e1, e2, e3, Sem.run_bind, hr', Result.andThen_ok, Sem.run_pure]
        exact ⟨_, hk, hs', hf⟩
      | some p =>
        obtain ⟨i, pv⟩ := p
        simp only at hk
        have hstay : ∀ old, ∃ key w1, (Instr.keyThatStays old kv).run P w = .ok key w1 ∧ (w1 = w ∨ w1 = w.drew) := by
          intro old
          unfold Instr.keyThatStays
          split
          · exact ⟨kv, w, rfl, .inl rfl⟩
          · simp only [Sem.run_bind, run_choose, Question.forced]
            exact ⟨_, w.drew, rfl, .inr rfl⟩
        obtain ⟨key, w1, hk1, hw1⟩ := hstay (((es[i]?).map (·.key)).getD kv)
        have hs1 : h.sub w1 := by rcases hw1 with rfl | rfl <;> exact hs
        obtain ⟨w', hr, hs', hf⟩ := run_setObj_map (P := P) (es' := es.modify i fun e => { e with key, val := v }) (clock' := clock) hs1 h2
        have hf' : Frm h w (h.set b (.map (es.modify i fun e => { e with key, val := v }) clock)) w' := by
          rcases hw1 with rfl | rfl
          · exact hf
          · exact frm_drew hf
        have hr' : (Instr.mapUpdate t (.map (some b)) kv v).run P w = .ok () w' := by
          simp only [Instr.mapUpdate, Sem.run_bind, run_underlying hu, Result.andThen_ok, run_getObj_map (hs _ _ h2), keyT_check hK h4 _ 9998, findKey_run hK h5, hk1, hr]
        simp only [execOp, e1, e2, e3, Sem.run_bind, hr', Result.andThen_ok, Sem.run_pure]
        exact ⟨_, hk key, hs', hf'⟩
    · simp at hx
  case call c =>
    simp only [cex] at hx
    split at hx
    · -- append
      rename_i hc
      split at hx
      · rename_i t u x1 x2 ht hxs
        split at hx
        · rename_i by_ sz z a b he ha hb
          split at hx
          · rename_i hu
            simp only [Option.some.injEq] at hx; subst hx
            have h1 : c.argTypes = #[t, u] := by rw [← Array.toList_inj, ht]
            have h2 : c.args = #[x1, x2] := by rw [← Array.toList_inj, hxs]
            have hA := hag x1 (by simp [Op.operands, Call.operands, h2])
            have hB := hag x2 (by simp [Op.operands, Call.operands, h2])
            have := good_of (ex_app (ty := type) (by simp [Op.operands, Call.operands, h2]) (by simp [Op.operands, Call.operands, h2]) he ha hb hu hA hB hps hs hwp)
            simpa [execOp, resolve, hc, h1, h2, invoke, builtin] using this
          · simp at hx
        · simp at hx
      · simp at hx
    · -- copy
      rename_i hc
      split at hx
      · rename_i t u x1 x2 ht hxs
        split at hx
        · rename_i by_ sz z a b he ha hb
          split at hx
          · rename_i hu
            simp only [Option.some.injEq] at hx; subst hx
            obtain ⟨el, i, zv, hut, hi, hz, rfl, rfl, rfl, hzs, hpos⟩ := elemOf_spec he
            have h1 : c.argTypes = #[t, u] := by rw [← Array.toList_inj, ht]
            have h2 : c.args = #[x1, x2] := by rw [← Array.toList_inj, hxs]
            have hA := hag x1 (by simp [Op.operands, Call.operands, h2])
            have hB := hag x2 (by simp [Op.operands, Call.operands, h2])
            simp only [EX.wp] at hwp
            obtain ⟨p, n, m, cap, cs, hp, hsrc, hk⟩ := hwp
            have e1 := ag_get hA ha hp
            cases hg : b.get e with
            | none => rw [hg] at hsrc; simp [srcV] at hsrc
            | some v =>
              rw [hg] at hsrc
              have e2 := ag_get hB hb hg
              have hS := srcV_run (P := P) hs hsrc
              have hmin : min m n ≤ m := Nat.min_le_left _ _
              have hcells := hS.cells (Nat.min m n) hmin w rfl
              have hx : ∃ v' w', (Builtin.copy_ #[t, u] type #[.slice p n cap, v]).run P w = .ok v' w' ∧ ∃ h', k v' h' ∧ h'.sub w' ∧ Frm h w h' w' := by
                have hrun : (Builtin.copy_ #[t, u] type #[.slice p n cap, v]).run P w = match p with
                    | none => .ok (goInt (Nat.min m n)) w
                    | some a => ((storeCells a (cs.take (Nat.min m n * i.size))).run P w).andThen fun _ w' => .ok (goInt (Nat.min m n)) w' := by
                  cases p <;> simp only [Builtin.copy_, List.getElem?_toArray, List.getElem?_cons_zero, List.getElem?_cons_succ, Sem.run_bind, run_underlying hut, Result.andThen_ok, hS.len, run_sizeOf hi, hcells, Sem.run_pure]
                rw [hrun]
                cases p with
                | none => exact ⟨_, w, rfl, h, hk, hs, Frm.refl _ _⟩
                | some a =>
                  obtain ⟨b', off, sp⟩ := a
                  cases sp with
                  | some _ => exact hk.elim
                  | none =>
                    simp only at hk ⊢
                    obtain ⟨h', hst, hk⟩ := hk
                    obtain ⟨w', hr, hs', hf⟩ := hstore_run (P := P) hs hst
                    exact ⟨_, w', by rw [hr]; rfl, h', hk, hs', hf⟩
              have := good_of hx
              simpa [execOp, resolve, hc, h1, h2, invoke, builtin, e1, e2] using this
          · simp at hx
        · simp at hx
      · simp at hx
    · -- the length of a map
      rename_i hc
      split at hx
      · rename_i t x1 ht hxs
        split at hx
        · rename_i kt el a hu ha
          simp only [Option.some.injEq] at hx; subst hx
          have h1 : c.argTypes = #[t] := by rw [← Array.toList_inj, ht]
          have h2 : c.args = #[x1] := by rw [← Array.toList_inj, hxs]
          have hA := hag x1 (by simp [Op.operands, Call.operands, h2])
          simp only [EX.wp] at hwp
          obtain ⟨b, es, clock, hm, hg, hk⟩ := hwp
          have e1 := ag_get hA ha hm
          have hr : (Builtin.len_ #[t] type #[.map (some b)]).run P w = .ok (.int .i64 es.size) w := by
            simp only [Builtin.len_, List.getElem?_toArray, List.getElem?_cons_zero, Sem.run_bind, run_underlying hu, Result.andThen_ok, run_getObj_map (hs _ _ hg), Sem.run_pure, goInt]
          have := good_of ⟨_, w, hr, h, hk, hs, Frm.refl _ _⟩
          simpa [execOp, resolve, hc, h1, h2, invoke, builtin, e1] using this
        · simp at hx
      · simp at hx
    · rename_i f hc
      simp only [Option.map_eq_some_iff] at hx
      obtain ⟨l, hl, rfl⟩ := hx
      simp only [EX.wp] at hwp
      obtain ⟨vs, hvs, hcall⟩ := hwp
      have e1 := ogets_spec (ρ := ρ) hl hvs (fun y hy => hag y (by simp [Op.operands, Call.operands, hc]; exact .inr (by simpa using hy)))
      have e1' : c.args.map ρ = vs.toArray := by rw [← Array.toList_inj]; simpa using e1
      have hfv : ρ (.func f) = .func (.func f) #[] #[] := by
        exact hag (.func f) (by simp [Op.operands, Call.operands, hc]) _ _ rfl rfl
      have := calls_good hs hcall
      simpa [execOp, resolve, hc, e1', hfv, Deferred.ofValue, invoke] using this
    · rename_i t hc
      split at hx
      · rename_i fo l hf hl
        simp only [Option.some.injEq] at hx; subst hx
        simp only [EX.wp] at hwp
        obtain ⟨f, first, cap, vs, hfo, hvs, hcall⟩ := hwp
        have e1 := ogets_spec (ρ := ρ) hl hvs (fun y hy => hag y (by simp [Op.operands, Call.operands, hc]; exact .inr (by simpa using hy)))
        have e1' : c.args.map ρ = vs.toArray := by rw [← Array.toList_inj]; simpa using e1
        have hfv : ρ (.tmp t) = .func (.func f) first cap := ag_get (hag (.tmp t) (by simp [Op.operands, Call.operands, hc])) hf hfo
        have := calls_good hs hcall
        have e2 : (first.toList ++ vs ++ cap.toList).toArray = first ++ vs.toArray ++ cap := by apply Array.ext'; simp
        rw [e2] at this
        simpa [execOp, resolve, hc, e1', hfv, Deferred.ofValue, invoke] using this
      · simp at hx
    · simp at hx
  all_goals simp [cex] at hx

end
end Go.Proofs.Ytfhjclhchbagnaa
