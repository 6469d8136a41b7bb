/-
  Each operation that only computes gives, in the model, the value that the small language gives it.
-/
import Derived.Test.YtfhjclhchbagnaaG2
import Derived.Laws.StructEq
import Derived.Laws.Entries
import Derived.Laws.Cells
import Derived.Laws.CopyRow
namespace Go.Proofs.Ytfhjclhchbagnaa
open Go
set_option linter.all false
set_option linter.unusedVariables false
set_option linter.unusedSimpArgs false
set_option linter.defProp false

/-- the operand has in the frame the value that it has in the environment -/
def Ag (lay : Lay) (e : Env) (ρ : Operand → Value) (x : Operand) : Prop := ∀ o v, opr lay x = some o → o.get e = some v → ρ x = v

theorem beq_dec {α : Type} [BEq α] [LawfulBEq α] [DecidableEq α] (a b : α) : (a == b) = decide (a = b) := by
  rw [Bool.eq_iff_iff]; simp

theorem setC_cons (c : List Value) (p : Nat) (v : Value) (vs : List Value) (hp : p < c.length) : setC (c.set p v) (p + 1) vs = setC c p (v :: vs) := by
  have h1 : (c.set p v).take (p + 1) = c.take p ++ [v] := by
    rw [List.set_eq_take_append_cons_drop, if_pos hp, List.take_append]
    simp [Nat.min_eq_left (Nat.le_of_lt hp), List.take_take]
  have h2 : (c.set p v).drop (p + 1 + vs.length) = c.drop (p + (vs.length + 1)) := by
    rw [List.drop_set_of_lt (by omega)]
    congr 1
    omega
  simp only [setC, h1, h2, List.length_cons, List.append_assoc, List.cons_append, List.nil_append]

section
variable {P : Program} {lay : Lay} {e : Env} {ρ : Operand → Value}

theorem run_typeInfo {t : TypeId} {i : TypeInfo} (h : P.info? t = some i) (w : World) : (typeInfo t).run P w = .ok i w := by
  simp [typeInfo, h]
theorem run_sizeOf {t : TypeId} {i : TypeInfo} (h : P.info? t = some i) (w : World) : (sizeOf t).run P w = .ok i.size w := by
  simp [sizeOf, run_typeInfo h]
theorem run_zeroValue {t : TypeId} {z : Value} (h : zeroT P t = some z) (w : World) : (zeroValue t).run P w = .ok z w := by
  unfold zeroT at h
  cases hi : P.info? t with
  | none => simp [hi] at h
  | some i =>
    simp [hi] at h
    simp [zeroValue, run_typeInfo hi, h]

theorem szT_spec {t : TypeId} {s : Option Nat} (h : szT P t = some s) :
    match s with
    | some n => (∀ w, (isAgg t).run P w = .ok true w) ∧ ∀ w, (sizeOf t).run P w = .ok n w
    | none => ∀ w, (isAgg t).run P w = .ok false w := by
  unfold szT at h
  cases hu : P.underlying t with
  | none => simp [hu] at h
  | some d =>
    cases hi : P.info? t with
    | none => cases d <;> simp [hu, hi] at h
    | some i =>
      cases d <;> simp [hu, hi] at h <;> subst h <;> simp [isAgg, run_underlying hu, run_sizeOf hi]

theorem run_part {t : TypeId} {s : Option Nat} (h : szT P t = some s) {cs : Array Value} {off : Nat} {v : Value} (hv : partV cs.toList off s = some v) (w : World) :
    (part t cs off).run P w = .ok v w := by
  have hs := szT_spec h
  cases s with
  | none =>
    simp only [partV] at hv
    simp [part, hs w, ← Array.getElem?_toList, hv]
  | some n =>
    simp only [partV] at hv
    split at hv
    · rename_i hle
      simp only [Option.some.injEq] at hv
      subst hv
      simp only [part, Sem.run_bind, hs.1 w, Result.andThen_ok, if_true, hs.2 w, Sem.run_pure]
      congr 2
      apply Array.ext'
      simp [Array.toList_extract, List.extract]
    · simp at hv

theorem ag_get {x : Operand} (hag : Ag lay e ρ x) {o : O} (ho : opr lay x = some o) {v : Value} (hv : o.get e = some v) : ρ x = v := hag o v ho hv

theorem ogets_spec : ∀ {l : List Operand} {r : List O} {vs : List Value}, oprs lay l = some r → ogets e r = some vs → (∀ x ∈ l, Ag lay e ρ x) → l.map ρ = vs
  | [], r, vs, h, hv, _ => by simp [oprs] at h; subst h; simp [ogets] at hv; simp [hv]
  | x :: l, r, vs, h, hv, hag => by
    simp only [oprs] at h
    split at h
    · rename_i o r' ho hr
      simp only [Option.some.injEq] at h
      subst h
      simp only [ogets] at hv
      split at hv
      · rename_i v vs' hv1 hv2
        simp only [Option.some.injEq] at hv
        subst hv
        simp only [List.map_cons]
        rw [ag_get (hag x (by simp)) ho hv1, ogets_spec hr hv2 (fun y hy => hag y (by simp [hy]))]
      · simp at hv
    · simp at h

theorem eqB_run {d : Nat} {t : TypeId} {k : BK} (hb : basicT P t = some k) {a b : Value} {r : Bool} (h : eqB k a b = some r) (w : World) : (Op.equalIn (d + 1) t a b).run P w = .ok r w := by
  unfold basicT at hb
  cases hu : P.underlying t with
  | none => simp [hu] at hb
  | some u =>
    cases u <;> simp [hu] at hb <;> subst hb <;> cases a <;> cases b <;> simp [eqB] at h
    · rw [run_equalIn_bool' w _ _ _ _ hu]; simp [h]
    · rename_i j n j' n'
      obtain ⟨rfl, rfl⟩ := h
      rw [run_equalIn_int w _ _ _ _ _ _ hu]
      simp [beq_dec]
    · rw [run_equalIn_string w _ _ _ _ hu, ByteArray.toList_eq, ByteArray.toList_eq, ← h, beq_dec]
      simp

theorem basicT_agg {t : TypeId} {k : BK} (hb : basicT P t = some k) (w : World) : (isAgg t).run P w = .ok false w := by
  unfold basicT at hb
  cases hu : P.underlying t with
  | none => simp [hu] at hb
  | some u => cases u <;> simp [hu] at hb <;> simp [isAgg, run_underlying hu]

theorem eqL_run {d : Nat} {xs ys : Array Value} : ∀ {fs : List Field} {i : Nat} {ks : List BK} {r : Bool}, flatFields P fs i = some ks → eqL ks (xs.toList.drop i) (ys.toList.drop i) = some r → ∀ w, (Op.eqFields (d + 1) xs ys fs).run P w = .ok r w
  | [], i, ks, r, h, he, w => by
    simp [flatFields] at h
    subst h
    cases hx : xs.toList.drop i <;> cases hy : ys.toList.drop i <;> simp [hx, hy, eqL] at he
    simp [Op.eqFields, he]
  | f :: fs, i, ks, r, h, he, w => by
    simp only [flatFields] at h
    split at h
    · rename_i k l hk hl
      split at h
      · rename_i ho
        obtain ⟨hoff, hname⟩ := ho
        simp only [Option.some.injEq] at h
        subst h
        cases hx : xs.toList.drop i with
        | nil => simp [hx, eqL] at he
        | cons a x' =>
          cases hy : ys.toList.drop i with
          | nil => simp [hx, hy, eqL] at he
          | cons b y' =>
            rw [hx, hy] at he
            simp only [eqL] at he
            split at he
            · rename_i u v hu hv
              simp only [Option.some.injEq] at he
              have hxa : xs[i]? = some a := by
                rw [← Array.getElem?_toList, ← List.head?_drop, hx]; rfl
              have hyb : ys[i]? = some b := by
                rw [← Array.getElem?_toList, ← List.head?_drop, hy]; rfl
              have hx' : xs.toList.drop (i + 1) = x' := by rw [← List.tail_drop, hx]; rfl
              have hy' : ys.toList.drop (i + 1) = y' := by rw [← List.tail_drop, hy]; rfl
              have ih := eqL_run (d := d) (xs := xs) (ys := ys) hl (by rw [hx', hy']; exact hv) w
              have pa : ∀ w, (part f.type xs f.offset).run P w = .ok a w := fun w => by simp [part, basicT_agg hk w, hoff, hxa]
              have pb : ∀ w, (part f.type ys f.offset).run P w = .ok b w := fun w => by simp [part, basicT_agg hk w, hoff, hyb]
              simp only [Op.eqFields, hname, ne_eq, not_false_eq_true, if_true, Sem.run_bind, pa, Result.andThen_ok, pb, eqB_run hk hu, Sem.run_ite]
              cases u <;> simp at he ⊢
              · exact he
              · rw [ih, he]
            · simp at he
      · simp at h
    · simp at h

theorem eqf_run {d : Nat} {t : TypeId} {ks : List BK} (h : flatT P t = some ks) {xs ys : Array Value} {r : Bool} (he : eqL ks xs.toList ys.toList = some r) (w : World) :
    (Op.equalIn (d + 2) t (.agg xs) (.agg ys)).run P w = .ok r w := by
  unfold flatT at h
  cases hu : P.underlying t with
  | none => simp [hu] at h
  | some u =>
    cases u <;> simp [hu] at h
    rename_i fs
    obtain ⟨⟨h1, h2⟩, h3⟩ := h
    have hf : P.fieldsOf t = fs := by simp [Program.fieldsOf, hu]
    rw [run_equalIn_struct w (d + 1) t xs ys (by rw [hf]; exact hu) h1, hf]
    exact eqL_run h3 (by simpa using he) w

theorem flatT_guard {t : TypeId} {ks : List BK} (h : flatT P t = some ks) : P.eqGuardType P.depth t = false := by
  unfold flatT at h
  cases hu : P.underlying t with
  | none => simp [hu] at h
  | some u =>
    cases u <;> simp [hu] at h
    exact h.1.2

theorem partsAt_spec {place : Nat → Option (Nat × Nat)} : ∀ {l : List (Nat × Operand)} {ps : List (Nat × Nat × O)} {cs r : List Value}, partsAt lay place l = some ps →
    fillP e cs ps = some r → (∀ x ∈ l, Ag lay e ρ x.2) → Instr.fill place cs.toArray (l.map fun (i, x) => (i, ρ x)) = some r.toArray
  | [], ps, cs, r, h, hf, _ => by
    simp [partsAt] at h; subst h; simp [fillP] at hf; simp [Instr.fill, hf]
  | (i, x) :: l, ps, cs, r, h, hf, hag => by
    simp only [partsAt] at h
    split at h
    · rename_i off sz o ps' hp ho hps
      simp only [Option.some.injEq] at h
      subst h
      simp only [fillP] at hf
      split at hf
      · rename_i v hv
        split at hf
        · rename_i hle
          obtain ⟨hsz, hle⟩ := hle
          have hx : ρ x = v := ag_get (hag (i, x) (by simp)) ho hv
          have ih := partsAt_spec hps hf (fun y hy => hag y (by simp [hy]))
          simp only [List.map_cons, Instr.fill, hp, hx]
          rw [if_neg (by simp [hsz]; omega)]
          rw [← ih]
          congr 1
          -- one value's cells
          have key : ∀ (vs : List Value) (j : Nat) (c : List Value), off + j + vs.length ≤ c.length →
              (vs.zipIdx j).foldl (fun (cs : Array Value) (p : Value × Nat) => cs.setIfInBounds (off + p.2) p.1) c.toArray = (setC c (off + j) vs).toArray := by
            intro vs
            induction vs with
            | nil => intro j c _; simp [setC]
            | cons v vs ih =>
              intro j c hc
              simp only [List.length_cons] at hc
              simp only [List.zipIdx_cons, List.foldl_cons, List.setIfInBounds_toArray]
              rw [ih (j + 1) (c.set (off + j) v) (by simp; omega)]
              rw [show off + (j + 1) = off + j + 1 from rfl, setC_cons c (off + j) v vs (by omega)]
          rw [← Array.foldl_toList]
          have := key v.cells.toList 0 cs (by simp [hsz]; omega)
          simp at this ⊢
          rw [← this]
        · simp at hf
      · simp at hf
    · simp at h

theorem intV_run {op : BinOp} {k : IntKind} {a b : Int} {v : Value} {t : TypeId} (h : intV op k a b = some v) (w : World) : (binOp op t (.int k a) (.int k b)).run P w = .ok v w := by
  cases op <;> simp [intV] at h
  case quo => obtain ⟨h1, rfl⟩ := h; simp [binOp, Op.intDiv, h1]
  case rem => obtain ⟨h1, rfl⟩ := h; simp [binOp, Op.intDiv, h1]
  all_goals subst h
  all_goals first
    | (simp [binOp, Op.intArith]; done)
    | (simp [binOp, Op.intBits, andI, orI, xorI, andNotI]; done)
    | (simp [binOp, Op.intCmp, beq_dec]; done)
    | (simp [binOp, Op.intCmp, bne, beq_dec]; done)

theorem strV_run {op : BinOp} {a b : ByteArray} {v : Value} {t : TypeId} (h : strV op a b = some v) (w : World) : (binOp op t (.string a) (.string b)).run P w = .ok v w := by
  cases op <;> simp only [strV] at h
  case add =>
    split at h
    · simp at h
    · rename_i hn
      simp only [Option.some.injEq] at h
      subst h
      simp only [binOp, Op.stringOp, if_neg hn]
      rfl
  all_goals simp only [Option.some.injEq, reduceCtorEq] at h
  all_goals (subst h; simp [binOp, Op.stringOp, ByteArray.toList_eq, beq_dec])

theorem binV_run {op : BinOp} {x y v : Value} {t : TypeId} (h : binV op x y = some v) (w : World) : (binOp op t x y).run P w = .ok v w := by
  unfold binV at h
  split at h
  · rename_i k a k' b
    split at h
    · simp at h
    · rename_i hb
      simp only [Option.some.injEq] at h
      subst h
      simp [binOp, Op.shift, hb, shlI, shrI]
  · rename_i k a k' b
    split at h
    · simp at h
    · rename_i hb
      simp only [Option.some.injEq] at h
      subst h
      simp [binOp, Op.shift, hb, shlI, shrI]
  · split at h
    · rename_i hk; subst hk; exact intV_run h w
    · simp at h
  · exact strV_run h w
  · simp at h

theorem eqGuard_run {op : BinOp} {t : TypeId} {x y : Operand} {a b : Value} (hab : (∃ n m k, a = .int n m ∧ b = .int n k) ∨ (∃ s, a = .string s) ∨ (∃ s, a = .bool s) ∨ (∃ p n m, a = .slice p n m) ∨ (∃ j n j' m, a = .int j n ∧ b = .int j' m)) (w : World) : (eqGuard op t x y a b).run P w = .ok () w := by
  cases op <;> rcases hab with ⟨_, _, _, rfl, rfl⟩ | ⟨_, rfl⟩ | ⟨_, rfl⟩ | ⟨_, _, _, rfl⟩ | ⟨_, _, _, _, rfl, rfl⟩ <;> simp [eqGuard]

theorem binV_shape {op : BinOp} {x y v : Value} (h : binV op x y = some v) :
    (∃ n m k, x = .int n m ∧ y = .int n k) ∨ (∃ s, x = .string s) ∨ (∃ s, x = .bool s) ∨ (∃ p n m, x = .slice p n m) ∨ (∃ j n j' m, x = .int j n ∧ y = .int j' m) := by
  unfold binV at h
  split at h
  · exact .inr (.inr (.inr (.inr ⟨_, _, _, _, rfl, rfl⟩)))
  · exact .inr (.inr (.inr (.inr ⟨_, _, _, _, rfl, rfl⟩)))
  · exact .inr (.inr (.inr (.inr ⟨_, _, _, _, rfl, rfl⟩)))
  · exact .inr (.inl ⟨_, rfl⟩)
  · simp at h

theorem unV_run {op : UnOp} {x v : Value} (h : unV op x = some v) (w : World) : (Op.unary op x).run P w = .ok v w := by
  unfold unV at h
  split at h <;> simp only [Option.some.injEq, reduceCtorEq] at h
  · subst h; simp [Op.unary, Op.intArith]
  · subst h; simp [Op.unary]

theorem bndV_run {x : Option Value} {d n m : Nat} (h : bndV d n (x.map some) = some m) :
    match x with
    | none => d = m
    | some v => ∃ k i, v = .int k i ∧ 0 ≤ i ∧ i ≤ n ∧ i.toNat = m := by
  cases x with
  | none => simpa [bndV] using h
  | some v =>
    cases v <;> simp [bndV] at h
    exact ⟨_, _, rfl, h.1.1, h.1.2, h.2⟩

theorem sliceBound_run {k : IntKind} {i : Int} {n : Nat} {c : BoundsCode} (h1 : 0 ≤ i) (h2 : i ≤ n) (w : World) : (Instr.sliceBound (.int k i) n c).run P w = .ok i.toNat w := by
  simp [Instr.sliceBound, asIntOf, h1, h2]

theorem oprO_spec {x : Option Operand} {r : Option O} (h : oprO lay x = some r) (hag : ∀ y, x = some y → Ag lay e ρ y) {d n m : Nat} (hb : bndV d n (r.map (·.get e)) = some m) :
    ∃ z : Option Value, x.map ρ = z ∧ bndV d n (z.map some) = some m := by
  cases x with
  | none =>
    simp [oprO] at h
    subst h
    exact ⟨none, rfl, by simpa using hb⟩
  | some y =>
    simp only [oprO, Option.map_eq_some_iff] at h
    obtain ⟨o, ho, rfl⟩ := h
    cases hg : o.get e with
    | none => simp [hg, bndV] at hb
    | some v => exact ⟨some v, by simp [ag_get (hag y rfl) ho hg], by simpa [hg] using hb⟩

theorem map_opr {x : Operand} {f : O → PX} {y : PX} (h : (opr lay x).map f = some y) : ∃ o, opr lay x = some o ∧ f o = y := by
  simpa [Option.map_eq_some_iff] using h

theorem placesOf_run : ∀ {fs : List Field} {pl : List (Nat × Nat)}, placesOf P fs = some pl → ∀ w, (fs.mapM fun f => do pure (f.offset, ← sizeOf f.type) : Sem (List (Nat × Nat))).run P w = .ok pl w
  | [], pl, h, w => by simp [placesOf] at h; simp [h]
  | f :: fs, pl, h, w => by
    simp only [placesOf] at h
    split at h
    · rename_i i l hi hl
      simp only [Option.some.injEq] at h
      subst h
      have ih := placesOf_run hl w
      simp only [List.mapM_cons, Sem.run_bind, run_sizeOf hi, Result.andThen_ok, Sem.run_pure]
      rw [ih]
      rfl
    · simp at h

theorem nil_run {d : Nat} {t el : TypeId} {p : Option Addr} {n m : Nat} (hu : P.underlying t = some (.slice el)) (w : World) :
    (Op.equalIn (d + 1) t (.slice p n m) (.slice none 0 0)).run P w = .ok p.isNone w := by
  cases p <;> simp only [Op.equalIn, Sem.run_bind, run_underlying hu, Result.andThen_ok] <;> rfl

theorem px_bin {op : BinOp} {t : TypeId} {x y : Operand} {yt : TypeId} {z : PX} {v : Value} (hx : cpx P lay (.binOp op t x y yt) = some z)
    (hax : Ag lay e ρ x) (hay : Ag lay e ρ y) (hv : z.ev e = some v) (w : World) :
    (do eqGuard op t x y (ρ x) (ρ y); binOp op t (ρ x) (ρ y) : Sem Value).run P w = .ok v w := by
  simp only [cpx] at hx
  have viaBin : ∀ a b, opr lay x = some a → opr lay y = some b → (PX.bin op a b).ev e = some v → (do eqGuard op t x y (ρ x) (ρ y); binOp op t (ρ x) (ρ y) : Sem Value).run P w = .ok v w := by
    intro a b ha hb hv
    simp only [PX.ev] at hv
    split at hv
    · rename_i u1 u2 h1 h2
      rw [ag_get hax ha h1, ag_get hay hb h2]
      simp [eqGuard_run (binV_shape hv), binV_run hv]
    · simp at hv
  split at hx
  · rename_i k a b hu ha hb
    simp only [Option.some.injEq] at hx
    subst hx
    exact viaBin a b ha hb hv
  · rename_i a b hu ha hb
    simp only [Option.some.injEq] at hx
    subst hx
    exact viaBin a b ha hb hv
  · rename_i a b hu ha hb
    have hnil : ∀ neg, (PX.isNil neg a).ev e = some v → ρ y = .slice none 0 0 → (op = if neg then .neq else .eql) → (do eqGuard op t x y (ρ x) (ρ y); binOp op t (ρ x) (ρ y) : Sem Value).run P w = .ok v w := by
      intro neg hv hy hop
      simp only [PX.ev] at hv
      split at hv
      case h_2 => simp at hv
      rename_i vx hp
      unfold isNilV at hv
      split at hv
      · rename_i p n m
        simp only [Option.some.injEq] at hv
        subst hv
        rw [ag_get hax ha hp, hy]
        have hq := nil_run (d := 9999) (p := p) (n := n) (m := m) hu w
        cases neg <;> simp only [Bool.false_eq_true, if_false, if_true] at hop <;> subst hop
        · have e1 : binOp .eql t (.slice p n m) (.slice none 0 0) = (do pure (.bool (← Op.equal t (.slice p n m) (.slice none 0 0)))) := by simp only [binOp]
          rw [e1]
          simp only [Sem.run_bind, eqGuard_run (.inr (.inr (.inr (.inl ⟨_, _, _, rfl⟩)))), Result.andThen_ok, Op.equal, Op.maxDepth, hq, Sem.run_pure, Bool.false_eq_true, if_false]
        · have e1 : binOp .neq t (.slice p n m) (.slice none 0 0) = (do pure (.bool (!(← Op.equal t (.slice p n m) (.slice none 0 0))))) := by simp only [binOp]
          rw [e1]
          simp only [Sem.run_bind, eqGuard_run (.inr (.inr (.inr (.inl ⟨_, _, _, rfl⟩)))), Result.andThen_ok, Op.equal, Op.maxDepth, hq, Sem.run_pure, if_true]
          cases p <;> rfl
      · simp at hv
    split at hx
    · simp only [Option.some.injEq] at hx
      subst hx
      exact hnil false hv (ag_get hay rfl rfl) rfl
    · simp only [Option.some.injEq] at hx
      subst hx
      exact hnil true hv (ag_get hay rfl rfl) rfl
    · simp at hx
  · rename_i a b hu ha hb
    have hbb : ∀ neg, (PX.eqb neg a b).ev e = some v → (op = if neg then .neq else .eql) → (do eqGuard op t x y (ρ x) (ρ y); binOp op t (ρ x) (ρ y) : Sem Value).run P w = .ok v w := by
      intro neg hv hop
      simp only [PX.ev] at hv
      split at hv
      · rename_i u1 u2 h1 h2
        simp only [Option.some.injEq] at hv
        subst hv
        rw [ag_get hax ha h1, ag_get hay hb h2]
        cases neg <;> simp only [Bool.false_eq_true, if_false, if_true] at hop <;> subst hop
        · have e1 : ∀ a b, binOp .eql t (.bool a) (.bool b) = (do pure (.bool (← Op.equal t (.bool a) (.bool b)))) := by intro a b; simp only [binOp]
          rw [e1]
          simp only [Sem.run_bind, eqGuard_run (.inr (.inr (.inl ⟨_, rfl⟩))), Result.andThen_ok, Op.equal, Op.maxDepth, run_equalIn_bool' _ 9999 _ _ _ hu, Sem.run_pure, Bool.false_eq_true, if_false]
        · have e1 : ∀ a b, binOp .neq t (.bool a) (.bool b) = (do pure (.bool (!(← Op.equal t (.bool a) (.bool b))))) := by intro a b; simp only [binOp]
          rw [e1]
          simp only [Sem.run_bind, eqGuard_run (.inr (.inr (.inl ⟨_, rfl⟩))), Result.andThen_ok, Op.equal, Op.maxDepth, run_equalIn_bool' _ 9999 _ _ _ hu, Sem.run_pure, if_true]
      · simp at hv
    split at hx
    · simp only [Option.some.injEq] at hx; subst hx; exact hbb false hv rfl
    · simp only [Option.some.injEq] at hx; subst hx; exact hbb true hv rfl
    · simp at hx
  · rename_i fs a b hu ha hb
    have hss : ∀ neg ks, flatT P t = some ks → (PX.eqf neg ks a b).ev e = some v → (op = if neg then .neq else .eql) → (do eqGuard op t x y (ρ x) (ρ y); binOp op t (ρ x) (ρ y) : Sem Value).run P w = .ok v w := by
      intro neg ks hks hv hop
      simp only [PX.ev] at hv
      split at hv
      · rename_i u1 u2 h1 h2
        simp only [Option.map_eq_some_iff] at hv
        obtain ⟨r, hr, rfl⟩ := hv
        rw [ag_get hax ha h1, ag_get hay hb h2]
        simp only [Sem.run_bind, run_eqGuard_agg w op t x y u1 u2 (flatT_guard hks), Result.andThen_ok]
        have hq := eqf_run (d := 9998) hks hr w
        cases neg <;> simp only [Bool.false_eq_true, if_false, if_true] at hop <;> subst hop
        · rw [run_eql_struct, hq]; rfl
        · rw [run_neq_struct, hq]; rfl
      · simp at hv
    split at hx
    · rename_i ks hks; simp only [Option.some.injEq] at hx; subst hx; exact hss false ks hks hv rfl
    · rename_i ks hks; simp only [Option.some.injEq] at hx; subst hx; exact hss true ks hks hv rfl
    · simp at hx
  · simp at hx

theorem px_build {t : TypeId} {ps : Array (Nat × Operand)} {z : PX} {v : Value} (hx : cpx P lay (.build t ps) = some z)
    (hag : ∀ y ∈ ps.toList, Ag lay e ρ y.2) (hv : z.ev e = some v) (w : World) :
    (Instr.build t (ps.map fun (i, x) => (i, ρ x))).run P w = .ok v w := by
  simp only [cpx] at hx
  split at hx
  · rename_i fs zv hu hz
    split at hx
    · rename_i pl hpl
      simp only [Option.map_eq_some_iff] at hx
      obtain ⟨l, hl, rfl⟩ := hx
      simp only [PX.ev, Option.map_eq_some_iff] at hv
      obtain ⟨cs, hcs, rfl⟩ := hv
      have hfill := partsAt_spec hl hcs hag
      have hpl' : (fs.mapM fun f => do pure (f.offset, ← sizeOf f.type) : Sem (Array (Nat × Nat))).run P w = .ok pl.toArray w := by
        have := placesOf_run hpl w
        rw [Array.mapM_eq_mapM_toList, Sem.run_map, this]
        rfl
      simp only [Instr.build, Sem.run_bind, run_zeroValue hz, Result.andThen_ok, run_underlying hu, hpl']
      simp only [List.getElem?_toArray, Array.toList_map]
      simp at hfill
      simp [hfill]
    · simp at hx
  · rename_i n el zv hu hz
    split at hx
    · rename_i i hi
      simp only [Option.map_eq_some_iff] at hx
      obtain ⟨l, hl, rfl⟩ := hx
      simp only [PX.ev, Option.map_eq_some_iff] at hv
      obtain ⟨cs, hcs, rfl⟩ := hv
      have hfill := partsAt_spec hl hcs hag
      simp only [Instr.build, Sem.run_bind, run_zeroValue hz, Result.andThen_ok, run_underlying hu, run_sizeOf hi]
      simp only [Array.toList_map]
      simp at hfill
      simp [hfill]
    · simp at hx
  · simp at hx

end
end Go.Proofs.Ytfhjclhchbagnaa
