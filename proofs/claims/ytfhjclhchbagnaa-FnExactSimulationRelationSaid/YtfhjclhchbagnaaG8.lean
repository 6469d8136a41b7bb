/-
  The state that the small language and the model share; one operation takes a shared state to a shared state.
-/
import Derived.Test.YtfhjclhchbagnaaG7
namespace Go.Proofs.Ytfhjclhchbagnaa
open Go
set_option linter.all false
set_option linter.unusedVariables false
set_option linter.unusedSimpArgs false
set_option linter.defProp false

/-- as Frm, where blocks from 'base' on are the function's own -/
structure FrB (base : Nat) (h : Heap) (w : World) (h' : Heap) (w' : World) : Prop where
  tape : w'.tape = w.tape
  os : w'.os = w.os
  output : w'.output = w.output
  size : w.heap.size ≤ w'.heap.size
  keep : ∀ b, b < base → h b = none → w'.heap[b]? = w.heap[b]?
  fresh : ∀ b, b < base → h b = none → h' b = none

namespace FrB
theorem refl (base : Nat) (h : Heap) (w : World) : FrB base h w h w := ⟨rfl, rfl, rfl, Nat.le_refl _, fun _ _ _ => rfl, fun _ _ hb => hb⟩
theorem trans {base : Nat} {h h1 h2 : Heap} {w w1 w2 : World} (a : FrB base h w h1 w1) (b : FrB base h1 w1 h2 w2) : FrB base h w h2 w2 where
  tape := b.tape.trans a.tape
  os := b.os.trans a.os
  output := b.output.trans a.output
  size := Nat.le_trans a.size b.size
  keep x hx hn := (b.keep x hx (a.fresh x hx hn)).trans (a.keep x hx hn)
  fresh x hx hn := b.fresh x hx (a.fresh x hx hn)
theorem of_frm {base : Nat} {h h' : Heap} {w w' : World} (hb : base ≤ w.heap.size) (f : Frm h w h' w') : FrB base h w h' w' :=
  ⟨f.tape, f.os, f.output, f.size, fun x hx hn => f.keep x (Nat.lt_of_lt_of_le hx hb) hn, fun x hx hn => f.fresh x (Nat.lt_of_lt_of_le hx hb) hn⟩
end FrB

/-- the frame keeps its size, and what it has deferred -/
def SameA (a a' : Act) : Prop := a'.defers = a.defers ∧ a'.tmps.size = a.tmps.size
theorem SameA.trans {a b c : Act} (h2 : SameA b c) (h1 : SameA a b) : SameA a c := ⟨h2.1.trans h1.1, h2.2.trans h1.2⟩

theorem eget_eset_same : ∀ (e : Env) (i : Nat) (v : Option Value), eget (eset e i v) i = v ∨ eget (eset e i v) i = none
  | [], _, _ => .inr rfl
  | _ :: _, 0, _ => .inl rfl
  | _ :: t, n + 1, v => eget_eset_same t n v
theorem eget_eset_ne : ∀ (e : Env) (i j : Nat) (v : Option Value), i ≠ j → eget (eset e i v) j = eget e j
  | [], _, _, _, _ => rfl
  | _ :: _, 0, 0, _, h => absurd rfl h
  | _ :: _, 0, _ + 1, _, _ => rfl
  | _ :: _, _ + 1, 0, _, _ => rfl
  | _ :: t, n + 1, m + 1, v, h => eget_eset_ne t n m v (fun he => h (by omega))
theorem eget_efgt : ∀ (l : List Nat) (e : Env) (j : Nat), eget (efgt e l) j = eget e j ∨ eget (efgt e l) j = none
  | [], _, _ => .inl rfl
  | i :: l, e, j => by
    simp only [efgt]
    by_cases h : i = j
    · subst h
      rcases eget_efgt l (eset e i none) i with h1 | h1
      · rw [h1]
        rcases eget_eset_same e i none with h2 | h2 <;> exact .inr h2
      · exact .inr h1
    · rcases eget_efgt l (eset e i none) j with h1 | h1
      · rw [h1, eget_eset_ne _ _ _ _ h]; exact .inl rfl
      · exact .inr h1
theorem eget_efgt_mem : ∀ (l : List Nat) (e : Env) (j : Nat), j ∈ l → eget (efgt e l) j = none
  | i :: l, e, j, hj => by
    simp only [efgt]
    rcases List.mem_cons.1 hj with rfl | hj
    · rcases eget_efgt l (eset e j none) j with h1 | h1
      · rw [h1]
        rcases eget_eset_same e j none with h2 | h2 <;> exact h2
      · exact h1
    · exact eget_efgt_mem l _ j hj

def Blk (w : World) (h : Heap) (base b : Nat) (c : Array Value) : Prop := (∃ el, w.heap[b]? = some (.cells c el (0, 0))) ∧ h b = none ∧ base ≤ b

def Cov (base : Nat) (e : Env) (h : Heap) (w : World) (ρ : Operand → Value) (blk : Nat → Nat) (i t : Nat) : Knd → Prop
  | .pl => ∀ v, eget e i = some v → ρ (.tmp t) = v
  | .bx => ∀ v, eget e i = some v → ρ (.tmp t) = .pointer (some ⟨blk i, 0, none⟩) ∧ Blk w h base (blk i) v.cells
  | .al j off => eget e i = some (.bool true) → ρ (.tmp t) = .pointer (some ⟨blk j, off, none⟩)
  | .ps n => ∀ v, eget e i = some v → ∃ c, v = .agg c ∧ ρ (.tmp t) = .slice (some ⟨blk i, 0, none⟩) n n ∧ Blk w h base (blk i) c

def isOwn : Knd → Bool
  | .bx => true
  | .ps _ => true
  | _ => false

/-- a private block stands at this place -/
def Act' (lay : Lay) (e : Env) (i : Nat) : Prop := ∃ t k v, lay[i]? = some (t, k) ∧ isOwn k = true ∧ eget e i = some v

structure St (base : Nat) (lay : Lay) (L : Nat → Prop) (e : Env) (h : Heap) (w : World) (a : Act) : Prop where
  cov : ∃ blk : Nat → Nat, (∀ (i t : Nat) (k : Knd), lay[i]? = some (t, k) → L i → Cov base e h w a.eval blk i t k) ∧
    (∀ i j, L i → L j → Act' lay e i → Act' lay e j → i ≠ j → blk i ≠ blk j)
  sub : h.sub w
  sz : ∀ (i t : Nat) (k : Knd), lay[i]? = some (t, k) → t < a.tmps.size
  low : base ≤ w.heap.size
  len : lay.length ≤ e.length

theorem eset_length : ∀ (e : Env) (i : Nat) (v : Option Value), (eset e i v).length = e.length
  | [], _, _ => rfl
  | _ :: _, 0, _ => rfl
  | _ :: t, n + 1, v => by simp [eset, eset_length t n v]
theorem efgt_length : ∀ (l : List Nat) (e : Env), (efgt e l).length = e.length
  | [], _ => rfl
  | i :: l, e => by simp [efgt, efgt_length l, eset_length]
theorem dput_length (d : Option Nat) (v : Option Value) (e : Env) : (dput d v e).length = e.length := by
  cases d <;> simp [dput, eset_length]

theorem lfindFrom_spec : ∀ {lay : Lay} {t n i : Nat} {k : Knd}, lfindFrom t lay n = some (i, k) → ∃ j, i = n + j ∧ lay[j]? = some (t, k)
  | [], t, n, i, k, h => by simp [lfindFrom] at h
  | (u, k') :: r, t, n, i, k, h => by
    simp only [lfindFrom] at h
    split at h
    · rename_i hu
      simp only [Option.some.injEq, Prod.mk.injEq] at h
      obtain ⟨rfl, rfl⟩ := h
      exact ⟨0, rfl, by simp [hu]⟩
    · obtain ⟨j, rfl, hj⟩ := lfindFrom_spec h
      exact ⟨j + 1, by omega, by simpa using hj⟩
theorem lfind_spec {lay : Lay} {t i : Nat} {k : Knd} (h : lfind lay t = some (i, k)) : lay[i]? = some (t, k) := by
  obtain ⟨j, rfl, hj⟩ := lfindFrom_spec h
  simpa using hj
theorem plainAt_spec {lay : Lay} {t i : Nat} (h : plainAt lay t = some i) : lfind lay t = some (i, .pl) := by
  unfold plainAt at h
  split at h
  · rename_i j hj; simp only [Option.some.injEq] at h; subst h; exact hj
  · simp at h

def Dist (lay : Lay) : Prop := ∀ (i j t : Nat) (k k' : Knd), lay[i]? = some (t, k) → lay[j]? = some (t, k') → i = j

theorem put_eval {a : Act} {t : Nat} {v : Value} (ht : t < a.tmps.size) : (a.put (some t) v).eval (.tmp t) = v := by
  simp [Act.put, Act.eval, ht]
theorem put_eval_ne {a : Act} {d : Option Tmp} {t : Nat} {v : Value} (hd : d ≠ some t) : (a.put d v).eval (.tmp t) = a.eval (.tmp t) :=
  Act.eval_put fun u hu => fun he => hd (by simp only [Operand.tmp.injEq] at he; rw [hu, he])
theorem put_size {a : Act} {d : Option Tmp} {v : Value} : (a.put d v).tmps.size = a.tmps.size := by
  cases d <;> simp [Act.put]

/-- the operands of an operation are places of which the state speaks -/
def OpL (lay : Lay) (L : Nat → Prop) (o : Oper) : Prop :=
  ∀ t, Operand.tmp t ∈ o.op.operands → ∀ i k, lfind lay t = some (i, k) → L i ∧ ∀ j off, k = .al j off → L j

section
variable {P : Program} {base : Nat} {lay : Lay} {L : Nat → Prop} {e : Env} {h : Heap} {w : World} {a : Act}

theorem Cov.keep {blk blk' : Nat → Nat} {ρ ρ' : Operand → Value} {e' : Env} {h' : Heap} {w' : World} {i t : Nat} {k : Knd} (hc : Cov base e h w ρ blk i t k)
    (he : eget e' i = eget e i ∨ eget e' i = none) (hρ : ρ' (.tmp t) = ρ (.tmp t)) (hb : blk' i = blk i) (hal : ∀ j off, k = .al j off → eget e' i = none ∨ blk' j = blk j)
    (hk : ∀ c, isOwn k = true → (∃ v, eget e i = some v) → Blk w h base (blk i) c → Blk w' h' base (blk i) c) : Cov base e' h' w' ρ' blk' i t k := by
  rcases he with he | he
  · cases k with
    | pl => intro v hv; rw [hρ]; exact hc v (he ▸ hv)
    | bx =>
      intro v hv
      obtain ⟨h1, h2⟩ := hc v (he ▸ hv)
      rw [hρ, hb]
      exact ⟨h1, hk _ rfl ⟨v, he ▸ hv⟩ h2⟩
    | al j off =>
      intro hv
      rw [hρ]
      rcases hal j off rfl with h1 | h1
      · rw [h1] at hv; simp at hv
      · rw [h1]; exact hc (he ▸ hv)
    | ps n =>
      intro v hv
      obtain ⟨c, h1, h2, h3⟩ := hc v (he ▸ hv)
      rw [hρ, hb]
      exact ⟨c, h1, h2, hk _ rfl ⟨v, he ▸ hv⟩ h3⟩
  · cases k with
    | pl => intro v hv; rw [he] at hv; simp at hv
    | bx => intro v hv; rw [he] at hv; simp at hv
    | al j off => intro hv; rw [he] at hv; simp at hv
    | ps n => intro v hv; rw [he] at hv; simp at hv

theorem Blk.frm {h' : Heap} {w' : World} {b : Nat} {c : Array Value} (hb : Blk w h base b c) (f : Frm h w h' w') : Blk w' h' base b c := by
  obtain ⟨⟨el, h1⟩, h2, h3⟩ := hb
  have hlt : b < w.heap.size := (Array.getElem?_eq_some_iff.1 h1).1
  exact ⟨⟨el, by rw [f.keep b hlt h2]; exact h1⟩, f.fresh b hlt h2, h3⟩

theorem Act'.of_set {i p : Nat} {v : Option Value} (hx : Act' lay (eset e p v) i) (hp : ∀ (t : Nat) (k : Knd), lay[p]? = some (t, k) → isOwn k = false) : Act' lay e i := by
  obtain ⟨t, k, u, h1, h2, h3⟩ := hx
  by_cases hip : p = i
  · subst hip; rw [hp t k h1] at h2; simp at h2
  · exact ⟨t, k, u, h1, h2, by rwa [eget_eset_ne _ _ _ _ hip] at h3⟩

/-- an operation whose value goes to a plain place, or nowhere -/
theorem St.value (hd : Dist lay) (S : St base lay L e h w a) {h' : Heap} {w' : World} (hs : h'.sub w') (f : Frm h w h' w') {dst : Option Tmp} {d : Option Nat} (hdst : cdst lay dst = some d) (v : Value) :
    St base lay (fun i => L i ∨ d = some i) (dput d (some v) e) h' w' (a.put dst v) := by
  obtain ⟨blk, hcov, hinj⟩ := S.cov
  cases dst with
  | none =>
    simp only [cdst, Option.some.injEq] at hdst
    subst hdst
    refine ⟨⟨blk, ?_, ?_⟩, hs, ?_, Nat.le_trans S.low f.size, by simpa [dput_length] using S.len⟩
    · intro i t k hi hL
      rcases hL with hL | hL
      · exact (hcov i t k hi hL).keep (.inl rfl) (put_eval_ne (by simp)) rfl (fun _ _ _ => .inr rfl) (fun c _ _ hb => hb.frm f)
      · simp at hL
    · intro i j hi hj
      simp only [reduceCtorEq, or_false] at hi hj
      exact hinj i j hi hj
    · intro i t k hi; rw [put_size]; exact S.sz i t k hi
  | some t0 =>
    simp only [cdst, Option.map_eq_some_iff] at hdst
    obtain ⟨p, hp, rfl⟩ := hdst
    have hp' := lfind_spec (plainAt_spec hp)
    refine ⟨⟨blk, ?_, ?_⟩, hs, ?_, Nat.le_trans S.low f.size, by simpa [dput_length] using S.len⟩
    · intro i t k hi hL
      by_cases hip : p = i
      · subst hip
        obtain ⟨rfl, rfl⟩ : t = t0 ∧ k = .pl := by rw [hp'] at hi; simp at hi; exact ⟨hi.1.symm, hi.2.symm⟩
        intro u hu
        rw [put_eval (S.sz _ _ _ hp')]
        rcases eget_eset_same e p (some v) with h1 | h1
        · simp only [dput] at hu; rw [h1] at hu; simpa using hu
        · simp only [dput] at hu; rw [h1] at hu; simp at hu
      · have hL' : L i := by
          rcases hL with hL | hL
          · exact hL
          · simp only [Option.some.injEq] at hL; exact absurd hL hip
        have hne : some t0 ≠ some t := by
          intro he
          simp only [Option.some.injEq] at he
          subst he
          exact hip (hd _ _ _ _ _ hp' hi)
        exact (hcov i t k hi hL').keep (.inl (eget_eset_ne _ _ _ _ hip)) (put_eval_ne hne) rfl (fun _ _ _ => .inr rfl) (fun c _ _ hb => hb.frm f)
    · intro i j hi hj ai aj hij
      have hnotown : ∀ (t : Nat) (k : Knd), lay[p]? = some (t, k) → isOwn k = false := by
        intro t k htk; rw [hp'] at htk; simp at htk; rw [← htk.2]; rfl
      have back : ∀ x, (L x ∨ some p = some x) → Act' lay (dput (some p) (some v) e) x → L x ∧ Act' lay e x := by
        intro x hx ax
        have ax' : Act' lay e x := Act'.of_set ax hnotown
        rcases hx with hx | hx
        · exact ⟨hx, ax'⟩
        · simp only [Option.some.injEq] at hx
          subst hx
          obtain ⟨t, k, _, h1, h2, _⟩ := ax'
          rw [hnotown t k h1] at h2
          simp at h2
      obtain ⟨h1, h2⟩ := back i hi ai
      obtain ⟨h3, h4⟩ := back j hj aj
      exact hinj i j h1 h3 h2 h4 hij
    · intro i t k hi; rw [put_size]; exact S.sz i t k hi

/-- the operands have the values that the environment gives -/
theorem St.ag (S : St base lay L e h w a) {o : Oper} (hL : OpL lay L o) : ∀ y ∈ o.op.operands, Ag lay e a.eval y := by
  intro y hy ov v ho hv
  obtain ⟨blk, hcov, _⟩ := S.cov
  cases y with
  | tmp t =>
    simp only [opr, Option.map_eq_some_iff] at ho
    obtain ⟨i, hi, rfl⟩ := ho
    have hf := plainAt_spec hi
    exact hcov i t .pl (lfind_spec hf) (hL t hy i .pl hf).1 v hv
  | const c => simp only [opr, Option.some.injEq] at ho; subst ho; simpa [O.get, Act.eval] using hv
  | global g => simp only [opr, Option.some.injEq] at ho; subst ho; simpa [O.get, Act.eval] using hv
  | func f => simp only [opr, Option.some.injEq] at ho; subst ho; simpa [O.get, Act.eval] using hv

theorem St.psv (S : St base lay L e h w a) {o : Oper} (hL : OpL lay L o) : PrivS lay e h w a.eval o.op.operands := by
  intro t i n c ht hi hc
  obtain ⟨blk, hcov, _⟩ := S.cov
  obtain ⟨c', h1, h2, ⟨el, h3⟩, h4, _⟩ := hcov i t (.ps n) (lfind_spec hi) (hL t ht i _ hi).1 _ hc
  simp only [Value.agg.injEq] at h1
  subst h1
  exact ⟨_, el, h2, h3, h4⟩

end
end Go.Proofs.Ytfhjclhchbagnaa
