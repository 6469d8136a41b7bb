/-
  The state of the memory as a list of the pieces that are owned, over a part that is only read; and the steps of a walk in these words.
-/
import Derived.Test.YtfhjclhchbagnaaG19
namespace Go.Proofs.Ytfhjclhchbagnaa
open Go
set_option linter.all false
set_option linter.unusedVariables false
set_option linter.unusedSimpArgs false
set_option linter.defProp false
universe u

/- what the simplifier does not go into: 'same' makes it take these laws for a step, so that it does not fall back on its own -/
def same {α : Sort u} (x : α) : α := x
@[simp] theorem same_eq {α : Sort u} (x : α) : same x = x := Eq.trans (Eq.refl x) (Eq.refl x)
section
variable {P : Program} {e e' : Env} {h : Heap} {Q : Ex → Env → Heap → Prop} {k : Env → Heap → Prop}
@[congr] theorem C.wp_congr {c : C} (he : same e = e') : C.wp P c Q e h = C.wp P c Q e' h := by rw [← he, same_eq]
@[congr] theorem Pl.wp_congr {p : Pl} (he : same e = e') : Pl.wp P k p e h = Pl.wp P k p e' h := by rw [← he, same_eq]
@[congr] theorem S.wp_congr {s : S} (he : same e = e') : S.wp P k e h s = S.wp P k e' h s := by rw [← he, same_eq]
@[congr] theorem A.wp_congr {x : A} (he : same e = e') : A.wp P k e h x = A.wp P k e' h x := by rw [← he, same_eq]
@[congr] theorem seqQ_congr {b : C} {x x' : Ex} (hx : x = x') (he : same e = e') : seqQ P b Q x e h = seqQ P b Q x' e' h := by rw [hx, ← he, same_eq]
@[congr] theorem blockQ_congr {i : Nat} {x x' : Ex} (hx : x = x') (he : same e = e') : blockQ i Q x e h = blockQ i Q x' e' h := by rw [hx, ← he, same_eq]
@[congr] theorem loopQ_congr {n : Nat} {fg : List Nat} {I : Env → Heap → Prop} {x x' : Ex} (hx : x = x') (he : same e = e') : loopQ n fg I Q x e h = loopQ n fg I Q x' e' h := by rw [hx, ← he, same_eq]
@[congr] theorem Fgt_congr (he : same e = e') : Fgt k e h = Fgt k e' h := by rw [← he, same_eq]
@[congr] theorem RetK_congr {k : Value → Heap → Prop} {v v' : Value} (hv : same v = v') : RetK k v h = RetK k v' h := by rw [← hv, same_eq]
@[congr] theorem CallE_congr {f f' : FuncId} {a a' : List Value} {q : Value → Heap → Prop} (hf : f = f') (ha : same a = a') : CallE P f a h q = CallE P f' a' h q := by rw [hf, ← ha, same_eq]
@[congr] theorem IteW_congr {p p' A B : Prop} (hp : same p = p') : IteW p A B = IteW p' A B := by rw [← hp, same_eq]
@[congr] theorem condW_congr {v v' : Option Value} {A B : Prop} (hv : same v = v') : condW v A B = condW v' A B := by rw [← hv, same_eq]
@[congr] theorem guardW_congr' {v v' : Option Value} {w : Bool} {A B : Prop} (hv : same v = v') : guardW v w A B = guardW v' w A B := by rw [← hv, same_eq]
@[congr] theorem ExW_congr {α : Type} {x x' : Option α} {k : α → Prop} (hx : same x = x') : ExW x k = ExW x' k := by rw [← hx, same_eq]
@[congr] theorem AndW_congr {p p' A : Prop} (hp : same p = p') : AndW p A = AndW p' A := by rw [← hp, same_eq]
attribute [simp] List.getElem?_cons_zero List.getElem?_cons_succ List.getElem_cons_zero List.getElem_cons_succ
theorem C.wpe {c c' : C} (hc : c = c') {P : Program} {Q : Ex → Env → Heap → Prop} {e : Env} {h : Heap} : C.wp P c Q e h = C.wp P c' Q e h := by rw [hc]
theorem Pl.wpe {c c' : Pl} (hc : c = c') {P : Program} {k : Env → Heap → Prop} {e : Env} {h : Heap} : Pl.wp P k c e h = Pl.wp P k c' e h := by rw [hc]
end

theorem CallE.go {P : Program} {f : FuncId} {args : List Value} {h : Heap} {Q : Value → Heap → Prop} {k : Env → Heap → Prop} {d : Option Nat} {e : Env} (hc : CallE P f args h Q) (hk : ∀ v h', Q v h' → k (dput d (some v) e) h') :
    CallE P f args h fun v h' => Fgt k (dput d (some v) e) h' := CallE.mono (fun v h' hq => Fgt.keep (hk v h' hq)) hc

abbrev HP := Heap → Prop
def HS : Heap → List HP → Heap → Prop
  | g, [], h => g.le h
  | g, p :: Γ, h => ∃ g' r, h = g'.add r ∧ Dj g' r ∧ p r ∧ HS g Γ g'

def Heap.minus (h r : Heap) : Heap := fun b => match r b with
  | none => h b
  | some _ => none

section
variable {g h h' r : Heap}
theorem minus_add (hl : r.le h) : (h.minus r).add r = h := by
  funext b
  simp only [Heap.add, Heap.minus]
  cases hr : r b with
  | none => simp
  | some o => simp [hl b o hr]
theorem minus_Dj : Dj (h.minus r) r := fun b => by
  cases hr : r b with
  | none => exact .inr rfl
  | some o => exact .inl (by simp [Heap.minus, hr])
theorem le_minus (hl : g.le h) (d : Dj g r) : g.le (h.minus r) := fun b o hb => by
  rcases d b with h1 | h1
  · rw [h1] at hb; simp at hb
  · simp [Heap.minus, h1, hl b o hb]

def ow {α : Type} [Ty α] (v : Value) (x : α) : HP := fun r => Own r v x
def hole {α : Type} [Ty α] (v : Value) (l : List α) (i : Nat) (u : Value) : HP := fun r => Hole r v l i u
/-- a box of its own: so many cells -/
def bx (b : Nat) (c : List Value) : HP := fun r => ∃ el, r = Heap.one b (.cells c.toArray el (0, 0))

theorem HS.le : ∀ {Γ : List HP} {h h' : Heap}, HS g Γ h → h.le h' → HS g Γ h'
  | [], _, _, H, hl => Heap.le.trans H hl
  | _ :: _, _, h', ⟨g', r, e, d, hp, H⟩, hl => by
    subst e
    have h1 : r.le h' := (le_add' d).trans hl
    have h2 : g'.le h' := (le_add d).trans hl
    exact ⟨h'.minus r, r, (minus_add h1).symm, minus_Dj, hp, H.le (le_minus h2 d)⟩

theorem HS.base : ∀ {Γ : List HP} {h : Heap}, HS g Γ h → g.le h
  | [], _, H => H
  | _ :: _, _, ⟨_, _, e, d, _, H⟩ => by subst e; exact H.base.trans (le_add d)

theorem HS.init : HS h [] h := Heap.le.refl h
theorem HS.drop {p : HP} {Γ : List HP} (H : HS g (p :: Γ) h) : HS g Γ h := by
  obtain ⟨g', r, rfl, d, hp, H⟩ := H
  exact H.le (le_add d)

theorem HS.app : ∀ {Δ Γ : List HP} {h h' : Heap}, HS h Δ h' → HS g Γ h → HS g (Δ ++ Γ) h'
  | [], _, _, _, H1, H => H.le H1
  | _ :: _, _, _, _, ⟨g', r, e, d, hp, H1⟩, H => ⟨g', r, e, d, hp, H1.app H⟩

theorem HS.sw1 {p q : HP} {Γ : List HP} (H : HS g (p :: q :: Γ) h) : HS g (q :: p :: Γ) h := by
  obtain ⟨g1, r1, rfl, d1, hp, g2, r2, rfl, d2, hq, H⟩ := H
  obtain ⟨d3, d4⟩ := add_Dj.1 d1
  exact ⟨g2.add r1, r2, add_swap d4, add_Dj.2 ⟨d2, d4.symm⟩, hq, g2, r1, rfl, d3, hp, H⟩
theorem HS.under {p : HP} {Γ Γ' : List HP} (hH : ∀ h, HS g Γ h → HS g Γ' h) (H : HS g (p :: Γ) h) : HS g (p :: Γ') h := by
  obtain ⟨g', r, rfl, d, hp, H⟩ := H
  exact ⟨g', r, rfl, d, hp, hH _ H⟩
theorem HS.imp {p q : HP} {Γ : List HP} (H : HS g (p :: Γ) h) (hpq : ∀ r, p r → q r) : HS g (q :: Γ) h := by
  obtain ⟨g', r, e, d, hp, H⟩ := H
  exact ⟨g', r, e, d, hpq r hp, H⟩
/- the n-th to the front -/
theorem HS.sw2 {a b c : HP} {Γ : List HP} (H : HS g (a :: b :: c :: Γ) h) : HS g (c :: a :: b :: Γ) h := (H.under fun _ => HS.sw1).sw1
theorem HS.sw3 {a b c d : HP} {Γ : List HP} (H : HS g (a :: b :: c :: d :: Γ) h) : HS g (d :: a :: b :: c :: Γ) h := (H.under fun _ => HS.sw2).sw1
theorem HS.sw4 {a b c d f : HP} {Γ : List HP} (H : HS g (a :: b :: c :: d :: f :: Γ) h) : HS g (f :: a :: b :: c :: d :: Γ) h := (H.under fun _ => HS.sw3).sw1
theorem HS.sw5 {a b c d f f' : HP} {Γ : List HP} (H : HS g (a :: b :: c :: d :: f :: f' :: Γ) h) : HS g (f' :: a :: b :: c :: d :: f :: Γ) h := (H.under fun _ => HS.sw4).sw1
theorem HS.sw6 {a b c d f f' f2 : HP} {Γ : List HP} (H : HS g (a :: b :: c :: d :: f :: f' :: f2 :: Γ) h) : HS g (f2 :: a :: b :: c :: d :: f :: f' :: Γ) h := (H.under fun _ => HS.sw5).sw1
theorem HS.bk1 {a b : HP} {Γ : List HP} (H : HS g (a :: b :: Γ) h) : HS g (b :: a :: Γ) h := H.sw1
/- the first one back to where the n-th stood -/
theorem HS.bk2 {a b c : HP} {Γ : List HP} (H : HS g (c :: a :: b :: Γ) h) : HS g (a :: b :: c :: Γ) h := H.sw2.sw2
theorem HS.bk3 {a b c d : HP} {Γ : List HP} (H : HS g (d :: a :: b :: c :: Γ) h) : HS g (a :: b :: c :: d :: Γ) h := H.sw3.sw3.sw3
theorem HS.bk4 {a b c d f : HP} {Γ : List HP} (H : HS g (f :: a :: b :: c :: d :: Γ) h) : HS g (a :: b :: c :: d :: f :: Γ) h := H.sw4.sw4.sw4.sw4
theorem HS.of {α : Type} [Ty α] {v : Value} {x : α} (H : ∃ r, Dj h r ∧ h' = h.add r ∧ Own r v x) : HS h [ow v x] h' := by
  obtain ⟨r, d, rfl, O⟩ := H
  exact ⟨h, r, rfl, d, O, HS.init⟩
theorem HS.rep {α : Type} [Ty α] {v : Value} {x : α} {Γ : List HP} (H : HS g (ow v x :: Γ) h) : Rep h v x := by
  obtain ⟨g', r, rfl, d, O, _⟩ := H
  exact Own.rep' O d
theorem Rep.on {α : Type} [Ty α] {v : Value} {x : α} {Γ : List HP} (R : Rep g v x) (H : HS g Γ h) : Rep h v x := R.le H.base
end

section
variable {α : Type} [Ty α] {P : Program} {k : Env → Heap → Prop} {e : Env} {g h : Heap} {Γ : List HP} {v u : Value} {l l2 : List α} {i : Nat}

theorem HS.storeF [Flat α] (H : HS g (ow v l :: Γ) h) (y : α) {sz : Nat} {a x : O} (hi : i < l.length) (hp : a.get e = some (elp (Ty.sz α) v i)) (hx : x.get e = some (valC (Ty.agg α) (Flat.enc y))) (hy : Flat.ok y) (hsz : sz = Ty.sz α)
    (K : ∀ h', HS g (ow v (l.set i y) :: Γ) h' → k e h') : (A.ex none (.store sz a x)).wp P k e h := by
  obtain ⟨g', r, rfl, d, O, H⟩ := H
  exact a_storeF y O hi d rfl hp hx hy hsz fun r' d' O' => K _ ⟨g', r', rfl, d', O', H⟩

/-- writing an element that is owned itself -/
theorem HS.store {y : α} {u' : Value} (H : HS g (ow u' y :: ow v l :: Γ) h) {sz : Nat} {a x : O} (hi : i < l.length) (hp : a.get e = some (elp (Ty.sz α) v i)) (hx : x.get e = some u') (hsz : sz = Ty.sz α)
    (K : ∀ h', HS g (ow v (l.set i y) :: Γ) h' → k e h') : (A.ex none (.store sz a x)).wp P k e h := by
  obtain ⟨g1, ru, rfl, d2, Ou, g', r, rfl, d, O, H⟩ := H
  exact a_store O hi Ou d d2 rfl hp hx hsz fun r' d' O' => K _ ⟨g', r', rfl, d', O', H⟩

/-- writing where an element was taken away -/
theorem HS.storeH {y : α} {u' : Value} (H : HS g (ow u' y :: hole v l i u :: Γ) h) {sz : Nat} {a x : O} (hp : a.get e = some (elp (Ty.sz α) v i)) (hx : x.get e = some u') (hsz : sz = Ty.sz α)
    (K : ∀ h', HS g (ow v (l.set i y) :: Γ) h' → k e h') : (A.ex none (.store sz a x)).wp P k e h := by
  obtain ⟨g1, ru, rfl, d2, Ou, g', r, rfl, d, O, H⟩ := H
  exact a_store_hole O Ou d d2 rfl hp hx hsz fun r' d' O' => K _ ⟨g', r', rfl, d', O', H⟩

/-- an element is taken away -/
theorem HS.take (H : HS g (ow v l :: Γ) h) (hi : i < l.length) : ∃ u, hload h (some (elp (Ty.sz α) v i)) (szo α) = some u ∧ HS g (ow u l[i] :: hole v l i u :: Γ) h := by
  obtain ⟨g', r, rfl, d, O, H⟩ := H
  obtain ⟨u, r1, r2, rfl, d1, O1, Ho⟩ := Own.take O hi
  obtain ⟨d2, d3⟩ := Dj_add.1 d
  refine ⟨u, hload_le (Heap.le.trans (le_add' d1) (le_add' d)) Ho.ld, g'.add r2, r1, ?_, add_Dj.2 ⟨d2, d1.symm⟩, O1, g', r2, rfl, d3, Ho, H⟩
  rw [add_assoc, d1.comm]
/-- an element is put back -/
theorem HS.put {y : α} (H : HS g (ow u y :: hole v l i u :: Γ) h) : HS g (ow v (l.set i y) :: Γ) h := by
  obtain ⟨g1, r1, rfl, d1, O1, g', r2, rfl, d2, Ho, H⟩ := H
  obtain ⟨d3, d4⟩ := add_Dj.1 d1
  refine ⟨g', r1.add r2, ?_, Dj_add.2 ⟨d3, d2⟩, Ho.put d4.symm O1, H⟩
  rw [add_assoc, d4.comm]
theorem HS.holeld (H : HS g (hole v l i u :: Γ) h) : hload h (some (elp (Ty.sz α) v i)) (szo α) = some u := by
  obtain ⟨g', r, rfl, d, Ho, H⟩ := H
  exact hload_le (le_add' d) (Hole.ld Ho)
theorem HS.holelen (H : HS g (hole v l i u :: Γ) h) : lenVV v = some (.int .i64 l.length) := by
  obtain ⟨g', r, rfl, d, Ho, H⟩ := H
  exact Hole.len Ho
theorem HS.holeia (H : HS g (hole v l i u :: Γ) h) {n : Nat} (hn : n = Ty.sz α) {kd : IntKind} {j : Nat} (hj : j < l.length) : iaV n v (.int kd j) = some (elp n v j) := by
  obtain ⟨g', r, rfl, d, Ho, H⟩ := H
  subst hn
  simpa using Hole.ia Ho (k := kd) (n := (j : Int)) (by omega) (by omega)

theorem HS.mks (H : HS g Γ h) {bytes esz : Nat} {zero : List Value} {len cap : O} {j j' : IntKind} {n c : Nat} {dst : Nat} {z : α} (hl : len.get e = some (.int j n)) (hc : cap.get e = some (.int j' c)) (hz : Ty.own Heap.nil zero z) (h1 : n ≤ c) (h2 : c < 2 ^ 62) (h3 : bytes * c ≤ 2 ^ 48)
    (K : ∀ v h', HS g (ow v (List.replicate n z) :: Γ) h' → k (eset e dst (some v)) h') : (A.ex (some dst) (.mks bytes esz zero len cap)).wp P k e h :=
  a_mks hl hc hz h1 h2 h3 fun v r d O => K _ _ ⟨h, r, rfl, d, O, H⟩

/-- appending elements without memory of their own, out of a private slice -/
theorem HS.appF [Flat α] (H : HS g (ow v l :: Γ) h) (l2 : List α) {bytes esz : Nat} {zero : List Value} {a : O} {n j : Nat} {dst : Nat} {c0 : Array Value} (ha : a.get e = some v) (hp : eget e j = some (.agg c0)) (hn : n = l2.length) (hc : c0.toList = encL l2) (hok : ∀ x ∈ l2, Flat.ok x) (hsz : esz = Ty.sz α) (hz : zero.length = Ty.sz α)
    (hb : (l.length + l2.length) * bytes ≤ 140737488355328) (hn2 : l.length + l2.length < 2 ^ 62)
    (K : ∀ v' h', HS g (ow v' (l ++ l2) :: Γ) h' → k (eset e dst (some v')) h') : (A.ex (some dst) (.app bytes esz zero (.o a) (.p n j))).wp P k e h := by
  obtain ⟨g', r, rfl, d, O, H⟩ := H
  exact a_appF O ha hp hn hc hok d rfl hsz hz hb hn2 fun v' r' d' O' => K _ _ ⟨g', r', rfl, d', O', H⟩
theorem HS.app1 [Flat α] (H : HS g (ow v l :: Γ) h) (y : α) {bytes esz : Nat} {zero : List Value} {a : O} {j : Nat} {dst : Nat} {c0 : Array Value} (ha : a.get e = some v) (hp : eget e j = some (.agg c0)) (hc : c0.toList = Flat.enc y) (hok : Flat.ok y) (hsz : esz = Ty.sz α) (hz : zero.length = Ty.sz α)
    (hb : (l.length + 1) * bytes ≤ 140737488355328) (hl1 : l.length + 1 < 2 ^ 62)
    (K : ∀ v' h', HS g (ow v' (l ++ [y]) :: Γ) h' → k (eset e dst (some v')) h') : (A.ex (some dst) (.app bytes esz zero (.o a) (.p 1 j))).wp P k e h := by
  refine H.appF [y] ha hp rfl (by simpa [encL] using hc) (by simpa using hok) hsz hz (by simpa using hb) ?_ K
  exact hl1
/-- appending one element that is owned itself -/
theorem HS.appO {y : α} (H : HS g (ow u y :: ow v l :: Γ) h) {bytes esz : Nat} {zero : List Value} {a : O} {j : Nat} {dst : Nat} {c0 : Array Value} (ha : a.get e = some v) (hp : eget e j = some (.agg c0)) (hc : c0.toList = u.cells.toList) (hsz : esz = Ty.sz α) (hz : zero.length = Ty.sz α)
    (hb : (l.length + 1) * bytes ≤ 140737488355328) (hl1 : l.length + 1 < 2 ^ 62)
    (K : ∀ v' h', HS g (ow v' (l ++ [y]) :: Γ) h' → k (eset e dst (some v')) h') : (A.ex (some dst) (.app bytes esz zero (.o a) (.p 1 j))).wp P k e h := by
  obtain ⟨g1, ru, rfl, d2, ⟨cs, rfl, ho⟩, g', r, rfl, d, O, H⟩ := H
  have h1 := Ty.len (Ty.own_rep ho)
  rw [rep_cells (Ty.own_rep ho)] at hc
  have h2 : c0.size = 1 * esz := by rw [hsz, Nat.one_mul, ← h1, ← hc]; simp
  refine a_app (l2 := [y]) (cs := cs) (rs := ru) O ha ?_ (by simpa using h1) ⟨ru, Heap.nil, by simp, by simp, by simpa [← h1] using ho, rfl⟩ d d2 rfl hsz hz (by simpa using hb) hl1 fun v' r' d' O' => K _ _ ⟨g', r', rfl, d', O', H⟩
  simp only [AO.src, hp, h2, if_true, hc, List.length_singleton]
/-- appending the elements of a list that is only read -/
theorem HS.appL [Flat α] (H : HS g (ow v l :: Γ) h) {bytes esz : Nat} {zero : List Value} {a x : O} {dst : Nat} (ha : a.get e = some v) (hx : x.get e = some u) (hr : Rep h u l2) (hsz : esz = Ty.sz α) (hz : zero.length = Ty.sz α)
    (hb : (l.length + l2.length) * bytes ≤ 140737488355328) (hn : l.length + l2.length < 2 ^ 62)
    (K : ∀ v' h', HS g (ow v' (l ++ l2) :: Γ) h' → k (eset e dst (some v')) h') : (A.ex (some dst) (.app bytes esz zero (.o a) (.o x))).wp P k e h := by
  obtain ⟨g', r, rfl, d, O, H⟩ := H
  exact a_appL O ha hx hr d rfl hsz hz hb hn fun v' r' d' O' => K _ _ ⟨g', r', rfl, d', O', H⟩
/-- the same, to a private slice without elements -/
theorem HS.appPL [Flat α] (H : HS g Γ h) {bytes esz : Nat} {zero : List Value} {j : Nat} {x : O} {dst : Nat} {c0 : Array Value} (hp : eget e j = some (.agg c0)) (hx : x.get e = some u) (hr : Rep h u l2) (hsz : esz = Ty.sz α) (hz : zero.length = Ty.sz α) (hb : l2.length * bytes ≤ 140737488355328)
    (K : ∀ v' h', HS g (ow v' l2 :: Γ) h' → k (eset e dst (some v')) h') : (A.ex (some dst) (.app bytes esz zero (.p 0 j) (.o x))).wp P k e h :=
  a_appPL hp hx hr hsz hz hb fun v' r' d' O' => K _ _ ⟨h, r', rfl, d', O', H⟩
/-- the same, with elements out of a private slice -/
theorem HS.nil_ow (H : HS g Γ h) : HS g (ow (.slice none 0 0) ([] : List α) :: Γ) h := ⟨h, Heap.nil, by simp, by simp, Own_nils, H⟩

theorem encL_nil [Flat α] : encL ([] : List α) = [] := rfl
theorem encL_cons [Flat α] {x : α} {l : List α} : encL (x :: l) = Flat.enc x ++ encL l := rfl

/-- a slice that is written out -/
theorem HS.bls [Flat α] (H : HS g Γ h) (l2 : List α) {esz len : Nat} {zero : List Value} {parts : List (Nat × Nat × O)} {dst : Nat} (hf : fillP e (reps len zero) parts = some (encL l2)) (hn : len = l2.length) (hok : ∀ x ∈ l2, Flat.ok x) (hl : len < 4611686018427387904)
    (K : ∀ v' h', HS g (ow v' l2 :: Γ) h' → k (eset e dst (some v')) h') : (A.ex (some dst) (.bls esz len zero parts)).wp P k e h := by
  subst hn
  refine ⟨_, hf, fun b el hb => Fgt.keep ?_⟩
  rw [set_new hb]
  refine K _ _ ⟨h, _, rfl, Dj_one.2 hb, Own_list.2 (.inr ⟨b, 0, l2.length, encL l2, el, Heap.nil, rfl, ⟨Nat.le_refl _, hl⟩, ?_, by simp, rfl, by simpa using ownL_enc hok⟩), H⟩
  rw [encL_len hok]; omega
end

section
variable {P : Program} {k : Env → Heap → Prop} {e : Env} {g h : Heap} {Γ : List HP}
/- boxes -/
theorem HS.alloc (H : HS g Γ h) {x : O} {dst : Nat} {u : Value} (hx : x.get e = some u) (K : ∀ b h', HS g (bx b u.cells.toList :: Γ) h' → k (eset e dst (some (.pointer (some ⟨b, 0, none⟩)))) h') : (A.ex (some dst) (.alloc x)).wp P k e h := by
  refine ⟨u, hx, fun b el hb => Fgt.keep ?_⟩
  rw [set_new hb]
  exact K _ _ ⟨h, _, rfl, Dj_one.2 hb, ⟨el, rfl⟩, H⟩
theorem HS.bxld {b : Nat} {c : List Value} (H : HS g (bx b c :: Γ) h) {o : Nat} {u : Value} (ho : c[o]? = some u) : hload h (some (.pointer (some ⟨b, o, none⟩))) none = some u := by
  obtain ⟨g', r, rfl, d, ⟨el, rfl⟩, H⟩ := H
  refine hload_le (le_add' d) ?_
  simp [hload, hcell, Heap.one, ho]
theorem HS.bxld0 {b : Nat} {u : Value} (H : HS g (bx b [u] :: Γ) h) : hload h (some (.pointer (some ⟨b, 0, none⟩))) none = some u := H.bxld rfl
theorem HS.bxlds {b : Nat} {c : List Value} (H : HS g (bx b c :: Γ) h) {o n : Nat} (ho : o + n ≤ c.length) : hload h (some (.pointer (some ⟨b, o, none⟩))) (some n) = some (.agg ((c.drop o).take n).toArray) := by
  obtain ⟨g', r, rfl, d, ⟨el, rfl⟩, H⟩ := H
  refine hload_le (le_add' d) ?_
  have hb : (Heap.one b (.cells c.toArray el (0, 0))) b = some (.cells c.toArray el (0, 0)) := by simp [Heap.one]
  simp only [hload]
  rw [hcells_mk hb (by simpa using ho)]
  rfl
theorem HS.bxst {b : Nat} {c : List Value} (H : HS g (bx b c :: Γ) h) {o sz : Nat} {a x : O} {u : Value} (hp : a.get e = some (.pointer (some ⟨b, o, none⟩))) (hx : x.get e = some u) (hu : u.cells.size = sz) (hu1 : allOne u.cells.toList = true) (ho : o + sz ≤ c.length)
    (K : ∀ h', HS g (bx b (setC c o u.cells.toList) :: Γ) h' → k e h') : (A.ex none (.store sz a x)).wp P k e h := by
  obtain ⟨g', r, rfl, d, ⟨el, rfl⟩, H⟩ := H
  have hn := Dj_one.1 d
  refine ⟨b, o, u, g'.add (Heap.one b (.cells (setC c o u.cells.toList).toArray el (0, 0))), hp, hx, hu, ?_, Fgt.keep (K _ ⟨g', _, rfl, Dj_one.2 hn, ⟨el, rfl⟩, H⟩)⟩
  have hb : (g'.add (Heap.one b (.cells c.toArray el (0, 0)))) b = some (.cells c.toArray el (0, 0)) := by simp [Heap.add, Heap.one, hn]
  unfold hstore
  rw [hb]
  simp only
  rw [if_pos ⟨trivial, by simpa [hu] using ho, by rw [allOne_eq]; exact hu1⟩, set_one hn]
end
end Go.Proofs.Ytfhjclhchbagnaa
