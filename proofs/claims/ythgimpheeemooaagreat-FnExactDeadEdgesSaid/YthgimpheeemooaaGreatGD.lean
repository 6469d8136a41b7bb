/-
  Facts for the simplifier; loops; structures; marks; words as sets.
-/
import Derived.Test.YthgimpheeemooaaGreatGC
namespace Go.Proofs.YthgimpheeemooaaGreat
open Go
set_option linter.all false
set_option linter.unusedVariables false
set_option linter.unusedSimpArgs false
set_option linter.defProp false
set_option maxRecDepth 1000000
universe u

section
variable {α : Type} [Ty α] {h : Heap} {v : Value}
/-- the places of a slice's elements, and its length -/
theorem Rep.X {l : List α} (hr : Rep h v l) {n : Nat} (hn : n = Ty.sz α) : (∀ (kd : IntKind) (i : Nat), i < l.length → iaV n v (.int kd i) = some (elp n v i)) ∧ (∀ (kd : IntKind) (i : Int), 0 ≤ i → i < l.length → iaV n v (.int kd i) = some (elp n v i.toNat)) ∧ lenVV v = some (.int .i64 l.length) :=
  ⟨fun _ _ h1 => hr.ian hn h1, fun _ _ h0 h1 => hr.ia' hn h0 h1, hr.len⟩
end
section
variable {h : Heap} {v : Value}
theorem Rep.I {l : List Int} (hr : Rep h v l) : ((∀ (kd : IntKind) (i : Nat), i < l.length → iaV 1 v (.int kd i) = some (elp 1 v i)) ∧ (∀ (kd : IntKind) (i : Int), 0 ≤ i → i < l.length → iaV 1 v (.int kd i) = some (elp 1 v i.toNat)) ∧ lenVV v = some (.int .i64 l.length)) ∧
    ∀ (i : Nat) (hi : i < l.length), hload h (some (elp 1 v i)) none = some (.int .i64 l[i]) := ⟨hr.X rfl, fun _ hi => hr.ldI hi⟩
theorem Rep.B {l : List Bool} (hr : Rep h v l) : ((∀ (kd : IntKind) (i : Nat), i < l.length → iaV 1 v (.int kd i) = some (elp 1 v i)) ∧ (∀ (kd : IntKind) (i : Int), 0 ≤ i → i < l.length → iaV 1 v (.int kd i) = some (elp 1 v i.toNat)) ∧ lenVV v = some (.int .i64 l.length)) ∧
    ∀ (i : Nat) (hi : i < l.length), hload h (some (elp 1 v i)) none = some (.bool l[i]) := ⟨hr.X rfl, fun _ hi => hr.ldB hi⟩
theorem Rep.S {l : List ByteArray} (hr : Rep h v l) : ((∀ (kd : IntKind) (i : Nat), i < l.length → iaV 1 v (.int kd i) = some (elp 1 v i)) ∧ (∀ (kd : IntKind) (i : Int), 0 ≤ i → i < l.length → iaV 1 v (.int kd i) = some (elp 1 v i.toNat)) ∧ lenVV v = some (.int .i64 l.length)) ∧
    ∀ (i : Nat) (hi : i < l.length), hload h (some (elp 1 v i)) none = some (.string l[i]) := ⟨hr.X rfl, fun _ hi => hr.ldS hi⟩
theorem Rep.U {l : List (BitVec 64)} (hr : Rep h v l) : ((∀ (kd : IntKind) (i : Nat), i < l.length → iaV 1 v (.int kd i) = some (elp 1 v i)) ∧ (∀ (kd : IntKind) (i : Int), 0 ≤ i → i < l.length → iaV 1 v (.int kd i) = some (elp 1 v i.toNat)) ∧ lenVV v = some (.int .i64 l.length)) ∧
    ∀ (i : Nat) (hi : i < l.length), hload h (some (elp 1 v i)) none = some (.int .u64 l[i].toNat) := ⟨hr.X rfl, fun _ hi => hr.ldU hi⟩
/-- a list of lists: where an element's header lies -/
theorem Rep.ldL {α : Type} [Ty α] {l : List (List α)} (hr : Rep h v l) {i : Nat} (hi : i < l.length) : ∃ u, hload h (some (elp 1 v i)) none = some u ∧ Rep h u l[i] := hr.ld hi
end

theorem IteW.mkr {p A B : Prop} (h2 : ¬ p → B) (h1 : p → A) : IteW p A B := ⟨h1, h2⟩

/-- THE LOOP over a state of plain data: 'Enc s' says how the state lies in the environment and the memory; 'm' goes down -/
theorem wp_while {P : Program} {Q : Ex → Env → Heap → Prop} {e : Env} {h : Heap} {n : Nat} {fg : List Nat} {a : C} {σ : Type} (Enc : σ → Env → Heap → Prop) (m : σ → Nat) (s0 : σ) (h0 : Enc s0 (efgt (e.take n) fg) h)
    (hs : ∀ (J : Env → Heap → Prop) s e h, (∀ s' e h, m s' < m s → Enc s' e h → J e h) → Enc s e h → a.wp P (loopQ n fg J Q) e h) : (C.loop n fg a).wp P Q e h := by
  refine wp_loop (fun k e h => ∃ s, m s = k ∧ Enc s e h) ⟨_, s0, rfl, h0⟩ ?_
  rintro I' k e h hI ⟨s, rfl, hE⟩
  exact hs I' s e h (fun s' e h hlt hE => hI (m s') e h hlt ⟨s', rfl, hE⟩) hE

/-- a step in between: what holds behind the first part -/
theorem wp_cut {P : Program} {Q : Ex → Env → Heap → Prop} {e : Env} {h : Heap} {a b : C} (M : Env → Heap → Prop) (ha : ∀ J : Env → Heap → Prop, (∀ e h, M e h → J e h) → a.wp P (fun x e h => match x with
      | .nrm => J e h
      | x => Q x e h) e h) (hb : ∀ e h, M e h → b.wp P Q e h) : (C.seq a b).wp P Q e h := by
  rw [wp_seq]
  refine C.wp_mono a ?_ (ha (fun e h => b.wp P Q e h) hb)
  intro x e h hx
  cases x <;> exact hx

theorem own1 {α : Type} [Ty α] (ha : Ty.agg α = false) {r : Heap} {cs : List Value} {x : α} : Ty.own r cs x ↔ ∃ v, cs = [v] ∧ Own r v x := by
  constructor
  · intro ho
    have hl := Ty.len (Ty.own_rep ho)
    rw [Ty.one ha] at hl
    match cs, hl with
    | [v], _ => exact ⟨v, rfl, [v], by simp [valC, ha], ho⟩
  · rintro ⟨v, rfl, c, h1, h2⟩
    have hl := Ty.len (Ty.own_rep h2)
    rw [Ty.one ha] at hl
    match c, hl with
    | [u], _ => simp [valC, ha] at h1; subst h1; exact h2
theorem rep1 {α : Type} [Ty α] (ha : Ty.agg α = false) {r : Heap} {cs : List Value} {x : α} : Ty.rep r cs x ↔ ∃ v, cs = [v] ∧ Rep r v x := by
  constructor
  · intro ho
    have hl := Ty.len ho
    rw [Ty.one ha] at hl
    match cs, hl with
    | [v], _ => exact ⟨v, rfl, [v], by simp [valC, ha], ho⟩
  · rintro ⟨v, rfl, c, h1, h2⟩
    have hl := Ty.len h2
    rw [Ty.one ha] at hl
    match c, hl with
    | [u], _ => simp [valC, ha] at h1; subst h1; exact h2

section
variable {α : Type} [Ty α] {h : Heap} {v : Value} {l : List α} {i : Nat}
/-- one cell of an element -/
theorem Rep.fld [Flat α] (hr : Rep h v l) (hi : i < l.length) {n j : Nat} (hn : n = Ty.sz α) {u : Value} (hj : (Flat.enc l[i])[j]? = some u) : hload h (some (elpo n v i j)) none = some u := by
  subst hn
  obtain ⟨p, cap, rfl, hc, hp, hl⟩ := Rep_list.1 hr
  obtain ⟨b, off, vs, rfl, h1, h2⟩ := hl i hi
  rw [← (Flat.rep_iff.1 h2).1] at hj
  have := (hcells_get h1).2 j u hj
  simp [elpo, add_none, hload, this]
end

/-- a value of many cells, as it is put into a box and taken out -/
theorem Rep.A {α : Type} [Ty α] {h : Heap} {v : Value} {x : α} (hr : Rep h v x) (ha : Ty.agg α = true) {n : Nat} (hn : n = Ty.sz α) : pgetV (some v) 0 (some n) = some v ∧ v.cells.size = n ∧ allOne v.cells.toList = true ∧ Value.agg v.cells = v := by
  obtain ⟨cs, rfl, h1⟩ := hr
  have h2 := Ty.len h1
  have h3 := Ty.cell h1
  subst hn
  simp only [valC, ha, if_true]
  refine ⟨?_, by simpa using h2, ?_, rfl⟩
  · simp [h2]
  · rw [← allOne_eq]; simpa using h3

/-- owned, at its cells -/
def owC {α : Type} [Ty α] (cs : List Value) (x : α) : HP := fun r => Ty.own r cs x

section
variable {g h : Heap} {Γ : List HP}
theorem HS.split2 {p p1 p2 : HP} (H : HS g (p :: Γ) h) (hp : ∀ r, p r → ∃ r1 r2, r = r1.add r2 ∧ Dj r1 r2 ∧ p1 r1 ∧ p2 r2) : HS g (p1 :: p2 :: Γ) h := by
  obtain ⟨g', r, rfl, d, h1, H⟩ := H
  obtain ⟨r1, r2, rfl, d2, h2, h3⟩ := hp r h1
  obtain ⟨d3, d4⟩ := Dj_add.1 d
  refine ⟨g'.add r2, r1, ?_, add_Dj.2 ⟨d3, d2.symm⟩, h2, g', r2, rfl, d4, h3, H⟩
  rw [add_assoc, d2.comm]
theorem HS.join2 {p p1 p2 : HP} (H : HS g (p1 :: p2 :: Γ) h) (hp : ∀ r1 r2, Dj r1 r2 → p1 r1 → p2 r2 → p (r1.add r2)) : HS g (p :: Γ) h := by
  obtain ⟨g1, r1, rfl, d1, h1, g', r2, rfl, d2, h2, H⟩ := H
  obtain ⟨d3, d4⟩ := add_Dj.1 d1
  refine ⟨g', r1.add r2, ?_, Dj_add.2 ⟨d3, d2⟩, hp r1 r2 d4.symm h1 h2, H⟩
  rw [add_assoc, d4.comm]
theorem HS.unvia {α β : Type} [Ty β] (f : α → β) {v : Value} {x : α} (H : HS g (@ow α (Ty.via f) v x :: Γ) h) : ∃ cs : List Value, v = .agg cs.toArray ∧ HS g (owC cs (f x) :: Γ) h := by
  obtain ⟨g', r, rfl, d, ⟨cs, rfl, ho⟩, H⟩ := H
  exact ⟨cs, rfl, g', r, rfl, d, ho, H⟩
theorem HS.via {α β : Type} [Ty β] (f : α → β) {cs : List Value} {x : α} (H : HS g (owC cs (f x) :: Γ) h) : HS g (@ow α (Ty.via f) (.agg cs.toArray) x :: Γ) h :=
  H.imp fun _ ho => ⟨cs, rfl, ho⟩
theorem HS.unprod {α β : Type} [Ty α] [Ty β] {cs : List Value} {x : α} {y : β} (H : HS g (owC cs (x, y) :: Γ) h) : ∃ c1 c2, cs = c1 ++ c2 ∧ HS g (owC c1 x :: owC c2 y :: Γ) h := by
  obtain ⟨g', r, rfl, d, ⟨c1, c2, r1, r2, rfl, rfl, d2, h1, h2⟩, H⟩ := H
  obtain ⟨d3, d4⟩ := Dj_add.1 d
  exact ⟨c1, c2, rfl, g'.add r2, r1, by rw [add_assoc, d2.comm], add_Dj.2 ⟨d3, d2.symm⟩, h1, g', r2, rfl, d4, h2, H⟩
theorem HS.unone {α : Type} [Ty α] (ha : Ty.agg α = false) {cs : List Value} {x : α} (H : HS g (owC cs x :: Γ) h) : ∃ v, cs = [v] ∧ HS g (ow v x :: Γ) h := by
  obtain ⟨g', r, rfl, d, ho, H⟩ := H
  have ho2 : Ty.own r cs x := ho
  obtain ⟨v, rfl, h3⟩ := (own1 ha).1 ho2
  exact ⟨v, rfl, g', r, rfl, d, h3, H⟩
theorem HS.one {α : Type} [Ty α] (ha : Ty.agg α = false) {v : Value} {x : α} (H : HS g (ow v x :: Γ) h) : HS g (owC [v] x :: Γ) h := H.imp fun _ ho => (own1 ha).2 ⟨v, rfl, ho⟩
theorem HS.prod {α β : Type} [Ty α] [Ty β] (ha : Ty.agg α = false) {v : Value} {cs : List Value} {x : α} {y : β} (H : HS g (ow v x :: owC cs y :: Γ) h) : HS g (owC (v :: cs) (x, y) :: Γ) h :=
  H.join2 fun r1 r2 d h1 h2 => ⟨[v], cs, r1, r2, rfl, rfl, d, (own1 ha).2 ⟨v, rfl, h1⟩, h2⟩
/-- what has no memory of its own may be dropped, and taken up anywhere -/
theorem HS.unflat {α : Type} [Ty α] [Flat α] {v : Value} {x : α} (H : HS g (ow v x :: Γ) h) : v = valC (Ty.agg α) (Flat.enc x) ∧ Flat.ok x ∧ HS g Γ h := by
  obtain ⟨g', r, rfl, d, ho, H⟩ := H
  obtain ⟨rfl, rfl, hk⟩ := Own_flat.1 ho
  exact ⟨rfl, hk, by simpa using H⟩
theorem HS.flat {α : Type} [Ty α] [Flat α] {x : α} (H : HS g Γ h) (hk : Flat.ok x) : HS g (ow (valC (Ty.agg α) (Flat.enc x)) x :: Γ) h :=
  ⟨h, Heap.nil, by simp, by simp, Own_flat.2 ⟨rfl, rfl, hk⟩, H⟩
end

/-- HOW MUCH a piece of data holds: the lengths of all its lists, added up -/
class Sz (α : Type) where
  sz : α → Nat
instance : Sz Int := ⟨fun _ => 0⟩
instance : Sz Bool := ⟨fun _ => 0⟩
def szL {α : Type} [Sz α] : List α → Nat
  | [] => 0
  | x :: l => Sz.sz x + szL l
instance instSzList {α : Type} [Sz α] : Sz (List α) := ⟨fun l => l.length + szL l⟩
theorem sz_list {α : Type} [Sz α] (l : List α) : Sz.sz l = l.length + szL l := rfl
theorem szL_get {α : Type} [Sz α] : ∀ {l : List α} {i : Nat} (hi : i < l.length), Sz.sz l[i] ≤ szL l
  | x :: l, 0, _ => by simp [szL]
  | x :: l, i + 1, hi => by
    have := szL_get (l := l) (i := i) (by simpa using hi)
    simp [szL]; omega
theorem szL_take {α : Type} [Sz α] : ∀ {l : List α} {i : Nat} (hi : i < l.length), szL (l.take (i + 1)) = szL (l.take i) + Sz.sz l[i]
  | x :: l, 0, _ => by simp [szL]
  | x :: l, i + 1, hi => by
    have := szL_take (l := l) (i := i) (by simpa using hi)
    simp [szL, this]; omega
theorem szL_take_le {α : Type} [Sz α] : ∀ {l : List α} {i : Nat}, szL (l.take i) ≤ szL l
  | [], i => by simp [szL]
  | x :: l, 0 => by simp [szL]
  | x :: l, i + 1 => by
    have := szL_take_le (l := l) (i := i)
    simp [szL]; omega
theorem szL_zero {α : Type} [Sz α] (h0 : ∀ x : α, Sz.sz x = 0) : ∀ l : List α, szL l = 0
  | [] => rfl
  | x :: l => by simp [szL, h0, szL_zero h0 l]

/-- 'cnt': how many places are written; 'wr k': the piece of data with the places written over, from k on -/
class Mk (α : Type) where
  cnt : α → Nat
  wr : Int → α → α
  cnt_wr : ∀ k x, cnt (wr k x) = cnt x
  wr_wr : ∀ k j x, wr k (wr j x) = wr k x

def cntL {α : Type} [Mk α] : List α → Nat
  | [] => 0
  | x :: l => Mk.cnt x + cntL l
def mkL {α : Type} [Mk α] : Int → List α → List α
  | _, [] => []
  | k, x :: l => Mk.wr k x :: mkL (k + Mk.cnt x) l

section
variable {α : Type} [Mk α]
theorem cntL_mk : ∀ (k : Int) (l : List α), cntL (mkL k l) = cntL l
  | _, [] => rfl
  | k, x :: l => by simp [cntL, mkL, Mk.cnt_wr, cntL_mk (k + Mk.cnt x) l]
theorem mkL_mk : ∀ (k j : Int) (l : List α), mkL k (mkL j l) = mkL k l
  | _, _, [] => rfl
  | k, j, x :: l => by simp [mkL, Mk.cnt_wr, Mk.wr_wr, mkL_mk (k + Mk.cnt x) (j + Mk.cnt x) l]
@[simp] theorem mkL_length : ∀ (k : Int) (l : List α), (mkL k l).length = l.length
  | _, [] => rfl
  | k, x :: l => by simp [mkL, mkL_length (k + Mk.cnt x) l]
theorem mkL_get : ∀ (k : Int) (l : List α) (i : Nat) (hi : i < l.length), (mkL k l)[i]'(by simpa using hi) = Mk.wr (k + cntL (l.take i)) l[i]
  | _, [], i, hi => by simp at hi
  | k, x :: l, 0, _ => by simp [mkL, cntL]
  | k, x :: l, i + 1, hi => by
    simp only [mkL, List.getElem_cons_succ, List.take_succ_cons, cntL]
    rw [mkL_get (k + Mk.cnt x) l i (by simpa using hi)]
    congr 1
    push_cast
    omega
theorem cntL_take : ∀ (l : List α) (i : Nat) (hi : i < l.length), cntL (l.take (i + 1)) = cntL (l.take i) + Mk.cnt l[i]
  | [], i, hi => by simp at hi
  | x :: l, 0, _ => by simp [cntL]
  | x :: l, i + 1, hi => by
    simp only [List.take_succ_cons, cntL, List.getElem_cons_succ]
    rw [cntL_take l i (by simpa using hi)]
    omega
theorem cntL_le : ∀ (l : List α) (i : Nat), cntL (l.take i) ≤ cntL l
  | [], i => by simp [cntL]
  | x :: l, 0 => by simp [cntL]
  | x :: l, i + 1 => by
    simp only [List.take_succ_cons, cntL]
    have := cntL_le l i
    omega

instance instMkList : Mk (List α) := ⟨cntL, mkL, cntL_mk, mkL_mk⟩
end

instance instMkInt : Mk Int := ⟨fun _ => 1, fun k _ => k, fun _ _ => rfl, fun _ _ _ => rfl⟩
instance instMkBool : Mk Bool := ⟨fun _ => 1, fun k _ => decide (k.tmod 3 = 0), fun _ _ => rfl, fun _ _ _ => rfl⟩
/-- how far the writing has come -/
structure Mkd {α : Type} [Mk α] (k : Int) (x y : List α) (i : Nat) : Prop where
  len : y.length = x.length
  done : y.take i = (mkL k x).take i
  rest : y.drop i = x.drop i

section
variable {α : Type} [Mk α] {k : Int} {x y : List α} {i : Nat}
theorem Mkd.zero : Mkd k x x 0 := ⟨rfl, rfl, rfl⟩
theorem Mkd.get (h : Mkd k x y i) (hi : i < x.length) : y[i]'(by rw [h.len]; exact hi) = x[i] := by
  have := congrArg (fun l => l[0]?) h.rest
  simp [List.getElem?_drop, hi, h.len] at this
  exact this
theorem Mkd.step (h : Mkd k x y i) (hi : i < x.length) : Mkd k x (y.set i (Mk.wr (k + cntL (x.take i)) x[i])) (i + 1) := by
  refine ⟨by simp [h.len], ?_, ?_⟩
  · have := take_set_succ (x := mkL k x) h.done (by simpa using hi) (by simpa using h.len)
    rwa [mkL_get k x i hi] at this
  · rw [List.drop_set_of_lt (by omega)]
    have := congrArg (List.drop 1) h.rest
    simpa [List.drop_drop] using this
theorem Mkd.all (h : Mkd k x y i) (hi : x.length ≤ i) : y = mkL k x := eq_of_take h.done (by simpa using hi) (by simpa using h.len)
end
theorem take_step {α : Type} {x y : List α} {i : Nat} (h : x.take i = y.take i) (h1 : i < x.length) (h2 : i < y.length) (he : x[i] = y[i]) : x.take (i + 1) = y.take (i + 1) := by
  rw [List.take_add_one, List.take_add_one, h, List.getElem?_eq_getElem h1, List.getElem?_eq_getElem h2, he]
theorem HS.storeFld {α : Type} [Ty α] [Flat α] {P : Program} {k : Env → Heap → Prop} {e : Env} {g h : Heap} {Γ : List HP} {v : Value} {l : List α} {i : Nat} (H : HS g (ow v l :: Γ) h) (y : α) {a x : O} {fo : Nat} {u : Value} (hi : i < l.length) (hp : a.get e = some (elpo (Ty.sz α) v i fo)) (hx : x.get e = some u) (hu : u.cells = #[u]) (hu1 : u.oneCell' = true)
    (hfo : fo < Ty.sz α) (hy : Flat.enc y = (Flat.enc l[i]).set fo u) (hok : Flat.ok y) (K : ∀ h', HS g (ow v (l.set i y) :: Γ) h' → k e h') : (A.ex none (.store 1 a x)).wp P k e h := by
  obtain ⟨g', r, rfl, d, O, H⟩ := H
  exact a_store_fldF y O hi d rfl hp hx hu hu1 hfo hy hok fun r' d' O' => K _ ⟨g', r', rfl, d', O', H⟩

/-- an amount to shift by is not negative -/
@[simp] theorem ite_lt_zero {α : Type} {b : Int} {x y : α} (h : 0 ≤ b) : (if b < 0 then x else y) = y := if_neg (by omega)

/- bits -/
def setB (a : BitVec 64) (j : Nat) : BitVec 64 := a ||| (1#64 <<< j)
def clrB (a : BitVec 64) (j : Nat) : BitVec 64 := a &&& ~~~(1#64 <<< j)
theorem one_bit {j i : Nat} (hj : j < 64) : (1#64 <<< j).getLsbD i = decide (i = j) := by
  rw [BitVec.getLsbD_shiftLeft, BitVec.getLsbD_one]
  by_cases h1 : i = j
  · subst h1; simp [hj]
  · by_cases h2 : i < j
    · simp [h1, h2]
    · have h3 : ¬ (i - j = 0) := by omega
      simp [h1, h3]
theorem setB_get {a : BitVec 64} {j i : Nat} (hj : j < 64) : (setB a j).getLsbD i = (a.getLsbD i || decide (i = j)) := by
  rw [setB, BitVec.getLsbD_or, one_bit hj]
theorem clrB_get {a : BitVec 64} {j i : Nat} (hj : j < 64) : (clrB a j).getLsbD i = (a.getLsbD i && !decide (i = j)) := by
  rw [clrB, BitVec.getLsbD_and, BitVec.getLsbD_not, one_bit hj]
  by_cases h1 : i < 64
  · simp [h1]
  · have h2 : a.getLsbD i = false := BitVec.getLsbD_of_ge a i (by omega)
    simp [h2]
theorem u64_wrap {n : Nat} (h : n < 2 ^ 64) : IntKind.u64.wrap (n : Int) = n := by
  have : IntKind.u64.wrap (n : Int) = (n : Int) % 18446744073709551616 := by simp [IntKind.wrap, IntKind.signed, IntKind.bits]
  rw [this]; omega
theorem u64_and {a b : BitVec 64} : andI .u64 (a.toNat : Int) (b.toNat : Int) = ((a &&& b).toNat : Int) := by
  simp only [andI, IntKind.bits]
  rw [BitVec.ofInt_natCast, BitVec.ofInt_natCast, BitVec.ofNat_toNat, BitVec.ofNat_toNat]
  simp only [BitVec.setWidth_eq]
  exact u64_wrap (BitVec.isLt _)
theorem u64_or {a b : BitVec 64} : orI .u64 (a.toNat : Int) (b.toNat : Int) = ((a ||| b).toNat : Int) := by
  simp only [orI, IntKind.bits]
  rw [BitVec.ofInt_natCast, BitVec.ofInt_natCast, BitVec.ofNat_toNat, BitVec.ofNat_toNat]
  simp only [BitVec.setWidth_eq]
  exact u64_wrap (BitVec.isLt _)
theorem u64_andNot {a b : BitVec 64} : andNotI .u64 (a.toNat : Int) (b.toNat : Int) = ((a &&& ~~~ b).toNat : Int) := by
  simp only [andNotI, IntKind.bits]
  rw [BitVec.ofInt_natCast, BitVec.ofInt_natCast, BitVec.ofNat_toNat, BitVec.ofNat_toNat]
  simp only [BitVec.setWidth_eq]
  exact u64_wrap (BitVec.isLt _)
theorem u64_shl {j : Nat} (hj : j < 64) : shlI .u64 1 (j : Int) = ((1#64 <<< j).toNat : Int) := by
  simp only [shlI, IntKind.bits, Int.toNat_natCast]
  rw [Nat.min_eq_left (by omega), BitVec.toNat_shiftLeft, Nat.shiftLeft_eq]
  have h1 : (2 : Nat) ^ j < 2 ^ 64 := Nat.pow_lt_pow_right (by omega) hj
  have h2 : (1#64).toNat * 2 ^ j % 2 ^ 64 = 2 ^ j := by
    rw [show (1#64).toNat = 1 from rfl, Nat.one_mul, Nat.mod_eq_of_lt h1]
  rw [h2, ← u64_wrap h1]
  push_cast
  simp
theorem u64_shr {a : BitVec 64} {j : Nat} (hj : j < 64) : shrI .u64 (a.toNat : Int) (j : Int) = ((a >>> j).toNat : Int) := by
  simp only [shrI, IntKind.bits, Int.toNat_natCast]
  rw [Nat.min_eq_left (by omega), BitVec.toNat_ushiftRight, Nat.shiftRight_eq_div_pow]
  push_cast
  rw [Int.fdiv_eq_ediv_of_nonneg _ (by exact Int.le_of_lt (Int.pow_pos (by omega)))]
theorem and_one {a : BitVec 64} : a &&& 1#64 = if a.getLsbD 0 then 1#64 else 0#64 := by
  apply BitVec.eq_of_getLsbD_eq
  intro i hi
  rw [BitVec.getLsbD_and, BitVec.getLsbD_one]
  by_cases h0 : i = 0
  · subst h0; cases h : a.getLsbD 0 <;> simp
  · cases h : a.getLsbD 0 <;> simp [h0, BitVec.getLsbD_one]
/-- whether a bit stands, as Go asks -/
theorem u64_bit {a : BitVec 64} {j : Nat} (hj : j < 64) : andI .u64 (shrI .u64 (a.toNat : Int) (j : Int)) 1 = if a.getLsbD j then 1 else 0 := by
  rw [u64_shr hj, show (1 : Int) = ((1#64).toNat : Int) from rfl, u64_and, and_one, BitVec.getLsbD_ushiftRight]
  simp only [Nat.add_zero]
  split <;> rfl
theorem u64_setB {a : BitVec 64} {j : Nat} (hj : j < 64) : orI .u64 (a.toNat : Int) (shlI .u64 1 (j : Int)) = ((setB a j).toNat : Int) := by rw [u64_shl hj, u64_or]; rfl
theorem u64_clrB {a : BitVec 64} {j : Nat} (hj : j < 64) : andNotI .u64 (a.toNat : Int) (shlI .u64 1 (j : Int)) = ((clrB a j).toNat : Int) := by rw [u64_shl hj, u64_andNot]; rfl
/-- two sets that meet nowhere -/
theorem u64_meet {a b : BitVec 64} : (andI .u64 (a.toNat : Int) (b.toNat : Int) = 0) ↔ ∀ i < 64, ¬ (a.getLsbD i = true ∧ b.getLsbD i = true) := by
  rw [u64_and]
  constructor
  · intro h i _ ⟨h1, h2⟩
    have h3 : a &&& b = 0#64 := by
      apply BitVec.eq_of_toNat_eq
      simpa using h
    have h4 := congrArg (fun x => x.getLsbD i) h3
    simp [BitVec.getLsbD_and, h1, h2] at h4
  · intro h
    have h3 : a &&& b = 0#64 := by
      apply BitVec.eq_of_getLsbD_eq
      intro i hi
      rw [BitVec.getLsbD_and, BitVec.getLsbD_zero]
      cases h1 : a.getLsbD i <;> cases h2 : b.getLsbD i <;> simp_all
    rw [h3]; rfl

/-- eight words -/
structure W8 where
  l : List (BitVec 64)
  len : l.length = 8
def W8.zero : W8 := ⟨List.replicate 8 0, rfl⟩
def W8.put (w : W8) (j : Nat) (x : BitVec 64) : W8 := ⟨w.l.set j x, by simp [w.len]⟩
def W8.at (w : W8) (j : Nat) : BitVec 64 := w.l.getD j 0
def W8.enc (w : W8) : List Value := w.l.map fun b => .int .u64 b.toNat
instance instTyW8 : Ty W8 where
  agg := true
  sz := 8
  rep := fun _ cs x => cs = x.enc
  own := fun r cs x => r = Heap.nil ∧ cs = x.enc
  one := fun h => by simp at h
  len := by rintro h cs x rfl; simp [W8.enc, x.len]
  cell := by
    rintro h cs x rfl v hv
    simp only [W8.enc, List.mem_map] at hv
    obtain ⟨b, _, rfl⟩ := hv
    rfl
  mono := fun _ hr => hr
  own_rep := fun ho => ho.2
instance instFlatW8 : Flat W8 := ⟨W8.enc, fun _ => True, by simp [Ty.rep], by simp [Ty.own]⟩
theorem W8.enc_at (w : W8) {j : Nat} (hj : j < 8) : w.enc[j]? = some (.int .u64 (w.at j).toNat) := by
  have : j < w.l.length := by rw [w.len]; exact hj
  simp [W8.enc, W8.at, this]
theorem W8.enc_put (w : W8) {j : Nat} {x : BitVec 64} : (w.put j x).enc = w.enc.set j (.int .u64 x.toNat) := by
  simp [W8.enc, W8.put, List.map_set]
theorem W8.put_at (w : W8) {j i : Nat} {x : BitVec 64} (hj : j < 8) : (w.put j x).at i = if i = j then x else w.at i := by
  have : j < w.l.length := by rw [w.len]; exact hj
  simp only [W8.at, W8.put, List.getD_eq_getElem?_getD, List.getElem?_set]
  split
  · rename_i h; subst h; simp [this]
  · rename_i h; rw [if_neg (fun h2 => h h2.symm)]

section
variable {α : Type} [Ty α] {h : Heap} {v : Value} {l : List α} {i : Nat}
theorem Rep.iaA (hr : Rep h v l) (hi : i < l.length) {n m : Nat} {kd : IntKind} {j : Nat} (hj : j < m) : iaAV m 1 (elp n v i) (.int kd j) = some (elpo n v i j) := by
  obtain ⟨p, cap, rfl, hc, hp, hl⟩ := Rep_list.1 hr
  obtain ⟨b, off, vs, rfl, _⟩ := hl i hi
  have : (j : Int) < m := by omega
  simp [iaAV, elp, elpo, this]
/-- rows of words -/
theorem Rep.W {l : List W8} (hr : Rep h v l) : ((∀ (kd : IntKind) (i : Nat), i < l.length → iaV 8 v (.int kd i) = some (elp 8 v i)) ∧ (∀ (kd : IntKind) (i : Int), 0 ≤ i → i < l.length → iaV 8 v (.int kd i) = some (elp 8 v i.toNat)) ∧ lenVV v = some (.int .i64 l.length)) ∧
    (∀ (kd : IntKind) (i j : Nat), i < l.length → j < 8 → iaAV 8 1 (elp 8 v i) (.int kd j) = some (elpo 8 v i j)) ∧
    ∀ (i j : Nat) (hi : i < l.length), j < 8 → hload h (some (elpo 8 v i j)) none = some (.int .u64 (l[i].at j).toNat) :=
  ⟨hr.X rfl, fun _ _ _ hi hj => hr.iaA hi hj, fun _ _ hi hj => hr.fld hi rfl (W8.enc_at _ hj)⟩
end

theorem Rep.isNil {α : Type} [Ty α] {h : Heap} {v : Value} {l : List α} (hr : Rep h v l) : ∃ b, isNilV false v = some (.bool b) ∧ (b = true → l = []) := by
  obtain ⟨p, cap, rfl, h1, h2, h3⟩ := Rep_list.1 hr
  refine ⟨p.isNone, rfl, fun hp => ?_⟩
  cases l with
  | nil => rfl
  | cons x l => obtain ⟨b, off, vs, h4, _⟩ := h3 0 (by simp); subst h4; simp at hp

theorem Own.clip {α : Type} [Ty α] {r : Heap} {v : Value} {l : List α} (O : Own r v l) {esz : Nat} {k : IntKind} :
    ∃ v', sliceVV esz v none (some (some (.int k l.length))) (some (some (.int k l.length))) = some v' ∧ Own r v' l := by
  rcases Own_list.1 O with ⟨p, rfl, rfl, rfl, hp⟩ | ⟨b, off, cap, cells, el, r', rfl, ⟨h1, hM⟩, h2, rfl, h4, h5⟩
  · refine ⟨.slice p 0 0, ?_, Own_list.2 (.inl ⟨p, rfl, rfl, rfl, hp⟩)⟩
    simp [sliceVV, bndV]
  · refine ⟨.slice (some ⟨b, off, none⟩) l.length l.length, ?_, Own_list.2 (.inr ⟨b, off, l.length, cells, el, r', rfl, ⟨Nat.le_refl _, hM⟩, ?_, rfl, h4, h5⟩)⟩
    · simp [sliceVV, bndV, add_none, h1]
    · have : l.length * Ty.sz α ≤ cap * Ty.sz α := Nat.mul_le_mul_right _ h1
      omega
theorem HS.clip {α : Type} [Ty α] {g h : Heap} {Γ : List HP} {v : Value} {l : List α} (H : HS g (ow v l :: Γ) h) {esz : Nat} {k : IntKind} :
    ∃ v', sliceVV esz v none (some (some (.int k l.length))) (some (some (.int k l.length))) = some v' ∧ HS g (ow v' l :: Γ) h := by
  obtain ⟨g', r, rfl, d, O, H⟩ := H
  obtain ⟨v', h1, O'⟩ := O.clip (esz := esz) (k := k)
  exact ⟨v', h1, g', r, rfl, d, O', H⟩
/-- a slice that is written out, without elements -/
theorem HS.bls0 {P : Program} {k : Env → Heap → Prop} {e : Env} {g h : Heap} {Γ : List HP} (H : HS g Γ h) (α : Type) [Ty α] {esz : Nat} {zero : List Value} {dst : Nat}
    (K : ∀ v' h', HS g (ow v' ([] : List α) :: Γ) h' → k (eset e dst (some v')) h') : (A.ex (some dst) (.bls esz 0 zero [])).wp P k e h := by
  refine ⟨[], rfl, fun b el hb => Fgt.keep ?_⟩
  rw [set_new hb]
  exact K _ _ ⟨h, _, rfl, Dj_one.2 hb, Own_list.2 (.inr ⟨b, 0, 0, [], el, Heap.nil, rfl, ⟨Nat.le_refl _, by simp⟩, by simp, by simp, rfl, rfl⟩), H⟩
@[simp] theorem faV_ptr {b o off : Nat} : faV off (.pointer (some ⟨b, o, none⟩)) = some (.pointer (some ⟨b, o + off, none⟩)) := by simp [faV, add_none]
attribute [simp] Option.bind_some

end Go.Proofs.YthgimpheeemooaaGreat
