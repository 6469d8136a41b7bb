/-
  Structures made of parts: taken apart and put together; how much a piece of data holds; marks, which the laws write over a copy to see that nothing is shared.
-/
import Derived.Test.YtfhjclhchbagnaaG21
namespace Go.Proofs.Ytfhjclhchbagnaa
open Go
set_option linter.all false
set_option linter.unusedVariables false
set_option linter.unusedSimpArgs false
set_option linter.defProp false

theorem own1 {α : Type} [Ty α] (ha : Ty.agg α = false) {r : Heap} {cs : List Value} {x : α} : Ty.own r cs x ↔ ∃ v, cs = [v] ∧ Own r v x := by
  constructor
  · intro ho
    have hl := Ty.len (Ty.own_rep ho)
    rw [Ty.one ha] at hl
    match cs, hl with
    | [v], _ => exact ⟨v, rfl, [v], by simp [valC, ha], ho⟩
  · rintro ⟨v, rfl, c, h1, h2⟩
    have hl := Ty.len (Ty.own_rep h2)
    rw [Ty.one ha] at hl
    match c, hl with
    | [u], _ => simp [valC, ha] at h1; subst h1; exact h2
theorem rep1 {α : Type} [Ty α] (ha : Ty.agg α = false) {r : Heap} {cs : List Value} {x : α} : Ty.rep r cs x ↔ ∃ v, cs = [v] ∧ Rep r v x := by
  constructor
  · intro ho
    have hl := Ty.len ho
    rw [Ty.one ha] at hl
    match cs, hl with
    | [v], _ => exact ⟨v, rfl, [v], by simp [valC, ha], ho⟩
  · rintro ⟨v, rfl, c, h1, h2⟩
    have hl := Ty.len h2
    rw [Ty.one ha] at hl
    match c, hl with
    | [u], _ => simp [valC, ha] at h1; subst h1; exact h2

section
variable {α : Type} [Ty α] {h : Heap} {v : Value} {l : List α} {i : Nat}
/-- one cell of an element -/
theorem Rep.fld [Flat α] (hr : Rep h v l) (hi : i < l.length) {n j : Nat} (hn : n = Ty.sz α) {u : Value} (hj : (Flat.enc l[i])[j]? = some u) : hload h (some (elpo n v i j)) none = some u := by
  subst hn
  obtain ⟨p, cap, rfl, hc, hp, hl⟩ := Rep_list.1 hr
  obtain ⟨b, off, vs, rfl, h1, h2⟩ := hl i hi
  rw [← (Flat.rep_iff.1 h2).1] at hj
  have := (hcells_get h1).2 j u hj
  simp [elpo, add_none, hload, this]
end

/-- a value of many cells, as it is put into a box and taken out -/
theorem Rep.A {α : Type} [Ty α] {h : Heap} {v : Value} {x : α} (hr : Rep h v x) (ha : Ty.agg α = true) {n : Nat} (hn : n = Ty.sz α) : pgetV (some v) 0 (some n) = some v ∧ v.cells.size = n ∧ allOne v.cells.toList = true ∧ Value.agg v.cells = v := by
  obtain ⟨cs, rfl, h1⟩ := hr
  have h2 := Ty.len h1
  have h3 := Ty.cell h1
  subst hn
  simp only [valC, ha, if_true]
  refine ⟨?_, by simpa using h2, ?_, rfl⟩
  · simp [h2]
  · rw [← allOne_eq]; simpa using h3

/-- owned, at its cells -/
def owC {α : Type} [Ty α] (cs : List Value) (x : α) : HP := fun r => Ty.own r cs x

section
variable {g h : Heap} {Γ : List HP}
theorem HS.split2 {p p1 p2 : HP} (H : HS g (p :: Γ) h) (hp : ∀ r, p r → ∃ r1 r2, r = r1.add r2 ∧ Dj r1 r2 ∧ p1 r1 ∧ p2 r2) : HS g (p1 :: p2 :: Γ) h := by
  obtain ⟨g', r, rfl, d, h1, H⟩ := H
  obtain ⟨r1, r2, rfl, d2, h2, h3⟩ := hp r h1
  obtain ⟨d3, d4⟩ := Dj_add.1 d
  refine ⟨g'.add r2, r1, ?_, add_Dj.2 ⟨d3, d2.symm⟩, h2, g', r2, rfl, d4, h3, H⟩
  rw [add_assoc, d2.comm]
theorem HS.join2 {p p1 p2 : HP} (H : HS g (p1 :: p2 :: Γ) h) (hp : ∀ r1 r2, Dj r1 r2 → p1 r1 → p2 r2 → p (r1.add r2)) : HS g (p :: Γ) h := by
  obtain ⟨g1, r1, rfl, d1, h1, g', r2, rfl, d2, h2, H⟩ := H
  obtain ⟨d3, d4⟩ := add_Dj.1 d1
  refine ⟨g', r1.add r2, ?_, Dj_add.2 ⟨d3, d2⟩, hp r1 r2 d4.symm h1 h2, H⟩
  rw [add_assoc, d4.comm]
theorem HS.unvia {α β : Type} [Ty β] (f : α → β) {v : Value} {x : α} (H : HS g (@ow α (Ty.via f) v x :: Γ) h) : ∃ cs : List Value, v = .agg cs.toArray ∧ HS g (owC cs (f x) :: Γ) h := by
  obtain ⟨g', r, rfl, d, ⟨cs, rfl, ho⟩, H⟩ := H
  exact ⟨cs, rfl, g', r, rfl, d, ho, H⟩
theorem HS.via {α β : Type} [Ty β] (f : α → β) {cs : List Value} {x : α} (H : HS g (owC cs (f x) :: Γ) h) : HS g (@ow α (Ty.via f) (.agg cs.toArray) x :: Γ) h :=
  H.imp fun _ ho => ⟨cs, rfl, ho⟩
theorem HS.unprod {α β : Type} [Ty α] [Ty β] {cs : List Value} {x : α} {y : β} (H : HS g (owC cs (x, y) :: Γ) h) : ∃ c1 c2, cs = c1 ++ c2 ∧ HS g (owC c1 x :: owC c2 y :: Γ) h := by
  obtain ⟨g', r, rfl, d, ⟨c1, c2, r1, r2, rfl, rfl, d2, h1, h2⟩, H⟩ := H
  obtain ⟨d3, d4⟩ := Dj_add.1 d
  exact ⟨c1, c2, rfl, g'.add r2, r1, by rw [add_assoc, d2.comm], add_Dj.2 ⟨d3, d2.symm⟩, h1, g', r2, rfl, d4, h2, H⟩
theorem HS.unone {α : Type} [Ty α] (ha : Ty.agg α = false) {cs : List Value} {x : α} (H : HS g (owC cs x :: Γ) h) : ∃ v, cs = [v] ∧ HS g (ow v x :: Γ) h := by
  obtain ⟨g', r, rfl, d, ho, H⟩ := H
  have ho2 : Ty.own r cs x := ho
  obtain ⟨v, rfl, h3⟩ := (own1 ha).1 ho2
  exact ⟨v, rfl, g', r, rfl, d, h3, H⟩
theorem HS.one {α : Type} [Ty α] (ha : Ty.agg α = false) {v : Value} {x : α} (H : HS g (ow v x :: Γ) h) : HS g (owC [v] x :: Γ) h := H.imp fun _ ho => (own1 ha).2 ⟨v, rfl, ho⟩
theorem HS.prod {α β : Type} [Ty α] [Ty β] (ha : Ty.agg α = false) {v : Value} {cs : List Value} {x : α} {y : β} (H : HS g (ow v x :: owC cs y :: Γ) h) : HS g (owC (v :: cs) (x, y) :: Γ) h :=
  H.join2 fun r1 r2 d h1 h2 => ⟨[v], cs, r1, r2, rfl, rfl, d, (own1 ha).2 ⟨v, rfl, h1⟩, h2⟩
/-- what has no memory of its own may be dropped, and taken up anywhere -/
theorem HS.unflat {α : Type} [Ty α] [Flat α] {v : Value} {x : α} (H : HS g (ow v x :: Γ) h) : v = valC (Ty.agg α) (Flat.enc x) ∧ Flat.ok x ∧ HS g Γ h := by
  obtain ⟨g', r, rfl, d, ho, H⟩ := H
  obtain ⟨rfl, rfl, hk⟩ := Own_flat.1 ho
  exact ⟨rfl, hk, by simpa using H⟩
theorem HS.flat {α : Type} [Ty α] [Flat α] {x : α} (H : HS g Γ h) (hk : Flat.ok x) : HS g (ow (valC (Ty.agg α) (Flat.enc x)) x :: Γ) h :=
  ⟨h, Heap.nil, by simp, by simp, Own_flat.2 ⟨rfl, rfl, hk⟩, H⟩
end

/-- HOW MUCH a piece of data holds: the lengths of all its lists, added up -/
class Sz (α : Type) where
  sz : α → Nat
instance : Sz Int := ⟨fun _ => 0⟩
instance : Sz Bool := ⟨fun _ => 0⟩
def szL {α : Type} [Sz α] : List α → Nat
  | [] => 0
  | x :: l => Sz.sz x + szL l
instance instSzList {α : Type} [Sz α] : Sz (List α) := ⟨fun l => l.length + szL l⟩
theorem sz_list {α : Type} [Sz α] (l : List α) : Sz.sz l = l.length + szL l := rfl
theorem szL_get {α : Type} [Sz α] : ∀ {l : List α} {i : Nat} (hi : i < l.length), Sz.sz l[i] ≤ szL l
  | x :: l, 0, _ => by simp [szL]
  | x :: l, i + 1, hi => by
    have := szL_get (l := l) (i := i) (by simpa using hi)
    simp [szL]; omega
theorem szL_take {α : Type} [Sz α] : ∀ {l : List α} {i : Nat} (hi : i < l.length), szL (l.take (i + 1)) = szL (l.take i) + Sz.sz l[i]
  | x :: l, 0, _ => by simp [szL]
  | x :: l, i + 1, hi => by
    have := szL_take (l := l) (i := i) (by simpa using hi)
    simp [szL, this]; omega
theorem szL_take_le {α : Type} [Sz α] : ∀ {l : List α} {i : Nat}, szL (l.take i) ≤ szL l
  | [], i => by simp [szL]
  | x :: l, 0 => by simp [szL]
  | x :: l, i + 1 => by
    have := szL_take_le (l := l) (i := i)
    simp [szL]; omega
theorem szL_zero {α : Type} [Sz α] (h0 : ∀ x : α, Sz.sz x = 0) : ∀ l : List α, szL l = 0
  | [] => rfl
  | x :: l => by simp [szL, h0, szL_zero h0 l]

/-- 'cnt': how many places are written; 'wr k': the piece of data with the places written over, from k on -/
class Mk (α : Type) where
  cnt : α → Nat
  wr : Int → α → α
  cnt_wr : ∀ k x, cnt (wr k x) = cnt x
  wr_wr : ∀ k j x, wr k (wr j x) = wr k x

def cntL {α : Type} [Mk α] : List α → Nat
  | [] => 0
  | x :: l => Mk.cnt x + cntL l
def mkL {α : Type} [Mk α] : Int → List α → List α
  | _, [] => []
  | k, x :: l => Mk.wr k x :: mkL (k + Mk.cnt x) l

section
variable {α : Type} [Mk α]
theorem cntL_mk : ∀ (k : Int) (l : List α), cntL (mkL k l) = cntL l
  | _, [] => rfl
  | k, x :: l => by simp [cntL, mkL, Mk.cnt_wr, cntL_mk (k + Mk.cnt x) l]
theorem mkL_mk : ∀ (k j : Int) (l : List α), mkL k (mkL j l) = mkL k l
  | _, _, [] => rfl
  | k, j, x :: l => by simp [mkL, Mk.cnt_wr, Mk.wr_wr, mkL_mk (k + Mk.cnt x) (j + Mk.cnt x) l]
@[simp] theorem mkL_length : ∀ (k : Int) (l : List α), (mkL k l).length = l.length
  | _, [] => rfl
  | k, x :: l => by simp [mkL, mkL_length (k + Mk.cnt x) l]
theorem mkL_get : ∀ (k : Int) (l : List α) (i : Nat) (hi : i < l.length), (mkL k l)[i]'(by simpa using hi) = Mk.wr (k + cntL (l.take i)) l[i]
  | _, [], i, hi => by simp at hi
  | k, x :: l, 0, _ => by simp [mkL, cntL]
  | k, x :: l, i + 1, hi => by
    simp only [mkL, List.getElem_cons_succ, List.take_succ_cons, cntL]
    rw [mkL_get (k + Mk.cnt x) l i (by simpa using hi)]
    congr 1
    push_cast
    omega
theorem cntL_take : ∀ (l : List α) (i : Nat) (hi : i < l.length), cntL (l.take (i + 1)) = cntL (l.take i) + Mk.cnt l[i]
  | [], i, hi => by simp at hi
  | x :: l, 0, _ => by simp [cntL]
  | x :: l, i + 1, hi => by
    simp only [List.take_succ_cons, cntL, List.getElem_cons_succ]
    rw [cntL_take l i (by simpa using hi)]
    omega
theorem cntL_le : ∀ (l : List α) (i : Nat), cntL (l.take i) ≤ cntL l
  | [], i => by simp [cntL]
  | x :: l, 0 => by simp [cntL]
  | x :: l, i + 1 => by
    simp only [List.take_succ_cons, cntL]
    have := cntL_le l i
    omega

instance instMkList : Mk (List α) := ⟨cntL, mkL, cntL_mk, mkL_mk⟩
end

instance instMkInt : Mk Int := ⟨fun _ => 1, fun k _ => k, fun _ _ => rfl, fun _ _ _ => rfl⟩
instance instMkBool : Mk Bool := ⟨fun _ => 1, fun k _ => decide (k.tmod 3 = 0), fun _ _ => rfl, fun _ _ _ => rfl⟩
/-- how far the writing has come -/
structure Mkd {α : Type} [Mk α] (k : Int) (x y : List α) (i : Nat) : Prop where
  len : y.length = x.length
  done : y.take i = (mkL k x).take i
  rest : y.drop i = x.drop i

section
variable {α : Type} [Mk α] {k : Int} {x y : List α} {i : Nat}
theorem Mkd.zero : Mkd k x x 0 := ⟨rfl, rfl, rfl⟩
theorem Mkd.get (h : Mkd k x y i) (hi : i < x.length) : y[i]'(by rw [h.len]; exact hi) = x[i] := by
  have := congrArg (fun l => l[0]?) h.rest
  simp [List.getElem?_drop, hi, h.len] at this
  exact this
theorem Mkd.step (h : Mkd k x y i) (hi : i < x.length) : Mkd k x (y.set i (Mk.wr (k + cntL (x.take i)) x[i])) (i + 1) := by
  refine ⟨by simp [h.len], ?_, ?_⟩
  · have := take_set_succ (x := mkL k x) h.done (by simpa using hi) (by simpa using h.len)
    rwa [mkL_get k x i hi] at this
  · rw [List.drop_set_of_lt (by omega)]
    have := congrArg (List.drop 1) h.rest
    simpa [List.drop_drop] using this
theorem Mkd.all (h : Mkd k x y i) (hi : x.length ≤ i) : y = mkL k x := eq_of_take h.done (by simpa using hi) (by simpa using h.len)
end
theorem take_step {α : Type} {x y : List α} {i : Nat} (h : x.take i = y.take i) (h1 : i < x.length) (h2 : i < y.length) (he : x[i] = y[i]) : x.take (i + 1) = y.take (i + 1) := by
  rw [List.take_add_one, List.take_add_one, h, List.getElem?_eq_getElem h1, List.getElem?_eq_getElem h2, he]
theorem HS.storeFld {α : Type} [Ty α] [Flat α] {P : Program} {k : Env → Heap → Prop} {e : Env} {g h : Heap} {Γ : List HP} {v : Value} {l : List α} {i : Nat} (H : HS g (ow v l :: Γ) h) (y : α) {a x : O} {fo : Nat} {u : Value} (hi : i < l.length) (hp : a.get e = some (elpo (Ty.sz α) v i fo)) (hx : x.get e = some u) (hu : u.cells = #[u]) (hu1 : u.oneCell' = true)
    (hfo : fo < Ty.sz α) (hy : Flat.enc y = (Flat.enc l[i]).set fo u) (hok : Flat.ok y) (K : ∀ h', HS g (ow v (l.set i y) :: Γ) h' → k e h') : (A.ex none (.store 1 a x)).wp P k e h := by
  obtain ⟨g', r, rfl, d, O, H⟩ := H
  exact a_store_fldF y O hi d rfl hp hx hu hu1 hfo hy hok fun r' d' O' => K _ ⟨g', r', rfl, d', O', H⟩
end Go.Proofs.Ytfhjclhchbagnaa
