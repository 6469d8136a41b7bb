/-
  The rules of slices: their length, their elements, making one, writing an element, appending.
-/
import Derived.Test.YtfhjclhchbagnaaG17
namespace Go.Proofs.Ytfhjclhchbagnaa
open Go
set_option linter.all false
set_option linter.unusedVariables false
set_option linter.unusedSimpArgs false
set_option linter.defProp false

/-- the place of an element -/
def elp (sz : Nat) (v : Value) (i : Nat) : Value :=
  match v with
  | .slice (some p) _ _ => .pointer (some (p.add (i * sz)))
  | _ => undef

theorem srcV_slice {h : Heap} {b off n cap esz : Nat} {l : List Value} (hc : hcells h b off (n * esz) = some l) : srcV h esz (some (.slice (some ⟨b, off, none⟩) n cap)) = some (n, l) := by
  cases n with
  | zero => simp [hcells] at hc; subst hc; rfl
  | succ n => simp only [srcV, hc]; rfl

theorem add_none (b off n : Nat) : (⟨b, off, none⟩ : Addr).add n = ⟨b, off + n, none⟩ := by
  unfold Addr.add
  split
  · next hn => simp [hn]
  · rfl

section
variable {α : Type} [Ty α] {h h' g r : Heap} {v : Value} {l : List α}

theorem Rep_list : Rep h v l ↔ ∃ p cap, v = .slice p l.length cap ∧ (l.length ≤ cap ∧ l.length < 4611686018427387904) ∧ True ∧ repL h p l := by
  constructor
  · rintro ⟨cs, rfl, p, cap, rfl, h1, h2, h3⟩; exact ⟨p, cap, rfl, h1, h2, h3⟩
  · rintro ⟨p, cap, rfl, h1, h2, h3⟩; exact ⟨_, rfl, p, cap, rfl, h1, h2, h3⟩

theorem Own_list : Own r v l ↔ (∃ p, v = .slice p 0 0 ∧ l = [] ∧ r = Heap.nil ∧ okP p) ∨
    ∃ (b off cap : Nat) (cells : List Value) (el : TypeId) (r' : Heap), v = .slice (some ⟨b, off, none⟩) l.length cap ∧ (l.length ≤ cap ∧ l.length < 4611686018427387904) ∧ off + cap * Ty.sz α ≤ cells.length ∧
    r = (Heap.one b (.cells cells.toArray el (0, 0))).add r' ∧ r' b = none ∧ ownL l (cells.drop off) r' := by
  constructor
  · rintro ⟨cs, rfl, ⟨p, rfl, h1, h2, h3⟩ | ⟨b, off, cap, cells, el, r', rfl, h1, h2, h3, h4, h5⟩⟩
    · exact .inl ⟨p, rfl, h1, h2, h3⟩
    · exact .inr ⟨b, off, cap, cells, el, r', rfl, h1, h2, h3, h4, h5⟩
  · rintro (⟨p, rfl, h1, h2, h3⟩ | ⟨b, off, cap, cells, el, r', rfl, h1, h2, h3, h4, h5⟩)
    · exact ⟨_, rfl, .inl ⟨p, rfl, h1, h2, h3⟩⟩
    · exact ⟨_, rfl, .inr ⟨b, off, cap, cells, el, r', rfl, h1, h2, h3, h4, h5⟩⟩

theorem Rep.len (hr : Rep h v l) : lenVV v = some (.int .i64 l.length) := by
  obtain ⟨p, cap, rfl, _⟩ := Rep_list.1 hr
  rfl

theorem Rep.lt (hr : Rep h v l) : l.length < 4611686018427387904 := by
  obtain ⟨p, cap, rfl, h1, _⟩ := Rep_list.1 hr
  exact h1.2

theorem Rep.cells (hr : Rep h v l) : v.cells = #[v] := by
  obtain ⟨p, cap, rfl, h1, _⟩ := Rep_list.1 hr
  rfl
theorem Rep.one (hr : Rep h v l) : v.oneCell' = true := by
  obtain ⟨p, cap, rfl, h1, _⟩ := Rep_list.1 hr
  rfl

theorem Rep.ia (hr : Rep h v l) {k : IntKind} {i : Int} (h0 : 0 ≤ i) (h1 : i < l.length) : iaV (Ty.sz α) v (.int k i) = some (elp (Ty.sz α) v i.toNat) := by
  obtain ⟨p, cap, rfl, hc, hp, hl⟩ := Rep_list.1 hr
  obtain ⟨b, off, vs, rfl, _⟩ := hl i.toNat (by omega)
  simp [iaV, elp, h0, h1]

theorem Rep.ld (hr : Rep h v l) {i : Nat} (hi : i < l.length) : ∃ u, hload h (some (elp (Ty.sz α) v i)) (szo α) = some u ∧ Rep h u l[i] := by
  obtain ⟨p, cap, rfl, hc, hp, hl⟩ := Rep_list.1 hr
  obtain ⟨b, off, vs, rfl, h1, h2⟩ := hl i hi
  refine ⟨valC (Ty.agg α) vs, ?_, vs, rfl, h2⟩
  simp only [elp, add_none, hload, szo, valC]
  cases ha : Ty.agg α with
  | true => simp [h1]
  | false =>
    have h3 := Ty.one ha
    rw [h3] at h1
    simp only [hcells] at h1
    rw [h3]
    simp only [Bool.false_eq_true, if_false]
    split at h1
    · rename_i v r hv hr
      simp only [Option.some.injEq] at h1
      subst h1
      simpa using hv
    · simp at h1

theorem Rep.ia' {n : Nat} (hr : Rep h v l) (hn : n = Ty.sz α) {k : IntKind} {i : Int} (h0 : 0 ≤ i) (h1 : i < l.length) : iaV n v (.int k i) = some (elp n v i.toNat) := by
  subst hn; exact hr.ia h0 h1

theorem Rep.ian {n : Nat} (hr : Rep h v l) (hn : n = Ty.sz α) {k : IntKind} {i : Nat} (h1 : i < l.length) : iaV n v (.int k i) = some (elp n v i) := by
  have := hr.ia' hn (k := k) (i := (i : Int)) (by omega) (by omega)
  simpa using this

/-- elements of a slice, for the simplifier, where their values can be told from what they stand for -/
theorem Rep.ldF [Flat α] (hr : Rep h v l) {i : Nat} (hi : i < l.length) : hload h (some (elp (Ty.sz α) v i)) (szo α) = some (valC (Ty.agg α) (Flat.enc l[i])) := by
  obtain ⟨u, h1, cs, h2, h3⟩ := hr.ld hi
  rw [h1, h2, (Flat.rep_iff.1 h3).1]
theorem Rep.okF [Flat α] (hr : Rep h v l) {i : Nat} (hi : i < l.length) : Flat.ok l[i] := by
  obtain ⟨u, h1, cs, h2, h3⟩ := hr.ld hi
  exact (Flat.rep_iff.1 h3).2
end

theorem Rep.ldI {h : Heap} {v : Value} {l : List Int} (hr : Rep h v l) {i : Nat} (hi : i < l.length) : hload h (some (elp 1 v i)) none = some (.int .i64 l[i]) := hr.ldF hi
theorem Rep.ldB {h : Heap} {v : Value} {l : List Bool} (hr : Rep h v l) {i : Nat} (hi : i < l.length) : hload h (some (elp 1 v i)) none = some (.bool l[i]) := hr.ldF hi
theorem Rep.ldS {h : Heap} {v : Value} {l : List ByteArray} (hr : Rep h v l) {i : Nat} (hi : i < l.length) : hload h (some (elp 1 v i)) none = some (.string l[i]) := hr.ldF hi
theorem Rep.ldU {h : Heap} {v : Value} {l : List (BitVec 64)} (hr : Rep h v l) {i : Nat} (hi : i < l.length) : hload h (some (elp 1 v i)) none = some (.int .u64 l[i].toNat) := hr.ldF hi
theorem Rep.okI {h : Heap} {v : Value} {l : List Int} (hr : Rep h v l) {i : Nat} (hi : i < l.length) : -9223372036854775808 ≤ l[i] ∧ l[i] < 9223372036854775808 := hr.okF hi

theorem own_zero {n : Int} (h1 : -9223372036854775808 ≤ n) (h2 : n < 9223372036854775808) : Ty.own Heap.nil [.int .i64 n] n := ⟨rfl, rfl, h1, h2⟩
theorem own_false {b : Bool} : Ty.own Heap.nil [.bool b] b := ⟨rfl, rfl⟩
theorem own_nils {α : Type} [Ty α] : Ty.own (α := List α) Heap.nil [.slice none 0 0] [] := .inl ⟨none, rfl, rfl, rfl, .inl rfl⟩
theorem Own_nils {α : Type} [Ty α] : Own (α := List α) Heap.nil (.slice none 0 0) [] := ⟨_, rfl, own_nils⟩
theorem Rep_int {h : Heap} {v : Value} {n : Int} : Rep h v n ↔ v = .int .i64 n ∧ -9223372036854775808 ≤ n ∧ n < 9223372036854775808 :=
  ⟨fun ⟨_, h1, h2, h3⟩ => by subst h2; exact ⟨h1, h3⟩, fun ⟨h1, h2⟩ => ⟨[.int .i64 n], h1, rfl, h2⟩⟩
theorem Rep_bool {h : Heap} {v : Value} {n : Bool} : Rep h v n ↔ v = .bool n := ⟨fun ⟨_, h1, h2⟩ => by cases h2; exact h1, fun h1 => ⟨[.bool n], h1, rfl⟩⟩
theorem take_set_succ {α : Type} {x y : List α} {i : Nat} (h1 : y.take i = x.take i) (hi : i < x.length) (hl : y.length = x.length) : (y.set i x[i]).take (i + 1) = x.take (i + 1) := by
  rw [List.take_add_one, List.take_add_one, List.take_set_of_le (Nat.le_refl i), h1]
  simp [hi, hl]
theorem eq_of_take {α : Type} {x y : List α} {i : Nat} (h1 : y.take i = x.take i) (hi : x.length ≤ i) (hl : y.length = x.length) : y = x := by
  rwa [List.take_of_length_le (by omega), List.take_of_length_le hi] at h1
/-- a slice of which one element has been taken away -/
def Hole {α : Type} [Ty α] (r : Heap) (v : Value) (l : List α) (i : Nat) (u : Value) : Prop :=
  ∃ (b off cap : Nat) (cells : List Value) (el : TypeId) (r' : Heap), v = .slice (some ⟨b, off, none⟩) l.length cap ∧ i < l.length ∧ (l.length ≤ cap ∧ l.length < 4611686018427387904) ∧ off + cap * Ty.sz α ≤ cells.length ∧
    r = (Heap.one b (.cells cells.toArray el (0, 0))).add r' ∧ r' b = none ∧ u = valC (Ty.agg α) (((cells.drop off).drop (i * Ty.sz α)).take (Ty.sz α)) ∧
    ∀ r1' c' y, Dj r1' r' → Ty.own r1' c' y → ownL (l.set i y) (setC (cells.drop off) (i * Ty.sz α) c') (r1'.add r')

theorem setC_self {cs c : List Value} {n m : Nat} (h1 : (cs.drop n).take m = c) (hc : c.length = m) : setC cs n c = cs := by
  subst h1
  simp at hc
  unfold setC
  conv => rhs; rw [← List.take_append_drop n cs]
  rw [List.append_assoc]
  congr 1
  rw [List.length_take, List.length_drop]
  conv => rhs; rw [← List.take_append_drop m (cs.drop n)]
  rw [List.drop_drop]
  congr 2
  omega

section
variable {α : Type} [Ty α] {h h' g r r2 ru : Heap} {v u : Value} {l : List α} {i : Nat}

theorem valC_inj {c : List Value} {c' : List Value} (h1 : Ty.agg α = false → c.length = 1) (h2 : Ty.agg α = false → c'.length = 1) (hv : valC (Ty.agg α) c = valC (Ty.agg α) c') : c = c' := by
  unfold valC at hv
  cases ha : Ty.agg α with
  | true => rw [ha] at hv; simpa using hv
  | false =>
    rw [ha] at hv
    have e1 := h1 ha
    have e2 := h2 ha
    match c, c', e1, e2 with
    | [x], [y], _, _ => simpa using hv

theorem slot_le {i n c s : Nat} (h1 : i < n) (h2 : n ≤ c) : i * s + s ≤ c * s := by
  rw [← Nat.succ_mul]
  exact Nat.mul_le_mul_right _ (by omega)

theorem Own.take (O : Own r v l) (hi : i < l.length) : ∃ u r1 r2, r = r1.add r2 ∧ Dj r1 r2 ∧ Own r1 u l[i] ∧ Hole r2 v l i u := by
  rcases Own_list.1 O with ⟨p, _, rfl, _⟩ | ⟨b, off, cap, cells, el, r', rfl, ⟨h1, hM⟩, h2, rfl, h4, h5⟩
  · simp at hi
  · obtain ⟨s1, s2, g1, g2, g3, g4⟩ := ownL_at h5 i hi
    subst g1
    obtain ⟨n1, n2⟩ : s1 b = none ∧ s2 b = none := by simpa [Heap.add] using h4
    refine ⟨_, s1, (Heap.one b (.cells cells.toArray el (0, 0))).add s2, ?_, Dj_add.2 ⟨Dj_one.2 n1, g2⟩, ⟨_, rfl, g3⟩, b, off, cap, cells, el, s2, rfl, hi, ⟨h1, hM⟩, h2, rfl, n2, rfl, g4⟩
    rw [← add_assoc, ← add_assoc, (one_Dj.2 n1).comm]

theorem Hole.put {r1 : Heap} {y : α} (H : Hole r2 v l i u) (d : Dj r1 r2) (O : Own r1 u y) : Own (r1.add r2) v (l.set i y) := by
  obtain ⟨b, off, cap, cells, el, r', rfl, hi, ⟨h1, hM⟩, h2, rfl, h4, h5, h6⟩ := H
  obtain ⟨c, hc, ho⟩ := O
  obtain ⟨d1, d2⟩ := Dj_add.1 d
  have hs := slot_le (s := Ty.sz α) hi h1
  have hl : ((((cells.drop off).drop (i * Ty.sz α)).take (Ty.sz α))).length = Ty.sz α := by simp; omega
  have hlen := Ty.len (Ty.own_rep ho)
  have e1 : c = ((cells.drop off).drop (i * Ty.sz α)).take (Ty.sz α) := valC_inj (α := α) (fun ha => by rw [hlen, Ty.one ha]) (fun ha => by rw [hl, Ty.one ha]) (by rw [← hc, h5])
  have h7 := h6 r1 c y d2 ho
  rw [setC_self e1.symm hlen] at h7
  refine Own_list.2 (.inr ⟨b, off, cap, cells, el, r1.add r', by simp, ⟨by simpa using h1, by simpa using hM⟩, h2, ?_, ?_, h7⟩)
  · rw [← add_assoc, ← add_assoc, d1.comm]
  · simp [Heap.add, h4]; exact Dj_one.1 d1

theorem Hole.ld (H : Hole r2 v l i u) : hload r2 (some (elp (Ty.sz α) v i)) (szo α) = some u := by
  obtain ⟨b, off, cap, cells, el, r', rfl, hi, ⟨h1, hM⟩, h2, rfl, h4, h5, h6⟩ := H
  have hs := slot_le (s := Ty.sz α) hi h1
  have hb : ((Heap.one b (.cells cells.toArray el (0, 0))).add r') b = some (.cells cells.toArray el (0, 0)) := by simp [Heap.add, Heap.one, h4]
  have hc := hcells_mk hb (n := Ty.sz α) (off := off + i * Ty.sz α) (by simp; omega)
  simp only [elp, add_none, hload, szo]
  rw [List.drop_drop] at h5
  cases ha : Ty.agg α with
  | true => simp only [if_true, hc]; rw [h5]; simp [valC, ha]
  | false =>
    have h3 := Ty.one ha
    rw [h3] at hc h5 h2
    rw [ha] at h5
    simp only [Bool.false_eq_true, if_false]
    rw [h3] at hs ⊢
    have hlt : off + i * 1 < cells.length := by omega
    rw [List.drop_eq_getElem_cons hlt] at h5
    simp only [valC, List.take_succ_cons, Bool.false_eq_true, if_false, List.headD_cons] at h5
    rw [h5]
    simp only [hcell, hb]
    simp at hlt ⊢

theorem Hole.len (H : Hole r2 v l i u) : lenVV v = some (.int .i64 l.length) := by
  obtain ⟨b, off, cap, cells, el, r', rfl, _⟩ := H
  rfl

theorem Hole.ia (H : Hole r2 v l i u) {k : IntKind} {n : Int} (h0 : 0 ≤ n) (h1 : n < l.length) : iaV (Ty.sz α) v (.int k n) = some (elp (Ty.sz α) v n.toNat) := by
  obtain ⟨b, off, cap, cells, el, r', rfl, _⟩ := H
  simp [iaV, elp, h0, h1]

theorem drop_setC {cs c : List Value} {a n : Nat} (h : a + n + c.length ≤ cs.length) : (setC cs (a + n) c).drop a = setC (cs.drop a) n c := by
  unfold setC
  rw [List.append_assoc, List.drop_append_of_le_length (by simp; omega), List.drop_take, List.append_assoc, List.drop_drop]
  congr 2
  · omega
  · congr 1; omega

theorem setC_length {cs c : List Value} {n : Nat} (h : n + c.length ≤ cs.length) : (setC cs n c).length = cs.length := by
  unfold setC; simp; omega

/-- what is written where an element was taken away -/
theorem Hole.store {y : α} (H : Hole r v l i u) {u' : Value} (d : Dj g r) (d2 : Dj (g.add r) ru) (Ou : Own ru u' y) :
    ∃ b off h', elp (Ty.sz α) v i = .pointer (some ⟨b, off, none⟩) ∧ u'.cells.size = Ty.sz α ∧ hstore ((g.add r).add ru) b off u'.cells.toList = some h' ∧ ∃ r', h' = g.add r' ∧ Dj g r' ∧ Own r' v (l.set i y) := by
  obtain ⟨b, off, cap, cells, el, r', rfl, hi, ⟨h1, hM⟩, h2, rfl, h4, h5, h6⟩ := H
  obtain ⟨c, rfl, ho⟩ := Ou
  have hlen := Ty.len (Ty.own_rep ho)
  have hcell := Ty.cell (Ty.own_rep ho)
  have hcs := rep_cells (Ty.own_rep ho)
  have hs := slot_le (s := Ty.sz α) hi h1
  obtain ⟨d3, d4⟩ := Dj_add.1 d
  obtain ⟨d5, d6⟩ := add_Dj.1 d2
  obtain ⟨d7, d8⟩ := add_Dj.1 d6
  have hb : (((g.add ((Heap.one b (.cells cells.toArray el (0, 0))).add r')).add ru)) b = some (.cells cells.toArray el (0, 0)) := by
    have := Dj_one.1 d3
    simp [Heap.add, Heap.one, this, h4, one_Dj.1 d7]
  refine ⟨b, off + i * Ty.sz α, g.add ((Heap.one b (.cells (setC cells (off + i * Ty.sz α) c).toArray el (0, 0))).add (r'.add ru)), by simp [elp, add_none], ?_, ?_, ?_⟩
  · have := congrArg List.length hcs
    simpa [hlen] using this
  · unfold hstore
    rw [hb]
    simp only [hcs]
    rw [if_pos (by refine ⟨trivial, ?_, by simpa using hcell⟩; simp [hlen]; omega)]
    rw [add_assoc (a := g), add_assoc (b := r'), add_one_set (Dj_one.1 d3) (by simp [Heap.add, h4, one_Dj.1 d7])]
  · refine ⟨(Heap.one b (.cells (setC cells (off + i * Ty.sz α) c).toArray el (0, 0))).add (r'.add ru), ?_, ?_, ?_⟩
    · rfl
    · exact Dj_add.2 ⟨Dj_one.2 (Dj_one.1 d3), Dj_add.2 ⟨d4, d5⟩⟩
    · have h7 := h6 ru c y d8.symm ho
      refine Own_list.2 (.inr ⟨b, off, cap, _, el, _, by simp, ⟨by simpa using h1, by simpa using hM⟩, ?_, rfl, ?_, ?_⟩)
      · rw [setC_length (by rw [hlen]; omega)]; exact h2
      · simp [Heap.add, h4]; exact one_Dj.1 d7
      · rw [drop_setC (by rw [hlen]; omega), d8.comm]; exact h7
end

section
variable {α : Type} [Ty α] {P : Program} {k : Env → Heap → Prop} {e : Env} {h h' g r r2 ru rs : Heap} {v u : Value} {l l2 : List α} {i : Nat}

/-- WRITING AN ELEMENT of a slice that is owned -/
theorem a_store_hole {sz : Nat} {a x : O} {y : α} {u' : Value} (H : Hole r v l i u) (Ou : Own ru u' y) (d : Dj g r) (d2 : Dj (g.add r) ru) (hh : h = (g.add r).add ru) (hp : a.get e = some (elp (Ty.sz α) v i)) (hx : x.get e = some u') (hsz : sz = Ty.sz α)
    (K : ∀ r', Dj g r' → Own r' v (l.set i y) → k e (g.add r')) : (A.ex none (.store sz a x)).wp P k e h := by
  subst hh; subst hsz
  obtain ⟨b, off, h', h1, h2, h3, r', rfl, h4, h5⟩ := H.store d d2 Ou
  exact ⟨b, off, u', _, by rw [hp, h1], hx, h2, h3, Fgt.keep (K r' h4 h5)⟩

theorem a_store {sz : Nat} {a x : O} {y : α} {u' : Value} (O : Own r v l) (hi : i < l.length) (Ou : Own ru u' y) (d : Dj g r) (d2 : Dj (g.add r) ru) (hh : h = (g.add r).add ru) (hp : a.get e = some (elp (Ty.sz α) v i)) (hx : x.get e = some u') (hsz : sz = Ty.sz α)
    (K : ∀ r', Dj g r' → Own r' v (l.set i y) → k e (g.add r')) : (A.ex none (.store sz a x)).wp P k e h := by
  subst hh; subst hsz
  obtain ⟨u, r1, r2, rfl, d3, O1, H⟩ := O.take hi
  obtain ⟨d4, d5⟩ := Dj_add.1 d
  obtain ⟨d6, d7⟩ := add_Dj.1 d2
  obtain ⟨d8, d9⟩ := add_Dj.1 d7
  -- the element's own part stays behind
  have hd : Dj (g.add r1) r2 := add_Dj.2 ⟨d5, d3⟩
  have hd2 : Dj ((g.add r1).add r2) ru := by rw [add_assoc]; exact d2
  obtain ⟨b, off, h', h1, h2, h3, r', rfl, h4, h5⟩ := H.store hd hd2 Ou
  refine ⟨b, off, u', _, by rw [hp, h1], hx, h2, by rw [← add_assoc]; exact h3, ?_⟩
  obtain ⟨d10, d11⟩ := add_Dj.1 h4
  exact Fgt.drop (le_drop d4 d11) (K r' d10 h5)

theorem Own_flat [Flat α] {y : α} : Own r u y ↔ r = Heap.nil ∧ u = valC (Ty.agg α) (Flat.enc y) ∧ Flat.ok y := by
  constructor
  · rintro ⟨cs, rfl, ho⟩
    obtain ⟨h1, rfl, h2⟩ := Flat.own_iff.1 ho
    exact ⟨h1, rfl, h2⟩
  · rintro ⟨rfl, rfl, h1⟩
    exact ⟨_, rfl, Flat.own_iff.2 ⟨rfl, rfl, h1⟩⟩

theorem Rep_flat [Flat α] {y : α} : Rep r u y ↔ u = valC (Ty.agg α) (Flat.enc y) ∧ Flat.ok y := by
  constructor
  · rintro ⟨cs, rfl, ho⟩
    obtain ⟨rfl, h2⟩ := Flat.rep_iff.1 ho
    exact ⟨rfl, h2⟩
  · rintro ⟨rfl, h1⟩
    exact ⟨_, rfl, Flat.rep_iff.2 ⟨rfl, h1⟩⟩

theorem a_storeF [Flat α] {sz : Nat} {a x : O} (y : α) (O : Own r v l) (hi : i < l.length) (d : Dj g r) (hh : h = g.add r) (hp : a.get e = some (elp (Ty.sz α) v i)) (hx : x.get e = some (valC (Ty.agg α) (Flat.enc y))) (hy : Flat.ok y) (hsz : sz = Ty.sz α)
    (K : ∀ r', Dj g r' → Own r' v (l.set i y) → k e (g.add r')) : (A.ex none (.store sz a x)).wp P k e h :=
  a_store O hi (Own_flat.2 ⟨rfl, rfl, hy⟩) d Dj_nil (by simp [hh]) hp hx hsz K

/-- MAKING A SLICE -/
theorem a_mks {bytes esz : Nat} {zero : List Value} {len cap : O} {j j' : IntKind} {n c : Nat} {dst : Nat} {z : α} (hl : len.get e = some (.int j n)) (hc : cap.get e = some (.int j' c)) (hz : Ty.own Heap.nil zero z) (h1 : n ≤ c) (h2 : c < 2 ^ 62) (h3 : bytes * c ≤ 2 ^ 48)
    (K : ∀ v r, Dj h r → Own r v (List.replicate n z) → k (eset e dst (some v)) (h.add r)) : (A.ex (some dst) (.mks bytes esz zero len cap)).wp P k e h := by
  refine ⟨n, c, j, j', hl, hc, h1, h2, h3, fun b el hb => Fgt.keep ?_⟩
  rw [set_new hb]
  refine K _ _ (Dj_one.2 hb) (Own_list.2 (.inr ⟨b, 0, c, reps c zero, el, Heap.nil, by simp, ⟨by simpa using h1, by simp; omega⟩, ?_, by simp, rfl, ?_⟩))
  · have := ownL_len (ownL_reps hz c)
    simpa using this
  · have hlen := Ty.len (Ty.own_rep hz)
    refine ownL_congr (ownL_reps hz n) ?_
    simp only [List.length_replicate, List.drop_zero]
    rw [show reps c zero = reps n zero ++ reps (c - n) zero by
      rw [reps, reps, reps, ← List.flatten_append, List.replicate_append_replicate]; congr 3; omega]
    have : (reps n zero).length = n * Ty.sz α := by simp [reps, hlen]
    rw [List.take_append_of_le_length (by omega)]

theorem ownL_cell : ∀ {l : List α} {cs : List Value} {r : Heap}, ownL l cs r → ∀ v ∈ cs.take (l.length * Ty.sz α), v.oneCell' = true
  | [], _, _, _, v, hv => by simp at hv
  | x :: l, cs, r, ⟨r1, r2, h1, h2, h3, h4⟩, v, hv => by
    have ha : (x :: l).length * Ty.sz α = Ty.sz α + l.length * Ty.sz α := by simp [Nat.add_mul]; omega
    rw [ha, List.take_add] at hv
    rcases List.mem_append.1 hv with h5 | h5
    · exact Ty.cell (Ty.own_rep h3) v h5
    · exact ownL_cell h4 v h5

/-- APPENDING to a slice that is owned -/
theorem a_app {bytes esz : Nat} {zero : List Value} {a : O} {b : AO} {dst : Nat} {cs : List Value} (O : Own r v l) (ha : a.get e = some v) (hs : b.src h e esz = some (l2.length, cs)) (hcs : cs.length = l2.length * Ty.sz α) (Os : ownL l2 cs rs)
    (d : Dj g r) (d2 : Dj (g.add r) rs) (hh : h = (g.add r).add rs) (hsz : esz = Ty.sz α) (hz : zero.length = Ty.sz α) (hb : (l.length + l2.length) * bytes ≤ 140737488355328) (hn : l.length + l2.length < 2 ^ 62)
    (K : ∀ v' r', Dj g r' → Own r' v' (l ++ l2) → k (eset e dst (some v')) (g.add r')) : (A.ex (some dst) (.app bytes esz zero (.o a) b)).wp P k e h := by
  subst hsz
  obtain ⟨d5, d6⟩ := add_Dj.1 d2
  have hcell : cs.all Value.oneCell' = true := by
    have := ownL_cell Os
    rw [← hcs, List.take_length] at this
    simpa using this
  refine ⟨l2.length, cs, hs, ?_⟩
  rcases Own_list.1 O with ⟨p, rfl, rfl, rfl, hp⟩ | ⟨bb, off, cap, cells, el, r', rfl, ⟨h1, hM⟩, h2, rfl, h4, h5⟩
  · refine ⟨p, 0, 0, ha, ?_, ?_⟩
    · intro h1
      have hl2 : l2 = [] := by cases l2 with
        | nil => rfl
        | cons _ _ => simp at h1
      subst hl2
      have hcs0 : cs = [] := by simpa using hcs
      have hrs : rs = Heap.nil := Os
      subst hrs
      have hk : ∀ p, okP p → Fgt k (eset e dst (some (.slice p (0 + ([] : List α).length) 0))) h := by
        intro p hp
        subst hh
        refine Fgt.keep ?_
        simpa using K (.slice p 0 0) Heap.nil Dj_nil (Own_list.2 (.inl ⟨p, rfl, rfl, rfl, hp⟩))
      rcases hp with rfl | ⟨b', o', rfl⟩
      · exact ⟨hcs0, hk _ (.inl rfl)⟩
      · exact .inl ⟨hcs0, hk _ (.inr ⟨b', o', rfl⟩)⟩
    · intro h1
      refine ⟨0, [], ?_, ?_, by simpa using hn, ?_⟩
      · rcases hp with rfl | ⟨b', o', rfl⟩
        · rfl
        · simp [srcV, hcells]
      · exact growslice_fits h1 (by simpa using hb)
      · intro b' el c hb' hc
        subst hh
        rw [set_new hb']
        simp only [add_nil] at hb' ⊢
        have n1 : g b' = none ∧ rs b' = none := by simpa [Heap.add] using hb'
        refine Fgt.keep ?_
        rw [add_assoc]
        simp only [List.length_nil, Nat.zero_add] at hn ⊢
        refine K _ _ (Dj_add.2 ⟨d5, Dj_one.2 n1.1⟩) ?_
        rw [(Dj_one.2 n1.2).comm]
        refine Own_list.2 (.inr ⟨b', 0, c, _, el, rs, by simp, ⟨by simpa using hc, by simpa using hn⟩, ?_, rfl, n1.2, ?_⟩)
        · simp [reps, hz, hcs]
          rw [← Nat.add_mul]
          exact Nat.mul_le_mul_right _ (by simp at hc; omega)
        · refine ownL_congr Os ?_
          simp only [List.drop_zero, List.nil_append]
          exact (List.take_append_of_le_length (by rw [hcs]; exact Nat.le_refl _)).symm
  · have hbk : ((g.add ((Heap.one bb (.cells cells.toArray el (0, 0))).add r')).add rs) bb = some (.cells cells.toArray el (0, 0)) := by
      have := Dj_one.1 (Dj_add.1 d).1
      simp [Heap.add, Heap.one, this, h4, one_Dj.1 (add_Dj.1 d6).1]
    obtain ⟨d3, d4⟩ := Dj_add.1 d
    obtain ⟨d7, d8⟩ := add_Dj.1 d6
    have hll := ownL_len h5
    have hfit : l.length * Ty.sz α ≤ cap * Ty.sz α := Nat.mul_le_mul_right _ h1
    have hold : ownL l ((cells.drop off).take (l.length * Ty.sz α)) r' := by
      refine ownL_congr h5 ?_
      rw [List.take_take, Nat.min_self]
    refine ⟨_, l.length, cap, ha, ?_, ?_⟩
    · intro hle
      right
      have hf2 : l.length * Ty.sz α + l2.length * Ty.sz α ≤ cap * Ty.sz α := by rw [← Nat.add_mul]; exact Nat.mul_le_mul_right _ hle
      refine ⟨g.add ((Heap.one bb (.cells (setC cells (off + l.length * Ty.sz α) cs).toArray el (0, 0))).add (r'.add rs)), ?_, Fgt.keep ?_⟩
      · unfold hstore
        rw [hh, hbk]
        simp only
        rw [if_pos (by refine ⟨trivial, ?_, hcell⟩; simp [hcs]; omega)]
        rw [add_assoc (a := g), add_assoc (b := r'), add_one_set (Dj_one.1 d3) (by simp [Heap.add, h4, one_Dj.1 d7])]
      · refine K _ _ (Dj_add.2 ⟨Dj_one.2 (Dj_one.1 d3), Dj_add.2 ⟨d4, d5⟩⟩) ?_
        refine Own_list.2 (.inr ⟨bb, off, cap, _, el, _, by simp, ⟨by simpa using hle, by simpa using hn⟩, ?_, rfl, ?_, ?_⟩)
        · rw [setC_length (by rw [hcs]; omega)]; exact h2
        · simp [Heap.add, h4]; exact one_Dj.1 d7
        · rw [drop_setC (by rw [hcs]; omega)]
          have h9 := ownL_append hold (by simp; omega) Os d8
          refine ownL_congr h9 ?_
          rw [List.length_append, Nat.add_mul]
          exact (List.take_append_of_le_length (by rw [List.length_append, List.length_take, Nat.min_eq_left hll, hcs]; exact Nat.le_refl _)).symm
    · intro hlt
      refine ⟨l.length, (cells.drop off).take (l.length * Ty.sz α), ?_, growslice_fits hlt hb, hn, ?_⟩
      · rw [srcV_slice (l := (cells.drop off).take (l.length * Ty.sz α))]
        rw [hh, hcells_mk hbk (by simp; omega)]
      · intro b' el' c hb' hc
        subst hh
        rw [set_new hb']
        have n1 : g b' = none ∧ r' b' = none ∧ rs b' = none := by
          simp only [Heap.add, oplus_eq_none] at hb'
          exact ⟨hb'.1.1, hb'.1.2.2, hb'.2⟩
        have hne : Dj (Heap.one bb (.cells cells.toArray el (0, 0))) ((r'.add rs).add (Heap.one b' (.cells ((cells.drop off).take (l.length * Ty.sz α) ++ cs ++ reps (c - (l.length + l2.length)) zero).toArray el' (0, 0)))) := by
          refine Dj_add.2 ⟨Dj_add.2 ⟨one_Dj.2 h4, d7⟩, Dj_one.2 ?_⟩
          simp only [Heap.add, oplus_eq_none] at hb'
          exact hb'.1.2.1
        refine Fgt.drop (h' := g.add ((r'.add rs).add (Heap.one b' (.cells ((cells.drop off).take (l.length * Ty.sz α) ++ cs ++ reps (c - (l.length + l2.length)) zero).toArray el' (0, 0))))) ?_ ?_
        · have := le_drop d3 hne
          simpa [add_assoc] using this
        · refine K _ _ (Dj_add.2 ⟨Dj_add.2 ⟨d4, d5⟩, Dj_one.2 n1.1⟩) ?_
          rw [(Dj_one.2 (show (r'.add rs) b' = none by simp [Heap.add, n1.2])).comm]
          refine Own_list.2 (.inr ⟨b', 0, c, _, el', r'.add rs, by simp, ⟨by simpa using hc, by simpa using hn⟩, ?_, rfl, by simp [Heap.add, n1.2], ?_⟩)
          · have : (l.length + l2.length) * Ty.sz α + (c - (l.length + l2.length)) * Ty.sz α = c * Ty.sz α := by
              rw [← Nat.add_mul]; congr 1; omega
            rw [Nat.add_mul] at this
            simp [reps, hz, hcs]
            omega
          · have h9 := ownL_append hold (by simp; omega) Os d8
            refine ownL_congr h9 ?_
            rw [List.drop_zero, List.length_append, Nat.add_mul]
            exact (List.take_append_of_le_length (by rw [List.length_append, List.length_take, Nat.min_eq_left hll, hcs]; exact Nat.le_refl _)).symm

theorem reps_add {n m : Nat} {z : List Value} : reps (n + m) z = reps n z ++ reps m z := by
  rw [reps, reps, reps, ← List.flatten_append, List.replicate_append_replicate]

/-- APPENDING to a private slice without elements -/
theorem a_appP {bytes esz : Nat} {zero : List Value} {j : Nat} {b : AO} {dst : Nat} {cs : List Value} {c0 : Array Value} (hp : eget e j = some (.agg c0)) (hs : b.src h e esz = some (l2.length, cs)) (hcs : cs.length = l2.length * Ty.sz α) (Os : ownL l2 cs rs)
    (d : Dj g rs) (hh : h = g.add rs) (hz : zero.length = Ty.sz α) (hb : l2.length * bytes ≤ 140737488355328) (hn : l2.length < 2 ^ 62)
    (K : ∀ v' r', Dj g r' → Own r' v' l2 → k (eset e dst (some v')) (g.add r')) : (A.ex (some dst) (.app bytes esz zero (.p 0 j) b)).wp P k e h := by
  refine ⟨l2.length, cs, hs, rfl, ⟨c0, hp⟩, ?_, ?_⟩
  · intro hl2 b'
    have hl2 : l2 = [] := by simpa using hl2
    subst hl2
    have hrs : rs = Heap.nil := Os
    subst hrs
    subst hh
    refine Fgt.keep ?_
    simpa using K _ Heap.nil Dj_nil (Own_list.2 (.inl ⟨some ⟨b', 0, none⟩, rfl, rfl, rfl, .inr ⟨b', 0, rfl⟩⟩))
  · intro hpos
    refine ⟨growslice_fits hpos (by simpa using hb), hn, ?_⟩
    intro b' el c hb' hc
    subst hh
    rw [set_new hb']
    have n1 : g b' = none ∧ rs b' = none := by simpa [Heap.add] using hb'
    refine Fgt.keep ?_
    rw [add_assoc]
    refine K _ _ (Dj_add.2 ⟨d, Dj_one.2 n1.1⟩) ?_
    rw [(Dj_one.2 n1.2).comm]
    refine Own_list.2 (.inr ⟨b', 0, c, _, el, rs, rfl, ⟨hc, by omega⟩, ?_, rfl, n1.2, ?_⟩)
    · simp [reps, hz, hcs]
      rw [← Nat.add_mul]
      exact Nat.mul_le_mul_right _ (by omega)
    · refine ownL_congr Os ?_
      simp only [List.drop_zero]
      exact (List.take_append_of_le_length (by rw [hcs]; exact Nat.le_refl _)).symm

/-- the cells of a list without memory of its own -/
def encL [Flat α] (l : List α) : List Value := (l.map Flat.enc).flatten

theorem flat_len [Flat α] {x : α} (hx : Flat.ok x) : (Flat.enc x).length = Ty.sz α := Ty.len (h := Heap.nil) (Flat.rep_iff.2 ⟨rfl, hx⟩)
theorem encL_len [Flat α] : ∀ {l : List α}, (∀ x ∈ l, Flat.ok x) → (encL l).length = l.length * Ty.sz α
  | [], _ => by simp [encL]
  | x :: l, h => by
    have := encL_len (l := l) (fun y hy => h y (by simp [hy]))
    simp only [encL, List.map_cons, List.flatten_cons, List.length_append, flat_len (h x (by simp)), List.length_cons] at this ⊢
    rw [this, Nat.add_mul]; omega
theorem ownL_enc [Flat α] : ∀ {l : List α}, (∀ x ∈ l, Flat.ok x) → ownL l (encL l) Heap.nil
  | [], _ => rfl
  | x :: l, h => by
    have hx := flat_len (h x (by simp))
    refine ⟨Heap.nil, Heap.nil, by simp, by simp, ?_, ?_⟩
    · rw [show encL (x :: l) = Flat.enc x ++ encL l from rfl, ← hx, List.take_left]
      exact Flat.own_iff.2 ⟨rfl, rfl, h x (by simp)⟩
    · rw [show encL (x :: l) = Flat.enc x ++ encL l from rfl, ← hx, List.drop_left]
      exact ownL_enc (fun y hy => h y (by simp [hy]))

theorem hcells_add {h : Heap} {b : Nat} : ∀ {n m off : Nat} {c1 c2 : List Value}, hcells h b off n = some c1 → hcells h b (off + n) m = some c2 → hcells h b off (n + m) = some (c1 ++ c2)
  | 0, m, off, c1, c2, h1, h2 => by simp [hcells] at h1; subst h1; simpa using h2
  | n + 1, m, off, c1, c2, h1, h2 => by
    rw [show n + 1 + m = (n + m) + 1 by omega]
    simp only [hcells] at h1 ⊢
    split at h1
    · rename_i v r hv hr
      simp only [Option.some.injEq] at h1
      subst h1
      rw [hv, hcells_add hr (by rw [← h2]; congr 1; omega)]
      rfl
    · simp at h1

theorem repL_enc [Flat α] {h : Heap} {b off : Nat} : ∀ {l : List α}, repL h (some ⟨b, off, none⟩) l → hcells h b off (l.length * Ty.sz α) = some (encL l)
  | l, hr => by
    have key : ∀ n, n ≤ l.length → hcells h b off (n * Ty.sz α) = some (encL (l.take n)) := by
      intro n
      induction n with
      | zero => intro _; simp [hcells, encL]
      | succ n ih =>
        intro hn
        obtain ⟨b', off', vs, h1, h2, h3⟩ := hr n (by omega)
        simp only [Option.some.injEq, Addr.mk.injEq] at h1
        obtain ⟨rfl, rfl, _⟩ := h1
        have h4 := hcells_add (ih (by omega)) h2
        rw [show (n + 1) * Ty.sz α = n * Ty.sz α + Ty.sz α by rw [Nat.add_mul]; omega, h4]
        rw [List.take_add_one, List.getElem?_eq_getElem (by omega)]
        rw [encL, encL, List.map_append, List.flatten_append, (Flat.rep_iff.1 h3).1]
        simp
    have := key l.length (Nat.le_refl _)
    rwa [List.take_length] at this

theorem Rep.okL [Flat α] {h : Heap} {v : Value} {l : List α} (hr : Rep h v l) : ∀ x ∈ l, Flat.ok x := by
  intro x hx
  obtain ⟨i, hi, rfl⟩ := List.mem_iff_getElem.1 hx
  exact hr.okF hi

theorem Rep.src [Flat α] {h : Heap} {v : Value} {l : List α} (hr : Rep h v l) : srcV h (Ty.sz α) (some v) = some (l.length, encL l) := by
  obtain ⟨p, cap, rfl, h1, h2, h3⟩ := Rep_list.1 hr
  cases l with
  | nil => rfl
  | cons x l =>
    obtain ⟨b, off, vs, rfl, _⟩ := h3 0 (by simp)
    have h4 := repL_enc h3
    simp only [List.length_cons] at h4 ⊢
    simp only [srcV, h4]
    rfl

/-- APPENDING a list that is only read -/
theorem a_appPL [Flat α] {bytes esz : Nat} {zero : List Value} {j : Nat} {x : O} {dst : Nat} {c0 : Array Value} {u : Value} (hp : eget e j = some (.agg c0)) (hx : x.get e = some u) (hr : Rep h u l2) (hsz : esz = Ty.sz α) (hz : zero.length = Ty.sz α) (hb : l2.length * bytes ≤ 140737488355328)
    (K : ∀ v' r', Dj h r' → Own r' v' l2 → k (eset e dst (some v')) (h.add r')) : (A.ex (some dst) (.app bytes esz zero (.p 0 j) (.o x))).wp P k e h := by
  subst hsz
  refine a_appP (rs := Heap.nil) (l2 := l2) hp ?_ (encL_len hr.okL) (ownL_enc hr.okL) Dj_nil (by simp) hz hb (by have := hr.lt; omega) K
  simp only [AO.src, hx]
  exact hr.src
theorem a_appL [Flat α] {bytes esz : Nat} {zero : List Value} {a x : O} {dst : Nat} {u : Value} (O : Own r v l) (ha : a.get e = some v) (hx : x.get e = some u) (hr : Rep h u l2) (d : Dj g r) (hh : h = g.add r) (hsz : esz = Ty.sz α) (hz : zero.length = Ty.sz α)
    (hb : (l.length + l2.length) * bytes ≤ 140737488355328) (hn : l.length + l2.length < 2 ^ 62)
    (K : ∀ v' r', Dj g r' → Own r' v' (l ++ l2) → k (eset e dst (some v')) (g.add r')) : (A.ex (some dst) (.app bytes esz zero (.o a) (.o x))).wp P k e h := by
  subst hsz
  refine a_app (rs := Heap.nil) (l2 := l2) O ha ?_ (encL_len hr.okL) (ownL_enc hr.okL) d Dj_nil (by simp [hh]) rfl hz hb hn K
  simp only [AO.src, hx]
  exact hr.src
/-- APPENDING the elements of a private slice: one element and more, each without memory of its own -/
theorem a_appF [Flat α] {bytes esz : Nat} {zero : List Value} {a : O} {n j : Nat} {dst : Nat} {c0 : Array Value} (O : Own r v l) (ha : a.get e = some v) (hp : eget e j = some (.agg c0)) (hn : n = l2.length) (hc : c0.toList = encL l2) (hok : ∀ x ∈ l2, Flat.ok x) (d : Dj g r) (hh : h = g.add r) (hsz : esz = Ty.sz α) (hz : zero.length = Ty.sz α)
    (hb : (l.length + l2.length) * bytes ≤ 140737488355328) (hn2 : l.length + l2.length < 2 ^ 62)
    (K : ∀ v' r', Dj g r' → Own r' v' (l ++ l2) → k (eset e dst (some v')) (g.add r')) : (A.ex (some dst) (.app bytes esz zero (.o a) (.p n j))).wp P k e h := by
  subst hsz hn
  refine a_app (rs := Heap.nil) (l2 := l2) O ha ?_ (encL_len hok) (ownL_enc hok) d Dj_nil (by simp [hh]) rfl hz hb hn2 K
  have h1 := encL_len hok
  have h2 : c0.size = l2.length * Ty.sz α := by rw [← h1, ← hc]; simp
  simp only [AO.src, hp, h2, if_true, hc]
end
end Go.Proofs.Ytfhjclhchbagnaa
