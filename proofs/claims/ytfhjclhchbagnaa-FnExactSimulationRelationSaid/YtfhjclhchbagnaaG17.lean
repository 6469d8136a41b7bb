/-
  Parts of a heap, and what it is that a value stands for a piece of plain data: shared and only read, or owned, with all that it reaches.
-/
import Derived.Test.YtfhjclhchbagnaaG16
namespace Go.Proofs.Ytfhjclhchbagnaa
open Go
set_option linter.all false
set_option linter.unusedVariables false
set_option linter.unusedSimpArgs false
set_option linter.defProp false

def Heap.nil : Heap := fun _ => none
def Heap.one (b : Nat) (o : Obj) : Heap := fun x => if x = b then some o else none
/-- what stands where two parts of a heap clash: never met where they are apart -/
def clash : Obj := .map #[] 0
def oplus : Option Obj → Option Obj → Option Obj
  | none, y => y
  | some x, none => some x
  | some _, some _ => some clash
def Heap.add (h r : Heap) : Heap := fun b => oplus (h b) (r b)
/-- apart -/
def Dj (h r : Heap) : Prop := ∀ b, h b = none ∨ r b = none

section
variable {a b c h h' r r' : Heap}

@[simp] theorem oplus_none {x : Option Obj} : oplus x none = x := by cases x <;> rfl
@[simp] theorem none_oplus {x : Option Obj} : oplus none x = x := rfl
@[simp] theorem oplus_eq_none {x y : Option Obj} : oplus x y = none ↔ x = none ∧ y = none := by cases x <;> cases y <;> simp [oplus]
@[simp] theorem add_nil : h.add Heap.nil = h := by funext b; simp [Heap.add, Heap.nil]
@[simp] theorem nil_add : Heap.nil.add h = h := by funext b; simp [Heap.add, Heap.nil]
theorem add_assoc : (a.add b).add c = a.add (b.add c) := by
  funext x
  simp only [Heap.add]
  cases a x <;> cases b x <;> cases c x <;> rfl
theorem add_comm : a.add b = b.add a := by
  funext x
  simp only [Heap.add]
  cases a x <;> cases b x <;> rfl
instance : Std.Associative Heap.add := ⟨fun _ _ _ => add_assoc⟩
instance : Std.Commutative Heap.add := ⟨fun _ _ => add_comm⟩
theorem Dj.symm (d : Dj a b) : Dj b a := fun x => (d x).symm
theorem Dj_comm : Dj a b ↔ Dj b a := ⟨Dj.symm, Dj.symm⟩
theorem Dj.comm (_ : Dj a b) : a.add b = b.add a := add_comm
@[simp] theorem Dj_nil : Dj h Heap.nil := fun _ => .inr rfl
@[simp] theorem nil_Dj : Dj Heap.nil h := fun _ => .inl rfl
theorem Dj_add : Dj h (a.add b) ↔ Dj h a ∧ Dj h b := by
  constructor
  · intro d
    constructor <;> intro x <;> rcases d x with h1 | h1
    · exact .inl h1
    · simp only [Heap.add, oplus_eq_none] at h1; exact .inr h1.1
    · exact .inl h1
    · simp only [Heap.add, oplus_eq_none] at h1; exact .inr h1.2
  · rintro ⟨d1, d2⟩ x
    rcases d1 x with h1 | h1
    · exact .inl h1
    · rcases d2 x with h2 | h2
      · exact .inl h2
      · exact .inr (by simp [Heap.add, h1, h2])
theorem add_Dj : Dj (a.add b) h ↔ Dj a h ∧ Dj b h :=
  ⟨fun d => ⟨(Dj_add.1 d.symm).1.symm, (Dj_add.1 d.symm).2.symm⟩, fun d => (Dj_add.2 ⟨d.1.symm, d.2.symm⟩).symm⟩
theorem Dj_one {b : Nat} {o : Obj} : Dj h (Heap.one b o) ↔ h b = none := by
  constructor
  · intro d
    rcases d b with h1 | h1
    · exact h1
    · simp [Heap.one] at h1
  · intro h1 x
    by_cases hx : x = b
    · subst hx; exact .inl h1
    · exact .inr (by simp [Heap.one, hx])
theorem one_Dj {b : Nat} {o : Obj} : Dj (Heap.one b o) h ↔ h b = none := ⟨fun d => Dj_one.1 d.symm, fun d => (Dj_one.2 d).symm⟩
theorem set_new {b : Nat} {o : Obj} (hb : h b = none) : h.set b o = h.add (Heap.one b o) := by
  funext x
  by_cases hx : x = b
  · subst hx; simp [Heap.set, Heap.add, Heap.one, hb]
  · simp [Heap.set, Heap.add, Heap.one, hx]
theorem set_one {b : Nat} {o o' : Obj} (hb : h b = none) : (h.add (Heap.one b o)).set b o' = h.add (Heap.one b o') := by
  funext x
  by_cases hx : x = b
  · subst hx; simp [Heap.set, Heap.add, Heap.one, hb]
  · simp [Heap.set, Heap.add, Heap.one, hx]
theorem add_one_set {b : Nat} {o o' : Obj} (hb : h b = none) (hr : r b = none) : (h.add ((Heap.one b o).add r)).set b o' = h.add ((Heap.one b o').add r) := by
  funext x
  by_cases hx : x = b
  · subst hx; simp [Heap.set, Heap.add, Heap.one, hb, hr]
  · simp [Heap.set, Heap.add, Heap.one, hx]

theorem Heap.le.refl (h : Heap) : h.le h := fun _ _ hb => hb
theorem Heap.le.trans (h1 : a.le b) (h2 : b.le c) : a.le c := fun x o hb => h2 x o (h1 x o hb)
theorem le_add (d : Dj h r) : h.le (h.add r) := fun x o hb => by
  rcases d x with h1 | h1
  · rw [h1] at hb; simp at hb
  · simp [Heap.add, h1, hb]
theorem le_add' (d : Dj h r) : r.le (h.add r) := add_comm (a := h) ▸ le_add d.symm
theorem le_add_r (hl : h.le h') (d : Dj h' r) : (h.add r).le (h'.add r) := fun x o hb => by
  cases hx : h x with
  | some o' =>
    rcases d x with h1 | h1
    · rw [hl x _ hx] at h1; simp at h1
    · simp [Heap.add, hx, h1] at hb; subst hb; simp [Heap.add, hl x _ hx, h1]
  | none =>
    simp [Heap.add, hx] at hb
    rcases d x with h1 | h1
    · simp [Heap.add, h1, hb]
    · rw [h1] at hb; simp at hb
theorem le_drop (d0 : Dj h r) (d : Dj r c) : (h.add c).le ((h.add r).add c) := by
  intro x o hb
  simp only [Heap.add] at hb ⊢
  rcases d x with h1 | h1
  · simpa [h1] using hb
  · rcases d0 x with h2 | h2
    · rw [h1, h2] at hb; simp at hb
    · simpa [h2] using hb
theorem add_swap (_ : Dj a b) : (h.add a).add b = (h.add b).add a := by rw [add_assoc, add_comm (a := a), add_assoc]
theorem Dj.le (d : Dj h r) (hl : h'.le h) : Dj h' r := fun x => by
  rcases d x with h1 | h1
  · cases hx : h' x with
    | none => exact .inl rfl
    | some o => rw [hl x o hx] at h1; simp at h1
  · exact .inr h1
theorem Dj.le' (d : Dj h r) (hl : r'.le r) : Dj h r' := (d.symm.le hl).symm

theorem hcell_le {i off : Nat} {v : Value} (hl : h.le h') (hc : hcell h i off = some v) : hcell h' i off = some v := by
  unfold hcell at hc ⊢
  split at hc
  · rename_i c el fr hb
    rw [hl _ _ hb]
    exact hc
  · simp at hc
theorem hcells_le {i : Nat} : ∀ {n off : Nat} {l : List Value} (_ : h.le h') (_ : hcells h i off n = some l), hcells h' i off n = some l
  | 0, _, _, _, hc => hc
  | n + 1, off, l, hl, hc => by
    simp only [hcells] at hc ⊢
    split at hc
    · rename_i v r hv hr
      rw [hcell_le hl hv, hcells_le hl hr]
      exact hc
    · simp at hc
theorem hload_le {p : Option Value} {sz : Option Nat} {v : Value} (hl : h.le h') (hc : hload h p sz = some v) : hload h' p sz = some v := by
  unfold hload at hc ⊢
  split at hc
  · split at hc
    · exact hcell_le hl hc
    · simp only [Option.map_eq_some_iff] at hc ⊢
      obtain ⟨l, h1, h2⟩ := hc
      exact ⟨l, hcells_le hl h1, h2⟩
  · simp at hc
theorem hcells_mk {i : Nat} {c : Array Value} {el : TypeId} {fr : Nat × Nat} (hb : h i = some (.cells c el fr)) : ∀ {n off : Nat}, off + n ≤ c.size → hcells h i off n = some ((c.toList.drop off).take n)
  | 0, _, _ => by simp [hcells]
  | n + 1, off, ho => by
    simp only [hcells]
    rw [hcells_mk hb (n := n) (off := off + 1) (by omega)]
    have h1 : hcell h i off = some c[off] := by simp [hcell, hb]
    rw [h1]
    simp only [Option.some.injEq]
    rw [List.drop_eq_getElem_cons (by simp; omega : off < c.toList.length)]
    simp
end

/-- PLAIN DATA: how a piece of it is laid out in cells. 'rep': what it reaches is only read. 'own': the part of the heap holds just what it reaches -/
class Ty (α : Type) where
  agg : Bool
  sz : Nat
  rep : Heap → List Value → α → Prop
  own : Heap → List Value → α → Prop
  one : agg = false → sz = 1
  len : ∀ {h cs x}, rep h cs x → cs.length = sz
  cell : ∀ {h cs x}, rep h cs x → ∀ v ∈ cs, v.oneCell' = true
  mono : ∀ {h h' cs x}, Heap.le h h' → rep h cs x → rep h' cs x
  own_rep : ∀ {r cs x}, own r cs x → rep r cs x

/-- the value of some cells -/
def valC (agg : Bool) (cs : List Value) : Value := if agg then .agg cs.toArray else cs.headD undef
def Rep {α : Type} [Ty α] (h : Heap) (v : Value) (x : α) : Prop := ∃ cs, v = valC (Ty.agg α) cs ∧ Ty.rep h cs x
def Own {α : Type} [Ty α] (r : Heap) (v : Value) (x : α) : Prop := ∃ cs, v = valC (Ty.agg α) cs ∧ Ty.own r cs x
def szo (α : Type) [Ty α] : Option Nat := if Ty.agg α then some (Ty.sz α) else none

section
variable {α : Type} [Ty α] {h h' r : Heap} {v : Value} {x : α}
theorem Rep.le (hr : Rep h v x) (hl : h.le h') : Rep h' v x := by
  obtain ⟨cs, h1, h2⟩ := hr
  exact ⟨cs, h1, Ty.mono hl h2⟩
theorem Own.rep (ho : Own r v x) : Rep r v x := by
  obtain ⟨cs, h1, h2⟩ := ho
  exact ⟨cs, h1, Ty.own_rep h2⟩
theorem Own.rep' (ho : Own r v x) (d : Dj h r) : Rep (h.add r) v x := ho.rep.le (le_add' d)
theorem Rep.add (hr : Rep h v x) (d : Dj h r) : Rep (h.add r) v x := hr.le (le_add d)
theorem valC_cells {cs : List Value} (h1 : Ty.agg α = false → cs.length = 1) (h2 : ∀ v ∈ cs, v.oneCell' = true) : (valC (Ty.agg α) cs).cells.toList = cs := by
  unfold valC
  cases ha : Ty.agg α with
  | true => rfl
  | false =>
    have := h1 ha
    match cs, this with
    | [u], _ =>
      have h3 := h2 u (by simp)
      cases u <;> first | rfl | simp [Value.oneCell'] at h3
theorem rep_cells {cs : List Value} (hr : Ty.rep h cs x) : (valC (Ty.agg α) cs).cells.toList = cs :=
  valC_cells (fun ha => by rw [Ty.len hr, Ty.one ha]) (Ty.cell hr)
end

/-- owned elements, one behind the other -/
def ownL {α : Type} [Ty α] : List α → List Value → Heap → Prop
  | [], _, r => r = Heap.nil
  | x :: l, cs, r => ∃ r1 r2, r = r1.add r2 ∧ Dj r1 r2 ∧ Ty.own r1 (cs.take (Ty.sz α)) x ∧ ownL l (cs.drop (Ty.sz α)) r2

def okP (p : Option Addr) : Prop := p = none ∨ ∃ b off, p = some ⟨b, off, none⟩

section
variable {α : Type} [Ty α]
/-- elements that are only read -/
def repL (h : Heap) (p : Option Addr) (l : List α) : Prop := ∀ i (hi : i < l.length), ∃ b off vs, p = some ⟨b, off, none⟩ ∧ hcells h b (off + i * Ty.sz α) (Ty.sz α) = some vs ∧ Ty.rep h vs l[i]

theorem repL_le {h h' : Heap} {p : Option Addr} {l : List α} (hl : h.le h') (hr : repL h p l) : repL h' p l := fun i hi => by
  obtain ⟨b, off, vs, h1, h2, h3⟩ := hr i hi
  exact ⟨b, off, vs, h1, hcells_le hl h2, Ty.mono hl h3⟩

theorem ownL_at : ∀ {l : List α} {cs : List Value} {r : Heap}, ownL l cs r → ∀ i (hi : i < l.length), ∃ r1 r2, r = r1.add r2 ∧ Dj r1 r2 ∧ Ty.own r1 ((cs.drop (i * Ty.sz α)).take (Ty.sz α)) l[i] ∧
    ∀ r1' c' y, Dj r1' r2 → Ty.own r1' c' y → ownL (l.set i y) (setC cs (i * Ty.sz α) c') (r1'.add r2)
  | [], _, _, _, i, hi => by simp at hi
  | x :: l, cs, r, ho, 0, _ => by
    obtain ⟨r1, r2, h1, h2, h3, h4⟩ := ho
    refine ⟨r1, r2, h1, h2, by simpa using h3, ?_⟩
    intro r1' c' y d o'
    have hlen := Ty.len (Ty.own_rep o')
    refine ⟨r1', r2, rfl, d, ?_, ?_⟩
    · simpa [setC, List.take_append, hlen] using o'
    · simpa [setC, List.drop_append, hlen] using h4
  | x :: l, cs, r, ho, i + 1, hi => by
    obtain ⟨r1, r2, h1, h2, h3, h4⟩ := ho
    obtain ⟨s1, s2, g1, g2, g3, g4⟩ := ownL_at h4 i (by simpa using hi)
    subst h1; subst g1
    obtain ⟨d1, d2⟩ := Dj_add.1 h2
    refine ⟨s1, r1.add s2, ?_, ?_, ?_, ?_⟩
    · rw [← add_assoc, d1.comm, add_assoc]
    · exact Dj_add.2 ⟨d1.symm, g2⟩
    · simpa [List.drop_drop, Nat.add_mul, Nat.add_comm] using g3
    · intro r1' c' y d o'
      obtain ⟨e1, e2⟩ := Dj_add.1 d
      have hlen := Ty.len (Ty.own_rep h3)
      have hlen' := Ty.len (Ty.own_rep o')
      have hcs : Ty.sz α ≤ cs.length := by
        have := hlen
        simp at this
        omega
      have ha : (i + 1) * Ty.sz α = Ty.sz α + i * Ty.sz α := by rw [Nat.add_mul]; omega
      refine ⟨r1, r1'.add s2, ?_, Dj_add.2 ⟨e1.symm, d2⟩, ?_, ?_⟩
      · rw [← add_assoc, e1.comm, add_assoc]
      · have : (setC cs ((i + 1) * Ty.sz α) c').take (Ty.sz α) = cs.take (Ty.sz α) := by
          rw [setC, ha, List.append_assoc, List.take_append_of_le_length (by simp; omega), List.take_take]
          congr 1; omega
        rw [this]; exact h3
      · have : (setC cs ((i + 1) * Ty.sz α) c').drop (Ty.sz α) = setC (cs.drop (Ty.sz α)) (i * Ty.sz α) c' := by
          unfold setC
          rw [ha, List.append_assoc, List.drop_append_of_le_length (by simp; omega), List.drop_take, List.append_assoc, List.drop_drop]
          congr 2
          · omega
          · congr 1; omega
        rw [this]
        exact g4 r1' c' y e2 o'

theorem ownL_sub {l : List α} {cs : List Value} {r : Heap} (ho : ownL l cs r) (i : Nat) (hi : i < l.length) : Ty.rep r ((cs.drop (i * Ty.sz α)).take (Ty.sz α)) l[i] := by
  obtain ⟨r1, r2, h1, h2, h3, _⟩ := ownL_at ho i hi
  subst h1
  exact Ty.mono (le_add h2) (Ty.own_rep h3)

theorem ownL_len : ∀ {l : List α} {cs : List Value} {r : Heap}, ownL l cs r → l.length * Ty.sz α ≤ cs.length
  | [], _, _, _ => by simp
  | x :: l, cs, r, ho => by
    obtain ⟨r1, r2, h1, h2, h3, h4⟩ := ho
    have := ownL_len h4
    have hlen := Ty.len (Ty.own_rep h3)
    simp at this hlen ⊢
    rw [Nat.add_mul]
    omega

theorem ownL_congr : ∀ {l : List α} {cs cs' : List Value} {r : Heap}, ownL l cs r → cs.take (l.length * Ty.sz α) = cs'.take (l.length * Ty.sz α) → ownL l cs' r
  | [], _, _, _, ho, _ => ho
  | x :: l, cs, cs', r, ho, he => by
    obtain ⟨r1, r2, h1, h2, h3, h4⟩ := ho
    have ha : (x :: l).length * Ty.sz α = Ty.sz α + l.length * Ty.sz α := by simp [Nat.add_mul]; omega
    rw [ha] at he
    refine ⟨r1, r2, h1, h2, ?_, ?_⟩
    · have := congrArg (List.take (Ty.sz α)) he
      rw [List.take_take, List.take_take, Nat.min_eq_left (by omega)] at this
      rw [← this]; exact h3
    · refine ownL_congr h4 ?_
      have := congrArg (List.drop (Ty.sz α)) he
      rw [List.drop_take, List.drop_take] at this
      simpa using this

theorem ownL_append : ∀ {l l2 : List α} {cs cs2 : List Value} {r r2 : Heap}, ownL l cs r → cs.length = l.length * Ty.sz α → ownL l2 cs2 r2 → Dj r r2 → ownL (l ++ l2) (cs ++ cs2) (r.add r2)
  | [], l2, cs, cs2, r, r2, ho, hc, h2, _ => by
    have : cs = [] := by simpa using hc
    subst this
    have hr : r = Heap.nil := ho
    subst hr
    simpa using h2
  | x :: l, l2, cs, cs2, r, r2, ho, hc, h2, d => by
    obtain ⟨s1, s2, e1, e2, e3, e4⟩ := ho
    subst e1
    obtain ⟨d1, d2⟩ := add_Dj.1 d
    have hlen := Ty.len (Ty.own_rep e3)
    have ha : cs.length = Ty.sz α + l.length * Ty.sz α := by rw [hc]; simp [Nat.add_mul]; omega
    refine ⟨s1, s2.add r2, by rw [add_assoc], Dj_add.2 ⟨e2, d1⟩, ?_, ?_⟩
    · rw [List.take_append_of_le_length (by omega)]; exact e3
    · rw [List.drop_append_of_le_length (by omega)]
      exact ownL_append e4 (by simp; omega) h2 d2

theorem ownL_split : ∀ {l l2 : List α} {cs : List Value} {r : Heap}, ownL (l ++ l2) cs r → ∃ r1 r2, r = r1.add r2 ∧ Dj r1 r2 ∧ ownL l cs r1 ∧ ownL l2 (cs.drop (l.length * Ty.sz α)) r2
  | [], l2, cs, r, ho => ⟨Heap.nil, r, by simp, by simp, rfl, by simpa using ho⟩
  | x :: l, l2, cs, r, ho => by
    obtain ⟨s1, s2, e1, e2, e3, e4⟩ := ho
    obtain ⟨t1, t2, f1, f2, f3, f4⟩ := ownL_split e4
    subst e1; subst f1
    obtain ⟨d1, d2⟩ := Dj_add.1 e2
    refine ⟨s1.add t1, t2, by rw [add_assoc], add_Dj.2 ⟨d2, f2⟩, ⟨s1, t1, rfl, d1, e3, f3⟩, ?_⟩
    rw [List.drop_drop] at f4
    have ha : (x :: l).length * Ty.sz α = Ty.sz α + l.length * Ty.sz α := by simp [Nat.add_mul]; omega
    rw [ha]; exact f4

theorem ownL_reps {z : List Value} {y : α} (hz : Ty.own Heap.nil z y) : ∀ n, ownL (List.replicate n y) (reps n z) Heap.nil
  | 0 => rfl
  | n + 1 => by
    have hlen := Ty.len (Ty.own_rep hz)
    refine ⟨Heap.nil, Heap.nil, by simp, by simp, ?_, ?_⟩
    · simpa [reps, List.replicate_succ, List.take_append, hlen] using hz
    · simpa [reps, List.replicate_succ, List.drop_append, hlen] using ownL_reps hz n
end

section
variable {α : Type} [Ty α]

def repS (h : Heap) (cs : List Value) (l : List α) : Prop := ∃ p cap, cs = [.slice p l.length cap] ∧ (l.length ≤ cap ∧ l.length < 4611686018427387904) ∧ True ∧ repL h p l
def ownS (r : Heap) (cs : List Value) (l : List α) : Prop :=
  (∃ p, cs = [.slice p 0 0] ∧ l = [] ∧ r = Heap.nil ∧ okP p) ∨
  ∃ (b off cap : Nat) (cells : List Value) (el : TypeId) (r' : Heap), cs = [.slice (some ⟨b, off, none⟩) l.length cap] ∧ (l.length ≤ cap ∧ l.length < 4611686018427387904) ∧ off + cap * Ty.sz α ≤ cells.length ∧
    r = (Heap.one b (.cells cells.toArray el (0, 0))).add r' ∧ r' b = none ∧ ownL l (cells.drop off) r'

theorem ownS_rep {r : Heap} {cs : List Value} {l : List α} (ho : ownS r cs l) : repS r cs l := by
  rcases ho with ⟨p, h1, h2, h3, h4⟩ | ⟨b, off, cap, cells, el, r', h1, h2, h3, h4, h5, h6⟩
  · subst h2
    exact ⟨p, 0, h1, by simp, trivial, fun i hi => by simp at hi⟩
  · refine ⟨_, cap, h1, h2, trivial, ?_⟩
    intro i hi
    subst h4
    have hb : ((Heap.one b (.cells cells.toArray el (0, 0))).add r') b = some (.cells cells.toArray el (0, 0)) := by simp [Heap.add, Heap.one, h5]
    have hsz : i * Ty.sz α + Ty.sz α ≤ cap * Ty.sz α := by
      rw [← Nat.succ_mul]
      exact Nat.mul_le_mul_right _ (by have := h2.1; omega)
    refine ⟨b, off, _, rfl, hcells_mk hb (by simp; omega), ?_⟩
    have := ownL_sub h6 i hi
    rw [List.drop_drop] at this
    exact Ty.mono (le_add' (one_Dj.2 h5)) this

instance instTyList : Ty (List α) where
  agg := false
  sz := 1
  rep := repS
  own := ownS
  one := fun _ => rfl
  len := by rintro h cs x ⟨p, cap, rfl, _⟩; rfl
  cell := by rintro h cs x ⟨p, cap, rfl, _⟩ v hv; simp at hv; subst hv; rfl
  mono := by
    rintro h h' cs x hl ⟨p, cap, h1, h2, h3, h4⟩
    exact ⟨p, cap, h1, h2, h3, repL_le hl h4⟩
  own_rep := ownS_rep
end

instance instTyInt : Ty Int where
  agg := false
  sz := 1
  rep := fun _ cs n => cs = [.int .i64 n] ∧ -9223372036854775808 ≤ n ∧ n < 9223372036854775808
  own := fun r cs n => r = Heap.nil ∧ cs = [.int .i64 n] ∧ -9223372036854775808 ≤ n ∧ n < 9223372036854775808
  one := fun _ => rfl
  len := by rintro h cs x ⟨rfl, _⟩; rfl
  cell := by rintro h cs x ⟨rfl, _⟩ v hv; simp at hv; subst hv; rfl
  mono := fun _ hr => hr
  own_rep := fun ho => ho.2

instance instTyBool : Ty Bool where
  agg := false
  sz := 1
  rep := fun _ cs n => cs = [.bool n]
  own := fun r cs n => r = Heap.nil ∧ cs = [.bool n]
  one := fun _ => rfl
  len := by rintro h cs x rfl; rfl
  cell := by rintro h cs x rfl v hv; simp at hv; subst hv; rfl
  mono := fun _ hr => hr
  own_rep := fun ho => ho.2

instance instTyStr : Ty ByteArray where
  agg := false
  sz := 1
  rep := fun _ cs n => cs = [.string n]
  own := fun r cs n => r = Heap.nil ∧ cs = [.string n]
  one := fun _ => rfl
  len := by rintro h cs x rfl; rfl
  cell := by rintro h cs x rfl v hv; simp at hv; subst hv; rfl
  mono := fun _ hr => hr
  own_rep := fun ho => ho.2

/-- words of 64 bits -/
instance instTyU64 : Ty (BitVec 64) where
  agg := false
  sz := 1
  rep := fun _ cs n => cs = [.int .u64 n.toNat]
  own := fun r cs n => r = Heap.nil ∧ cs = [.int .u64 n.toNat]
  one := fun _ => rfl
  len := by rintro h cs x rfl; rfl
  cell := by rintro h cs x rfl v hv; simp at hv; subst hv; rfl
  mono := fun _ hr => hr
  own_rep := fun ho => ho.2

instance instTyProd {α β : Type} [Ty α] [Ty β] : Ty (α × β) where
  agg := true
  sz := Ty.sz α + Ty.sz β
  rep := fun h cs x => ∃ c1 c2, cs = c1 ++ c2 ∧ Ty.rep h c1 x.1 ∧ Ty.rep h c2 x.2
  own := fun r cs x => ∃ c1 c2 r1 r2, cs = c1 ++ c2 ∧ r = r1.add r2 ∧ Dj r1 r2 ∧ Ty.own r1 c1 x.1 ∧ Ty.own r2 c2 x.2
  one := fun h => by simp at h
  len := by rintro h cs x ⟨c1, c2, rfl, h1, h2⟩; simp [Ty.len h1, Ty.len h2]
  cell := by
    rintro h cs x ⟨c1, c2, rfl, h1, h2⟩ v hv
    rcases List.mem_append.1 hv with h3 | h3
    · exact Ty.cell h1 v h3
    · exact Ty.cell h2 v h3
  mono := by rintro h h' cs x hl ⟨c1, c2, h0, h1, h2⟩; exact ⟨c1, c2, h0, Ty.mono hl h1, Ty.mono hl h2⟩
  own_rep := by
    rintro r cs x ⟨c1, c2, r1, r2, h0, rfl, d, h1, h2⟩
    exact ⟨c1, c2, h0, Ty.mono (le_add d) (Ty.own_rep h1), Ty.mono (le_add' d) (Ty.own_rep h2)⟩

/-- a structure, by the tuple of its fields -/
@[reducible] def Ty.via {α β : Type} [Ty β] (f : α → β) : Ty α where
  agg := true
  sz := Ty.sz β
  rep := fun h cs x => Ty.rep h cs (f x)
  own := fun r cs x => Ty.own r cs (f x)
  one := fun h => by simp at h
  len := fun h => Ty.len h
  cell := fun h => Ty.cell h
  mono := fun hl h => Ty.mono hl h
  own_rep := fun h => Ty.own_rep h

/-- DATA WITHOUT MEMORY OF ITS OWN -/
class Flat (α : Type) [Ty α] where
  enc : α → List Value
  ok : α → Prop
  rep_iff : ∀ {h cs} {x : α}, Ty.rep h cs x ↔ cs = enc x ∧ ok x
  own_iff : ∀ {r cs} {x : α}, Ty.own r cs x ↔ r = Heap.nil ∧ cs = enc x ∧ ok x

instance : Flat Int := ⟨fun n => [.int .i64 n], fun n => -9223372036854775808 ≤ n ∧ n < 9223372036854775808, Iff.rfl, Iff.rfl⟩
instance : Flat Bool := ⟨fun n => [.bool n], fun _ => True, by simp [Ty.rep], by simp [Ty.own]⟩
instance : Flat ByteArray := ⟨fun n => [.string n], fun _ => True, by simp [Ty.rep], by simp [Ty.own]⟩
instance : Flat (BitVec 64) := ⟨fun n => [.int .u64 n.toNat], fun _ => True, by simp [Ty.rep], by simp [Ty.own]⟩
instance {α β : Type} [Ty α] [Ty β] [Flat α] [Flat β] : Flat (α × β) := ⟨fun x => Flat.enc x.1 ++ Flat.enc x.2, fun x => Flat.ok x.1 ∧ Flat.ok x.2, by
    intro h cs x
    simp only [Ty.rep, Flat.rep_iff]
    constructor
    · rintro ⟨c1, c2, rfl, ⟨rfl, h1⟩, rfl, h2⟩; exact ⟨rfl, h1, h2⟩
    · rintro ⟨rfl, h1, h2⟩; exact ⟨_, _, rfl, ⟨rfl, h1⟩, rfl, h2⟩, by
    intro h cs x
    simp only [Ty.own, Flat.own_iff]
    constructor
    · rintro ⟨c1, c2, r1, r2, rfl, rfl, _, ⟨rfl, rfl, h1⟩, rfl, rfl, h2⟩; exact ⟨by simp, rfl, h1, h2⟩
    · rintro ⟨rfl, rfl, h1, h2⟩; exact ⟨_, _, Heap.nil, Heap.nil, rfl, by simp, by simp, ⟨rfl, rfl, h1⟩, rfl, rfl, h2⟩⟩
@[reducible] def Flat.via {α β : Type} [Ty β] [Flat β] (f : α → β) : @Flat α (Ty.via f) :=
  let _ := Ty.via f
  ⟨fun x => Flat.enc (f x), fun x => Flat.ok (f x), fun {_ _ x} => Flat.rep_iff (x := f x), fun {_ _ x} => Flat.own_iff (x := f x)⟩

end Go.Proofs.Ytfhjclhchbagnaa
