/-
  Words of 64 bits as sets; rows of eight words; function values; fields of elements that are read.
-/
import Derived.Test.YtfhjclhchbagnaaG22
namespace Go.Proofs.Ytfhjclhchbagnaa
open Go
set_option linter.all false
set_option linter.unusedVariables false
set_option linter.unusedSimpArgs false
set_option linter.defProp false

/-- an amount to shift by is not negative -/
@[simp] theorem ite_lt_zero {α : Type} {b : Int} {x y : α} (h : 0 ≤ b) : (if b < 0 then x else y) = y := if_neg (by omega)

/- bits -/
def setB (a : BitVec 64) (j : Nat) : BitVec 64 := a ||| (1#64 <<< j)
def clrB (a : BitVec 64) (j : Nat) : BitVec 64 := a &&& ~~~(1#64 <<< j)
theorem one_bit {j i : Nat} (hj : j < 64) : (1#64 <<< j).getLsbD i = decide (i = j) := by
  rw [BitVec.getLsbD_shiftLeft, BitVec.getLsbD_one]
  by_cases h1 : i = j
  · subst h1; simp [hj]
  · by_cases h2 : i < j
    · simp [h1, h2]
    · have h3 : ¬ (i - j = 0) := by omega
      simp [h1, h3]
theorem setB_get {a : BitVec 64} {j i : Nat} (hj : j < 64) : (setB a j).getLsbD i = (a.getLsbD i || decide (i = j)) := by
  rw [setB, BitVec.getLsbD_or, one_bit hj]
theorem clrB_get {a : BitVec 64} {j i : Nat} (hj : j < 64) : (clrB a j).getLsbD i = (a.getLsbD i && !decide (i = j)) := by
  rw [clrB, BitVec.getLsbD_and, BitVec.getLsbD_not, one_bit hj]
  by_cases h1 : i < 64
  · simp [h1]
  · have h2 : a.getLsbD i = false := BitVec.getLsbD_of_ge a i (by omega)
    simp [h2]
theorem u64_wrap {n : Nat} (h : n < 2 ^ 64) : IntKind.u64.wrap (n : Int) = n := by
  have : IntKind.u64.wrap (n : Int) = (n : Int) % 18446744073709551616 := by simp [IntKind.wrap, IntKind.signed, IntKind.bits]
  rw [this]; omega
theorem u64_and {a b : BitVec 64} : andI .u64 (a.toNat : Int) (b.toNat : Int) = ((a &&& b).toNat : Int) := by
  simp only [andI, IntKind.bits]
  rw [BitVec.ofInt_natCast, BitVec.ofInt_natCast, BitVec.ofNat_toNat, BitVec.ofNat_toNat]
  simp only [BitVec.setWidth_eq]
  exact u64_wrap (BitVec.isLt _)
theorem u64_or {a b : BitVec 64} : orI .u64 (a.toNat : Int) (b.toNat : Int) = ((a ||| b).toNat : Int) := by
  simp only [orI, IntKind.bits]
  rw [BitVec.ofInt_natCast, BitVec.ofInt_natCast, BitVec.ofNat_toNat, BitVec.ofNat_toNat]
  simp only [BitVec.setWidth_eq]
  exact u64_wrap (BitVec.isLt _)
theorem u64_andNot {a b : BitVec 64} : andNotI .u64 (a.toNat : Int) (b.toNat : Int) = ((a &&& ~~~ b).toNat : Int) := by
  simp only [andNotI, IntKind.bits]
  rw [BitVec.ofInt_natCast, BitVec.ofInt_natCast, BitVec.ofNat_toNat, BitVec.ofNat_toNat]
  simp only [BitVec.setWidth_eq]
  exact u64_wrap (BitVec.isLt _)
theorem u64_shl {j : Nat} (hj : j < 64) : shlI .u64 1 (j : Int) = ((1#64 <<< j).toNat : Int) := by
  simp only [shlI, IntKind.bits, Int.toNat_natCast]
  rw [Nat.min_eq_left (by omega), BitVec.toNat_shiftLeft, Nat.shiftLeft_eq]
  have h1 : (2 : Nat) ^ j < 2 ^ 64 := Nat.pow_lt_pow_right (by omega) hj
  have h2 : (1#64).toNat * 2 ^ j % 2 ^ 64 = 2 ^ j := by
    rw [show (1#64).toNat = 1 from rfl, Nat.one_mul, Nat.mod_eq_of_lt h1]
  rw [h2, ← u64_wrap h1]
  push_cast
  simp
theorem u64_shr {a : BitVec 64} {j : Nat} (hj : j < 64) : shrI .u64 (a.toNat : Int) (j : Int) = ((a >>> j).toNat : Int) := by
  simp only [shrI, IntKind.bits, Int.toNat_natCast]
  rw [Nat.min_eq_left (by omega), BitVec.toNat_ushiftRight, Nat.shiftRight_eq_div_pow]
  push_cast
  rw [Int.fdiv_eq_ediv_of_nonneg _ (by exact Int.le_of_lt (Int.pow_pos (by omega)))]
theorem and_one {a : BitVec 64} : a &&& 1#64 = if a.getLsbD 0 then 1#64 else 0#64 := by
  apply BitVec.eq_of_getLsbD_eq
  intro i hi
  rw [BitVec.getLsbD_and, BitVec.getLsbD_one]
  by_cases h0 : i = 0
  · subst h0; cases h : a.getLsbD 0 <;> simp
  · cases h : a.getLsbD 0 <;> simp [h0, BitVec.getLsbD_one]
/-- whether a bit stands, as Go asks -/
theorem u64_bit {a : BitVec 64} {j : Nat} (hj : j < 64) : andI .u64 (shrI .u64 (a.toNat : Int) (j : Int)) 1 = if a.getLsbD j then 1 else 0 := by
  rw [u64_shr hj, show (1 : Int) = ((1#64).toNat : Int) from rfl, u64_and, and_one, BitVec.getLsbD_ushiftRight]
  simp only [Nat.add_zero]
  split <;> rfl
theorem u64_setB {a : BitVec 64} {j : Nat} (hj : j < 64) : orI .u64 (a.toNat : Int) (shlI .u64 1 (j : Int)) = ((setB a j).toNat : Int) := by rw [u64_shl hj, u64_or]; rfl
theorem u64_clrB {a : BitVec 64} {j : Nat} (hj : j < 64) : andNotI .u64 (a.toNat : Int) (shlI .u64 1 (j : Int)) = ((clrB a j).toNat : Int) := by rw [u64_shl hj, u64_andNot]; rfl
/-- two sets that meet nowhere -/
theorem u64_meet {a b : BitVec 64} : (andI .u64 (a.toNat : Int) (b.toNat : Int) = 0) ↔ ∀ i < 64, ¬ (a.getLsbD i = true ∧ b.getLsbD i = true) := by
  rw [u64_and]
  constructor
  · intro h i _ ⟨h1, h2⟩
    have h3 : a &&& b = 0#64 := by
      apply BitVec.eq_of_toNat_eq
      simpa using h
    have h4 := congrArg (fun x => x.getLsbD i) h3
    simp [BitVec.getLsbD_and, h1, h2] at h4
  · intro h
    have h3 : a &&& b = 0#64 := by
      apply BitVec.eq_of_getLsbD_eq
      intro i hi
      rw [BitVec.getLsbD_and, BitVec.getLsbD_zero]
      cases h1 : a.getLsbD i <;> cases h2 : b.getLsbD i <;> simp_all
    rw [h3]; rfl

/-- eight words -/
structure W8 where
  l : List (BitVec 64)
  len : l.length = 8
def W8.zero : W8 := ⟨List.replicate 8 0, rfl⟩
def W8.put (w : W8) (j : Nat) (x : BitVec 64) : W8 := ⟨w.l.set j x, by simp [w.len]⟩
def W8.at (w : W8) (j : Nat) : BitVec 64 := w.l.getD j 0
def W8.enc (w : W8) : List Value := w.l.map fun b => .int .u64 b.toNat
instance instTyW8 : Ty W8 where
  agg := true
  sz := 8
  rep := fun _ cs x => cs = x.enc
  own := fun r cs x => r = Heap.nil ∧ cs = x.enc
  one := fun h => by simp at h
  len := by rintro h cs x rfl; simp [W8.enc, x.len]
  cell := by
    rintro h cs x rfl v hv
    simp only [W8.enc, List.mem_map] at hv
    obtain ⟨b, _, rfl⟩ := hv
    rfl
  mono := fun _ hr => hr
  own_rep := fun ho => ho.2
instance instFlatW8 : Flat W8 := ⟨W8.enc, fun _ => True, by simp [Ty.rep], by simp [Ty.own]⟩
theorem W8.enc_at (w : W8) {j : Nat} (hj : j < 8) : w.enc[j]? = some (.int .u64 (w.at j).toNat) := by
  have : j < w.l.length := by rw [w.len]; exact hj
  simp [W8.enc, W8.at, this]
theorem W8.enc_put (w : W8) {j : Nat} {x : BitVec 64} : (w.put j x).enc = w.enc.set j (.int .u64 x.toNat) := by
  simp [W8.enc, W8.put, List.map_set]
theorem W8.put_at (w : W8) {j i : Nat} {x : BitVec 64} (hj : j < 8) : (w.put j x).at i = if i = j then x else w.at i := by
  have : j < w.l.length := by rw [w.len]; exact hj
  simp only [W8.at, W8.put, List.getD_eq_getElem?_getD, List.getElem?_set]
  split
  · rename_i h; subst h; simp [this]
  · rename_i h; rw [if_neg (fun h2 => h h2.symm)]

section
variable {α : Type} [Ty α] {h : Heap} {v : Value} {l : List α} {i : Nat}
theorem Rep.iaA (hr : Rep h v l) (hi : i < l.length) {n m : Nat} {kd : IntKind} {j : Nat} (hj : j < m) : iaAV m 1 (elp n v i) (.int kd j) = some (elpo n v i j) := by
  obtain ⟨p, cap, rfl, hc, hp, hl⟩ := Rep_list.1 hr
  obtain ⟨b, off, vs, rfl, _⟩ := hl i hi
  have : (j : Int) < m := by omega
  simp [iaAV, elp, elpo, this]
/-- rows of words -/
theorem Rep.W {l : List W8} (hr : Rep h v l) : ((∀ (kd : IntKind) (i : Nat), i < l.length → iaV 8 v (.int kd i) = some (elp 8 v i)) ∧ (∀ (kd : IntKind) (i : Int), 0 ≤ i → i < l.length → iaV 8 v (.int kd i) = some (elp 8 v i.toNat)) ∧ lenVV v = some (.int .i64 l.length)) ∧
    (∀ (kd : IntKind) (i j : Nat), i < l.length → j < 8 → iaAV 8 1 (elp 8 v i) (.int kd j) = some (elpo 8 v i j)) ∧
    ∀ (i j : Nat) (hi : i < l.length), j < 8 → hload h (some (elpo 8 v i j)) none = some (.int .u64 (l[i].at j).toNat) :=
  ⟨hr.X rfl, fun _ _ _ hi hj => hr.iaA hi hj, fun _ _ hi hj => hr.fld hi rfl (W8.enc_at _ hj)⟩
end

theorem Rep.isNil {α : Type} [Ty α] {h : Heap} {v : Value} {l : List α} (hr : Rep h v l) : ∃ b, isNilV false v = some (.bool b) ∧ (b = true → l = []) := by
  obtain ⟨p, cap, rfl, h1, h2, h3⟩ := Rep_list.1 hr
  refine ⟨p.isNone, rfl, fun hp => ?_⟩
  cases l with
  | nil => rfl
  | cons x l => obtain ⟨b, off, vs, h4, _⟩ := h3 0 (by simp); subst h4; simp at hp

theorem Own.clip {α : Type} [Ty α] {r : Heap} {v : Value} {l : List α} (O : Own r v l) {esz : Nat} {k : IntKind} :
    ∃ v', sliceVV esz v none (some (some (.int k l.length))) (some (some (.int k l.length))) = some v' ∧ Own r v' l := by
  rcases Own_list.1 O with ⟨p, rfl, rfl, rfl, hp⟩ | ⟨b, off, cap, cells, el, r', rfl, ⟨h1, hM⟩, h2, rfl, h4, h5⟩
  · refine ⟨.slice p 0 0, ?_, Own_list.2 (.inl ⟨p, rfl, rfl, rfl, hp⟩)⟩
    simp [sliceVV, bndV]
  · refine ⟨.slice (some ⟨b, off, none⟩) l.length l.length, ?_, Own_list.2 (.inr ⟨b, off, l.length, cells, el, r', rfl, ⟨Nat.le_refl _, hM⟩, ?_, rfl, h4, h5⟩)⟩
    · simp [sliceVV, bndV, add_none, h1]
    · have : l.length * Ty.sz α ≤ cap * Ty.sz α := Nat.mul_le_mul_right _ h1
      omega
theorem HS.clip {α : Type} [Ty α] {g h : Heap} {Γ : List HP} {v : Value} {l : List α} (H : HS g (ow v l :: Γ) h) {esz : Nat} {k : IntKind} :
    ∃ v', sliceVV esz v none (some (some (.int k l.length))) (some (some (.int k l.length))) = some v' ∧ HS g (ow v' l :: Γ) h := by
  obtain ⟨g', r, rfl, d, O, H⟩ := H
  obtain ⟨v', h1, O'⟩ := O.clip (esz := esz) (k := k)
  exact ⟨v', h1, g', r, rfl, d, O', H⟩
/-- a slice that is written out, without elements -/
theorem HS.bls0 {P : Program} {k : Env → Heap → Prop} {e : Env} {g h : Heap} {Γ : List HP} (H : HS g Γ h) (α : Type) [Ty α] {esz : Nat} {zero : List Value} {dst : Nat}
    (K : ∀ v' h', HS g (ow v' ([] : List α) :: Γ) h' → k (eset e dst (some v')) h') : (A.ex (some dst) (.bls esz 0 zero [])).wp P k e h := by
  refine ⟨[], rfl, fun b el hb => Fgt.keep ?_⟩
  rw [set_new hb]
  exact K _ _ ⟨h, _, rfl, Dj_one.2 hb, Own_list.2 (.inr ⟨b, 0, 0, [], el, Heap.nil, rfl, ⟨Nat.le_refl _, by simp⟩, by simp, by simp, rfl, rfl⟩), H⟩
@[simp] theorem faV_ptr {b o off : Nat} : faV off (.pointer (some ⟨b, o, none⟩)) = some (.pointer (some ⟨b, o + off, none⟩)) := by simp [faV, add_none]
attribute [simp] Option.bind_some
end Go.Proofs.Ytfhjclhchbagnaa
