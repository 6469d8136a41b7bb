/-
  Texts of this proof, one behind the other.
-/
import Derived.WalkKit
import Derived.ProofKit
import Derived.OpenShut
import Derived.Carry
import Derived.Deep.Slices
import Derived.SizedLaws
import Derived.Test.YtglnelcmcimljaaYF3
/-
  Slices that are written out, with elements that are owned; a step in between.
-/
namespace Go.Proofs.Ytglnelcmcimljaa
open Go
set_option linter.all false
set_option linter.unusedVariables false
set_option linter.unusedSimpArgs false
set_option linter.defProp false
set_option maxRecDepth 1000000

/-- a slice that is written out, with one element that is owned -/
theorem HS.blsO1 {α : Type} [Ty α] {P : Program} {k : Env → Heap → Prop} {e : Env} {g h : Heap} {Γ : List HP} {u : Value} {y : α} (H : HS g (ow u y :: Γ) h) {esz : Nat} {zero : List Value} {parts : List (Nat × Nat × O)} {dst : Nat} (hf : fillP e (reps 1 zero) parts = some u.cells.toList)
    (K : ∀ v' h', HS g (ow v' [y] :: Γ) h' → k (eset e dst (some v')) h') : (A.ex (some dst) (.bls esz 1 zero parts)).wp P k e h := by
  obtain ⟨g1, ru, rfl, d2, ⟨cs, rfl, ho⟩, H⟩ := H
  have h1 := Ty.len (Ty.own_rep ho)
  rw [rep_cells (Ty.own_rep ho)] at hf
  refine ⟨_, hf, fun b el hb => Fgt.keep ?_⟩
  rw [set_new hb]
  have n1 : g1 b = none ∧ ru b = none := by simpa [Heap.add] using hb
  rw [add_assoc]
  refine K _ _ ⟨g1, _, rfl, Dj_add.2 ⟨d2, Dj_one.2 n1.1⟩, ?_, H⟩
  rw [(Dj_one.2 n1.2).comm]
  refine Own_list.2 (.inr ⟨b, 0, 1, cs, el, ru, rfl, ⟨Nat.le_refl _, by simp⟩, by simp [h1], rfl, n1.2, ?_⟩)
  exact ⟨ru, Heap.nil, by simp, by simp, by simpa [← h1] using ho, rfl⟩

theorem HS.blsO2 {α : Type} [Ty α] {P : Program} {k : Env → Heap → Prop} {e : Env} {g h : Heap} {Γ : List HP} {u u2 : Value} {y y2 : α} (H : HS g (ow u y :: ow u2 y2 :: Γ) h) {esz : Nat} {zero : List Value} {parts : List (Nat × Nat × O)} {dst : Nat} (hf : fillP e (reps 2 zero) parts = some (u.cells.toList ++ u2.cells.toList))
    (K : ∀ v' h', HS g (ow v' [y, y2] :: Γ) h' → k (eset e dst (some v')) h') : (A.ex (some dst) (.bls esz 2 zero parts)).wp P k e h := by
  obtain ⟨g0, ru, rfl, d2, ⟨cs, rfl, ho⟩, g1, ru2, rfl, d3, ⟨cs2, rfl, ho2⟩, H⟩ := H
  have h1 := Ty.len (Ty.own_rep ho)
  have h2 := Ty.len (Ty.own_rep ho2)
  rw [rep_cells (Ty.own_rep ho), rep_cells (Ty.own_rep ho2)] at hf
  obtain ⟨d4, d5⟩ := add_Dj.1 d2
  refine ⟨_, hf, fun b el hb => Fgt.keep ?_⟩
  rw [set_new hb]
  have n1 : (g1 b = none ∧ ru2 b = none) ∧ ru b = none := by simpa [Heap.add] using hb
  rw [add_assoc, add_assoc]
  refine K _ _ ⟨g1, _, rfl, Dj_add.2 ⟨d3, Dj_add.2 ⟨d4, Dj_one.2 n1.1.1⟩⟩, ?_, H⟩
  rw [← add_assoc, (Dj_one.2 (show (ru2.add ru) b = none by simp [Heap.add, n1])).comm]
  refine Own_list.2 (.inr ⟨b, 0, 2, cs ++ cs2, el, ru2.add ru, rfl, ⟨Nat.le_refl _, by simp⟩, by simp [h1, h2]; omega, rfl, by simp [Heap.add, n1], ?_⟩)
  rw [d5.comm]
  refine ⟨ru, ru2, rfl, d5.symm, by simpa [← h1] using ho, ru2, Heap.nil, by simp, by simp, ?_, rfl⟩
  have e1 : List.drop (Ty.sz α) (cs ++ cs2) = cs2 := by rw [← h1, List.drop_left]
  simp only [List.drop_zero]
  rw [e1, List.take_of_length_le (by omega)]
  exact ho2

end Go.Proofs.Ytglnelcmcimljaa

/-
  Expressions: trees of numbers; edges, processes, systems: how they lie in cells.
-/
namespace Go.Proofs.Ytglnelcmcimljaa
open Go
set_option linter.all false
set_option linter.unusedVariables false
set_option linter.unusedSimpArgs false
set_option linter.defProp false
set_option maxRecDepth 1000000

section
variable {α : Type}
theorem repL_map {t t' : Ty α} {h : Heap} {p : Option Addr} {l : List α} (hs : t.sz = t'.sz) (hr : ∀ cs x, x ∈ l → t.rep h cs x → t'.rep h cs x) (H : @repL α t h p l) : @repL α t' h p l := by
  intro i hi
  obtain ⟨b, off, vs, h1, h2, h3⟩ := H i hi
  refine ⟨b, off, vs, h1, ?_, hr _ _ (List.getElem_mem hi) h3⟩
  have h2 : hcells h b (off + i * t.sz) t.sz = some vs := h2
  show hcells h b (off + i * t'.sz) t'.sz = some vs
  rw [← hs]; exact h2
theorem repS_map {t t' : Ty α} {h : Heap} {cs : List Value} {l : List α} (hs : t.sz = t'.sz) (hr : ∀ cs x, x ∈ l → t.rep h cs x → t'.rep h cs x) (H : @repS α t h cs l) : @repS α t' h cs l := by
  obtain ⟨p, cap, h1, h2, h3, h4⟩ := H
  exact ⟨p, cap, h1, h2, h3, repL_map hs hr h4⟩
theorem ownL_map {t t' : Ty α} (hs : t.sz = t'.sz) : ∀ {l : List α} {cs : List Value} {r : Heap}, (∀ r cs x, x ∈ l → t.own r cs x → t'.own r cs x) → @ownL α t l cs r → @ownL α t' l cs r
  | [], _, _, _, H => H
  | x :: l, cs, r, ho, ⟨r1, r2, h1, h2, h3, h4⟩ => by
    refine ⟨r1, r2, h1, h2, ?_, ?_⟩
    · have := ho r1 _ x (by simp) h3
      show t'.own r1 (cs.take t'.sz) x
      rw [← hs]; exact this
    · have := ownL_map hs (fun r cs x hx => ho r cs x (by simp [hx])) h4
      show @ownL α t' l (cs.drop t'.sz) r2
      rw [← hs]; exact this
theorem ownS_map {t t' : Ty α} (hs : t.sz = t'.sz) {l : List α} {cs : List Value} {r : Heap} (ho : ∀ r cs x, x ∈ l → t.own r cs x → t'.own r cs x) (H : @ownS α t r cs l) : @ownS α t' r cs l := by
  rcases H with h1 | ⟨b, off, cap, cells, el, r', h1, h2, h3, h4, h5, h6⟩
  · exact .inl h1
  · refine .inr ⟨b, off, cap, cells, el, r', h1, h2, ?_, h4, h5, ownL_map hs ho h6⟩
    have h3 : off + cap * t.sz ≤ cells.length := h3
    show off + cap * t'.sz ≤ cells.length
    rw [← hs]; exact h3
end

theorem exists_max {P : Nat → Nat → Prop} (hu : ∀ i n, P i n → P i (n + 1)) : ∀ m, (∀ i, i < m → ∃ n, P i n) → ∃ N, ∀ i, i < m → P i N
  | 0, _ => ⟨0, fun i hi => absurd hi (Nat.not_lt_zero i)⟩
  | m + 1, h => by
    have up : ∀ i n k, P i n → P i (n + k) := by
      intro i n k hp
      induction k with
      | zero => exact hp
      | succ k ih => exact hu _ _ ih
    obtain ⟨N, hN⟩ := exists_max hu m fun i hi => h i (by omega)
    obtain ⟨M, hM⟩ := h m (by omega)
    refine ⟨N + M, fun i hi => ?_⟩
    by_cases e : i = m
    · subst e; rw [Nat.add_comm]; exact up _ _ _ hM
    · exact up _ _ _ (hN i (by omega))

/-- an expression -/
inductive Exq where
  | mk (kind val : Int) (kids : List Exq)
namespace Exq
def kind : Exq → Int | .mk k _ _ => k
def val : Exq → Int | .mk _ v _ => v
def kids : Exq → List Exq | .mk _ _ l => l
@[simp] theorem kind_mk {k v : Int} {l : List Exq} : (Exq.mk k v l).kind = k := rfl
@[simp] theorem val_mk {k v : Int} {l : List Exq} : (Exq.mk k v l).val = v := rfl
@[simp] theorem kids_mk {k v : Int} {l : List Exq} : (Exq.mk k v l).kids = l := rfl
theorem ext_iff' {a b : Exq} : a = b ↔ a.kind = b.kind ∧ a.val = b.val ∧ a.kids = b.kids := by
  cases a; cases b; simp
theorem ind {p : Exq → Prop} (h : ∀ x : Exq, (∀ y ∈ x.kids, p y) → p x) : ∀ x, p x
  | .mk k v l => h _ fun y hy => ind h y
termination_by x => SizeOf.sizeOf x
decreasing_by
  have h1 : y ∈ l := hy
  have := List.sizeOf_lt_of_mem h1
  simp only [Exq.mk.sizeOf_spec]
  omega
def tup (x : Exq) : Int × Int × List Exq := (x.kind, x.val, x.kids)

@[reducible] def T0 : Ty Exq where
  agg := true
  sz := 3
  rep := fun _ _ _ => False
  own := fun _ _ _ => False
  one := fun h => by simp at h
  len := fun h => h.elim
  cell := fun h => h.elim
  mono := fun _ h => h
  own_rep := fun h => h.elim
/-- the product of the fields, where the kids lie as t says -/
@[reducible] def tyTup (t : Ty Exq) : Ty (Int × Int × List Exq) := @instTyProd Int (Int × List Exq) instTyInt (@instTyProd Int (List Exq) instTyInt (@instTyList Exq t))
@[reducible] def T : Nat → Ty Exq
  | 0 => T0
  | n + 1 => @Ty.via Exq (Int × Int × List Exq) (tyTup (T n)) tup
theorem T_sz : ∀ n, (T n).sz = 3
  | 0 => rfl
  | _ + 1 => rfl

theorem tup_rep {t t' : Ty Exq} (hs : t.sz = t'.sz) {h : Heap} {cs : List Value} {x : Exq} (hr : ∀ cs y, y ∈ x.kids → t.rep h cs y → t'.rep h cs y) (H : (tyTup t).rep h cs x.tup) : (tyTup t').rep h cs x.tup := by
  obtain ⟨c1, c2, e1, h1, c3, c4, e2, h2, h3⟩ := H
  exact ⟨c1, c2, e1, h1, c3, c4, e2, h2, repS_map hs hr h3⟩
theorem tup_own {t t' : Ty Exq} (hs : t.sz = t'.sz) {r : Heap} {cs : List Value} {x : Exq} (hr : ∀ r cs y, y ∈ x.kids → t.own r cs y → t'.own r cs y) (H : (tyTup t).own r cs x.tup) : (tyTup t').own r cs x.tup := by
  obtain ⟨c1, c2, r1, r2, e1, e2, d1, h1, c3, c4, r3, r4, e3, e4, d2, h2, h3⟩ := H
  exact ⟨c1, c2, r1, r2, e1, e2, d1, h1, c3, c4, r3, r4, e3, e4, d2, h2, ownS_map hs hr h3⟩
theorem rep_up : ∀ (n : Nat) {h : Heap} {cs : List Value} {x : Exq}, (T n).rep h cs x → (T (n + 1)).rep h cs x
  | 0, _, _, _, H => H.elim
  | n + 1, h, cs, x, H => tup_rep (t := T n) (t' := T (n + 1)) (by rw [T_sz, T_sz]) (fun _ _ _ => rep_up n) H
theorem own_up : ∀ (n : Nat) {r : Heap} {cs : List Value} {x : Exq}, (T n).own r cs x → (T (n + 1)).own r cs x
  | 0, _, _, _, H => H.elim
  | n + 1, h, cs, x, H => tup_own (t := T n) (t' := T (n + 1)) (by rw [T_sz, T_sz]) (fun _ _ _ _ => own_up n) H
theorem own_le {n m : Nat} (hle : n ≤ m) {r : Heap} {cs : List Value} {x : Exq} (H : (T n).own r cs x) : (T m).own r cs x := by
  obtain ⟨k, rfl⟩ := Nat.exists_eq_add_of_le hle
  induction k with
  | zero => exact H
  | succ k ih => exact own_up _ (ih (by omega))
end Exq

instance instTyExq : Ty Exq where
  agg := true
  sz := 3
  rep := fun h cs x => ∃ n, (Exq.T n).rep h cs x
  own := fun r cs x => ∃ n, (Exq.T n).own r cs x
  one := fun h => by simp at h
  len := fun ⟨n, h⟩ => ((Exq.T n).len h).trans (Exq.T_sz n)
  cell := fun ⟨n, h⟩ => (Exq.T n).cell h
  mono := fun hl ⟨n, h⟩ => ⟨n, (Exq.T n).mono hl h⟩
  own_rep := fun ⟨n, h⟩ => ⟨n, (Exq.T n).own_rep h⟩

namespace Exq
theorem rep_iff {h : Heap} {cs : List Value} {x : Exq} : Ty.rep h cs x ↔ Ty.rep h cs x.tup := by
  constructor
  · rintro ⟨n, H⟩
    cases n with
    | zero => exact H.elim
    | succ n => exact tup_rep (t := T n) (t' := instTyExq) (T_sz n) (fun _ _ _ h => ⟨n, h⟩) H
  · rintro ⟨c1, c2, e1, h1, c3, c4, e2, h2, p, cap, e3, h3, h4, hl⟩
    have hl : ∀ i, i < x.kids.length → ∃ n, ∃ (hi : i < x.kids.length), ∃ b off vs, p = some ⟨b, off, none⟩ ∧ hcells h b (off + i * 3) 3 = some vs ∧ (T n).rep h vs x.kids[i] := by
      intro i hi
      obtain ⟨b, off, vs, g1, g2, n, g3⟩ := hl i hi
      exact ⟨n, hi, b, off, vs, g1, g2, g3⟩
    obtain ⟨N, hN⟩ := exists_max (P := fun i n => ∃ (hi : i < x.kids.length), ∃ b off vs, p = some ⟨b, off, none⟩ ∧ hcells h b (off + i * 3) 3 = some vs ∧ (T n).rep h vs x.kids[i]) (fun i n ⟨hi, b, off, vs, g1, g2, g3⟩ => ⟨hi, b, off, vs, g1, g2, rep_up n g3⟩) _ hl
    refine ⟨N + 1, c1, c2, e1, h1, c3, c4, e2, h2, p, cap, e3, h3, h4, fun i hi => ?_⟩
    obtain ⟨_, b, off, vs, g1, g2, g3⟩ := hN i hi
    refine ⟨b, off, vs, g1, ?_, g3⟩
    show hcells h b (off + i * (T N).sz) (T N).sz = some vs
    rw [T_sz]; exact g2
theorem ownL_max : ∀ {l : List Exq} {cs : List Value} {r : Heap}, ownL l cs r → ∃ N, @ownL Exq (T N) l cs r
  | [], _, _, H => ⟨0, H⟩
  | x :: l, cs, r, ⟨r1, r2, h1, h2, ⟨n, h3⟩, h4⟩ => by
    obtain ⟨N, h5⟩ := ownL_max h4
    refine ⟨n + N, r1, r2, h1, h2, ?_, ?_⟩
    · show (T (n + N)).own r1 (cs.take (T (n + N)).sz) x
      rw [T_sz]; exact own_le (by omega) h3
    · show @ownL Exq (T (n + N)) l (cs.drop (T (n + N)).sz) r2
      rw [T_sz]; exact ownL_map (t := T N) (t' := T (n + N)) (by rw [T_sz, T_sz]) (fun _ _ _ _ => own_le (by omega)) h5
theorem own_iff {r : Heap} {cs : List Value} {x : Exq} : Ty.own r cs x ↔ Ty.own r cs x.tup := by
  constructor
  · rintro ⟨n, H⟩
    cases n with
    | zero => exact H.elim
    | succ n => exact tup_own (t := T n) (t' := instTyExq) (T_sz n) (fun _ _ _ _ h => ⟨n, h⟩) H
  · rintro ⟨c1, c2, r1, r2, e1, e2, d1, h1, c3, c4, r3, r4, e3, e4, d2, h2, h3⟩
    rcases h3 with h3 | ⟨b, off, cap, cells, el, r', g1, g2, g3, g4, g5, g6⟩
    · exact ⟨1, c1, c2, r1, r2, e1, e2, d1, h1, c3, c4, r3, r4, e3, e4, d2, h2, .inl h3⟩
    · obtain ⟨N, h7⟩ := ownL_max g6
      refine ⟨N + 1, c1, c2, r1, r2, e1, e2, d1, h1, c3, c4, r3, r4, e3, e4, d2, h2, .inr ⟨b, off, cap, cells, el, r', g1, g2, ?_, g4, g5, h7⟩⟩
      show off + cap * (T N).sz ≤ cells.length
      rw [T_sz]; exact g3
end Exq

/-- a number of the machine -/
def I64 (n : Int) : Prop := -9223372036854775808 ≤ n ∧ n < 9223372036854775808
theorem I64.lo {n : Int} (h : I64 n) : -9223372036854775808 ≤ n := h.1
theorem I64.hi {n : Int} (h : I64 n) : n < 9223372036854775808 := h.2

section
variable {g h r : Heap} {Γ : List HP} {v : Value} {cs : List Value}
theorem repExq {x : Exq} : Ty.rep h cs x ↔ ∃ w, cs = [.int .i64 x.kind, .int .i64 x.val, w] ∧ I64 x.kind ∧ I64 x.val ∧ Rep h w x.kids := by
  rw [Exq.rep_iff]
  constructor
  · rintro ⟨c1, c2, rfl, ⟨rfl, h1⟩, c3, c4, rfl, ⟨rfl, h2⟩, h3⟩
    obtain ⟨w, rfl, h4⟩ := (rep1 (α := List Exq) rfl).1 h3
    exact ⟨w, rfl, h1, h2, h4⟩
  · rintro ⟨w, rfl, h1, h2, h3⟩
    exact ⟨[_], [_, _], rfl, ⟨rfl, h1⟩, [_], [_], rfl, ⟨rfl, h2⟩, (rep1 (α := List Exq) rfl).2 ⟨w, rfl, h3⟩⟩
theorem ownExq {x : Exq} : Ty.own r cs x ↔ ∃ w, cs = [.int .i64 x.kind, .int .i64 x.val, w] ∧ I64 x.kind ∧ I64 x.val ∧ Own r w x.kids := by
  rw [Exq.own_iff]
  constructor
  · rintro ⟨c1, c2, r1, r2, rfl, rfl, d1, ⟨rfl, rfl, h1⟩, c3, c4, r3, r4, rfl, rfl, d2, ⟨rfl, rfl, h2⟩, h3⟩
    obtain ⟨w, rfl, h4⟩ := (own1 (α := List Exq) rfl).1 h3
    exact ⟨w, rfl, h1, h2, by rw [nil_add, nil_add]; exact h4⟩
  · rintro ⟨w, rfl, h1, h2, h3⟩
    exact ⟨[_], [_, _], Heap.nil, r, rfl, by simp, by simp, ⟨rfl, rfl, h1⟩, [_], [_], Heap.nil, r, rfl, by simp, by simp, ⟨rfl, rfl, h2⟩, (own1 (α := List Exq) rfl).2 ⟨w, rfl, h3⟩⟩
theorem Rep_Exq {x : Exq} : Rep h v x ↔ ∃ w, v = .agg #[.int .i64 x.kind, .int .i64 x.val, w] ∧ I64 x.kind ∧ I64 x.val ∧ Rep h w x.kids := by
  constructor
  · rintro ⟨cs, rfl, H⟩
    obtain ⟨w, rfl, h1⟩ := repExq.1 H
    exact ⟨w, rfl, h1⟩
  · rintro ⟨w, rfl, h1⟩
    exact ⟨_, rfl, repExq.2 ⟨w, rfl, h1⟩⟩
theorem HS.unExq {x : Exq} (H : HS g (ow v x :: Γ) h) : ∃ w, v = .agg #[.int .i64 x.kind, .int .i64 x.val, w] ∧ I64 x.kind ∧ I64 x.val ∧ HS g (ow w x.kids :: Γ) h := by
  obtain ⟨g', r, rfl, d, ⟨cs, rfl, O⟩, H⟩ := H
  obtain ⟨w, rfl, h1, h2, h3⟩ := ownExq.1 O
  exact ⟨w, rfl, h1, h2, g', r, rfl, d, h3, H⟩
theorem HS.mkExq {x : Exq} {w : Value} (H : HS g (ow w x.kids :: Γ) h) (h1 : I64 x.kind) (h2 : I64 x.val) : HS g (ow (.agg #[.int .i64 x.kind, .int .i64 x.val, w]) x :: Γ) h :=
  H.imp fun _ O => ⟨_, rfl, ownExq.2 ⟨w, rfl, h1, h2, O⟩⟩
theorem HS.mkExq' {kd vl : Int} {l : List Exq} {w : Value} (H : HS g (ow w l :: Γ) h) (h1 : I64 kd) (h2 : I64 vl) : HS g (ow (.agg #[.int .i64 kd, .int .i64 vl, w]) (Exq.mk kd vl l) :: Γ) h :=
  HS.mkExq (x := Exq.mk kd vl l) H h1 h2
theorem Rep.aExq {x : Exq} (hr : Rep h v x) : pgetV (some v) 0 (some 3) = some v ∧ v.cells.size = 3 ∧ allOne v.cells.toList = true ∧ Value.agg v.cells = v := hr.A rfl rfl
end

noncomputable instance : DecidableEq Exq := fun _ _ => Classical.propDecidable _

/-- an edge -/
structure Ed where
  frm : Int
  to : Int
  guard : Exq
  var : Int
  value : Exq
  sync : Int
instance instTyEd : Ty Ed := Ty.via fun (e : Ed) => (e.frm, e.to, e.guard, e.var, e.value, e.sync)
noncomputable instance : DecidableEq Ed := fun _ _ => Classical.propDecidable _
/-- a process -/
structure Pr where
  locs : Int
  edges : List Ed
instance instTyPr : Ty Pr := Ty.via fun (p : Pr) => (p.locs, p.edges)
noncomputable instance : DecidableEq Pr := fun _ _ => Classical.propDecidable _
/-- a system -/
structure Sy where
  init : List Int
  procs : List Pr
instance instTySy : Ty Sy := Ty.via fun (s : Sy) => (s.init, s.procs)
noncomputable instance : DecidableEq Sy := fun _ _ => Classical.propDecidable _
theorem Ed.ext_iff' {a b : Ed} : a = b ↔ a.frm = b.frm ∧ a.to = b.to ∧ a.guard = b.guard ∧ a.var = b.var ∧ a.value = b.value ∧ a.sync = b.sync := by
  cases a; cases b; simp
theorem Pr.ext_iff' {a b : Pr} : a = b ↔ a.locs = b.locs ∧ a.edges = b.edges := by
  cases a; cases b; simp
theorem Sy.ext_iff' {a b : Sy} : a = b ↔ a.init = b.init ∧ a.procs = b.procs := by
  cases a; cases b; simp

/-- an edge's cells, where its two expressions' operands are known -/
def Ed.cs (e : Ed) (w1 w2 : Value) : List Value := [.int .i64 e.frm, .int .i64 e.to, .int .i64 e.guard.kind, .int .i64 e.guard.val, w1, .int .i64 e.var, .int .i64 e.value.kind, .int .i64 e.value.val, w2, .int .i64 e.sync]
structure Ed.ok (e : Ed) : Prop where
  frm : I64 e.frm
  to : I64 e.to
  gk : I64 e.guard.kind
  gv : I64 e.guard.val
  var : I64 e.var
  vk : I64 e.value.kind
  vv : I64 e.value.val
  sync : I64 e.sync

section
variable {g h r : Heap} {Γ : List HP} {v : Value} {cs : List Value}
end

end Go.Proofs.Ytglnelcmcimljaa

/-
  Parts of elements, written and read where they lie; copies of lists whose elements are replaced one by one; sizes and marks of expressions and systems.
-/
namespace Go.Proofs.Ytglnelcmcimljaa
open Go
set_option linter.all false
set_option linter.unusedVariables false
set_option linter.unusedSimpArgs false
set_option linter.defProp false
set_option maxRecDepth 1000000

section
variable {α : Type} [Ty α] {P : Program} {k : Env → Heap → Prop} {e : Env} {g h : Heap} {Γ : List HP} {v w : Value} {l : List α} {i : Nat} {cs : List Value}
/-- an element's parts, where its cells are known -/
theorem hld_parts {n : Nat} (hv : hload h (some (elp n v i)) (some n) = some (.agg cs.toArray)) : (∀ fo, faV fo (elp n v i) = some (elpo n v i fo)) ∧ (∀ a b, faV b (elpo n v i a) = some (elpo n v i (a + b))) ∧
    (∀ fo, fo < n → hload h (some (elpo n v i fo)) none = cs[fo]?) ∧ (∀ fo m, fo + m ≤ n → hload h (some (elpo n v i fo)) (some m) = some (.agg ((cs.drop fo).take m).toArray)) := by
  unfold elp at hv
  split at hv
  case h_2 => simp [undef, hload] at hv
  case h_1 p c d =>
    have hz : ∃ b off, p.add (i * n) = ⟨b, off, none⟩ := by
      generalize hq : p.add (i * n) = q at hv
      obtain ⟨b, off, sp⟩ := q
      cases sp with
      | none => exact ⟨b, off, rfl⟩
      | some s => simp [hload] at hv
    obtain ⟨b, off, hz⟩ := hz
    rw [hz] at hv
    simp only [hload, Option.map_eq_some_iff] at hv
    obtain ⟨l, h1, h2⟩ := hv
    have h2 : l = cs := by simpa using h2
    subst h2
    have h3 := hcells_get h1
    have hsub : ∀ m fo, fo + m ≤ n → hcells h b (off + fo) m = some ((l.drop fo).take m) := by
      intro m
      induction m with
      | zero => intro fo _; simp [hcells]
      | succ m ih =>
        intro fo hf
        have h4 := ih (fo + 1) (by omega)
        have h5 := h3.2 fo (l[fo]'(by rw [h3.1]; omega)) (List.getElem?_eq_getElem _)
        simp only [hcells, h5]
        rw [show off + fo + 1 = off + (fo + 1) by omega, h4]
        simp only [Option.some.injEq]
        rw [List.drop_eq_getElem_cons (by rw [h3.1]; omega : fo < l.length), List.take_succ_cons]
    refine ⟨fun fo => ?_, fun a c => ?_, fun fo hf => ?_, fun fo m hf => ?_⟩
    · simp only [elp, elpo, hz, add_none, faV]
    · simp only [elpo, hz, add_none, faV]
      simp [Nat.add_assoc]
    · have h5 := h3.2 fo (l[fo]'(by rw [h3.1]; omega)) (List.getElem?_eq_getElem _)
      simp only [elpo, hz, add_none, hload, h5]
      exact (List.getElem?_eq_getElem _).symm
    · simp only [elpo, hz, add_none, hload, hsub m fo hf]
      rfl
end

/-- an element of a copy: as it was copied, or replaced -/
inductive Mix (α : Type) where
  | raw (cs : List Value)
  | new (x : α)
section
variable {α : Type} [Ty α]
def Mix.rep (h : Heap) (cs : List Value) : Mix α → Prop
  | .raw c => cs = c ∧ c.length = Ty.sz α ∧ ∀ v ∈ c, v.oneCell' = true
  | .new x => Ty.rep h cs x
def Mix.own (r : Heap) (cs : List Value) : Mix α → Prop
  | .raw c => r = Heap.nil ∧ cs = c ∧ c.length = Ty.sz α ∧ ∀ v ∈ c, v.oneCell' = true
  | .new x => Ty.own r cs x
instance instTyMix : Ty (Mix α) where
  agg := Ty.agg α
  sz := Ty.sz α
  rep := Mix.rep
  own := Mix.own
  one := Ty.one
  len := by
    intro h cs x hx
    cases x with
    | raw c => obtain ⟨rfl, h1, _⟩ := hx; exact h1
    | new x => exact Ty.len (x := x) hx
  cell := by
    intro h cs x hx
    cases x with
    | raw c => obtain ⟨rfl, _, h1⟩ := hx; exact h1
    | new x => exact Ty.cell (x := x) hx
  mono := by
    intro h h' cs x hl hx
    cases x with
    | raw c => exact hx
    | new x => exact Ty.mono (x := x) hl hx
  own_rep := by
    intro r cs x hx
    cases x with
    | raw c => exact hx.2
    | new x => exact Ty.own_rep (x := x) hx
/-- a copy's elements, as they were copied -/
structure Raws (h : Heap) (l : List α) (M : List (Mix α)) : Prop where
  len : M.length = l.length
  at' : ∀ (i : Nat) (hi : i < l.length), ∃ c, M[i]? = some (.raw c) ∧ Ty.rep h c l[i]

end

/-- how far the replacing has come -/
structure Mixed {α : Type} [Ty α] (h : Heap) (l : List α) (f : α → α) (M : List (Mix α)) (i : Nat) : Prop where
  len : M.length = l.length
  done : M.take i = ((l.map f).take i).map Mix.new
  rest : ∀ (j : Nat) (hj : j < l.length), i ≤ j → ∃ c, M[j]? = some (.raw c) ∧ Ty.rep h c l[j]
section
variable {α : Type} [Ty α] {h : Heap} {l : List α} {f : α → α} {M : List (Mix α)} {i : Nat}
theorem Mixed.zero (R : Raws h l M) : Mixed h l f M 0 := ⟨R.len, rfl, fun j hj _ => R.at' j hj⟩
theorem Mixed.le {h' : Heap} (H : Mixed h l f M i) (hl : h.le h') : Mixed h' l f M i := ⟨H.len, H.done, fun j hj hij => by
  obtain ⟨c, h1, h2⟩ := H.rest j hj hij
  exact ⟨c, h1, Ty.mono hl h2⟩⟩
theorem Mixed.get (H : Mixed h l f M i) (hi : i < l.length) : ∃ c, M[i]'(by rw [H.len]; exact hi) = .raw c ∧ Ty.rep h c l[i] := by
  obtain ⟨c, h1, h2⟩ := H.rest i hi (Nat.le_refl i)
  refine ⟨c, ?_, h2⟩
  rw [List.getElem?_eq_getElem (by rw [H.len]; exact hi)] at h1
  exact Option.some.inj h1
theorem Mixed.step (H : Mixed h l f M i) (hi : i < l.length) : Mixed h l f (M.set i (.new (f l[i]))) (i + 1) := by
  refine ⟨by simp [H.len], ?_, fun j hj hij => ?_⟩
  · have h1 : M.take i = (l.map fun x => Mix.new (f x)).take i := by rw [H.done, List.map_take, List.map_map]; rfl
    have := take_set_succ (x := l.map fun x => Mix.new (f x)) h1 (by simpa using hi) (by simp [H.len])
    rw [List.getElem_map] at this
    rw [this, List.map_take, List.map_map]
    rfl
  · rw [List.getElem?_set_ne (by omega)]
    exact H.rest j hj (by omega)
theorem Mixed.all (H : Mixed h l f M i) (hi : l.length ≤ i) : M = (l.map f).map Mix.new := by
  have := H.done
  rw [List.take_of_length_le (by rw [H.len]; exact hi), List.take_of_length_le (by simpa using hi)] at this
  exact this
end

/- SIZES AND MARKS -/
mutual
def Exq.size : Exq → Nat
  | .mk _ _ l => Exq.sizes l
def Exq.sizes : List Exq → Nat
  | [] => 0
  | x :: l => 1 + x.size + Exq.sizes l
end
instance instSzExq : Sz Exq := ⟨Exq.size⟩
instance instSzEd : Sz Ed := ⟨fun e => Sz.sz e.guard + Sz.sz e.value⟩
instance instSzPr : Sz Pr := ⟨fun p => Sz.sz p.edges⟩
instance instSzSy : Sz Sy := ⟨fun s => Sz.sz s.init + Sz.sz s.procs⟩

mutual
def Exq.cnt : Exq → Nat
  | .mk _ _ l => 2 + Exq.cnts l
def Exq.cnts : List Exq → Nat
  | [] => 0
  | x :: l => x.cnt + Exq.cnts l
end
mutual
def Exq.wr : Int → Exq → Exq
  | k, .mk _ _ l => .mk k (k + 1) (Exq.wrs (k + 2) l)
def Exq.wrs : Int → List Exq → List Exq
  | _, [] => []
  | k, x :: l => x.wr k :: Exq.wrs (k + x.cnt) l
end
mutual
theorem Exq.cnt_wr : ∀ (k : Int) (x : Exq), (Exq.wr k x).cnt = x.cnt
  | k, .mk _ _ l => by simp only [Exq.wr, Exq.cnt, Exq.cnts_wrs (k + 2) l]
theorem Exq.cnts_wrs : ∀ (k : Int) (l : List Exq), Exq.cnts (Exq.wrs k l) = Exq.cnts l
  | _, [] => rfl
  | k, x :: l => by simp only [Exq.wrs, Exq.cnts, Exq.cnt_wr k x, Exq.cnts_wrs (k + x.cnt) l]
end
mutual
theorem Exq.wr_wr : ∀ (k j : Int) (x : Exq), Exq.wr k (Exq.wr j x) = Exq.wr k x
  | k, j, .mk _ _ l => by simp only [Exq.wr, Exq.wrs_wrs (k + 2) (j + 2) l]
theorem Exq.wrs_wrs : ∀ (k j : Int) (l : List Exq), Exq.wrs k (Exq.wrs j l) = Exq.wrs k l
  | _, _, [] => rfl
  | k, j, x :: l => by simp only [Exq.wrs, Exq.cnt_wr j x, Exq.wr_wr k j x, Exq.wrs_wrs (k + x.cnt) (j + x.cnt) l]
end
instance instMkExq : Mk Exq := ⟨Exq.cnt, Exq.wr, Exq.cnt_wr, Exq.wr_wr⟩
instance instMkEd : Mk Ed := ⟨fun e => Mk.cnt e.frm + Mk.cnt e.to + Mk.cnt e.guard + Mk.cnt e.var + Mk.cnt e.value + Mk.cnt e.sync,
  fun k e => ⟨Mk.wr k e.frm, Mk.wr (k + Mk.cnt e.frm) e.to, Mk.wr (k + Mk.cnt e.frm + Mk.cnt e.to) e.guard, Mk.wr (k + Mk.cnt e.frm + Mk.cnt e.to + Mk.cnt e.guard) e.var,
    Mk.wr (k + Mk.cnt e.frm + Mk.cnt e.to + Mk.cnt e.guard + Mk.cnt e.var) e.value, Mk.wr (k + Mk.cnt e.frm + Mk.cnt e.to + Mk.cnt e.guard + Mk.cnt e.var + Mk.cnt e.value) e.sync⟩,
  fun k a => by simp [Mk.cnt_wr], fun k j a => by simp [Mk.cnt_wr, Mk.wr_wr]⟩
instance instMkPr : Mk Pr := ⟨fun p => Mk.cnt p.locs + Mk.cnt p.edges, fun k p => ⟨Mk.wr k p.locs, Mk.wr (k + Mk.cnt p.locs) p.edges⟩, fun k a => by simp [Mk.cnt_wr], fun k j a => by simp [Mk.cnt_wr, Mk.wr_wr]⟩
instance instMkSy : Mk Sy := ⟨fun p => Mk.cnt p.init + Mk.cnt p.procs, fun k p => ⟨Mk.wr k p.init, Mk.wr (k + Mk.cnt p.init) p.procs⟩, fun k a => by simp [Mk.cnt_wr], fun k j a => by simp [Mk.cnt_wr, Mk.wr_wr]⟩
end Go.Proofs.Ytglnelcmcimljaa

/-
  Expressions and systems in plain Lean: when they are valid, what they are worth, which variables they name.
-/
namespace Go.Proofs.Ytglnelcmcimljaa
open Go
set_option linter.all false
set_option linter.unusedVariables false
set_option linter.unusedSimpArgs false
set_option linter.defProp false
set_option maxRecDepth 1000000

theorem foldl_tk {α β : Type} {f : β → α → β} {b : β} {l : List α} {i : Nat} (hi : i < l.length) : (l.take (i + 1)).foldl f b = f ((l.take i).foldl f b) l[i] := by
  rw [List.take_add_one, List.getElem?_eq_getElem hi, List.foldl_append]; rfl

/-- values of the variables -/
def VOk (vs : List Int) : Prop := vs.length = 3 ∧ ∀ x ∈ vs, 0 ≤ x ∧ x ≤ 3
theorem VOk.len {vs : List Int} (h : VOk vs) : vs.length = 3 := h.1
theorem VOk.at {vs : List Int} (h : VOk vs) {i : Nat} (hi : i < vs.length) : 0 ≤ vs[i] ∧ vs[i] ≤ 3 := h.2 _ (List.getElem_mem hi)
noncomputable instance {vs : List Int} : Decidable (VOk vs) := Classical.propDecidable _

namespace Exq
def arity (k : Int) : Int := if k = 1 ∨ k = 2 then 0 else if k = 3 then 1 else if 4 ≤ k ∧ k ≤ 9 then 2 else -1
def most (k : Int) : Int := if k = 1 then 3 else if k = 2 then 2 else 0
/-- one node is well made -/
structure Nd (x : Exq) : Prop where
  ar : (x.kids.length : Int) = arity x.kind
  lo : 0 ≤ x.val
  hi : x.val ≤ most x.kind
/-- well made, so many levels -/
def Shp : Nat → Exq → Prop
  | 0, _ => False
  | n + 1, x => x.Nd ∧ ∀ y ∈ x.kids, Shp n y
mutual
def nod : Exq → Nat
  | .mk _ _ l => 1 + nods l
def nods : List Exq → Nat
  | [] => 0
  | x :: l => x.nod + nods l
end
theorem nod_eq (x : Exq) : x.nod = 1 + nods x.kids := by cases x; rfl
theorem nods_take : ∀ {l : List Exq} {i : Nat} (hi : i < l.length), nods (l.take (i + 1)) = nods (l.take i) + l[i].nod
  | x :: l, 0, _ => by simp [nods]
  | x :: l, i + 1, hi => by
    have := nods_take (l := l) (i := i) (by simpa using hi)
    simp only [List.take_succ_cons, nods, List.getElem_cons_succ, this]; omega
theorem nods_le : ∀ (l : List Exq) (i : Nat), nods (l.take i) ≤ nods l
  | [], i => by simp
  | x :: l, 0 => by simp [nods]
  | x :: l, i + 1 => by
    simp only [List.take_succ_cons, nods]
    have := nods_le l i
    omega
/-- valid -/
def Ok (x : Exq) : Prop := x.Shp 6 ∧ x.nod ≤ 15
noncomputable instance {x : Exq} : Decidable x.Ok := Classical.propDecidable _
def zero : Exq := .mk 0 0 []

theorem Nd.kind {x : Exq} (h : x.Nd) : 1 ≤ x.kind ∧ x.kind ≤ 9 := by
  have := h.ar
  unfold arity at this
  split at this <;> (try split at this) <;> (try split at this) <;> omega
theorem Shp.nd {n : Nat} {x : Exq} (h : x.Shp n) : x.Nd := by
  cases n with
  | zero => exact h.elim
  | succ n => exact h.1
theorem Shp.kid {n : Nat} {x : Exq} (h : x.Shp (n + 1)) {i : Nat} (hi : i < x.kids.length) : x.kids[i].Shp n := h.2 _ (List.getElem_mem hi)
theorem Shp.bnd : ∀ {n : Nat} {x : Exq}, x.Shp n → x.nod < 2 ^ n
  | 0, _, h => h.elim
  | n + 1, x, h => by
    have h1 := h.1.ar
    have h2 : x.kids.length ≤ 2 := by
      unfold arity at h1
      split at h1 <;> (try split at h1) <;> (try split at h1) <;> omega
    have h3 : nods x.kids + x.kids.length ≤ x.kids.length * 2 ^ n := by
      have key : ∀ l : List Exq, (∀ y ∈ l, Shp n y) → nods l + l.length ≤ l.length * 2 ^ n := by
        intro l
        induction l with
        | nil => intro _; simp [nods]
        | cons y l ih =>
          intro hl
          have g1 := Shp.bnd (hl y (by simp))
          have g2 := ih fun z hz => hl z (by simp [hz])
          simp only [nods, List.length_cons, Nat.add_mul]
          omega
      exact key _ h.2
    have h4 : x.kids.length * 2 ^ n ≤ 2 * 2 ^ n := Nat.mul_le_mul_right _ h2
    have h5 : 0 < 2 ^ n := Nat.pow_pos (by decide)
    rw [nod_eq, Nat.pow_succ]
    by_cases h6 : x.kids.length = 0
    · have : x.kids = [] := List.length_eq_zero_iff.1 h6
      rw [this]; simp only [nods]; omega
    · rcases (show x.kids.length = 1 ∨ x.kids.length = 2 by omega) with h7 | h7 <;> rw [h7] at h3 h4 <;> omega

/- WHAT IT IS WORTH -/
def tr (p : Prop) [Decidable p] : Int := if p then 1 else 0
def evk (vs : List Int) (k v a b : Int) : Int :=
  if k = 1 then v else if k = 2 then vs.getD v.toNat 0 else if k = 3 then tr (a = 0) else if k = 4 then tr (a ≠ 0 ∧ b ≠ 0) else if k = 5 then tr (a ≠ 0 ∨ b ≠ 0)
  else if k = 6 then tr (a = b) else if k = 7 then tr (a < b) else if k = 8 then (a + b).tmod 4 else (a - b + 4).tmod 4
mutual
def ev (vs : List Int) : Exq → Int
  | .mk k v l => evk vs k v ((evs vs l).getD 0 0) ((evs vs l).getD 1 0)
def evs (vs : List Int) : List Exq → List Int
  | [] => []
  | x :: l => x.ev vs :: evs vs l
end
def kev (x : Exq) (vs : List Int) (j : Nat) : Int := (x.kids.map (ev vs)).getD j 0
/- WHICH VARIABLES IT NAMES -/
mutual
def mkv : Exq → List Bool → List Bool
  | .mk k v l, M => mkvs l (if k = 2 then M.set v.toNat true else M)
def mkvs : List Exq → List Bool → List Bool
  | [], M => M
  | x :: l, M => mkvs l (x.mkv M)
end
end Exq

/- SYSTEMS -/
structure Ed.Ok (e : Ed) (n : Int) : Prop where
  n1 : 1 ≤ n
  n4 : n ≤ 4
  f0 : 0 ≤ e.frm
  f1 : e.frm < n
  t0 : 0 ≤ e.to
  t1 : e.to < n
  gd : e.guard.Ok
  v0 : -1 ≤ e.var
  v1 : e.var ≤ 2
  vl : (0 ≤ e.var ∧ e.value.Ok) ∨ (e.var < 0 ∧ e.value = Exq.zero)
  s0 : -2 ≤ e.sync
  s1 : e.sync ≤ 2
noncomputable instance {e : Ed} {n : Int} : Decidable (e.Ok n) := Classical.propDecidable _
structure Pr.Ok (p : Pr) : Prop where
  n1 : 1 ≤ p.locs
  n4 : p.locs ≤ 4
  el : p.edges.length ≤ 6
  ed : ∀ e ∈ p.edges, e.Ok p.locs
noncomputable instance {p : Pr} : Decidable p.Ok := Classical.propDecidable _
structure Sy.Ok (s : Sy) : Prop where
  vs : VOk s.init
  p1 : 1 ≤ s.procs.length
  p3 : s.procs.length ≤ 3
  pr : ∀ p ∈ s.procs, p.Ok
noncomputable instance {s : Sy} : Decidable s.Ok := Classical.propDecidable _
theorem Sy.Ok.at {s : Sy} (h : s.Ok) {i : Nat} (hi : i < s.procs.length) : s.procs[i].Ok := h.pr _ (List.getElem_mem hi)
theorem Pr.Ok.at {p : Pr} (h : p.Ok) {i : Nat} (hi : i < p.edges.length) : p.edges[i].Ok p.locs := h.ed _ (List.getElem_mem hi)
/-- labels -/
structure LOk (l : List Exq) : Prop where
  len : l.length = 3
  ok : ∀ x ∈ l, x.Ok
noncomputable instance {l : List Exq} : Decidable (LOk l) := Classical.propDecidable _

/- WHICH VARIABLES MATTER -/
def relL (labels : List Exq) (M : List Bool) : List Bool := labels.foldl (fun M x => x.mkv M) M
def relG (s : Sy) (M : List Bool) : List Bool := s.procs.foldl (fun M p => p.edges.foldl (fun M e => e.guard.mkv M) M) M
def Ed.relv (M : List Bool) (e : Ed) : List Bool := if 0 ≤ e.var ∧ M.getD e.var.toNat false = true then e.value.mkv M else M
def relV (s : Sy) (M : List Bool) : List Bool := s.procs.foldl (fun M p => p.edges.foldl Ed.relv M) M
def Sy.rel (s : Sy) (labels : List Exq) : List Bool := relV s (relV s (relV s (relG s (relL labels [false, false, false]))))
end Go.Proofs.Ytglnelcmcimljaa

/-
  The random source of the laws' arguments: a number, an element of a list.
-/
namespace Go.Proofs.Ytglnelcmcimljaa
open Go
set_option linter.all false
set_option linter.unusedVariables false
set_option linter.unusedSimpArgs false
set_option linter.defProp false
set_option maxRecDepth 1000000

theorem Rep.cut {α : Type} [Ty α] {h : Heap} {v : Value} {l : List α} (R : Rep h v l) {n esz : Nat} {k : IntKind} (hn : n ≤ l.length) : ∃ v', sliceVV esz v none (some (some (.int k n))) none = some v' ∧ Rep h v' (l.take n) := by
  obtain ⟨p, cap, rfl, h1, h2, h3⟩ := Rep_list.1 R
  have hl : (l.take n).length = n := by simp; omega
  have hc : n ≤ cap := by omega
  cases n with
  | zero =>
    cases p with
    | none =>
      refine ⟨.slice none 0 cap, ?_, Rep_list.2 ⟨none, cap, by simp, by simp, trivial, fun i hi => by simp at hi⟩⟩
      simp [sliceVV, bndV]
    | some a =>
      by_cases hz : cap = 0
      · refine ⟨.slice (some a) 0 cap, ?_, Rep_list.2 ⟨some a, cap, by simp, by simp, trivial, fun i hi => by simp at hi⟩⟩
        simp [sliceVV, bndV, hz]
      · refine ⟨.slice (some (a.add 0)) 0 cap, ?_, Rep_list.2 ⟨some (a.add 0), cap, by simp, by simp, trivial, fun i hi => by simp at hi⟩⟩
        simp [sliceVV, bndV, hz]
  | succ n =>
    obtain ⟨b, off, vs, rfl, _⟩ := h3 0 (by omega)
    refine ⟨.slice (some ⟨b, off, none⟩) (n + 1) cap, ?_, Rep_list.2 ⟨_, cap, by rw [hl], by rw [hl]; omega, trivial, fun i hi => ?_⟩⟩
    · simp [sliceVV, bndV, add_none]
      rw [if_pos (by omega)]
    · rw [hl] at hi
      obtain ⟨b', off', vs, e1, e2, e3⟩ := h3 i (by omega)
      exact ⟨b', off', vs, e1, e2, by simpa using e3⟩
@[simp] theorem nilcV_ptr {a : Addr} : nilcV (.pointer (some a)) = some (.pointer (some a)) := rfl
/-- bytes -/
instance instTyU8 : Ty (BitVec 8) where
  agg := false
  sz := 1
  rep := fun _ cs n => cs = [.int .u8 n.toNat]
  own := fun r cs n => r = Heap.nil ∧ cs = [.int .u8 n.toNat]
  one := fun _ => rfl
  len := by rintro h cs x rfl; rfl
  cell := by rintro h cs x rfl v hv; simp at hv; subst hv; rfl
  mono := fun _ hr => hr
  own_rep := fun ho => ho.2
instance instFlatU8 : Flat (BitVec 8) := ⟨fun n => [.int .u8 n.toNat], fun _ => True, by simp [Ty.rep], by simp [Ty.own]⟩
theorem Rep.Y {h : Heap} {v : Value} {l : List (BitVec 8)} (hr : Rep h v l) : ((∀ (kd : IntKind) (i : Nat), i < l.length → iaV 1 v (.int kd i) = some (elp 1 v i)) ∧ (∀ (kd : IntKind) (i : Int), 0 ≤ i → i < l.length → iaV 1 v (.int kd i) = some (elp 1 v i.toNat)) ∧ lenVV v = some (.int .i64 l.length)) ∧
    ∀ (i : Nat) (hi : i < l.length), hload h (some (elp 1 v i)) none = some (.int .u8 l[i].toNat) := ⟨hr.X rfl, fun _ hi => hr.ldF hi⟩

theorem xor_nn {a b : Int} (ha : 0 ≤ a) (ha2 : a < 9223372036854775808) (hb : 0 ≤ b) (hb2 : b < 9223372036854775808) : 0 ≤ xorI .i64 a b ∧ xorI .i64 a b < 9223372036854775808 := by
  have e1 : (BitVec.ofInt 64 a).toNat = a.toNat := by rw [BitVec.toNat_ofInt]; congr 1; exact Int.emod_eq_of_lt ha (by omega)
  have e2 : (BitVec.ofInt 64 b).toNat = b.toNat := by rw [BitVec.toNat_ofInt]; congr 1; exact Int.emod_eq_of_lt hb (by omega)
  have h : a.toNat ^^^ b.toNat < 2 ^ 63 := Nat.xor_lt_two_pow (by omega) (by omega)
  have e3 : xorI .i64 a b = ((a.toNat ^^^ b.toNat : Nat) : Int) := by
    unfold xorI
    rw [show IntKind.i64.bits = 64 from rfl, BitVec.toNat_xor, e1, e2]
    exact wrap64 (by omega) (by omega)
  rw [e3]
  omega

/-- the random source: a pointer to its bytes and to how many numbers were drawn -/
abbrev rb (b : Nat) (sl : Value) (p : Int) : HP := bx b [sl, .int .i64 p]
theorem tmod_rng {a b : Int} (ha : 0 ≤ a) (hb : 0 < b) : 0 ≤ a.tmod b ∧ a.tmod b < b := by
  rw [Int.tmod_eq_emod_of_nonneg ha]
  exact ⟨Int.emod_nonneg _ (by omega), Int.emod_lt_of_pos _ hb⟩
theorem tdiv_rng {a b : Int} (ha : 0 ≤ a) (hb : 0 < b) : 0 ≤ a.tdiv b ∧ a.tdiv b ≤ a := by
  rw [Int.tdiv_eq_ediv_of_nonneg ha]
  exact ⟨Int.ediv_nonneg ha (by omega), Int.ediv_le_self _ ha⟩

theorem c_pick {g h : Heap} {Γ : List HP} {b : Nat} {sl : Value} {l : List (BitVec 8)} {p n : Int} (R : Rep g sl l) (H : HS g (rb b sl p :: Γ) h) (hp : 0 ≤ p) (hp2 : p < 1099511627776) (hn : I64 n) :
    CallE Try.prog fn_spec_l16Rd_pick [.pointer (some ⟨b, 0, none⟩), .int .i64 n] h (fun u h' => ∃ r, u = .int .i64 r ∧ I64 r ∧ 0 ≤ r ∧ (1 ≤ n → r < n) ∧ HS g (rb b sl (p + 1) :: Γ) h') := by
  have hL := R.lt
  have hn1 := hn.1
  have hn2 := hn.2
  refine CallE.gen fun k hk => EN_spec_l16Rd_pick rfl ?_
  have hb0 : hload h (some (.pointer (some ⟨b, 0, none⟩))) none = some sl := H.bxld rfl
  have hb1 : hload h (some (.pointer (some ⟨b, 1, none⟩))) none = some (.int .i64 p) := H.bxld rfl
  simp -implicitDefEqProofs (disch := first | omega | (simp only [LnZ]; omega)) [wrap64, hb0, hb1]
  refine HS.bxst (o := 1) (sz := 1) (u := .int .i64 (p + 1)) H rfl rfl rfl rfl (by simp) fun h2 H => ?_
  replace H : HS g (rb b sl (p + 1) :: Γ) h2 := H
  have hb0 : hload h2 (some (.pointer (some ⟨b, 0, none⟩))) none = some sl := H.bxld rfl
  have hb1 : hload h2 (some (.pointer (some ⟨b, 1, none⟩))) none = some (.int .i64 (p + 1)) := H.bxld rfl
  by_cases a1 : n < 1
  · simp -implicitDefEqProofs (disch := first | omega | (simp only [LnZ]; omega)) [wrap64, hb0, hb1, a1]
    exact RetK.keep (hk _ _ ⟨0, rfl, ⟨by omega, by omega⟩, by omega, fun h => absurd h (by omega), H⟩)
  obtain ⟨ln, hln⟩ : ∃ ln : Int, ln = l.length := ⟨_, rfl⟩
  have hlen := (R.on H).len
  rw [← hln] at hlen
  by_cases a2 : ln = 0
  · simp -implicitDefEqProofs (disch := first | omega | (simp only [LnZ]; omega)) [wrap64, hb0, hb1, a1, hlen, a2]
    exact RetK.keep (hk _ _ ⟨0, rfl, ⟨by omega, by omega⟩, by omega, fun h => by omega, H⟩)
  obtain ⟨m, rfl⟩ : ∃ m : Nat, p = m := ⟨p.toNat, (Int.toNat_of_nonneg hp).symm⟩
  have hn0 : ¬ n = 0 := by omega
  by_cases a3 : (m : Int) < ln
  · have hk3 : m < l.length := by omega
    obtain ⟨c, hc⟩ : ∃ c : Int, c = l[m].toNat := ⟨_, rfl⟩
    have hc2 : c < 256 := by have := l[m].isLt; omega
    have hc0 : 0 ≤ c := by omega
    have hld := (R.on H).Y.2 m hk3
    rw [← hc] at hld
    obtain ⟨r1, r2⟩ := tmod_rng hc0 (show 0 < n by omega)
    simp -implicitDefEqProofs (disch := first | omega | (simp only [LnZ]; omega)) [wrap64, hb0, hb1, a1, hlen, a2, a3, (R.on H).Y.1.1, hld, hn0]
    exact RetK.keep (hk _ _ ⟨c.tmod n, rfl, ⟨by omega, by omega⟩, r1, fun _ => r2, H⟩)
  · obtain ⟨s1, s2⟩ := tmod_rng (a := (m : Int)) (b := ln) (by omega) (by omega)
    obtain ⟨i1, hi1⟩ : ∃ i1 : Nat, (m : Int).tmod ln = i1 := ⟨_, (Int.toNat_of_nonneg s1).symm⟩
    obtain ⟨t1, t2⟩ := tmod_rng (a := (m : Int) * 7 + 3) (b := ln) (by omega) (by omega)
    obtain ⟨i2, hi2⟩ : ∃ i2 : Nat, ((m : Int) * 7 + 3).tmod ln = i2 := ⟨_, (Int.toNat_of_nonneg t1).symm⟩
    obtain ⟨q1, q2⟩ := tdiv_rng (a := (m : Int)) (b := ln) (by omega) (by omega)
    obtain ⟨q, hq⟩ : ∃ q : Int, (m : Int).tdiv ln = q := ⟨_, rfl⟩
    rw [hi1] at s1 s2
    rw [hi2] at t1 t2
    rw [hq] at q1 q2
    have hl1 : i1 < l.length := by omega
    have hl2 : i2 < l.length := by omega
    obtain ⟨c, hc⟩ : ∃ c : Int, c = l[i1].toNat := ⟨_, rfl⟩
    have hc2 : c < 256 := by have := l[i1].isLt; omega
    have hc0 : 0 ≤ c := by omega
    have hld := (R.on H).Y.2 i1 hl1
    rw [← hc] at hld
    obtain ⟨d, hd⟩ : ∃ d : Int, d = l[i2].toNat := ⟨_, rfl⟩
    have hd2 : d < 256 := by have := l[i2].isLt; omega
    have hd0 : 0 ≤ d := by omega
    have hld2 := (R.on H).Y.2 i2 hl2
    rw [← hd] at hld2
    obtain ⟨x, hx⟩ : ∃ x : Int, x = c * 131 + d * 1117 + (m : Int) * 29 + q * 53 := ⟨_, rfl⟩
    have hx0 : 0 ≤ x := by omega
    have hx1 : x < 9223372036854775808 := by omega
    obtain ⟨y1, y2⟩ := tdiv_rng (a := x) (b := 64) hx0 (by omega)
    obtain ⟨z1, z2⟩ := xor_nn hx0 hx1 y1 (by omega)
    obtain ⟨w1, w2⟩ := tmod_rng z1 (show 0 < n by omega)
    simp -implicitDefEqProofs (disch := first | omega | (simp only [LnZ]; omega)) [wrap64, hb0, hb1, a1, hlen, a2, a3, (R.on H).Y.1.1, hi1, hi2, hq, hld, hld2, hn0, ← hx]
    exact RetK.keep (hk _ _ ⟨_, rfl, ⟨by omega, by omega⟩, w1, fun _ => w2, H⟩)

/-- an element of a list that is written out -/
theorem c_num {g h : Heap} {Γ : List HP} {b : Nat} {sl v : Value} {l : List (BitVec 8)} {p : Int} {xs : List Int} (R : Rep g sl l) (H : HS g (ow v xs :: rb b sl p :: Γ) h) (hp : 0 ≤ p) (hp2 : p < 1099511627776) (hx : xs ≠ []) :
    CallE Try.prog fn_spec_l16Rd_num [.pointer (some ⟨b, 0, none⟩), v] h (fun u h' => ∃ r, u = .int .i64 r ∧ I64 r ∧ r ∈ xs ∧ HS g (rb b sl (p + 1) :: Γ) h') := by
  have hL := H.rep.lt
  have hpos : 0 < xs.length := List.length_pos_iff.2 hx
  refine CallE.gen fun k hk => EN_spec_l16Rd_num rfl ?_
  simp -implicitDefEqProofs (disch := first | omega | (simp only [LnZ]; omega)) [wrap64, H.rep.len]
  refine (c_pick R H.sw1 hp hp2 ⟨by omega, by omega⟩).go ?_
  rintro _ h1 ⟨r, rfl, hr, hr0, hr1, H⟩
  obtain ⟨i, rfl⟩ : ∃ i : Nat, r = i := ⟨r.toNat, (Int.toNat_of_nonneg hr0).symm⟩
  have hi : i < xs.length := by have := hr1 (by omega); omega
  have hok := H.sw1.rep.okI hi
  simp -implicitDefEqProofs (disch := first | omega | (simp only [LnZ]; omega)) [wrap64, H.sw1.rep.I]
  exact RetK.keep (hk _ _ ⟨xs[i], rfl, ⟨hok.1, hok.2⟩, List.getElem_mem hi, H.sw1.drop⟩)

theorem c_l16Open {h : Heap} {v : Value} {l : List (BitVec 8)} (R : Rep h v l) : CallE Try.prog fn_spec_l16Open [v] h (fun u h' => ∃ b sl, ∃ l' : List (BitVec 8), u = .pointer (some ⟨b, 0, none⟩) ∧ Rep h sl l' ∧ HS h [rb b sl 0] h') := by
  have hL := R.lt
  refine CallE.gen fun k hk => EN_spec_l16Open rfl ?_
  by_cases a1 : (2000 : Int) < l.length
  · obtain ⟨v', e1, R'⟩ := R.cut (n := 2000) (esz := 1) (k := .i64) (by omega)
    have hO := R'.one
    have e2 : sliceVV 1 v none (some (some (.int .i64 2000))) none = some v' := e1
    simp -implicitDefEqProofs (disch := first | omega | (simp only [LnZ]; omega)) [wrap64, R.len, a1, e2, setC, hO, R'.cells]
    refine HS.init.alloc rfl fun b h1 H => ?_
    simp -implicitDefEqProofs (disch := first | omega | (simp only [LnZ]; omega)) [wrap64]
    exact RetK.keep (hk _ _ ⟨b, v', _, rfl, R', H⟩)
  · have hO := R.one
    simp -implicitDefEqProofs (disch := first | omega | (simp only [LnZ]; omega)) [wrap64, R.len, a1, setC, hO, R.cells]
    refine HS.init.alloc rfl fun b h1 H => ?_
    simp -implicitDefEqProofs (disch := first | omega | (simp only [LnZ]; omega)) [wrap64]
    exact RetK.keep (hk _ _ ⟨b, v, _, rfl, R, H⟩)
end Go.Proofs.Ytglnelcmcimljaa

/-
  From a law as a call to the row's statement: what is read as data stands for a piece of plain data; what was there before stays.
-/
namespace Go.Proofs.Ytglnelcmcimljaa
open Go Go.RowKit
set_option linter.all false
set_option linter.unusedVariables false
set_option linter.unusedSimpArgs false
set_option linter.defProp false
set_option maxRecDepth 1000000

/-- the whole memory -/
def whole (w : World) : Heap := fun b => w.heap[b]?

theorem calls_law {P : Program} {f : FuncId} {fn : Func} {args : List Value} {W : World} (hf : P.funcs[f]? = some fn) (hname : (fn.name == "runtime.NumGoroutine") = false) (hb : fn.body.isSome = true)
    (h : CallE P f args (whole W) (fun u h' => (whole W).le h' ∧ u = .bool true)) : Calls P f args.toArray W fun e W' => e = .returned (.bool true) ∧ Below W.heap.size W W' := by
  have h1 := h W (fun b o hb => hb)
  obtain ⟨bd, hbd⟩ := Option.isSome_iff_exists.1 hb
  have hname' : ¬ fn.name = "runtime.NumGoroutine" := by simpa using hname
  have hcall : (callFunc f args.toArray).run P W = .ok (.enter f args.toArray) W := by
    simp [callFunc, hf, hname', hbd]
  rw [hcall] at h1
  refine Calls.mono h1 ?_
  rintro e W' ⟨v, h', rfl, ⟨hl, rfl⟩, hs, hF⟩
  refine ⟨rfl, hF.os, hF.tape, hF.output, hF.size, ?_⟩
  intro k hk
  have h2 : whole W k = some W.heap[k] := by simp [whole, hk]
  rw [hs _ _ (hl _ _ h2)]
  simp [hk]

section
variable {H : Type} {enc : TypeId × Value → H} {P : Program}
theorem trodAll_below (hl : laidOutB P = true) {W W' : World} : ∀ {ts : List TypeId} {vs : List Value} {ds : List (DataW H)} {ps : List MemPlace}, (∀ t ∈ ts, P.readableRec t = true ∧ t < P.types.size) →
    DataW.TrodAll enc P W 0 (fun _ => true) true ts vs ds ps → Below W.heap.size W W' → (∀ x ∈ ps, x.block < W.heap.size) → DataW.TrodAll enc P W' 0 (fun b => decide (b < W.heap.size)) true ts vs ds ps
  | [], [], [], _, _, h, _, _ => h
  | _ :: _, _ :: _, _ :: _, _, ht, ⟨p, q, h1, h2, e⟩, hb, hlt =>
    ⟨p, q, Below.trod hl (ht _ (by simp)).1 (ht _ (by simp)).2 h1 hb (fun x hx => hlt x (by rw [e]; exact List.mem_append_left _ hx)),
      trodAll_below hl (fun t h => ht t (by simp [h])) h2 hb (fun x hx => hlt x (by rw [e]; exact List.mem_append_right _ hx)), e⟩

theorem kept_below {W W' : World} (hb : Below W.heap.size W W') (may : MemPlace → Prop) : W.keptBut W' may := by
  refine ⟨hb.os, hb.output, fun i hi => ?_⟩
  rw [hb.block i hi]
  split
  · rename_i h1 h2; rw [h1] at h2; simp only [Option.some.injEq, Obj.cells.injEq] at h2; obtain ⟨rfl, rfl, rfl⟩ := h2; exact ⟨rfl, rfl, rfl, fun _ _ => rfl⟩
  · rename_i h1 h2; rw [h1] at h2; simp only [Option.some.injEq, Obj.map.injEq] at h2; obtain ⟨rfl, rfl⟩ := h2; exact .inr ⟨rfl, rfl⟩
  · rfl

/-- THE LAW's CONTRACT: true; the arguments as they were -/
theorem post_law {f : Func} {s : ChangeSpec} {W W' : World} {args : Array Value} {ds gs : List (DataW H)} {before : List MemPlace} (hl : laidOutB P = true) (hvars : s.vars = []) (ht : ∀ t ∈ f.params.toList, P.readableRec t = true ∧ t < P.types.size)
    (hr : ∃ t, f.resultTypes = #[t] ∧ P.underlying t = some .bool) (hspec : (s.fn H (ds ++ gs)).results = [.lit (.bool true)] ∧ (s.fn H (ds ++ gs)).args = ds ∧ (s.fn H (ds ++ gs)).vars = [])
    (hW : DataW.Whole enc P f.params.toList s.vars false W args.toList ds gs before) (hb : Below W.heap.size W W') : s.post enc P f false true false false W args (.bool true) W' := by
  obtain ⟨t, ht1, ht2⟩ := hr
  obtain ⟨h1, h2, h3⟩ := hspec
  have hW' := hW
  obtain ⟨p, q, hA, hV, rfl, hz, hn⟩ := hW
  rw [hvars] at hV
  obtain ⟨rfl, rfl⟩ := Go.ChangeShapes.trodVars_none hV
  have hlt : ∀ x ∈ p ++ [], x.block < W.heap.size := fun x hx => by simpa using hW'.lt x hx
  refine ⟨ds, [], p ++ [], [], p, [], hW', ?_, ?_, ?_, World.keptBut_mono (fun x hx => ⟨by simpa using hx, .inr (.inl (by simpa using hx))⟩) (kept_below hb (fun x => x ∈ p)), by simp⟩
  · rw [h1, ht1]
    exact trodAll_cons_mk (shut_bool ht2 _) Go.ChangeShapes.trodAll_mk0
  · rw [h2]
    exact trodAll_below hl ht hA hb (fun x hx => hlt x (by simpa using hx))
  · rw [h3, hvars]; rfl
end

/-- what a piece of data weighs is within the reach -/
def wOk {H : Type} (P : Program) (t : TypeId) (d : DataW H) : Prop := ∀ n ∈ d.weights P t, n ≤ reachBytes
theorem wOk_all {H : Type} {P : Program} {e : TypeId} : ∀ {l : List (DataW H)}, (∀ n ∈ DataW.weightsAll P e l, n ≤ reachBytes) → ∀ d ∈ l, wOk P e d
  | [], _, d, hd => by simp at hd
  | x :: l, h, d, hd => by
    simp only [DataW.weightsAll, List.mem_append] at h
    rcases List.mem_cons.1 hd with rfl | hd
    · exact fun n hn => h n (.inl hn)
    · exact wOk_all (fun n hn => h n (.inr hn)) d hd
theorem wOk_each {H : Type} {P : Program} : ∀ {ts : List TypeId} {l : List (DataW H)}, (∀ n ∈ DataW.weightsEach P ts l, n ≤ reachBytes) → ∀ (i : Nat) t d, ts[i]? = some t → l[i]? = some d → wOk P t d
  | [], _, _, i, t, d, h1, _ => by simp at h1
  | _ :: _, [], _, i, t, d, _, h2 => by simp at h2
  | t0 :: ts, x :: l, h, 0, t, d, h1, h2 => by
    simp at h1 h2; subst h1 h2
    exact fun n hn => h n (by simp only [DataW.weightsEach, List.mem_append]; exact .inl hn)
  | t0 :: ts, x :: l, h, i + 1, t, d, h1, h2 => wOk_each (ts := ts) (l := l) (fun n hn => h n (by simp only [DataW.weightsEach, List.mem_append]; exact .inr hn)) i t d (by simpa using h1) (by simpa using h2)

/- what is read stands for plain data -/
def RdT (P : Program) (t : TypeId) (α : Type) [Ty α] : Prop := ∀ {H : Type} (enc : TypeId × Value → H) (W : World) (sp : Nat → Bool) (fuel : Nat) (cs : List Value) (x : DataW H × List MemPlace),
  DataW.trod enc P W 0 sp true fuel t cs = some x → wOk P t x.1 → ∃ y : α, Ty.rep (whole W) cs y

section
variable {P : Program} {t : TypeId}
theorem cells_whole {W : World} {b off : Nat} : ∀ {n : Nat} {l : List Value}, W.cells? 0 ⟨b, off, none⟩ n = some l → hcells (whole W) b off n = some l := by
  have key : ∀ n o l, (List.range' o n).mapM (fun i => W.cell? ((⟨b, off, none⟩ : Addr).add i)) = some l → hcells (whole W) b (off + o) n = some l := by
    intro n
    induction n with
    | zero => intro o l h; simpa [hcells] using h
    | succ n ih =>
      intro o l h
      rw [List.range'_succ, List.mapM_cons] at h
      simp only [Option.bind_eq_bind, Option.bind_eq_some_iff, Option.pure_def, Option.some.injEq] at h
      obtain ⟨v, h1, r, h2, rfl⟩ := h
      have h3 := ih (o + 1) r h2
      have h4 : hcell (whole W) b (off + o) = some v := by
        rw [addr_add0] at h1
        simp only [World.cell?, Option.isSome_none, Bool.false_eq_true, if_false] at h1
        simp only [hcell, whole]
        split at h1
        · rename_i hb; rw [hb]; exact h1
        · simp at h1
      simp only [hcells, h4]
      rw [show off + o + 1 = off + (o + 1) by omega, h3]
  intro n l h
  simp only [World.cells?, Nat.zero_le, if_true] at h
  rw [List.range_eq_range'] at h
  exact key n 0 l h

theorem cells_spot {W : World} {b off s n : Nat} (hn : 0 < n) : W.cells? 0 ⟨b, off, some s⟩ n = none := by
  simp only [World.cells?, Nat.zero_le, if_true]
  cases n with
  | zero => omega
  | succ n =>
    rw [List.range_succ_eq_map, List.mapM_cons]
    have : W.cell? ((⟨b, off, some s⟩ : Addr).add 0) = none := by
      simp only [Addr.add, if_true, World.cell?]
      split <;> simp
    rw [this]; rfl

theorem rd_list {α : Type} [Ty α] {e : TypeId} (ht : P.underlying t = some (.slice e)) (hc : P.cellsOf e = Ty.sz α) (hpos : 0 < Ty.sz α) (hby : 0 < P.bytesOf e) (he : RdT P e α) : RdT P t (List α) := by
  intro H enc W sp fuel cs x h hwt
  rcases Go.Deep.open_slice ht h with ⟨rfl, _⟩ | ⟨a, len, cap, m, n, D, Pl, rfl, _, hlen, hcap, hm, rfl, hel⟩
  · exact ⟨[], none, 0, rfl, by simp, trivial, fun i hi => by simp at hi⟩
  · have hle : len ≤ m := by rw [hm]; split <;> omega
    simp only [wOk, DataW.weights, ht, List.mem_cons, List.mem_append] at hwt
    have hsz : len ≤ reachBytes := by
      have h1 := hwt _ (.inl rfl)
      simp only [List.length_map, List.length_range] at h1
      have h2 : len * 1 ≤ (len + (m - len)) * P.bytesOf e := Nat.mul_le_mul (by omega) hby
      omega
    have hwe := wOk_all (fun n hn => hwt n (.inr (.inl hn)))
    have hall : ∀ i, i < len → ∃ y : α, ∃ b off vs, some a = some (⟨b, off, none⟩ : Addr) ∧ hcells (whole W) b (off + i * Ty.sz α) (Ty.sz α) = some vs ∧ Ty.rep (whole W) vs y := by
      intro i hi
      obtain ⟨cs', h1, h2⟩ := hel i (by omega)
      obtain ⟨y, hy⟩ := he enc W sp n cs' _ h2 (hwe _ (List.mem_map.2 ⟨i, by simpa using hi, rfl⟩))
      obtain ⟨b, off, spot⟩ := a
      rw [hc] at h1
      -- the address is plain: its first element could be read
      have h0 : spot = none := by
        cases spot with
        | none => rfl
        | some s =>
          obtain ⟨cs0, g1, _⟩ := hel 0 (by omega)
          rw [hc] at g1
          simp only [Nat.zero_mul, Addr.add, if_true] at g1
          rw [cells_spot hpos] at g1
          simp at g1
      subst h0
      rw [addr_add0] at h1
      exact ⟨y, b, off, cs', rfl, cells_whole h1, hy⟩
    have hch : ∃ l : List α, l.length = len ∧ ∀ i (hi : i < l.length), ∃ b off vs, some a = some (⟨b, off, none⟩ : Addr) ∧ hcells (whole W) b (off + i * Ty.sz α) (Ty.sz α) = some vs ∧ Ty.rep (whole W) vs l[i] := by
      refine ⟨(List.finRange len).map fun i => Classical.choose (hall i.1 i.2), by simp, fun i hi => ?_⟩
      have hi' : i < len := by simpa using hi
      have := Classical.choose_spec (hall i hi')
      simpa using this
    obtain ⟨l, hl, hr⟩ := hch
    refine ⟨l, some a, cap, by rw [hl], ⟨by omega, ?_⟩, trivial, hr⟩
    have : reachBytes < 4611686018427387904 := by decide
    omega

end

section
variable {P : Program} {W : World} {r : Reach} {base : Nat} {t e : TypeId} {v : Value}
theorem okWide_slice (ht : P.underlying t = some (.slice e)) (h : Value.okWide P W r base t v) : ∃ a n c, v = .slice a n c := by
  unfold Value.okWide at h
  rw [ht] at h
  simp only [Cell.okWide, ht] at h
  cases v <;> simp [Cell.ok, ht] at h ⊢
end
end Go.Proofs.Ytglnelcmcimljaa

/-
  Bytes as arguments of laws.
-/
namespace Go.Proofs.Ytglnelcmcimljaa
open Go
set_option linter.all false
set_option linter.unusedVariables false
set_option linter.unusedSimpArgs false
set_option linter.defProp false
set_option maxRecDepth 1000000
theorem rd_u8 {P : Program} {t : TypeId} (ht : P.underlying t = some (.int .u8)) : RdT P t (BitVec 8) := by
  intro H enc W sp fuel cs x h hwt
  cases fuel with
  | zero => simp [DataW.trod] at h
  | succ n =>
    unfold DataW.trod at h
    rw [ht] at h
    split at h
    case h_2 k k' m h1 =>
      simp only [Option.some.injEq, TypeDesc.int.injEq] at h1
      subst h1
      split at h
      case isTrue hc =>
        obtain ⟨rfl, hw⟩ := hc
        have := bounds_u8 hw
        refine ⟨BitVec.ofNat 8 m.toNat, ?_⟩
        show _ = [Value.int .u8 ((BitVec.ofNat 8 m.toNat).toNat : Int)]
        have e : ((BitVec.ofNat 8 m.toNat).toNat : Int) = m := by
          rw [BitVec.toNat_ofNat, Nat.mod_eq_of_lt (by omega)]; omega
        rw [e]
      case isFalse => simp at h
    all_goals simp_all
end Go.Proofs.Ytglnelcmcimljaa

/-
  Bodies of functions in the small language, as a program printed them, and that each is what the translation gives.
-/
namespace Go.Proofs.Ytglnelcmcimljaa
open Go
set_option linter.all false
set_option linter.defProp false
set_option maxRecDepth 1000000

def H_impl_Automaton_trim : Hint := ⟨[(0, false), (1, true), (2, true), (3, false), (4, false), (5, false), (6, true), (7, false), (9, false), (11, true), (23, false), (24, false), (64, false), (65, false), (66, false), (86, false), (87, false), (88, false)], [[0, 7, 8, 9, 12, 13, 14, 15, 16, 17], [0, 3, 4, 7, 8, 9, 10, 11, 15, 16, 17], [0, 1, 3, 4, 7, 8, 9, 10, 11, 12, 13, 14]]⟩
def K90_1 : Pl := .st (.act none (.pset none 2 0 3 (.v 19))) .done
@[simp] def W90_1 := @Pl.wpe _ _ K90_1.eq_1
def K90_2 : C := .seq (.pl <| .st (.ext 18 2) <|
    .st (.act none (.pget (some 18) none 6 0 (some 3))) <|
    .st (.act none (.ex (some 19) (.call fn_impl_Automaton_copyOf [.v 18]))) K90_1) (.ret)
@[simp] def W90_2 := @C.wpe _ _ K90_2.eq_1
def K90_3 : C := .pl <| .st (.ext 18 1) <|
    .st (.act none (.px (some 18) (.bin .add (.v 17) (.c (.int .i64 1))))) <|
    .st (.act none (.px (some 17) (.mv (.v 18)))) .done
@[simp] def W90_3 := @C.wpe _ _ K90_3.eq_1
def K90_4 : Pl := .st (.act none (.als 37 none 6)) <|
    .st (.act none (.pset (some 37) 6 2 1 (.v 36))) .done
@[simp] def W90_4 := @Pl.wpe _ _ K90_4.eq_1
def K90_5 : C := .pl <| .st (.ext 18 20) <|
    .st (.act none (.als 18 none 6)) <|
    .st (.act none (.pget (some 19) (some 18) 6 2 none)) <|
    .st (.act none (.px (some 20) (.mv (.v 5)))) <|
    .st (.act none (.als 21 none 9)) <|
    .st (.act none (.pget (some 22) (some 21) 9 0 none)) <|
    .st (.act none (.px (some 23) (.ia 1 (.v 20) (.v 22)))) <|
    .st (.act none (.ld (some 24) (.v 23) none)) <|
    .st (.act none (.als 25 none 9)) <|
    .st (.act none (.pget (some 26) (some 25) 9 1 none)) <|
    .st (.act none (.als 27 none 9)) <|
    .st (.act none (.pget (some 28) (some 27) 9 2 none)) <|
    .st (.act none (.px (some 29) (.mv (.v 5)))) <|
    .st (.act none (.als 30 none 9)) <|
    .st (.act none (.pget (some 31) (some 30) 9 3 none)) <|
    .st (.act none (.px (some 32) (.ia 1 (.v 29) (.v 31)))) <|
    .st (.act none (.ld (some 33) (.v 32) none)) <|
    .st (.act none (.px (some 34) (.build [.int .i64 0, .int .i64 0, .int .i64 0, .int .i64 0] [(0, 1, .v 24), (1, 1, .v 26), (2, 1, .v 28), (3, 1, .v 33)]))) <|
    .st (.act none (.psl 35 [.int .i64 0, .int .i64 0, .int .i64 0, .int .i64 0] [(0, 4, .v 34)])) <|
    .st (.act none (.ex (some 36) (.app 32 4 [.int .i64 0, .int .i64 0, .int .i64 0, .int .i64 0] (.o (.v 19)) (.p 1 35)))) K90_4
@[simp] def W90_5 := @C.wpe _ _ K90_5.eq_1
def K90_6 : C := .cond 18 (.v 31) K90_5 (.skip)
@[simp] def W90_6 := @C.wpe _ _ K90_6.eq_1
def K90_7 : C := .seq (.pl <| .st (.ext 18 14) <|
    .st (.act none (.px (some 18) (.mv (.v 5)))) <|
    .st (.act none (.als 19 none 9)) <|
    .st (.act none (.pget (some 20) (some 19) 9 0 none)) <|
    .st (.act none (.px (some 21) (.ia 1 (.v 18) (.v 20)))) <|
    .st (.act none (.ld (some 22) (.v 21) none)) <|
    .st (.act none (.px (some 23) (.bin .geq (.v 22) (.c (.int .i64 0))))) <|
    .st (.act none (.px (some 24) (.mv (.v 23)))) <|
    .st (.act (some (.v 24, true)) (.px (some 25) (.mv (.v 5)))) <|
    .st (.act (some (.v 24, true)) (.als 26 none 9)) <|
    .st (.act (some (.v 24, true)) (.pget (some 27) (some 26) 9 3 none)) <|
    .st (.act (some (.v 24, true)) (.px (some 28) (.ia 1 (.v 25) (.v 27)))) <|
    .st (.act (some (.v 24, true)) (.ld (some 29) (.v 28) none)) <|
    .st (.act (some (.v 24, true)) (.px (some 30) (.bin .geq (.v 29) (.c (.int .i64 0))))) <|
    .st (.act none (.px (some 31) (.pick (.v 24) (.v 30) (.c (.bool false))))) .done) K90_6
@[simp] def W90_7 := @C.wpe _ _ K90_7.eq_1
def K90_8 : C := .seq (.block 5 (.seq (.pl <| .st (.ext 18 2) <|
    .st (.act none (.px (some 18) (.ia 4 (.v 15) (.v 17)))) <|
    .st (.act none (.ld (some 19) (.v 18) (some 4))) <|
    .st (.act none (.pnew 9 (.c (.agg #[.int .i64 0, .int .i64 0, .int .i64 0, .int .i64 0])) [])) <|
    .st (.act none (.pset none 9 0 4 (.v 19))) .done) K90_7)) K90_3
@[simp] def W90_8 := @C.wpe _ _ K90_8.eq_1
def K90_9 : C := .seq (.cond 18 (.v 18) (.skip) (.exit 4)) K90_8
@[simp] def W90_9 := @C.wpe _ _ K90_9.eq_1
def K90_10 : C := .seq (.pl <| .st (.ext 18 1) <|
    .st (.act none (.px (some 18) (.bin .lss (.v 17) (.v 16)))) .done) K90_9
@[simp] def W90_10 := @C.wpe _ _ K90_10.eq_1
def K90_11 : C := .block 4 (.loop 18 [0, 1, 3, 4, 7, 8, 9, 10, 11, 12, 13, 14] K90_10)
@[simp] def W90_11 := @C.wpe _ _ K90_11.eq_1
def K90_12 : C := .seq (.seq (.pl <| .st (.ext 18 1) <|
    .st (.act none (.als 18 none 1)) <|
    .st (.act none (.pget (some 15) (some 18) 1 2 none)) <|
    .st (.act none (.px (some 16) (.lenV (.v 15)))) <|
    .st (.act none (.px (some 17) (.mv (.c (.int .i64 0))))) .done) K90_11) K90_2
@[simp] def W90_12 := @C.wpe _ _ K90_12.eq_1
def K90_13 : C := .pl <| .st (.ext 18 1) <|
    .st (.act none (.px (some 18) (.bin .add (.v 14) (.c (.int .i64 1))))) <|
    .st (.act none (.px (some 14) (.mv (.v 18)))) .done
@[simp] def W90_13 := @C.wpe _ _ K90_13.eq_1
def K90_14 : Pl := .st (.act none (.als 26 none 6)) <|
    .st (.act none (.pset (some 26) 6 0 1 (.v 25))) .done
@[simp] def W90_14 := @Pl.wpe _ _ K90_14.eq_1
def K90_15 : C := .pl <| .st (.ext 18 9) <|
    .st (.act none (.als 18 none 6)) <|
    .st (.act none (.pget (some 19) (some 18) 6 0 none)) <|
    .st (.act none (.px (some 20) (.mv (.v 5)))) <|
    .st (.act none (.px (some 21) (.mv (.v 8)))) <|
    .st (.act none (.px (some 22) (.ia 1 (.v 20) (.v 21)))) <|
    .st (.act none (.ld (some 23) (.v 22) none)) <|
    .st (.act none (.psl 24 [.int .i64 0] [(0, 1, .v 23)])) <|
    .st (.act none (.ex (some 25) (.app 8 1 [.int .i64 0] (.o (.v 19)) (.p 1 24)))) K90_14
@[simp] def W90_15 := @C.wpe _ _ K90_15.eq_1
def K90_16 : C := .cond 18 (.v 22) K90_15 (.skip)
@[simp] def W90_16 := @C.wpe _ _ K90_16.eq_1
def K90_17 : C := .seq (.pl <| .st (.ext 18 5) <|
    .st (.act none (.px (some 18) (.mv (.v 5)))) <|
    .st (.act none (.px (some 19) (.mv (.v 8)))) <|
    .st (.act none (.px (some 20) (.ia 1 (.v 18) (.v 19)))) <|
    .st (.act none (.ld (some 21) (.v 20) none)) <|
    .st (.act none (.px (some 22) (.bin .geq (.v 21) (.c (.int .i64 0))))) .done) K90_16
@[simp] def W90_17 := @C.wpe _ _ K90_17.eq_1
def K90_18 : C := .seq (.block 3 (.seq (.pl <| .st (.ext 18 2) <|
    .st (.act none (.px (some 18) (.ia 1 (.v 12) (.v 14)))) <|
    .st (.act none (.ld (some 19) (.v 18) none)) <|
    .st (.act none (.px (some 8) (.mv (.v 19)))) .done) K90_17)) K90_13
@[simp] def W90_18 := @C.wpe _ _ K90_18.eq_1
def K90_19 : C := .seq (.cond 18 (.v 18) (.skip) (.exit 2)) K90_18
@[simp] def W90_19 := @C.wpe _ _ K90_19.eq_1
def K90_20 : C := .seq (.pl <| .st (.ext 18 1) <|
    .st (.act none (.px (some 18) (.bin .lss (.v 14) (.v 13)))) .done) K90_19
@[simp] def W90_20 := @C.wpe _ _ K90_20.eq_1
def K90_21 : C := .block 2 (.loop 18 [0, 3, 4, 7, 8, 9, 10, 11, 15, 16, 17] K90_20)
@[simp] def W90_21 := @C.wpe _ _ K90_21.eq_1
def K90_22 : C := .seq (.seq (.pl <| .st (.ext 18 1) <|
    .st (.act none (.als 18 none 1)) <|
    .st (.act none (.pget (some 12) (some 18) 1 0 none)) <|
    .st (.act none (.px (some 13) (.lenV (.v 12)))) <|
    .st (.act none (.px (some 14) (.mv (.c (.int .i64 0))))) .done) K90_21) K90_12
@[simp] def W90_22 := @C.wpe _ _ K90_22.eq_1
def K90_23 : Pl := .st (.act none (.px (some 19) (.build [.slice none 0 0, .slice none 0 0, .slice none 0 0] [(1, 1, .v 18)]))) <|
    .st (.act none (.pset none 2 0 3 (.v 19))) .done
@[simp] def W90_23 := @Pl.wpe _ _ K90_23.eq_1
def K90_24 : C := .seq (.pl <| .st (.ext 18 2) <|
    .st (.act none (.ex (some 18) (.mks 1 1 [.bool false] (.c (.int .i64 1)) (.c (.int .i64 1))))) K90_23) (.ret)
@[simp] def W90_24 := @C.wpe _ _ K90_24.eq_1
def K90_25 : C := .cond 18 (.v 21) K90_24 (.skip)
@[simp] def W90_25 := @C.wpe _ _ K90_25.eq_1
def K90_26 : C := .seq (.seq (.pl <| .st (.ext 18 4) <|
    .st (.act none (.als 18 none 6)) <|
    .st (.act none (.pget (some 19) (some 18) 6 1 none)) <|
    .st (.act none (.px (some 20) (.lenV (.v 19)))) <|
    .st (.act none (.px (some 21) (.bin .eql (.v 20) (.c (.int .i64 0))))) .done) K90_25) K90_22
@[simp] def W90_26 := @C.wpe _ _ K90_26.eq_1
def K90_27 : C := .pl <| .st (.ext 18 1) <|
    .st (.act none (.px (some 18) (.bin .add (.v 11) (.c (.int .i64 1))))) <|
    .st (.act none (.px (some 11) (.mv (.v 18)))) .done
@[simp] def W90_27 := @C.wpe _ _ K90_27.eq_1
def K90_28 : Pl := .st (.act none (.als 27 none 6)) <|
    .st (.act none (.pset (some 27) 6 1 1 (.v 26))) .done
@[simp] def W90_28 := @Pl.wpe _ _ K90_28.eq_1
def K90_29 : C := .pl <| .st (.ext 18 10) <|
    .st (.act none (.als 18 none 6)) <|
    .st (.act none (.pget (some 19) (some 18) 6 1 none)) <|
    .st (.act none (.als 20 none 1)) <|
    .st (.act none (.pget (some 21) (some 20) 1 1 none)) <|
    .st (.act none (.px (some 22) (.mv (.v 7)))) <|
    .st (.act none (.px (some 23) (.ia 1 (.v 21) (.v 22)))) <|
    .st (.act none (.ld (some 24) (.v 23) none)) <|
    .st (.act none (.psl 25 [.bool false] [(0, 1, .v 24)])) <|
    .st (.act none (.ex (some 26) (.app 1 1 [.bool false] (.o (.v 19)) (.p 1 25)))) K90_28
@[simp] def W90_29 := @C.wpe _ _ K90_29.eq_1
def K90_30 : C := .seq (.pl <| .st (.ext 18 6) <|
    .st (.act none (.px (some 18) (.mv (.v 5)))) <|
    .st (.act none (.px (some 19) (.mv (.v 7)))) <|
    .st (.act none (.als 20 none 6)) <|
    .st (.act none (.pget (some 21) (some 20) 6 1 none)) <|
    .st (.act none (.px (some 22) (.lenV (.v 21)))) <|
    .st (.act none (.px (some 23) (.ia 1 (.v 18) (.v 19)))) <|
    .st (.act none (.ex none (.store 1 (.v 23) (.v 22)))) .done) K90_29
@[simp] def W90_30 := @C.wpe _ _ K90_30.eq_1
def K90_31 : C := .cond 18 (.v 27) K90_30 (.skip)
@[simp] def W90_31 := @C.wpe _ _ K90_31.eq_1
def K90_32 : C := .seq (.pl <| .st (.ext 18 10) <|
    .st (.act none (.px (some 18) (.mv (.v 3)))) <|
    .st (.act none (.px (some 19) (.mv (.v 7)))) <|
    .st (.act none (.px (some 20) (.ia 1 (.v 18) (.v 19)))) <|
    .st (.act none (.ld (some 21) (.v 20) none)) <|
    .st (.act none (.px (some 22) (.mv (.v 21)))) <|
    .st (.act (some (.v 22, true)) (.px (some 23) (.mv (.v 4)))) <|
    .st (.act (some (.v 22, true)) (.px (some 24) (.mv (.v 7)))) <|
    .st (.act (some (.v 22, true)) (.px (some 25) (.ia 1 (.v 23) (.v 24)))) <|
    .st (.act (some (.v 22, true)) (.ld (some 26) (.v 25) none)) <|
    .st (.act none (.px (some 27) (.pick (.v 22) (.v 26) (.c (.bool false))))) .done) K90_31
@[simp] def W90_32 := @C.wpe _ _ K90_32.eq_1
def K90_33 : C := .seq (.pl <| .st (.ext 18 3) <|
    .st (.act none (.px (some 18) (.mv (.v 5)))) <|
    .st (.act none (.px (some 19) (.mv (.v 7)))) <|
    .st (.act none (.px (some 20) (.ia 1 (.v 18) (.v 19)))) <|
    .st (.act none (.ex none (.store 1 (.v 20) (.c (.int .i64 (-1)))))) .done) K90_32
@[simp] def W90_33 := @C.wpe _ _ K90_33.eq_1
def K90_34 : C := .seq (.block 1 (.seq (.pl <| .st (.ext 18 1) <|
    .st (.act none (.px (some 18) (.mv (.v 11)))) <|
    .st (.act none (.px (some 7) (.mv (.v 18)))) .done) K90_33)) K90_27
@[simp] def W90_34 := @C.wpe _ _ K90_34.eq_1
def K90_35 : C := .seq (.cond 18 (.v 18) (.skip) (.exit 0)) K90_34
@[simp] def W90_35 := @C.wpe _ _ K90_35.eq_1
def K90_36 : C := .seq (.pl <| .st (.ext 18 1) <|
    .st (.act none (.px (some 18) (.bin .lss (.v 11) (.v 10)))) .done) K90_35
@[simp] def W90_36 := @C.wpe _ _ K90_36.eq_1
def K90_37 : C := .block 0 (.loop 18 [0, 7, 8, 9, 12, 13, 14, 15, 16, 17] K90_36)
@[simp] def W90_37 := @C.wpe _ _ K90_37.eq_1
def K90_38 : C := .seq (.seq (.pl <| .st (.ext 18 1) <|
    .st (.act none (.px (some 18) (.mv (.v 3)))) <|
    .st (.act none (.px (some 10) (.lenV (.v 18)))) <|
    .st (.act none (.px (some 11) (.mv (.c (.int .i64 0))))) .done) K90_37) K90_26
@[simp] def W90_38 := @C.wpe _ _ K90_38.eq_1
def K90_39 : C := .seq (.pl <| .st (.ext 18 0) <|
    .st (.act none (.pnew 6 (.c (.agg #[.slice none 0 0, .slice none 0 0, .slice none 0 0])) [])) .done) K90_38
@[simp] def W90_39 := @C.wpe _ _ K90_39.eq_1
def K90_40 : Pl := .st (.act none (.px (some 5) (.mv (.v 20)))) .done
@[simp] def W90_40 := @Pl.wpe _ _ K90_40.eq_1
def K90_41 : C := .seq (.pl <| .st (.ext 18 3) <|
    .st (.act none (.px (some 18) (.mv (.v 3)))) <|
    .st (.act none (.px (some 19) (.lenV (.v 18)))) <|
    .st (.act none (.ex (some 20) (.mks 8 1 [.int .i64 0] (.v 19) (.v 19)))) K90_40) K90_39
@[simp] def W90_41 := @C.wpe _ _ K90_41.eq_1
def K90_42 : Pl := .st (.act none (.px (some 3) (.mv (.v 22)))) <|
    .st (.act none (.px (some 4) (.mv (.v 24)))) .done
@[simp] def W90_42 := @Pl.wpe _ _ K90_42.eq_1
def K90_43 : Pl := .st (.act none (.ex (some 24) (.call fn_impl_Automaton_live [.v 23]))) K90_42
@[simp] def W90_43 := @Pl.wpe _ _ K90_43.eq_1
def K90_44 : Pl := .st (.act none (.ex (some 22) (.call fn_impl_reachable [.v 19, .v 21]))) K90_43
@[simp] def W90_44 := @Pl.wpe _ _ K90_44.eq_1
def K90_45 : C := .seq (.pl <| .st (.ext 18 7) <|
    .st (.act none (.pget (some 18) none 1 0 (some 3))) <|
    .st (.act none (.als 20 none 1)) <|
    .st (.act none (.pget (some 21) (some 20) 1 0 none)) <|
    .st (.act none (.pget (some 23) none 1 0 (some 3))) <|
    .st (.act none (.ex (some 19) (.call fn_impl_Automaton_next [.v 18]))) K90_44) K90_41
@[simp] def W90_45 := @C.wpe _ _ K90_45.eq_1
def B_impl_Automaton_trim : C := .seq (.pl <| .st (.ext 18 0) <|
    .st (.act none (.pnew 1 (.v 0) [])) <|
    .st (.act none (.pnew 2 (.c (.agg #[.slice none 0 0, .slice none 0 0, .slice none 0 0])) [])) .done) K90_45
@[simp] def WB_impl_Automaton_trim := @C.wpe _ _ B_impl_Automaton_trim.eq_1
def R_impl_Automaton_trim : FIR := ⟨B_impl_Automaton_trim, 18, [(2, some (some 3))]⟩
theorem IR_impl_Automaton_trim : cfun Try.prog H_impl_Automaton_trim Try.f90 = some R_impl_Automaton_trim := by kernel_rfl
theorem EN_impl_Automaton_trim {args : List Value} {h : Heap} {k : Value → Heap → Prop} (hargs : args.length = 1) (hw : B_impl_Automaton_trim.wp Try.prog (retQ [(2, some (some 3))] k) (env0 args 18) h) : CallE Try.prog fn_impl_Automaton_trim args h k := enter Try.func90 rfl IR_impl_Automaton_trim hargs hw

def H_impl_TrimAutomaton : Hint := ⟨[(0, false), (1, true), (2, true), (3, false)], []⟩
def K44_1 : Pl := .st (.act none (.pset none 2 0 3 (.v 5))) <|
    .st (.act none (.px (some 3) (.mv (.c (.bool true))))) .done
@[simp] def W44_1 := @Pl.wpe _ _ K44_1.eq_1
def K44_2 : C := .seq (.pl <| .st (.ext 4 2) <|
    .st (.act none (.pget (some 4) none 1 0 (some 3))) <|
    .st (.act none (.ex (some 5) (.call fn_impl_Automaton_trim [.v 4]))) K44_1) (.ret)
@[simp] def W44_2 := @C.wpe _ _ K44_2.eq_1
def K44_3 : C := .seq (.pl <| .st (.ext 4 1) <|
    .st (.act none (.px (some 4) (.build [.slice none 0 0, .slice none 0 0, .slice none 0 0] []))) <|
    .st (.act none (.pset none 2 0 3 (.v 4))) <|
    .st (.act none (.px (some 3) (.mv (.c (.bool false))))) .done) (.ret)
@[simp] def W44_3 := @C.wpe _ _ K44_3.eq_1
def K44_4 : C := .cond 4 (.v 6) K44_3 (.skip)
@[simp] def W44_4 := @C.wpe _ _ K44_4.eq_1
def K44_5 : Pl := .st (.act none (.px (some 6) (.un .not (.v 5)))) .done
@[simp] def W44_5 := @Pl.wpe _ _ K44_5.eq_1
def K44_6 : C := .seq (.seq (.pl <| .st (.ext 4 3) <|
    .st (.act none (.pget (some 4) none 1 0 (some 3))) <|
    .st (.act none (.ex (some 5) (.call fn_impl_AutomatonValid [.v 4]))) K44_5) K44_4) K44_2
@[simp] def W44_6 := @C.wpe _ _ K44_6.eq_1
def B_impl_TrimAutomaton : C := .seq (.pl <| .st (.ext 4 0) <|
    .st (.act none (.pnew 1 (.v 0) [])) <|
    .st (.act none (.pnew 2 (.c (.agg #[.slice none 0 0, .slice none 0 0, .slice none 0 0])) [])) <|
    .st (.act none (.px (some 3) (.mv (.c (.bool false))))) .done) K44_6
@[simp] def WB_impl_TrimAutomaton := @C.wpe _ _ B_impl_TrimAutomaton.eq_1
def R_impl_TrimAutomaton : FIR := ⟨B_impl_TrimAutomaton, 4, [(2, some (some 3)), (3, none)]⟩
theorem IR_impl_TrimAutomaton : cfun Try.prog H_impl_TrimAutomaton Try.f44 = some R_impl_TrimAutomaton := by kernel_rfl
theorem EN_impl_TrimAutomaton {args : List Value} {h : Heap} {k : Value → Heap → Prop} (hargs : args.length = 1) (hw : B_impl_TrimAutomaton.wp Try.prog (retQ [(2, some (some 3)), (3, none)] k) (env0 args 4) h) : CallE Try.prog fn_impl_TrimAutomaton args h k := enter Try.func44 rfl IR_impl_TrimAutomaton hargs hw

def H_laws_FnTrimAutomaton : Hint := ⟨[(0, false), (1, false), (4, false), (5, true), (6, true), (7, true), (8, true), (9, false), (10, true), (11, false), (12, false), (13, false), (14, false), (15, false), (16, false), (17, false), (18, true), (19, false)], [[0, 1, 2, 3, 4, 5, 7, 8, 9, 16, 17]]⟩
def K10_1 : Pl := .st (.act none (.px (some 33) (.pick (.v 29) (.v 32) (.c (.bool false))))) <|
    .st (.act none (.px (some 2) (.mv (.v 33)))) .done
@[simp] def W10_1 := @Pl.wpe _ _ K10_1.eq_1
def K10_2 : C := .seq (.pl <| .st (.ext 18 16) <|
    .st (.act none (.px (some 18) (.mv (.v 11)))) <|
    .st (.act none (.px (some 19) (.mv (.v 13)))) <|
    .st (.act none (.px (some 20) (.eqb false (.v 18) (.v 19)))) <|
    .st (.act none (.px (some 21) (.mv (.v 20)))) <|
    .st (.act (some (.v 21, true)) (.px (some 22) (.mv (.v 10)))) <|
    .st (.act (some (.v 21, true)) (.px (some 23) (.mv (.v 12)))) <|
    .st (.act (some (.v 21, true)) (.px (some 24) (.eqb false (.v 22) (.v 23)))) <|
    .st (.act none (.px (some 25) (.pick (.v 21) (.v 24) (.c (.bool false))))) <|
    .st (.act none (.px (some 26) (.mv (.v 25)))) <|
    .st (.act (some (.v 26, true)) (.px (some 27) (.mv (.v 17)))) <|
    .st (.act none (.px (some 28) (.pick (.v 26) (.v 27) (.c (.bool false))))) <|
    .st (.act none (.px (some 29) (.mv (.v 28)))) <|
    .st (.act (some (.v 29, true)) (.pget (some 30) none 16 0 (some 3))) <|
    .st (.act (some (.v 29, true)) (.pget (some 31) none 6 0 (some 3))) <|
    .st (.act (some (.v 29, true)) (.ex (some 32) (.call fn_impl_AutomatonSame [.v 30, .v 31]))) K10_1) (.ret)
@[simp] def W10_2 := @C.wpe _ _ K10_2.eq_1
def K10_3 : Pl := .st (.act none (.px (some 20) (.mv (.v 19)))) <|
    .st (.act none (.px (some 21) (.extract 0 (.v 20)))) <|
    .st (.act none (.px (some 22) (.extract 1 (.v 20)))) <|
    .st (.act none (.pnew 16 (.c (.agg #[.slice none 0 0, .slice none 0 0, .slice none 0 0])) [])) <|
    .st (.act none (.pset none 16 0 3 (.v 21))) <|
    .st (.act none (.px (some 17) (.mv (.v 22)))) .done
@[simp] def W10_3 := @Pl.wpe _ _ K10_3.eq_1
def K10_4 : C := .seq (.pl <| .st (.ext 18 5) <|
    .st (.act none (.pget (some 18) none 6 0 (some 3))) <|
    .st (.act none (.ex (some 19) (.call fn_impl_TrimAutomaton [.v 18]))) K10_3) K10_2
@[simp] def W10_4 := @C.wpe _ _ K10_4.eq_1
def K10_5 : C := .pl <| .st (.ext 18 2) <|
    .st (.act none (.px (some 18) (.mv (.v 15)))) <|
    .st (.act none (.px (some 19) (.bin .add (.v 18) (.c (.int .i64 1))))) <|
    .st (.act none (.px (some 15) (.mv (.v 19)))) .done
@[simp] def W10_5 := @C.wpe _ _ K10_5.eq_1
def K10_6 : C := .seq (.pl <| .st (.ext 18 0) <|
    .st (.act none (.px (some 2) (.mv (.c (.bool false))))) .done) (.ret)
@[simp] def W10_6 := @C.wpe _ _ K10_6.eq_1
def K10_7 : C := .cond 18 (.v 39) K10_6 (.skip)
@[simp] def W10_7 := @C.wpe _ _ K10_7.eq_1
def K10_8 : C := .seq (.block 1 (.seq (.pl <| .st (.ext 18 22) <|
    .st (.act none (.px (some 18) (.mv (.v 14)))) <|
    .st (.act none (.px (some 19) (.mv (.v 15)))) <|
    .st (.act none (.px (some 20) (.ia 1 (.v 18) (.v 19)))) <|
    .st (.act none (.ld (some 21) (.v 20) none)) <|
    .st (.act none (.px (some 22) (.un .not (.v 21)))) <|
    .st (.act none (.px (some 23) (.mv (.v 22)))) <|
    .st (.act (some (.v 23, true)) (.px (some 24) (.mv (.v 14)))) <|
    .st (.act (some (.v 23, true)) (.px (some 25) (.lenV (.v 24)))) <|
    .st (.act (some (.v 23, true)) (.px (some 26) (.bin .gtr (.v 25) (.c (.int .i64 1))))) <|
    .st (.act (some (.v 23, true)) (.px (some 27) (.mv (.v 26)))) <|
    .st (.act (some (.v 27, false)) (.als 28 none 6)) <|
    .st (.act (some (.v 27, false)) (.pget (some 29) (some 28) 6 2 none)) <|
    .st (.act (some (.v 27, false)) (.px (some 30) (.lenV (.v 29)))) <|
    .st (.act (some (.v 27, false)) (.px (some 31) (.bin .gtr (.v 30) (.c (.int .i64 0))))) <|
    .st (.act (some (.v 23, true)) (.px (some 32) (.pick (.v 27) (.c (.bool true)) (.v 31)))) <|
    .st (.act (some (.v 23, true)) (.px (some 33) (.mv (.v 32)))) <|
    .st (.act (some (.v 33, false)) (.als 34 none 6)) <|
    .st (.act (some (.v 33, false)) (.pget (some 35) (some 34) 6 0 none)) <|
    .st (.act (some (.v 33, false)) (.px (some 36) (.lenV (.v 35)))) <|
    .st (.act (some (.v 33, false)) (.px (some 37) (.bin .gtr (.v 36) (.c (.int .i64 0))))) <|
    .st (.act (some (.v 23, true)) (.px (some 38) (.pick (.v 33) (.c (.bool true)) (.v 37)))) <|
    .st (.act none (.px (some 39) (.pick (.v 23) (.v 38) (.c (.bool false))))) .done) K10_7)) K10_5
@[simp] def W10_8 := @C.wpe _ _ K10_8.eq_1
def K10_9 : C := .cond 18 (.v 21) (.skip) (.exit 0)
@[simp] def W10_9 := @C.wpe _ _ K10_9.eq_1
def K10_10 : C := .seq (.seq (.pl <| .st (.ext 18 4) <|
    .st (.act none (.px (some 18) (.mv (.v 15)))) <|
    .st (.act none (.px (some 19) (.mv (.v 14)))) <|
    .st (.act none (.px (some 20) (.lenV (.v 19)))) <|
    .st (.act none (.px (some 21) (.bin .lss (.v 18) (.v 20)))) .done) K10_9) K10_8
@[simp] def W10_10 := @C.wpe _ _ K10_10.eq_1
def K10_11 : C := .block 0 (.loop 18 [0, 1, 2, 3, 4, 5, 7, 8, 9, 16, 17] K10_10)
@[simp] def W10_11 := @C.wpe _ _ K10_11.eq_1
def K10_12 : C := .seq (.seq (.pl <| .st (.ext 18 0) <|
    .st (.act none (.px (some 15) (.mv (.c (.int .i64 0))))) .done) K10_11) K10_4
@[simp] def W10_12 := @C.wpe _ _ K10_12.eq_1
def K10_13 : Pl := .st (.act none (.px (some 14) (.mv (.v 19)))) .done
@[simp] def W10_13 := @Pl.wpe _ _ K10_13.eq_1
def K10_14 : C := .seq (.pl <| .st (.ext 18 2) <|
    .st (.act none (.pget (some 18) none 6 0 (some 3))) <|
    .st (.act none (.ex (some 19) (.call fn_impl_LiveStates [.v 18]))) K10_13) K10_12
@[simp] def W10_14 := @C.wpe _ _ K10_14.eq_1
def K10_15 : Pl := .st (.act none (.px (some 21) (.mv (.v 20)))) <|
    .st (.act none (.px (some 22) (.extract 0 (.v 21)))) <|
    .st (.act none (.px (some 23) (.extract 1 (.v 21)))) <|
    .st (.act none (.px (some 12) (.mv (.v 22)))) <|
    .st (.act none (.px (some 13) (.mv (.v 23)))) .done
@[simp] def W10_15 := @Pl.wpe _ _ K10_15.eq_1
def K10_16 : C := .seq (.pl <| .st (.ext 18 6) <|
    .st (.act none (.pget (some 18) none 6 0 (some 3))) <|
    .st (.act none (.pget (some 19) none 5 0 (some 2))) <|
    .st (.act none (.ex (some 20) (.call fn_impl_Accepts [.v 18, .v 19]))) K10_15) K10_14
@[simp] def W10_16 := @C.wpe _ _ K10_16.eq_1
def K10_17 : Pl := .st (.act none (.px (some 21) (.mv (.v 20)))) <|
    .st (.act none (.px (some 22) (.extract 0 (.v 21)))) <|
    .st (.act none (.px (some 23) (.extract 1 (.v 21)))) <|
    .st (.act none (.px (some 10) (.mv (.v 22)))) <|
    .st (.act none (.px (some 11) (.mv (.v 23)))) .done
@[simp] def W10_17 := @Pl.wpe _ _ K10_17.eq_1
def K10_18 : C := .seq (.pl <| .st (.ext 18 6) <|
    .st (.act none (.pget (some 18) none 3 0 (some 3))) <|
    .st (.act none (.pget (some 19) none 5 0 (some 2))) <|
    .st (.act none (.ex (some 20) (.call fn_impl_Accepts [.v 18, .v 19]))) K10_17) K10_16
@[simp] def W10_18 := @C.wpe _ _ K10_18.eq_1
def K10_19 : Pl := .st (.act none (.px (some 25) (.pick (.v 21) (.v 24) (.c (.bool false))))) <|
    .st (.act none (.px (some 2) (.mv (.v 25)))) .done
@[simp] def W10_19 := @Pl.wpe _ _ K10_19.eq_1
def K10_20 : C := .seq (.pl <| .st (.ext 18 8) <|
    .st (.act none (.px (some 18) (.mv (.v 7)))) <|
    .st (.act none (.px (some 19) (.mv (.v 9)))) <|
    .st (.act none (.px (some 20) (.eqb false (.v 18) (.v 19)))) <|
    .st (.act none (.px (some 21) (.mv (.v 20)))) <|
    .st (.act (some (.v 21, true)) (.pget (some 22) none 6 0 (some 3))) <|
    .st (.act (some (.v 21, true)) (.pget (some 23) none 8 0 (some 3))) <|
    .st (.act (some (.v 21, true)) (.ex (some 24) (.call fn_impl_AutomatonSame [.v 22, .v 23]))) K10_19) (.ret)
@[simp] def W10_20 := @C.wpe _ _ K10_20.eq_1
def K10_21 : C := .cond 18 (.v 30) K10_20 (.skip)
@[simp] def W10_21 := @C.wpe _ _ K10_21.eq_1
def K10_22 : Pl := .st (.act (some (.v 21, false)) (.px (some 25) (.un .not (.v 24)))) <|
    .st (.act none (.px (some 26) (.pick (.v 21) (.c (.bool true)) (.v 25)))) <|
    .st (.act none (.px (some 27) (.mv (.v 26)))) <|
    .st (.act (some (.v 27, false)) (.px (some 28) (.mv (.v 7)))) <|
    .st (.act (some (.v 27, false)) (.px (some 29) (.un .not (.v 28)))) <|
    .st (.act none (.px (some 30) (.pick (.v 27) (.c (.bool true)) (.v 29)))) .done
@[simp] def W10_22 := @Pl.wpe _ _ K10_22.eq_1
def K10_23 : C := .seq (.seq (.pl <| .st (.ext 18 13) <|
    .st (.act none (.px (some 18) (.mv (.v 7)))) <|
    .st (.act none (.px (some 19) (.mv (.v 9)))) <|
    .st (.act none (.px (some 20) (.eqb true (.v 18) (.v 19)))) <|
    .st (.act none (.px (some 21) (.mv (.v 20)))) <|
    .st (.act (some (.v 21, false)) (.pget (some 22) none 6 0 (some 3))) <|
    .st (.act (some (.v 21, false)) (.pget (some 23) none 8 0 (some 3))) <|
    .st (.act (some (.v 21, false)) (.ex (some 24) (.call fn_impl_AutomatonSame [.v 22, .v 23]))) K10_22) K10_21) K10_18
@[simp] def W10_23 := @C.wpe _ _ K10_23.eq_1
def K10_24 : Pl := .st (.act none (.px (some 20) (.mv (.v 19)))) <|
    .st (.act none (.px (some 21) (.extract 0 (.v 20)))) <|
    .st (.act none (.px (some 22) (.extract 1 (.v 20)))) <|
    .st (.act none (.pnew 8 (.c (.agg #[.slice none 0 0, .slice none 0 0, .slice none 0 0])) [])) <|
    .st (.act none (.pset none 8 0 3 (.v 21))) <|
    .st (.act none (.px (some 9) (.mv (.v 22)))) .done
@[simp] def W10_24 := @Pl.wpe _ _ K10_24.eq_1
def K10_25 : C := .seq (.pl <| .st (.ext 18 5) <|
    .st (.act none (.pget (some 18) none 3 0 (some 3))) <|
    .st (.act none (.ex (some 19) (.call fn_spec_TrimAutomaton [.v 18]))) K10_24) K10_23
@[simp] def W10_25 := @C.wpe _ _ K10_25.eq_1
def K10_26 : Pl := .st (.act none (.px (some 20) (.mv (.v 19)))) <|
    .st (.act none (.px (some 21) (.extract 0 (.v 20)))) <|
    .st (.act none (.px (some 22) (.extract 1 (.v 20)))) <|
    .st (.act none (.pnew 6 (.c (.agg #[.slice none 0 0, .slice none 0 0, .slice none 0 0])) [])) <|
    .st (.act none (.pset none 6 0 3 (.v 21))) <|
    .st (.act none (.px (some 7) (.mv (.v 22)))) .done
@[simp] def W10_26 := @Pl.wpe _ _ K10_26.eq_1
def K10_27 : C := .seq (.pl <| .st (.ext 18 5) <|
    .st (.act none (.pget (some 18) none 3 0 (some 3))) <|
    .st (.act none (.ex (some 19) (.call fn_impl_TrimAutomaton [.v 18]))) K10_26) K10_25
@[simp] def W10_27 := @C.wpe _ _ K10_27.eq_1
def K10_28 : Pl := .st (.act none (.px (some 20) (.mv (.v 19)))) <|
    .st (.act none (.px (some 21) (.extract 0 (.v 20)))) <|
    .st (.act none (.px (some 22) (.extract 1 (.v 20)))) <|
    .st (.act none (.pnew 4 (.c (.agg #[.slice none 0 0, .slice none 0 0, .slice none 0 0])) [])) <|
    .st (.act none (.pnew 5 (.c (.agg #[.slice none 0 0, .slice none 0 0])) [])) <|
    .st (.act none (.pset none 4 0 3 (.v 21))) <|
    .st (.act none (.pset none 5 0 2 (.v 22))) .done
@[simp] def W10_28 := @Pl.wpe _ _ K10_28.eq_1
def K10_29 : C := .seq (.pl <| .st (.ext 18 5) <|
    .st (.act none (.px (some 18) (.mv (.v 1)))) <|
    .st (.act none (.ex (some 19) (.call fn_spec_DrawAccepts [.v 18]))) K10_28) K10_27
@[simp] def W10_29 := @C.wpe _ _ K10_29.eq_1
def K10_30 : Pl := .st (.act none (.pnew 3 (.c (.agg #[.slice none 0 0, .slice none 0 0, .slice none 0 0])) [])) <|
    .st (.act none (.pset none 3 0 3 (.v 19))) .done
@[simp] def W10_30 := @Pl.wpe _ _ K10_30.eq_1
def K10_31 : C := .seq (.pl <| .st (.ext 18 2) <|
    .st (.act none (.px (some 18) (.mv (.v 0)))) <|
    .st (.act none (.ex (some 19) (.call fn_spec_DrawTrimAutomaton [.v 18]))) K10_30) K10_29
@[simp] def W10_31 := @C.wpe _ _ K10_31.eq_1
def K10_32 : C := .seq (.pl <| .st (.ext 18 0) <|
    .st (.act none (.px (some 2) (.mv (.c (.bool true))))) .done) (.ret)
@[simp] def W10_32 := @C.wpe _ _ K10_32.eq_1
def K10_33 : C := .cond 18 (.v 25) K10_32 (.skip)
@[simp] def W10_33 := @C.wpe _ _ K10_33.eq_1
def K10_34 : C := .seq (.seq (.pl <| .st (.ext 18 8) <|
    .st (.act none (.px (some 18) (.mv (.v 0)))) <|
    .st (.act none (.px (some 19) (.lenV (.v 18)))) <|
    .st (.act none (.px (some 20) (.bin .gtr (.v 19) (.c (.int .i64 1048576))))) <|
    .st (.act none (.px (some 21) (.mv (.v 20)))) <|
    .st (.act (some (.v 21, false)) (.px (some 22) (.mv (.v 1)))) <|
    .st (.act (some (.v 21, false)) (.px (some 23) (.lenV (.v 22)))) <|
    .st (.act (some (.v 21, false)) (.px (some 24) (.bin .gtr (.v 23) (.c (.int .i64 1048576))))) <|
    .st (.act none (.px (some 25) (.pick (.v 21) (.c (.bool true)) (.v 24)))) .done) K10_33) K10_31
@[simp] def W10_34 := @C.wpe _ _ K10_34.eq_1
def B_laws_FnTrimAutomaton : C := .seq (.pl <| .st (.ext 18 0) <|
    .st (.act none (.px (some 2) (.mv (.c (.bool false))))) .done) K10_34
@[simp] def WB_laws_FnTrimAutomaton := @C.wpe _ _ B_laws_FnTrimAutomaton.eq_1
def R_laws_FnTrimAutomaton : FIR := ⟨B_laws_FnTrimAutomaton, 18, [(2, none)]⟩
theorem IR_laws_FnTrimAutomaton : cfun Try.prog H_laws_FnTrimAutomaton Try.f10 = some R_laws_FnTrimAutomaton := by kernel_rfl
theorem EN_laws_FnTrimAutomaton {args : List Value} {h : Heap} {k : Value → Heap → Prop} (hargs : args.length = 2) (hw : B_laws_FnTrimAutomaton.wp Try.prog (retQ [(2, none)] k) (env0 args 18) h) : CallE Try.prog fn_laws_FnTrimAutomaton args h k := enter Try.func10 rfl IR_laws_FnTrimAutomaton hargs hw

def H_spec_TrimAutomaton : Hint := ⟨[(0, false), (1, true), (2, true), (3, false)], []⟩
def K45_1 : Pl := .st (.act none (.pset none 2 0 3 (.v 5))) <|
    .st (.act none (.px (some 3) (.mv (.c (.bool true))))) .done
@[simp] def W45_1 := @Pl.wpe _ _ K45_1.eq_1
def K45_2 : C := .seq (.pl <| .st (.ext 4 2) <|
    .st (.act none (.pget (some 4) none 1 0 (some 3))) <|
    .st (.act none (.ex (some 5) (.call fn_spec_l13Trim [.v 4]))) K45_1) (.ret)
@[simp] def W45_2 := @C.wpe _ _ K45_2.eq_1
def K45_3 : C := .seq (.pl <| .st (.ext 4 1) <|
    .st (.act none (.px (some 4) (.build [.slice none 0 0, .slice none 0 0, .slice none 0 0] []))) <|
    .st (.act none (.pset none 2 0 3 (.v 4))) <|
    .st (.act none (.px (some 3) (.mv (.c (.bool false))))) .done) (.ret)
@[simp] def W45_3 := @C.wpe _ _ K45_3.eq_1
def K45_4 : C := .cond 4 (.v 6) K45_3 (.skip)
@[simp] def W45_4 := @C.wpe _ _ K45_4.eq_1
def K45_5 : Pl := .st (.act none (.px (some 6) (.un .not (.v 5)))) .done
@[simp] def W45_5 := @Pl.wpe _ _ K45_5.eq_1
def K45_6 : C := .seq (.seq (.pl <| .st (.ext 4 3) <|
    .st (.act none (.pget (some 4) none 1 0 (some 3))) <|
    .st (.act none (.ex (some 5) (.call fn_spec_AutomatonValid [.v 4]))) K45_5) K45_4) K45_2
@[simp] def W45_6 := @C.wpe _ _ K45_6.eq_1
def B_spec_TrimAutomaton : C := .seq (.pl <| .st (.ext 4 0) <|
    .st (.act none (.pnew 1 (.v 0) [])) <|
    .st (.act none (.pnew 2 (.c (.agg #[.slice none 0 0, .slice none 0 0, .slice none 0 0])) [])) <|
    .st (.act none (.px (some 3) (.mv (.c (.bool false))))) .done) K45_6
@[simp] def WB_spec_TrimAutomaton := @C.wpe _ _ B_spec_TrimAutomaton.eq_1
def R_spec_TrimAutomaton : FIR := ⟨B_spec_TrimAutomaton, 4, [(2, some (some 3)), (3, none)]⟩
theorem IR_spec_TrimAutomaton : cfun Try.prog H_spec_TrimAutomaton Try.f45 = some R_spec_TrimAutomaton := by kernel_rfl
theorem EN_spec_TrimAutomaton {args : List Value} {h : Heap} {k : Value → Heap → Prop} (hargs : args.length = 1) (hw : B_spec_TrimAutomaton.wp Try.prog (retQ [(2, some (some 3)), (3, none)] k) (env0 args 4) h) : CallE Try.prog fn_spec_TrimAutomaton args h k := enter Try.func45 rfl IR_spec_TrimAutomaton hargs hw

def H_spec_l13Keep : Hint := ⟨[(0, false), (1, false), (2, true), (4, true), (5, true), (6, false), (7, false), (8, false), (9, false), (10, true)], [[0, 7, 8, 9], [0, 6, 8, 9], [0, 6, 7, 9]]⟩
def K137_1 : C := .seq (.pl <| .st (.ext 10 1) <|
    .st (.act none (.pget (some 10) none 4 0 (some 3))) <|
    .st (.act none (.pset none 3 0 3 (.v 10))) .done) (.ret)
@[simp] def W137_1 := @C.wpe _ _ K137_1.eq_1
def K137_2 : Pl := .st (.act none (.als 11 none 4)) <|
    .st (.act none (.pset (some 11) 4 1 1 (.v 10))) .done
@[simp] def W137_2 := @Pl.wpe _ _ K137_2.eq_1
def K137_3 : C := .pl <| .st (.ext 10 2) <|
    .st (.act none (.ex (some 10) (.bls 1 1 [.bool false] [(0, 1, .c (.bool false))]))) K137_2
@[simp] def W137_3 := @C.wpe _ _ K137_3.eq_1
def K137_4 : C := .cond 10 (.v 13) K137_3 (.skip)
@[simp] def W137_4 := @C.wpe _ _ K137_4.eq_1
def K137_5 : C := .seq (.seq (.pl <| .st (.ext 10 4) <|
    .st (.act none (.als 10 none 4)) <|
    .st (.act none (.pget (some 11) (some 10) 4 1 none)) <|
    .st (.act none (.px (some 12) (.lenV (.v 11)))) <|
    .st (.act none (.px (some 13) (.bin .eql (.v 12) (.c (.int .i64 0))))) .done) K137_4) K137_1
@[simp] def W137_5 := @C.wpe _ _ K137_5.eq_1
def K137_6 : C := .pl <| .st (.ext 10 2) <|
    .st (.act none (.px (some 10) (.mv (.v 8)))) <|
    .st (.act none (.px (some 11) (.bin .add (.v 10) (.c (.int .i64 1))))) <|
    .st (.act none (.px (some 8) (.mv (.v 11)))) .done
@[simp] def W137_6 := @C.wpe _ _ K137_6.eq_1
def K137_7 : Pl := .st (.act none (.als 29 none 4)) <|
    .st (.act none (.pset (some 29) 4 2 1 (.v 28))) .done
@[simp] def W137_7 := @Pl.wpe _ _ K137_7.eq_1
def K137_8 : C := .pl <| .st (.ext 10 20) <|
    .st (.act none (.als 10 none 4)) <|
    .st (.act none (.pget (some 11) (some 10) 4 2 none)) <|
    .st (.act none (.px (some 12) (.mv (.v 5)))) <|
    .st (.act none (.als 13 none 9)) <|
    .st (.act none (.pget (some 14) (some 13) 9 0 none)) <|
    .st (.act none (.px (some 15) (.ia 1 (.v 12) (.v 14)))) <|
    .st (.act none (.ld (some 16) (.v 15) none)) <|
    .st (.act none (.als 17 none 9)) <|
    .st (.act none (.pget (some 18) (some 17) 9 1 none)) <|
    .st (.act none (.als 19 none 9)) <|
    .st (.act none (.pget (some 20) (some 19) 9 2 none)) <|
    .st (.act none (.px (some 21) (.mv (.v 5)))) <|
    .st (.act none (.als 22 none 9)) <|
    .st (.act none (.pget (some 23) (some 22) 9 3 none)) <|
    .st (.act none (.px (some 24) (.ia 1 (.v 21) (.v 23)))) <|
    .st (.act none (.ld (some 25) (.v 24) none)) <|
    .st (.act none (.px (some 26) (.build [.int .i64 0, .int .i64 0, .int .i64 0, .int .i64 0] [(0, 1, .v 16), (1, 1, .v 18), (2, 1, .v 20), (3, 1, .v 25)]))) <|
    .st (.act none (.psl 27 [.int .i64 0, .int .i64 0, .int .i64 0, .int .i64 0] [(0, 4, .v 26)])) <|
    .st (.act none (.ex (some 28) (.app 32 4 [.int .i64 0, .int .i64 0, .int .i64 0, .int .i64 0] (.o (.v 11)) (.p 1 27)))) K137_7
@[simp] def W137_8 := @C.wpe _ _ K137_8.eq_1
def K137_9 : C := .cond 10 (.v 21) K137_8 (.skip)
@[simp] def W137_9 := @C.wpe _ _ K137_9.eq_1
def K137_10 : C := .seq (.pl <| .st (.ext 10 12) <|
    .st (.act none (.px (some 10) (.mv (.v 1)))) <|
    .st (.act none (.als 11 none 9)) <|
    .st (.act none (.pget (some 12) (some 11) 9 0 none)) <|
    .st (.act none (.px (some 13) (.ia 1 (.v 10) (.v 12)))) <|
    .st (.act none (.ld (some 14) (.v 13) none)) <|
    .st (.act none (.px (some 15) (.mv (.v 14)))) <|
    .st (.act (some (.v 15, true)) (.px (some 16) (.mv (.v 1)))) <|
    .st (.act (some (.v 15, true)) (.als 17 none 9)) <|
    .st (.act (some (.v 15, true)) (.pget (some 18) (some 17) 9 3 none)) <|
    .st (.act (some (.v 15, true)) (.px (some 19) (.ia 1 (.v 16) (.v 18)))) <|
    .st (.act (some (.v 15, true)) (.ld (some 20) (.v 19) none)) <|
    .st (.act none (.px (some 21) (.pick (.v 15) (.v 20) (.c (.bool false))))) .done) K137_9
@[simp] def W137_10 := @C.wpe _ _ K137_10.eq_1
def K137_11 : C := .seq (.block 5 (.seq (.pl <| .st (.ext 10 5) <|
    .st (.act none (.als 10 none 2)) <|
    .st (.act none (.pget (some 11) (some 10) 2 2 none)) <|
    .st (.act none (.px (some 12) (.mv (.v 8)))) <|
    .st (.act none (.px (some 13) (.ia 4 (.v 11) (.v 12)))) <|
    .st (.act none (.ld (some 14) (.v 13) (some 4))) <|
    .st (.act none (.pnew 9 (.c (.agg #[.int .i64 0, .int .i64 0, .int .i64 0, .int .i64 0])) [])) <|
    .st (.act none (.pset none 9 0 4 (.v 14))) .done) K137_10)) K137_6
@[simp] def W137_11 := @C.wpe _ _ K137_11.eq_1
def K137_12 : C := .cond 10 (.v 14) (.skip) (.exit 4)
@[simp] def W137_12 := @C.wpe _ _ K137_12.eq_1
def K137_13 : C := .seq (.seq (.pl <| .st (.ext 10 5) <|
    .st (.act none (.px (some 10) (.mv (.v 8)))) <|
    .st (.act none (.als 11 none 2)) <|
    .st (.act none (.pget (some 12) (some 11) 2 2 none)) <|
    .st (.act none (.px (some 13) (.lenV (.v 12)))) <|
    .st (.act none (.px (some 14) (.bin .lss (.v 10) (.v 13)))) .done) K137_12) K137_11
@[simp] def W137_13 := @C.wpe _ _ K137_13.eq_1
def K137_14 : C := .block 4 (.loop 10 [0, 6, 7, 9] K137_13)
@[simp] def W137_14 := @C.wpe _ _ K137_14.eq_1
def K137_15 : C := .seq (.seq (.pl <| .st (.ext 10 0) <|
    .st (.act none (.px (some 8) (.mv (.c (.int .i64 0))))) .done) K137_14) K137_5
@[simp] def W137_15 := @C.wpe _ _ K137_15.eq_1
def K137_16 : C := .pl <| .st (.ext 10 2) <|
    .st (.act none (.px (some 10) (.mv (.v 7)))) <|
    .st (.act none (.px (some 11) (.bin .add (.v 10) (.c (.int .i64 1))))) <|
    .st (.act none (.px (some 7) (.mv (.v 11)))) .done
@[simp] def W137_16 := @C.wpe _ _ K137_16.eq_1
def K137_17 : Pl := .st (.act none (.als 22 none 4)) <|
    .st (.act none (.pset (some 22) 4 0 1 (.v 21))) .done
@[simp] def W137_17 := @Pl.wpe _ _ K137_17.eq_1
def K137_18 : C := .pl <| .st (.ext 10 13) <|
    .st (.act none (.als 10 none 4)) <|
    .st (.act none (.pget (some 11) (some 10) 4 0 none)) <|
    .st (.act none (.px (some 12) (.mv (.v 5)))) <|
    .st (.act none (.als 13 none 2)) <|
    .st (.act none (.pget (some 14) (some 13) 2 0 none)) <|
    .st (.act none (.px (some 15) (.mv (.v 7)))) <|
    .st (.act none (.px (some 16) (.ia 1 (.v 14) (.v 15)))) <|
    .st (.act none (.ld (some 17) (.v 16) none)) <|
    .st (.act none (.px (some 18) (.ia 1 (.v 12) (.v 17)))) <|
    .st (.act none (.ld (some 19) (.v 18) none)) <|
    .st (.act none (.psl 20 [.int .i64 0] [(0, 1, .v 19)])) <|
    .st (.act none (.ex (some 21) (.app 8 1 [.int .i64 0] (.o (.v 11)) (.p 1 20)))) K137_17
@[simp] def W137_18 := @C.wpe _ _ K137_18.eq_1
def K137_19 : C := .cond 10 (.v 17) K137_18 (.skip)
@[simp] def W137_19 := @C.wpe _ _ K137_19.eq_1
def K137_20 : C := .seq (.block 3 (.seq (.pl <| .st (.ext 10 8) <|
    .st (.act none (.px (some 10) (.mv (.v 1)))) <|
    .st (.act none (.als 11 none 2)) <|
    .st (.act none (.pget (some 12) (some 11) 2 0 none)) <|
    .st (.act none (.px (some 13) (.mv (.v 7)))) <|
    .st (.act none (.px (some 14) (.ia 1 (.v 12) (.v 13)))) <|
    .st (.act none (.ld (some 15) (.v 14) none)) <|
    .st (.act none (.px (some 16) (.ia 1 (.v 10) (.v 15)))) <|
    .st (.act none (.ld (some 17) (.v 16) none)) .done) K137_19)) K137_16
@[simp] def W137_20 := @C.wpe _ _ K137_20.eq_1
def K137_21 : C := .cond 10 (.v 14) (.skip) (.exit 2)
@[simp] def W137_21 := @C.wpe _ _ K137_21.eq_1
def K137_22 : C := .seq (.seq (.pl <| .st (.ext 10 5) <|
    .st (.act none (.px (some 10) (.mv (.v 7)))) <|
    .st (.act none (.als 11 none 2)) <|
    .st (.act none (.pget (some 12) (some 11) 2 0 none)) <|
    .st (.act none (.px (some 13) (.lenV (.v 12)))) <|
    .st (.act none (.px (some 14) (.bin .lss (.v 10) (.v 13)))) .done) K137_21) K137_20
@[simp] def W137_22 := @C.wpe _ _ K137_22.eq_1
def K137_23 : C := .block 2 (.loop 10 [0, 6, 8, 9] K137_22)
@[simp] def W137_23 := @C.wpe _ _ K137_23.eq_1
def K137_24 : C := .seq (.seq (.pl <| .st (.ext 10 0) <|
    .st (.act none (.px (some 7) (.mv (.c (.int .i64 0))))) .done) K137_23) K137_15
@[simp] def W137_24 := @C.wpe _ _ K137_24.eq_1
def K137_25 : C := .pl <| .st (.ext 10 2) <|
    .st (.act none (.px (some 10) (.mv (.v 6)))) <|
    .st (.act none (.px (some 11) (.bin .add (.v 10) (.c (.int .i64 1))))) <|
    .st (.act none (.px (some 6) (.mv (.v 11)))) .done
@[simp] def W137_25 := @C.wpe _ _ K137_25.eq_1
def K137_26 : Pl := .st (.act none (.als 19 none 4)) <|
    .st (.act none (.pset (some 19) 4 1 1 (.v 18))) .done
@[simp] def W137_26 := @Pl.wpe _ _ K137_26.eq_1
def K137_27 : C := .pl <| .st (.ext 10 10) <|
    .st (.act none (.als 10 none 4)) <|
    .st (.act none (.pget (some 11) (some 10) 4 1 none)) <|
    .st (.act none (.als 12 none 2)) <|
    .st (.act none (.pget (some 13) (some 12) 2 1 none)) <|
    .st (.act none (.px (some 14) (.mv (.v 6)))) <|
    .st (.act none (.px (some 15) (.ia 1 (.v 13) (.v 14)))) <|
    .st (.act none (.ld (some 16) (.v 15) none)) <|
    .st (.act none (.psl 17 [.bool false] [(0, 1, .v 16)])) <|
    .st (.act none (.ex (some 18) (.app 1 1 [.bool false] (.o (.v 11)) (.p 1 17)))) K137_26
@[simp] def W137_27 := @C.wpe _ _ K137_27.eq_1
def K137_28 : C := .cond 10 (.v 13) K137_27 (.skip)
@[simp] def W137_28 := @C.wpe _ _ K137_28.eq_1
def K137_29 : C := .seq (.pl <| .st (.ext 10 4) <|
    .st (.act none (.px (some 10) (.mv (.v 1)))) <|
    .st (.act none (.px (some 11) (.mv (.v 6)))) <|
    .st (.act none (.px (some 12) (.ia 1 (.v 10) (.v 11)))) <|
    .st (.act none (.ld (some 13) (.v 12) none)) .done) K137_28
@[simp] def W137_29 := @C.wpe _ _ K137_29.eq_1
def K137_30 : Pl := .st (.act none (.px (some 5) (.mv (.v 15)))) .done
@[simp] def W137_30 := @Pl.wpe _ _ K137_30.eq_1
def K137_31 : C := .seq (.block 1 (.seq (.pl <| .st (.ext 10 6) <|
    .st (.act none (.px (some 10) (.mv (.v 5)))) <|
    .st (.act none (.als 11 none 4)) <|
    .st (.act none (.pget (some 12) (some 11) 4 1 none)) <|
    .st (.act none (.px (some 13) (.lenV (.v 12)))) <|
    .st (.act none (.psl 14 [.int .i64 0] [(0, 1, .v 13)])) <|
    .st (.act none (.ex (some 15) (.app 8 1 [.int .i64 0] (.o (.v 10)) (.p 1 14)))) K137_30) K137_29)) K137_25
@[simp] def W137_31 := @C.wpe _ _ K137_31.eq_1
def K137_32 : C := .cond 10 (.v 13) (.skip) (.exit 0)
@[simp] def W137_32 := @C.wpe _ _ K137_32.eq_1
def K137_33 : C := .seq (.seq (.pl <| .st (.ext 10 4) <|
    .st (.act none (.px (some 10) (.mv (.v 6)))) <|
    .st (.act none (.px (some 11) (.mv (.v 1)))) <|
    .st (.act none (.px (some 12) (.lenV (.v 11)))) <|
    .st (.act none (.px (some 13) (.bin .lss (.v 10) (.v 12)))) .done) K137_32) K137_31
@[simp] def W137_33 := @C.wpe _ _ K137_33.eq_1
def K137_34 : C := .block 0 (.loop 10 [0, 7, 8, 9] K137_33)
@[simp] def W137_34 := @C.wpe _ _ K137_34.eq_1
def K137_35 : C := .seq (.seq (.pl <| .st (.ext 10 0) <|
    .st (.act none (.px (some 6) (.mv (.c (.int .i64 0))))) .done) K137_34) K137_24
@[simp] def W137_35 := @C.wpe _ _ K137_35.eq_1
def K137_36 : Pl := .st (.act none (.px (some 5) (.mv (.v 10)))) .done
@[simp] def W137_36 := @Pl.wpe _ _ K137_36.eq_1
def K137_37 : C := .seq (.pl <| .st (.ext 10 1) <|
    .st (.act none (.ex (some 10) (.bls 1 0 [.int .i64 0] []))) K137_36) K137_35
@[simp] def W137_37 := @C.wpe _ _ K137_37.eq_1
def K137_38 : C := .seq (.pl <| .st (.ext 10 1) <|
    .st (.act none (.px (some 10) (.build [.slice none 0 0, .slice none 0 0, .slice none 0 0] []))) <|
    .st (.act none (.pnew 4 (.c (.agg #[.slice none 0 0, .slice none 0 0, .slice none 0 0])) [])) <|
    .st (.act none (.pset none 4 0 3 (.v 10))) .done) K137_37
@[simp] def W137_38 := @C.wpe _ _ K137_38.eq_1
def B_spec_l13Keep : C := .seq (.pl <| .st (.ext 10 0) <|
    .st (.act none (.pnew 2 (.v 0) [])) <|
    .st (.act none (.pnew 3 (.c (.agg #[.slice none 0 0, .slice none 0 0, .slice none 0 0])) [])) .done) K137_38
@[simp] def WB_spec_l13Keep := @C.wpe _ _ B_spec_l13Keep.eq_1
def R_spec_l13Keep : FIR := ⟨B_spec_l13Keep, 10, [(3, some (some 3))]⟩
theorem IR_spec_l13Keep : cfun Try.prog H_spec_l13Keep Try.f137 = some R_spec_l13Keep := by kernel_rfl
theorem EN_spec_l13Keep {args : List Value} {h : Heap} {k : Value → Heap → Prop} (hargs : args.length = 2) (hw : B_spec_l13Keep.wp Try.prog (retQ [(3, some (some 3))] k) (env0 args 10) h) : CallE Try.prog fn_spec_l13Keep args h k := enter Try.func137 rfl IR_spec_l13Keep hargs hw

def H_spec_l13Trim : Hint := ⟨[(0, false), (1, true), (2, true), (3, false), (4, false), (5, false), (6, false)], [[0]]⟩
def K91_1 : Pl := .st (.act none (.pset none 2 0 3 (.v 9))) .done
@[simp] def W91_1 := @Pl.wpe _ _ K91_1.eq_1
def K91_2 : C := .seq (.pl <| .st (.ext 7 3) <|
    .st (.act none (.pget (some 7) none 1 0 (some 3))) <|
    .st (.act none (.px (some 8) (.mv (.v 5)))) <|
    .st (.act none (.ex (some 9) (.call fn_spec_l13Keep [.v 7, .v 8]))) K91_1) (.ret)
@[simp] def W91_2 := @C.wpe _ _ K91_2.eq_1
def K91_3 : C := .pl <| .st (.ext 7 2) <|
    .st (.act none (.px (some 7) (.mv (.v 6)))) <|
    .st (.act none (.px (some 8) (.bin .add (.v 7) (.c (.int .i64 1))))) <|
    .st (.act none (.px (some 6) (.mv (.v 8)))) .done
@[simp] def W91_3 := @C.wpe _ _ K91_3.eq_1
def K91_4 : C := .seq (.block 1 (.pl <| .st (.ext 7 13) <|
    .st (.act none (.px (some 7) (.mv (.v 5)))) <|
    .st (.act none (.px (some 8) (.mv (.v 4)))) <|
    .st (.act none (.px (some 9) (.mv (.v 6)))) <|
    .st (.act none (.px (some 10) (.ia 1 (.v 8) (.v 9)))) <|
    .st (.act none (.ld (some 11) (.v 10) none)) <|
    .st (.act none (.px (some 12) (.mv (.v 3)))) <|
    .st (.act none (.px (some 13) (.mv (.v 4)))) <|
    .st (.act none (.px (some 14) (.mv (.v 6)))) <|
    .st (.act none (.px (some 15) (.ia 1 (.v 13) (.v 14)))) <|
    .st (.act none (.ld (some 16) (.v 15) none)) <|
    .st (.act none (.px (some 17) (.ia 1 (.v 12) (.v 16)))) <|
    .st (.act none (.ld (some 18) (.v 17) none)) <|
    .st (.act none (.px (some 19) (.ia 1 (.v 7) (.v 11)))) <|
    .st (.act none (.ex none (.store 1 (.v 19) (.v 18)))) .done)) K91_3
@[simp] def W91_4 := @C.wpe _ _ K91_4.eq_1
def K91_5 : C := .cond 7 (.v 10) (.skip) (.exit 0)
@[simp] def W91_5 := @C.wpe _ _ K91_5.eq_1
def K91_6 : C := .seq (.seq (.pl <| .st (.ext 7 4) <|
    .st (.act none (.px (some 7) (.mv (.v 6)))) <|
    .st (.act none (.px (some 8) (.mv (.v 4)))) <|
    .st (.act none (.px (some 9) (.lenV (.v 8)))) <|
    .st (.act none (.px (some 10) (.bin .lss (.v 7) (.v 9)))) .done) K91_5) K91_4
@[simp] def W91_6 := @C.wpe _ _ K91_6.eq_1
def K91_7 : C := .block 0 (.loop 7 [0] K91_6)
@[simp] def W91_7 := @C.wpe _ _ K91_7.eq_1
def K91_8 : C := .seq (.seq (.pl <| .st (.ext 7 0) <|
    .st (.act none (.px (some 6) (.mv (.c (.int .i64 0))))) .done) K91_7) K91_2
@[simp] def W91_8 := @C.wpe _ _ K91_8.eq_1
def K91_9 : Pl := .st (.act none (.px (some 5) (.mv (.v 9)))) .done
@[simp] def W91_9 := @Pl.wpe _ _ K91_9.eq_1
def K91_10 : C := .seq (.pl <| .st (.ext 7 3) <|
    .st (.act none (.px (some 7) (.mv (.v 3)))) <|
    .st (.act none (.px (some 8) (.lenV (.v 7)))) <|
    .st (.act none (.ex (some 9) (.mks 1 1 [.bool false] (.v 8) (.v 8)))) K91_9) K91_8
@[simp] def W91_10 := @C.wpe _ _ K91_10.eq_1
def K91_11 : Pl := .st (.act none (.px (some 4) (.mv (.v 11)))) .done
@[simp] def W91_11 := @Pl.wpe _ _ K91_11.eq_1
def K91_12 : Pl := .st (.act none (.ex (some 11) (.call fn_spec_l7Reach [.v 8, .v 10]))) K91_11
@[simp] def W91_12 := @Pl.wpe _ _ K91_12.eq_1
def K91_13 : C := .seq (.pl <| .st (.ext 7 5) <|
    .st (.act none (.pget (some 7) none 1 0 (some 3))) <|
    .st (.act none (.als 9 none 1)) <|
    .st (.act none (.pget (some 10) (some 9) 1 0 none)) <|
    .st (.act none (.ex (some 8) (.call fn_spec_l7Next [.v 7]))) K91_12) K91_10
@[simp] def W91_13 := @C.wpe _ _ K91_13.eq_1
def K91_14 : Pl := .st (.act none (.px (some 3) (.mv (.v 8)))) .done
@[simp] def W91_14 := @Pl.wpe _ _ K91_14.eq_1
def K91_15 : C := .seq (.pl <| .st (.ext 7 2) <|
    .st (.act none (.pget (some 7) none 1 0 (some 3))) <|
    .st (.act none (.ex (some 8) (.call fn_spec_LiveStates [.v 7]))) K91_14) K91_13
@[simp] def W91_15 := @C.wpe _ _ K91_15.eq_1
def B_spec_l13Trim : C := .seq (.pl <| .st (.ext 7 0) <|
    .st (.act none (.pnew 1 (.v 0) [])) <|
    .st (.act none (.pnew 2 (.c (.agg #[.slice none 0 0, .slice none 0 0, .slice none 0 0])) [])) .done) K91_15
@[simp] def WB_spec_l13Trim := @C.wpe _ _ B_spec_l13Trim.eq_1
def R_spec_l13Trim : FIR := ⟨B_spec_l13Trim, 7, [(2, some (some 3))]⟩
theorem IR_spec_l13Trim : cfun Try.prog H_spec_l13Trim Try.f91 = some R_spec_l13Trim := by kernel_rfl
theorem EN_spec_l13Trim {args : List Value} {h : Heap} {k : Value → Heap → Prop} (hargs : args.length = 1) (hw : B_spec_l13Trim.wp Try.prog (retQ [(2, some (some 3))] k) (env0 args 7) h) : CallE Try.prog fn_spec_l13Trim args h k := enter Try.func91 rfl IR_spec_l13Trim hargs hw


end Go.Proofs.Ytglnelcmcimljaa

/-
  Bodies of functions in the small language, as a program printed them, and that each is what the translation gives.
-/
namespace Go.Proofs.Ytglnelcmcimljaa
open Go
set_option linter.all false
set_option linter.defProp false
set_option maxRecDepth 1000000

def H_impl_LiveStates : Hint := ⟨[(0, false), (1, true), (2, false)], []⟩
def K20_1 : Pl := .st (.act none (.px (some 2) (.mv (.v 4)))) .done
@[simp] def W20_1 := @Pl.wpe _ _ K20_1.eq_1
def K20_2 : C := .seq (.pl <| .st (.ext 3 2) <|
    .st (.act none (.pget (some 3) none 1 0 (some 3))) <|
    .st (.act none (.ex (some 4) (.call fn_impl_Automaton_live [.v 3]))) K20_1) (.ret)
@[simp] def W20_2 := @C.wpe _ _ K20_2.eq_1
def K20_3 : C := .seq (.pl <| .st (.ext 3 0) <|
    .st (.act none (.px (some 2) (.mv (.c (.slice none 0 0))))) .done) (.ret)
@[simp] def W20_3 := @C.wpe _ _ K20_3.eq_1
def K20_4 : C := .cond 3 (.v 5) K20_3 (.skip)
@[simp] def W20_4 := @C.wpe _ _ K20_4.eq_1
def K20_5 : Pl := .st (.act none (.px (some 5) (.un .not (.v 4)))) .done
@[simp] def W20_5 := @Pl.wpe _ _ K20_5.eq_1
def K20_6 : C := .seq (.seq (.pl <| .st (.ext 3 3) <|
    .st (.act none (.pget (some 3) none 1 0 (some 3))) <|
    .st (.act none (.ex (some 4) (.call fn_impl_AutomatonValid [.v 3]))) K20_5) K20_4) K20_2
@[simp] def W20_6 := @C.wpe _ _ K20_6.eq_1
def B_impl_LiveStates : C := .seq (.pl <| .st (.ext 3 0) <|
    .st (.act none (.pnew 1 (.v 0) [])) <|
    .st (.act none (.px (some 2) (.mv (.c (.slice none 0 0))))) .done) K20_6
@[simp] def WB_impl_LiveStates := @C.wpe _ _ B_impl_LiveStates.eq_1
def R_impl_LiveStates : FIR := ⟨B_impl_LiveStates, 3, [(2, none)]⟩
theorem IR_impl_LiveStates : cfun Try.prog H_impl_LiveStates Try.f20 = some R_impl_LiveStates := by kernel_rfl
theorem EN_impl_LiveStates {args : List Value} {h : Heap} {k : Value → Heap → Prop} (hargs : args.length = 1) (hw : B_impl_LiveStates.wp Try.prog (retQ [(2, none)] k) (env0 args 3) h) : CallE Try.prog fn_impl_LiveStates args h k := enter Try.func20 rfl IR_impl_LiveStates hargs hw


end Go.Proofs.Ytglnelcmcimljaa

/-
  Bodies of functions in the small language, as a program printed them, and that each is what the translation gives.
-/
namespace Go.Proofs.Ytglnelcmcimljaa
open Go
set_option linter.all false
set_option linter.defProp false
set_option maxRecDepth 1000000

end Go.Proofs.Ytglnelcmcimljaa

/-
  Bodies of functions in the small language, as a program printed them, and that each is what the translation gives.
-/
namespace Go.Proofs.Ytglnelcmcimljaa
open Go
set_option linter.all false
set_option linter.defProp false
set_option maxRecDepth 1000000

end Go.Proofs.Ytglnelcmcimljaa

/-
  Bodies of functions in the small language, as a program printed them, and that each is what the translation gives.
-/
namespace Go.Proofs.Ytglnelcmcimljaa
open Go
set_option linter.all false
set_option linter.defProp false
set_option maxRecDepth 1000000

end Go.Proofs.Ytglnelcmcimljaa

/-
  Bodies of functions in the small language, as a program printed them, and that each is what the translation gives.
-/
namespace Go.Proofs.Ytglnelcmcimljaa
open Go
set_option linter.all false
set_option linter.defProp false
set_option maxRecDepth 1000000

def H_impl_Accepts : Hint := ⟨[(0, false), (1, false), (2, true), (3, true), (4, false), (5, false)], []⟩
def K39_1 : Pl := .st (.act none (.px (some 4) (.mv (.v 8)))) <|
    .st (.act none (.px (some 5) (.mv (.c (.bool true))))) .done
@[simp] def W39_1 := @Pl.wpe _ _ K39_1.eq_1
def K39_2 : C := .seq (.pl <| .st (.ext 6 3) <|
    .st (.act none (.pget (some 6) none 2 0 (some 3))) <|
    .st (.act none (.pget (some 7) none 3 0 (some 2))) <|
    .st (.act none (.ex (some 8) (.call fn_impl_Automaton_accepts [.v 6, .v 7]))) K39_1) (.ret)
@[simp] def W39_2 := @C.wpe _ _ K39_2.eq_1
def K39_3 : C := .seq (.pl <| .st (.ext 6 0) <|
    .st (.act none (.px (some 4) (.mv (.c (.bool false))))) <|
    .st (.act none (.px (some 5) (.mv (.c (.bool false))))) .done) (.ret)
@[simp] def W39_3 := @C.wpe _ _ K39_3.eq_1
def K39_4 : C := .cond 6 (.v 13) K39_3 (.skip)
@[simp] def W39_4 := @C.wpe _ _ K39_4.eq_1
def K39_5 : Pl := .st (.act (some (.v 9, false)) (.px (some 12) (.un .not (.v 11)))) <|
    .st (.act none (.px (some 13) (.pick (.v 9) (.c (.bool true)) (.v 12)))) .done
@[simp] def W39_5 := @Pl.wpe _ _ K39_5.eq_1
def K39_6 : Pl := .st (.act none (.px (some 8) (.un .not (.v 7)))) <|
    .st (.act none (.px (some 9) (.mv (.v 8)))) <|
    .st (.act (some (.v 9, false)) (.pget (some 10) none 3 0 (some 2))) <|
    .st (.act (some (.v 9, false)) (.ex (some 11) (.call fn_impl_LassoValid [.v 10]))) K39_5
@[simp] def W39_6 := @Pl.wpe _ _ K39_6.eq_1
def K39_7 : C := .seq (.seq (.pl <| .st (.ext 6 8) <|
    .st (.act none (.pget (some 6) none 2 0 (some 3))) <|
    .st (.act none (.ex (some 7) (.call fn_impl_AutomatonValid [.v 6]))) K39_6) K39_4) K39_2
@[simp] def W39_7 := @C.wpe _ _ K39_7.eq_1
def B_impl_Accepts : C := .seq (.pl <| .st (.ext 6 0) <|
    .st (.act none (.pnew 2 (.v 0) [])) <|
    .st (.act none (.pnew 3 (.v 1) [])) <|
    .st (.act none (.px (some 4) (.mv (.c (.bool false))))) <|
    .st (.act none (.px (some 5) (.mv (.c (.bool false))))) .done) K39_7
@[simp] def WB_impl_Accepts := @C.wpe _ _ B_impl_Accepts.eq_1
def R_impl_Accepts : FIR := ⟨B_impl_Accepts, 6, [(4, none), (5, none)]⟩
theorem IR_impl_Accepts : cfun Try.prog H_impl_Accepts Try.f39 = some R_impl_Accepts := by kernel_rfl
theorem EN_impl_Accepts {args : List Value} {h : Heap} {k : Value → Heap → Prop} (hargs : args.length = 2) (hw : B_impl_Accepts.wp Try.prog (retQ [(4, none), (5, none)] k) (env0 args 6) h) : CallE Try.prog fn_impl_Accepts args h k := enter Try.func39 rfl IR_impl_Accepts hargs hw

def H_impl_Automaton_accepts : Hint := ⟨[(0, false), (1, false), (2, true), (3, true), (4, false), (5, false), (6, false), (7, false), (8, false), (9, false), (11, true), (12, false), (13, false), (14, false), (25, false), (26, false), (27, false), (33, false), (34, false), (35, false), (76, false), (77, false), (78, false)], [[0, 1, 4, 5, 8, 9, 10, 11, 12, 13, 17, 18, 19, 20, 21, 22], [0, 1, 4, 5, 10, 11, 12, 13, 20, 21, 22], [0, 1, 3, 4, 5, 7, 8, 9, 10, 12, 13, 14, 15, 16, 17, 18, 19]]⟩
def K82_1 : C := .seq (.pl <| .st (.ext 23 0) <|
    .st (.act none (.px (some 4) (.mv (.c (.bool false))))) .done) (.ret)
@[simp] def W82_1 := @C.wpe _ _ K82_1.eq_1
def K82_2 : C := .pl <| .st (.ext 23 1) <|
    .st (.act none (.px (some 23) (.bin .add (.v 22) (.c (.int .i64 1))))) <|
    .st (.act none (.px (some 22) (.mv (.v 23)))) .done
@[simp] def W82_2 := @C.wpe _ _ K82_2.eq_1
def K82_3 : C := .seq (.pl <| .st (.ext 23 0) <|
    .st (.act none (.px (some 4) (.mv (.c (.bool true))))) .done) (.ret)
@[simp] def W82_3 := @C.wpe _ _ K82_3.eq_1
def K82_4 : C := .cond 23 (.v 38) K82_3 (.skip)
@[simp] def W82_4 := @C.wpe _ _ K82_4.eq_1
def K82_5 : C := .seq (.pl <| .st (.ext 23 16) <|
    .st (.act none (.px (some 23) (.mv (.v 13)))) <|
    .st (.act none (.px (some 24) (.mv (.v 23)))) <|
    .st (.act (some (.v 24, true)) (.px (some 25) (.mv (.v 11)))) <|
    .st (.act (some (.v 24, true)) (.px (some 26) (.mv (.v 12)))) <|
    .st (.act (some (.v 24, true)) (.px (some 27) (.ia 1 (.v 25) (.v 26)))) <|
    .st (.act (some (.v 24, true)) (.ld (some 28) (.v 27) none)) <|
    .st (.act none (.px (some 29) (.pick (.v 24) (.v 28) (.c (.bool false))))) <|
    .st (.act none (.px (some 30) (.mv (.v 29)))) <|
    .st (.act (some (.v 30, true)) (.als 31 none 2)) <|
    .st (.act (some (.v 30, true)) (.pget (some 32) (some 31) 2 1 none)) <|
    .st (.act (some (.v 30, true)) (.px (some 33) (.mv (.v 12)))) <|
    .st (.act (some (.v 30, true)) (.px (some 34) (.mv (.v 6)))) <|
    .st (.act (some (.v 30, true)) (.px (some 35) (.bin .rem (.v 33) (.v 34)))) <|
    .st (.act (some (.v 30, true)) (.px (some 36) (.ia 1 (.v 32) (.v 35)))) <|
    .st (.act (some (.v 30, true)) (.ld (some 37) (.v 36) none)) <|
    .st (.act none (.px (some 38) (.pick (.v 30) (.v 37) (.c (.bool false))))) .done) K82_4
@[simp] def W82_5 := @C.wpe _ _ K82_5.eq_1
def K82_6 : C := .seq (.block 5 (.seq (.pl <| .st (.ext 23 3) <|
    .st (.act none (.px (some 23) (.mv (.v 22)))) <|
    .st (.act none (.px (some 24) (.ia 1 (.v 20) (.v 22)))) <|
    .st (.act none (.ld (some 25) (.v 24) none)) <|
    .st (.act none (.px (some 12) (.mv (.v 23)))) <|
    .st (.act none (.px (some 13) (.mv (.v 25)))) .done) K82_5)) K82_2
@[simp] def W82_6 := @C.wpe _ _ K82_6.eq_1
def K82_7 : C := .seq (.cond 23 (.v 23) (.skip) (.exit 4)) K82_6
@[simp] def W82_7 := @C.wpe _ _ K82_7.eq_1
def K82_8 : C := .seq (.pl <| .st (.ext 23 1) <|
    .st (.act none (.px (some 23) (.bin .lss (.v 22) (.v 21)))) .done) K82_7
@[simp] def W82_8 := @C.wpe _ _ K82_8.eq_1
def K82_9 : C := .block 4 (.loop 23 [0, 1, 3, 4, 5, 7, 8, 9, 10, 12, 13, 14, 15, 16, 17, 18, 19] K82_8)
@[simp] def W82_9 := @C.wpe _ _ K82_9.eq_1
def K82_10 : Pl := .st (.act none (.px (some 21) (.lenV (.v 20)))) <|
    .st (.act none (.px (some 22) (.mv (.c (.int .i64 0))))) .done
@[simp] def W82_10 := @Pl.wpe _ _ K82_10.eq_1
def K82_11 : C := .seq (.seq (.pl <| .st (.ext 23 3) <|
    .st (.act none (.px (some 23) (.mv (.v 7)))) <|
    .st (.act none (.als 24 none 2)) <|
    .st (.act none (.pget (some 25) (some 24) 2 0 none)) <|
    .st (.act none (.ex (some 20) (.call fn_impl_reachable [.v 23, .v 25]))) K82_10) K82_9) K82_1
@[simp] def W82_11 := @C.wpe _ _ K82_11.eq_1
def K82_12 : Pl := .st (.act none (.px (some 11) (.mv (.v 24)))) .done
@[simp] def W82_12 := @Pl.wpe _ _ K82_12.eq_1
def K82_13 : C := .seq (.pl <| .st (.ext 23 2) <|
    .st (.act none (.px (some 23) (.mv (.v 7)))) <|
    .st (.act none (.ex (some 24) (.call fn_impl_cyclic [.v 23]))) K82_12) K82_11
@[simp] def W82_13 := @C.wpe _ _ K82_13.eq_1
def K82_14 : C := .pl <| .st (.ext 23 1) <|
    .st (.act none (.px (some 23) (.bin .add (.v 16) (.c (.int .i64 1))))) <|
    .st (.act none (.px (some 16) (.mv (.v 23)))) .done
@[simp] def W82_14 := @C.wpe _ _ K82_14.eq_1
def K82_15 : C := .pl <| .st (.ext 23 1) <|
    .st (.act none (.px (some 23) (.bin .add (.v 19) (.c (.int .i64 1))))) <|
    .st (.act none (.px (some 19) (.mv (.v 23)))) .done
@[simp] def W82_15 := @C.wpe _ _ K82_15.eq_1
def K82_16 : Pl := .st (.act none (.px (some 49) (.ia 1 (.v 23) (.v 29)))) <|
    .st (.act none (.ex none (.store 1 (.v 49) (.v 48)))) .done
@[simp] def W82_16 := @Pl.wpe _ _ K82_16.eq_1
def K82_17 : Pl := .st (.re 38 (.v 37) none none) <|
    .st (.act none (.px (some 43) (.bin .mul (.v 41) (.v 42)))) <|
    .st (.act none (.px (some 46) (.bin .add (.v 43) (.v 45)))) <|
    .st (.act none (.psl 47 [.int .i64 0] [(0, 1, .v 46)])) <|
    .st (.act none (.ex (some 48) (.app 8 1 [.int .i64 0] (.o (.v 38)) (.p 1 47)))) K82_16
@[simp] def W82_17 := @Pl.wpe _ _ K82_17.eq_1
def K82_18 : C := .pl <| .st (.ext 23 27) <|
    .st (.act none (.px (some 23) (.mv (.v 7)))) <|
    .st (.act none (.px (some 24) (.mv (.v 8)))) <|
    .st (.act none (.px (some 25) (.mv (.v 6)))) <|
    .st (.act none (.px (some 26) (.bin .mul (.v 24) (.v 25)))) <|
    .st (.act none (.als 27 none 10)) <|
    .st (.act none (.pget (some 28) (some 27) 10 0 none)) <|
    .st (.act none (.px (some 29) (.bin .add (.v 26) (.v 28)))) <|
    .st (.act none (.px (some 30) (.mv (.v 7)))) <|
    .st (.act none (.px (some 31) (.mv (.v 8)))) <|
    .st (.act none (.px (some 32) (.mv (.v 6)))) <|
    .st (.act none (.px (some 33) (.bin .mul (.v 31) (.v 32)))) <|
    .st (.act none (.als 34 none 10)) <|
    .st (.act none (.pget (some 35) (some 34) 10 0 none)) <|
    .st (.act none (.px (some 36) (.bin .add (.v 33) (.v 35)))) <|
    .st (.act none (.px (some 37) (.ia 1 (.v 30) (.v 36)))) <|
    .st (.act none (.ld (some 38) (.v 37) none)) <|
    .st (.act none (.pget (some 39) none 3 0 (some 2))) <|
    .st (.act none (.px (some 40) (.mv (.v 8)))) <|
    .st (.act none (.px (some 42) (.mv (.v 6)))) <|
    .st (.act none (.als 44 none 10)) <|
    .st (.act none (.pget (some 45) (some 44) 10 3 none)) <|
    .st (.act none (.ex (some 41) (.call fn_impl_Lasso_next [.v 39, .v 40]))) K82_17
@[simp] def W82_18 := @C.wpe _ _ K82_18.eq_1
def K82_19 : C := .cond 23 (.v 25) K82_18 (.skip)
@[simp] def W82_19 := @C.wpe _ _ K82_19.eq_1
def K82_20 : C := .seq (.pl <| .st (.ext 23 3) <|
    .st (.act none (.pget (some 23) none 10 0 (some 4))) <|
    .st (.act none (.px (some 24) (.mv (.v 9)))) <|
    .st (.act none (.ex (some 25) (.call fn_impl_Transition_takes [.v 23, .v 24]))) .done) K82_19
@[simp] def W82_20 := @C.wpe _ _ K82_20.eq_1
def K82_21 : C := .seq (.block 3 (.seq (.pl <| .st (.ext 23 2) <|
    .st (.act none (.px (some 23) (.ia 4 (.v 17) (.v 19)))) <|
    .st (.act none (.ld (some 24) (.v 23) (some 4))) <|
    .st (.act none (.pnew 10 (.c (.agg #[.int .i64 0, .int .i64 0, .int .i64 0, .int .i64 0])) [])) <|
    .st (.act none (.pset none 10 0 4 (.v 24))) .done) K82_20)) K82_15
@[simp] def W82_21 := @C.wpe _ _ K82_21.eq_1
def K82_22 : C := .seq (.cond 23 (.v 23) (.skip) (.exit 2)) K82_21
@[simp] def W82_22 := @C.wpe _ _ K82_22.eq_1
def K82_23 : C := .seq (.pl <| .st (.ext 23 1) <|
    .st (.act none (.px (some 23) (.bin .lss (.v 19) (.v 18)))) .done) K82_22
@[simp] def W82_23 := @C.wpe _ _ K82_23.eq_1
def K82_24 : C := .block 2 (.loop 23 [0, 1, 4, 5, 10, 11, 12, 13, 20, 21, 22] K82_23)
@[simp] def W82_24 := @C.wpe _ _ K82_24.eq_1
def K82_25 : C := .seq (.pl <| .st (.ext 23 1) <|
    .st (.act none (.als 23 none 2)) <|
    .st (.act none (.pget (some 17) (some 23) 2 2 none)) <|
    .st (.act none (.px (some 18) (.lenV (.v 17)))) <|
    .st (.act none (.px (some 19) (.mv (.c (.int .i64 0))))) .done) K82_24
@[simp] def W82_25 := @C.wpe _ _ K82_25.eq_1
def K82_26 : C := .seq (.block 1 (.seq (.pl <| .st (.ext 23 3) <|
    .st (.act none (.px (some 23) (.mv (.v 16)))) <|
    .st (.act none (.px (some 24) (.ia 1 (.v 14) (.v 16)))) <|
    .st (.act none (.ld (some 25) (.v 24) none)) <|
    .st (.act none (.px (some 8) (.mv (.v 23)))) <|
    .st (.act none (.px (some 9) (.mv (.v 25)))) .done) K82_25)) K82_14
@[simp] def W82_26 := @C.wpe _ _ K82_26.eq_1
def K82_27 : C := .seq (.cond 23 (.v 23) (.skip) (.exit 0)) K82_26
@[simp] def W82_27 := @C.wpe _ _ K82_27.eq_1
def K82_28 : C := .seq (.pl <| .st (.ext 23 1) <|
    .st (.act none (.px (some 23) (.bin .lss (.v 16) (.v 15)))) .done) K82_27
@[simp] def W82_28 := @C.wpe _ _ K82_28.eq_1
def K82_29 : C := .block 0 (.loop 23 [0, 1, 4, 5, 8, 9, 10, 11, 12, 13, 17, 18, 19, 20, 21, 22] K82_28)
@[simp] def W82_29 := @C.wpe _ _ K82_29.eq_1
def K82_30 : C := .seq (.seq (.pl <| .st (.ext 23 0) <|
    .st (.act none (.px (some 14) (.mv (.v 5)))) <|
    .st (.act none (.px (some 15) (.lenV (.v 14)))) <|
    .st (.act none (.px (some 16) (.mv (.c (.int .i64 0))))) .done) K82_29) K82_13
@[simp] def W82_30 := @C.wpe _ _ K82_30.eq_1
def K82_31 : Pl := .st (.act none (.px (some 7) (.mv (.v 27)))) .done
@[simp] def W82_31 := @Pl.wpe _ _ K82_31.eq_1
def K82_32 : C := .seq (.pl <| .st (.ext 23 5) <|
    .st (.act none (.px (some 23) (.mv (.v 5)))) <|
    .st (.act none (.px (some 24) (.lenV (.v 23)))) <|
    .st (.act none (.px (some 25) (.mv (.v 6)))) <|
    .st (.act none (.px (some 26) (.bin .mul (.v 24) (.v 25)))) <|
    .st (.act none (.ex (some 27) (.mks 24 1 [.slice none 0 0] (.v 26) (.v 26)))) K82_31) K82_30
@[simp] def W82_32 := @C.wpe _ _ K82_32.eq_1
def K82_33 : Pl := .st (.act none (.px (some 5) (.mv (.v 24)))) <|
    .st (.act none (.px (some 6) (.mv (.v 27)))) .done
@[simp] def W82_33 := @Pl.wpe _ _ K82_33.eq_1
def K82_34 : C := .seq (.pl <| .st (.ext 23 5) <|
    .st (.act none (.pget (some 23) none 3 0 (some 2))) <|
    .st (.act none (.als 25 none 2)) <|
    .st (.act none (.pget (some 26) (some 25) 2 1 none)) <|
    .st (.act none (.px (some 27) (.lenV (.v 26)))) <|
    .st (.act none (.ex (some 24) (.call fn_impl_Lasso_all [.v 23]))) K82_33) K82_32
@[simp] def W82_34 := @C.wpe _ _ K82_34.eq_1
def B_impl_Automaton_accepts : C := .seq (.pl <| .st (.ext 23 0) <|
    .st (.act none (.pnew 2 (.v 0) [])) <|
    .st (.act none (.pnew 3 (.v 1) [])) <|
    .st (.act none (.px (some 4) (.mv (.c (.bool false))))) .done) K82_34
@[simp] def WB_impl_Automaton_accepts := @C.wpe _ _ B_impl_Automaton_accepts.eq_1
def R_impl_Automaton_accepts : FIR := ⟨B_impl_Automaton_accepts, 23, [(4, none)]⟩
theorem IR_impl_Automaton_accepts : cfun Try.prog H_impl_Automaton_accepts Try.f82 = some R_impl_Automaton_accepts := by kernel_rfl
theorem EN_impl_Automaton_accepts {args : List Value} {h : Heap} {k : Value → Heap → Prop} (hargs : args.length = 2) (hw : B_impl_Automaton_accepts.wp Try.prog (retQ [(4, none)] k) (env0 args 23) h) : CallE Try.prog fn_impl_Automaton_accepts args h k := enter Try.func82 rfl IR_impl_Automaton_accepts hargs hw

def H_impl_Lasso_all : Hint := ⟨[(0, false), (1, true), (2, false)], []⟩
def K132_1 : Pl := .st (.act none (.px (some 2) (.mv (.v 8)))) .done
@[simp] def W132_1 := @Pl.wpe _ _ K132_1.eq_1
def K132_2 : Pl := .st (.act none (.ex (some 8) (.call fn_slices_Concat_S_int_int [.v 7]))) K132_1
@[simp] def W132_2 := @Pl.wpe _ _ K132_2.eq_1
def K132_3 : C := .seq (.pl <| .st (.ext 3 6) <|
    .st (.act none (.als 3 none 1)) <|
    .st (.act none (.pget (some 4) (some 3) 1 0 none)) <|
    .st (.act none (.als 5 none 1)) <|
    .st (.act none (.pget (some 6) (some 5) 1 1 none)) <|
    .st (.act none (.ex (some 7) (.bls 1 2 [.slice none 0 0] [(0, 1, .v 4), (1, 1, .v 6)]))) K132_2) (.ret)
@[simp] def W132_3 := @C.wpe _ _ K132_3.eq_1
def B_impl_Lasso_all : C := .seq (.pl <| .st (.ext 3 0) <|
    .st (.act none (.pnew 1 (.v 0) [])) <|
    .st (.act none (.px (some 2) (.mv (.c (.slice none 0 0))))) .done) K132_3
@[simp] def WB_impl_Lasso_all := @C.wpe _ _ B_impl_Lasso_all.eq_1
def R_impl_Lasso_all : FIR := ⟨B_impl_Lasso_all, 3, [(2, none)]⟩
theorem IR_impl_Lasso_all : cfun Try.prog H_impl_Lasso_all Try.f132 = some R_impl_Lasso_all := by kernel_rfl
theorem EN_impl_Lasso_all {args : List Value} {h : Heap} {k : Value → Heap → Prop} (hargs : args.length = 1) (hw : B_impl_Lasso_all.wp Try.prog (retQ [(2, none)] k) (env0 args 3) h) : CallE Try.prog fn_impl_Lasso_all args h k := enter Try.func132 rfl IR_impl_Lasso_all hargs hw

def H_impl_Lasso_next : Hint := ⟨[(0, false), (1, false), (2, true), (4, false)], []⟩
def K133_1 : C := .seq (.pl <| .st (.ext 4 2) <|
    .st (.act none (.px (some 4) (.mv (.v 1)))) <|
    .st (.act none (.px (some 5) (.bin .add (.v 4) (.c (.int .i64 1))))) <|
    .st (.act none (.px (some 3) (.mv (.v 5)))) .done) (.ret)
@[simp] def W133_1 := @C.wpe _ _ K133_1.eq_1
def K133_2 : C := .seq (.pl <| .st (.ext 4 3) <|
    .st (.act none (.als 4 none 2)) <|
    .st (.act none (.pget (some 5) (some 4) 2 0 none)) <|
    .st (.act none (.px (some 6) (.lenV (.v 5)))) <|
    .st (.act none (.px (some 3) (.mv (.v 6)))) .done) (.ret)
@[simp] def W133_2 := @C.wpe _ _ K133_2.eq_1
def K133_3 : C := .cond 4 (.v 13) K133_2 (.skip)
@[simp] def W133_3 := @C.wpe _ _ K133_3.eq_1
def K133_4 : C := .seq (.seq (.pl <| .st (.ext 4 10) <|
    .st (.act none (.px (some 4) (.mv (.v 1)))) <|
    .st (.act none (.px (some 5) (.bin .add (.v 4) (.c (.int .i64 1))))) <|
    .st (.act none (.als 6 none 2)) <|
    .st (.act none (.pget (some 7) (some 6) 2 0 none)) <|
    .st (.act none (.px (some 8) (.lenV (.v 7)))) <|
    .st (.act none (.als 9 none 2)) <|
    .st (.act none (.pget (some 10) (some 9) 2 1 none)) <|
    .st (.act none (.px (some 11) (.lenV (.v 10)))) <|
    .st (.act none (.px (some 12) (.bin .add (.v 8) (.v 11)))) <|
    .st (.act none (.px (some 13) (.bin .eql (.v 5) (.v 12)))) .done) K133_3) K133_1
@[simp] def W133_4 := @C.wpe _ _ K133_4.eq_1
def B_impl_Lasso_next : C := .seq (.pl <| .st (.ext 4 0) <|
    .st (.act none (.pnew 2 (.v 0) [])) <|
    .st (.act none (.px (some 3) (.mv (.c (.int .i64 0))))) .done) K133_4
@[simp] def WB_impl_Lasso_next := @C.wpe _ _ B_impl_Lasso_next.eq_1
def R_impl_Lasso_next : FIR := ⟨B_impl_Lasso_next, 4, [(3, none)]⟩
theorem IR_impl_Lasso_next : cfun Try.prog H_impl_Lasso_next Try.f133 = some R_impl_Lasso_next := by kernel_rfl
theorem EN_impl_Lasso_next {args : List Value} {h : Heap} {k : Value → Heap → Prop} (hargs : args.length = 2) (hw : B_impl_Lasso_next.wp Try.prog (retQ [(3, none)] k) (env0 args 4) h) : CallE Try.prog fn_impl_Lasso_next args h k := enter Try.func133 rfl IR_impl_Lasso_next hargs hw

def H_spec_DrawAccepts : Hint := ⟨[(0, false), (2, true), (3, true), (4, false), (5, true)], []⟩
def K38_1 : Pl := .st (.act none (.pset none 1 0 3 (.v 5))) <|
    .st (.act none (.pset none 2 0 2 (.v 9))) .done
@[simp] def W38_1 := @Pl.wpe _ _ K38_1.eq_1
def K38_2 : Pl := .st (.act none (.ex (some 9) (.call fn_spec_l6Mutate [.v 6, .v 8]))) K38_1
@[simp] def W38_2 := @Pl.wpe _ _ K38_2.eq_1
def K38_3 : C := .seq (.pl <| .st (.ext 5 5) <|
    .st (.act none (.pget (some 5) none 4 0 (some 3))) <|
    .st (.act none (.px (some 6) (.mv (.v 3)))) <|
    .st (.act none (.px (some 7) (.mv (.v 3)))) <|
    .st (.act none (.ex (some 8) (.call fn_spec_l6Lasso [.v 7]))) K38_2) (.ret)
@[simp] def W38_3 := @C.wpe _ _ K38_3.eq_1
def K38_4 : Pl := .st (.act none (.pnew 4 (.c (.agg #[.slice none 0 0, .slice none 0 0, .slice none 0 0])) [])) <|
    .st (.act none (.pset none 4 0 3 (.v 8))) .done
@[simp] def W38_4 := @Pl.wpe _ _ K38_4.eq_1
def K38_5 : Pl := .st (.act none (.ex (some 8) (.call fn_spec_l7Mutate [.v 5, .v 7]))) K38_4
@[simp] def W38_5 := @Pl.wpe _ _ K38_5.eq_1
def K38_6 : C := .seq (.pl <| .st (.ext 5 4) <|
    .st (.act none (.px (some 5) (.mv (.v 3)))) <|
    .st (.act none (.px (some 6) (.mv (.v 3)))) <|
    .st (.act none (.ex (some 7) (.call fn_spec_l7Automaton [.v 6]))) K38_5) K38_3
@[simp] def W38_6 := @C.wpe _ _ K38_6.eq_1
def K38_7 : Pl := .st (.act none (.px (some 3) (.mv (.v 6)))) .done
@[simp] def W38_7 := @Pl.wpe _ _ K38_7.eq_1
def K38_8 : C := .seq (.pl <| .st (.ext 5 2) <|
    .st (.act none (.px (some 5) (.mv (.v 0)))) <|
    .st (.act none (.ex (some 6) (.call fn_spec_l16Open [.v 5]))) K38_7) K38_6
@[simp] def W38_8 := @C.wpe _ _ K38_8.eq_1
def B_spec_DrawAccepts : C := .seq (.pl <| .st (.ext 5 0) <|
    .st (.act none (.pnew 1 (.c (.agg #[.slice none 0 0, .slice none 0 0, .slice none 0 0])) [])) <|
    .st (.act none (.pnew 2 (.c (.agg #[.slice none 0 0, .slice none 0 0])) [])) .done) K38_8
@[simp] def WB_spec_DrawAccepts := @C.wpe _ _ B_spec_DrawAccepts.eq_1
def R_spec_DrawAccepts : FIR := ⟨B_spec_DrawAccepts, 5, [(1, some (some 3)), (2, some (some 2))]⟩
theorem IR_spec_DrawAccepts : cfun Try.prog H_spec_DrawAccepts Try.f38 = some R_spec_DrawAccepts := by kernel_rfl
theorem EN_spec_DrawAccepts {args : List Value} {h : Heap} {k : Value → Heap → Prop} (hargs : args.length = 1) (hw : B_spec_DrawAccepts.wp Try.prog (retQ [(1, some (some 3)), (2, some (some 2))] k) (env0 args 5) h) : CallE Try.prog fn_spec_DrawAccepts args h k := enter Try.func38 rfl IR_spec_DrawAccepts hargs hw

def H_spec_l6Lasso : Hint := ⟨[(0, false), (2, true), (3, true)], []⟩
def K81_1 : C := .seq (.pl <| .st (.ext 3 1) <|
    .st (.act none (.pget (some 3) none 2 0 (some 2))) <|
    .st (.act none (.pset none 1 0 2 (.v 3))) .done) (.ret)
@[simp] def W81_1 := @C.wpe _ _ K81_1.eq_1
def K81_2 : Pl := .st (.act none (.als 10 none 2)) <|
    .st (.act none (.pset (some 10) 2 1 1 (.v 9))) .done
@[simp] def W81_2 := @Pl.wpe _ _ K81_2.eq_1
def K81_3 : Pl := .st (.act none (.ex (some 9) (.app 8 1 [.int .i64 0] (.o (.v 6)) (.o (.v 8))))) K81_2
@[simp] def W81_3 := @Pl.wpe _ _ K81_3.eq_1
def K81_4 : C := .pl <| .st (.ext 3 8) <|
    .st (.act none (.psl 3 [] [])) <|
    .st (.act none (.als 4 none 2)) <|
    .st (.act none (.pget (some 5) (some 4) 2 1 none)) <|
    .st (.act none (.als 7 none 2)) <|
    .st (.act none (.pget (some 8) (some 7) 2 1 none)) <|
    .st (.act none (.ex (some 6) (.app 8 1 [.int .i64 0] (.p 0 3) (.o (.v 5))))) K81_3
@[simp] def W81_4 := @C.wpe _ _ K81_4.eq_1
def K81_5 : C := .cond 3 (.v 5) K81_4 (.skip)
@[simp] def W81_5 := @C.wpe _ _ K81_5.eq_1
def K81_6 : Pl := .st (.act none (.px (some 5) (.bin .eql (.v 4) (.c (.int .i64 0))))) .done
@[simp] def W81_6 := @Pl.wpe _ _ K81_6.eq_1
def K81_7 : C := .seq (.seq (.pl <| .st (.ext 3 3) <|
    .st (.act none (.px (some 3) (.mv (.v 0)))) <|
    .st (.act none (.ex (some 4) (.call fn_spec_l16Rd_pick [.v 3, .c (.int .i64 4)]))) K81_6) K81_5) K81_1
@[simp] def W81_7 := @C.wpe _ _ K81_7.eq_1
def K81_8 : Pl := .st (.act none (.px (some 13) (.build [.slice none 0 0, .slice none 0 0] [(0, 1, .v 7), (1, 1, .v 12)]))) <|
    .st (.act none (.pnew 2 (.c (.agg #[.slice none 0 0, .slice none 0 0])) [])) <|
    .st (.act none (.pset none 2 0 2 (.v 13))) .done
@[simp] def W81_8 := @Pl.wpe _ _ K81_8.eq_1
def K81_9 : Pl := .st (.act none (.ex (some 12) (.call fn_spec_l6Word [.v 8, .v 11]))) K81_8
@[simp] def W81_9 := @Pl.wpe _ _ K81_9.eq_1
def K81_10 : Pl := .st (.act none (.ex (some 11) (.call fn_spec_l16Rd_num [.v 9, .v 10]))) K81_9
@[simp] def W81_10 := @Pl.wpe _ _ K81_10.eq_1
def K81_11 : Pl := .st (.act none (.px (some 8) (.mv (.v 0)))) <|
    .st (.act none (.px (some 9) (.mv (.v 0)))) <|
    .st (.act none (.ex (some 10) (.bls 1 4 [.int .i64 0] [(0, 1, .c (.int .i64 2)), (1, 1, .c (.int .i64 1)), (2, 1, .c (.int .i64 3)), (3, 1, .c (.int .i64 4))]))) K81_10
@[simp] def W81_11 := @Pl.wpe _ _ K81_11.eq_1
def K81_12 : Pl := .st (.act none (.ex (some 7) (.call fn_spec_l6Word [.v 3, .v 6]))) K81_11
@[simp] def W81_12 := @Pl.wpe _ _ K81_12.eq_1
def K81_13 : Pl := .st (.act none (.ex (some 6) (.call fn_spec_l16Rd_num [.v 4, .v 5]))) K81_12
@[simp] def W81_13 := @Pl.wpe _ _ K81_13.eq_1
def K81_14 : C := .seq (.pl <| .st (.ext 3 11) <|
    .st (.act none (.px (some 3) (.mv (.v 0)))) <|
    .st (.act none (.px (some 4) (.mv (.v 0)))) <|
    .st (.act none (.ex (some 5) (.bls 1 5 [.int .i64 0] [(0, 1, .c (.int .i64 2)), (1, 1, .c (.int .i64 0)), (2, 1, .c (.int .i64 3)), (3, 1, .c (.int .i64 1)), (4, 1, .c (.int .i64 5))]))) K81_13) K81_7
@[simp] def W81_14 := @C.wpe _ _ K81_14.eq_1
def B_spec_l6Lasso : C := .seq (.pl <| .st (.ext 3 0) <|
    .st (.act none (.pnew 1 (.c (.agg #[.slice none 0 0, .slice none 0 0])) [])) .done) K81_14
@[simp] def WB_spec_l6Lasso := @C.wpe _ _ B_spec_l6Lasso.eq_1
def R_spec_l6Lasso : FIR := ⟨B_spec_l6Lasso, 3, [(1, some (some 2))]⟩
theorem IR_spec_l6Lasso : cfun Try.prog H_spec_l6Lasso Try.f81 = some R_spec_l6Lasso := by kernel_rfl
theorem EN_spec_l6Lasso {args : List Value} {h : Heap} {k : Value → Heap → Prop} (hargs : args.length = 1) (hw : B_spec_l6Lasso.wp Try.prog (retQ [(1, some (some 2))] k) (env0 args 3) h) : CallE Try.prog fn_spec_l6Lasso args h k := enter Try.func81 rfl IR_spec_l6Lasso hargs hw

def H_spec_l6Mutate : Hint := ⟨[(0, false), (1, false), (3, true), (4, true), (5, true), (16, false)], [[1, 2, 5]]⟩
def K80_1 : C := .seq (.pl <| .st (.ext 6 1) <|
    .st (.act none (.pget (some 6) none 4 0 (some 2))) <|
    .st (.act none (.pset none 3 0 2 (.v 6))) .done) (.ret)
@[simp] def W80_1 := @C.wpe _ _ K80_1.eq_1
def K80_2 : Pl := .st (.act none (.als 7 none 4)) <|
    .st (.act none (.pset (some 7) 4 1 1 (.v 6))) .done
@[simp] def W80_2 := @Pl.wpe _ _ K80_2.eq_1
def K80_3 : C := .pl <| .st (.ext 6 2) <|
    .st (.act none (.ex (some 6) (.bls 1 0 [.int .i64 0] []))) K80_2
@[simp] def W80_3 := @C.wpe _ _ K80_3.eq_1
def K80_4 : Pl := .st (.act none (.px (some 11) (.ia 1 (.v 7) (.c (.int .i64 0))))) <|
    .st (.act none (.ex none (.store 1 (.v 11) (.v 10)))) .done
@[simp] def W80_4 := @Pl.wpe _ _ K80_4.eq_1
def K80_5 : Pl := .st (.act none (.ex (some 10) (.call fn_spec_l16Rd_num [.v 8, .v 9]))) K80_4
@[simp] def W80_5 := @Pl.wpe _ _ K80_5.eq_1
def K80_6 : C := .pl <| .st (.ext 6 6) <|
    .st (.act none (.als 6 none 4)) <|
    .st (.act none (.pget (some 7) (some 6) 4 1 none)) <|
    .st (.act none (.px (some 8) (.mv (.v 0)))) <|
    .st (.act none (.ex (some 9) (.bls 1 4 [.int .i64 0] [(0, 1, .c (.int .i64 8)), (1, 1, .c (.int .i64 (-1))), (2, 1, .c (.int .i64 7)), (3, 1, .c (.int .i64 9223372036854775807))]))) K80_5
@[simp] def W80_6 := @C.wpe _ _ K80_6.eq_1
def K80_7 : Pl := .st (.act none (.als 13 none 4)) <|
    .st (.act none (.pset (some 13) 4 0 1 (.v 12))) .done
@[simp] def W80_7 := @Pl.wpe _ _ K80_7.eq_1
def K80_8 : Pl := .st (.act none (.psl 11 [.int .i64 0] [(0, 1, .v 10)])) <|
    .st (.act none (.ex (some 12) (.app 8 1 [.int .i64 0] (.o (.v 7)) (.p 1 11)))) K80_7
@[simp] def W80_8 := @Pl.wpe _ _ K80_8.eq_1
def K80_9 : Pl := .st (.act none (.ex (some 10) (.call fn_spec_l16Rd_num [.v 8, .v 9]))) K80_8
@[simp] def W80_9 := @Pl.wpe _ _ K80_9.eq_1
def K80_10 : C := .pl <| .st (.ext 6 8) <|
    .st (.act none (.als 6 none 4)) <|
    .st (.act none (.pget (some 7) (some 6) 4 0 none)) <|
    .st (.act none (.px (some 8) (.mv (.v 0)))) <|
    .st (.act none (.ex (some 9) (.bls 1 3 [.int .i64 0] [(0, 1, .c (.int .i64 8)), (1, 1, .c (.int .i64 0)), (2, 1, .c (.int .i64 (-9223372036854775808)))]))) K80_9
@[simp] def W80_10 := @C.wpe _ _ K80_10.eq_1
def K80_11 : Pl := .st (.act none (.als 10 none 4)) <|
    .st (.act none (.pset (some 10) 4 0 1 (.v 9))) .done
@[simp] def W80_11 := @Pl.wpe _ _ K80_11.eq_1
def K80_12 : C := .block 2 (.pl <| .st (.ext 6 5) <|
    .st (.act none (.als 6 none 4)) <|
    .st (.act none (.pget (some 7) (some 6) 4 0 none)) <|
    .st (.act none (.psl 8 [.int .i64 0] [(0, 1, .c (.int .i64 1))])) <|
    .st (.act none (.ex (some 9) (.app 8 1 [.int .i64 0] (.o (.v 7)) (.p 1 8)))) K80_11)
@[simp] def W80_12 := @C.wpe _ _ K80_12.eq_1
def K80_13 : C := .cond 6 (.v 12) (.skip) (.exit 1)
@[simp] def W80_13 := @C.wpe _ _ K80_13.eq_1
def K80_14 : Pl := .st (.act none (.px (some 11) (.bin .add (.c (.int .i64 80)) (.v 10)))) <|
    .st (.act none (.px (some 12) (.bin .lss (.v 8) (.v 11)))) .done
@[simp] def W80_14 := @Pl.wpe _ _ K80_14.eq_1
def K80_15 : C := .seq (.seq (.pl <| .st (.ext 6 7) <|
    .st (.act none (.als 6 none 4)) <|
    .st (.act none (.pget (some 7) (some 6) 4 0 none)) <|
    .st (.act none (.px (some 8) (.lenV (.v 7)))) <|
    .st (.act none (.px (some 9) (.mv (.v 0)))) <|
    .st (.act none (.ex (some 10) (.call fn_spec_l16Rd_pick [.v 9, .c (.int .i64 2)]))) K80_14) K80_13) K80_12
@[simp] def W80_15 := @C.wpe _ _ K80_15.eq_1
def K80_16 : C := .block 1 (.loop 6 [1, 2, 5] K80_15)
@[simp] def W80_16 := @C.wpe _ _ K80_16.eq_1
def K80_17 : C := .cond 6 (.v 7) K80_16 (.skip)
@[simp] def W80_17 := @C.wpe _ _ K80_17.eq_1
def K80_18 : C := .seq (.pl <| .st (.ext 6 2) <|
    .st (.act none (.px (some 6) (.bin .eql (.v 5) (.c (.int .i64 3))))) <|
    .st (.act none (.px (some 7) (.mv (.v 6)))) .done) K80_17
@[simp] def W80_18 := @C.wpe _ _ K80_18.eq_1
def K80_19 : C := .cond 6 (.v 7) K80_10 K80_18
@[simp] def W80_19 := @C.wpe _ _ K80_19.eq_1
def K80_20 : C := .seq (.pl <| .st (.ext 6 2) <|
    .st (.act none (.px (some 6) (.bin .eql (.v 5) (.c (.int .i64 2))))) <|
    .st (.act none (.px (some 7) (.mv (.v 6)))) .done) K80_19
@[simp] def W80_20 := @C.wpe _ _ K80_20.eq_1
def K80_21 : C := .cond 6 (.v 7) K80_6 K80_20
@[simp] def W80_21 := @C.wpe _ _ K80_21.eq_1
def K80_22 : C := .seq (.pl <| .st (.ext 6 2) <|
    .st (.act none (.px (some 6) (.bin .eql (.v 5) (.c (.int .i64 1))))) <|
    .st (.act none (.px (some 7) (.mv (.v 6)))) .done) K80_21
@[simp] def W80_22 := @C.wpe _ _ K80_22.eq_1
def K80_23 : C := .cond 6 (.v 7) K80_3 K80_22
@[simp] def W80_23 := @C.wpe _ _ K80_23.eq_1
def K80_24 : C := .block 0 (.seq (.pl <| .st (.ext 6 2) <|
    .st (.act none (.px (some 6) (.bin .eql (.v 5) (.c (.int .i64 0))))) <|
    .st (.act none (.px (some 7) (.mv (.v 6)))) .done) K80_23)
@[simp] def W80_24 := @C.wpe _ _ K80_24.eq_1
def K80_25 : C := .seq (.seq (.pl <| .st (.ext 6 1) <|
    .st (.act none (.px (some 6) (.mv (.v 0)))) <|
    .st (.act none (.ex (some 5) (.call fn_spec_l16Rd_pick [.v 6, .c (.int .i64 40)]))) .done) K80_24) K80_1
@[simp] def W80_25 := @C.wpe _ _ K80_25.eq_1
def K80_26 : Pl := .st (.act none (.px (some 14) (.build [.slice none 0 0, .slice none 0 0] [(0, 1, .v 9), (1, 1, .v 13)]))) <|
    .st (.act none (.pset none 4 0 2 (.v 14))) .done
@[simp] def W80_26 := @Pl.wpe _ _ K80_26.eq_1
def K80_27 : Pl := .st (.act none (.ex (some 13) (.app 8 1 [.int .i64 0] (.p 0 10) (.o (.v 12))))) K80_26
@[simp] def W80_27 := @Pl.wpe _ _ K80_27.eq_1
def K80_28 : C := .seq (.pl <| .st (.ext 6 9) <|
    .st (.act none (.psl 6 [] [])) <|
    .st (.act none (.als 7 none 2)) <|
    .st (.act none (.pget (some 8) (some 7) 2 0 none)) <|
    .st (.act none (.psl 10 [] [])) <|
    .st (.act none (.als 11 none 2)) <|
    .st (.act none (.pget (some 12) (some 11) 2 1 none)) <|
    .st (.act none (.pnew 4 (.c (.agg #[.slice none 0 0, .slice none 0 0])) [])) <|
    .st (.act none (.ex (some 9) (.app 8 1 [.int .i64 0] (.p 0 6) (.o (.v 8))))) K80_27) K80_25
@[simp] def W80_28 := @C.wpe _ _ K80_28.eq_1
def B_spec_l6Mutate : C := .seq (.pl <| .st (.ext 6 0) <|
    .st (.act none (.pnew 2 (.v 1) [])) <|
    .st (.act none (.pnew 3 (.c (.agg #[.slice none 0 0, .slice none 0 0])) [])) .done) K80_28
@[simp] def WB_spec_l6Mutate := @C.wpe _ _ B_spec_l6Mutate.eq_1
def R_spec_l6Mutate : FIR := ⟨B_spec_l6Mutate, 6, [(3, some (some 2))]⟩
theorem IR_spec_l6Mutate : cfun Try.prog H_spec_l6Mutate Try.f80 = some R_spec_l6Mutate := by kernel_rfl
theorem EN_spec_l6Mutate {args : List Value} {h : Heap} {k : Value → Heap → Prop} (hargs : args.length = 2) (hw : B_spec_l6Mutate.wp Try.prog (retQ [(3, some (some 2))] k) (env0 args 6) h) : CallE Try.prog fn_spec_l6Mutate args h k := enter Try.func80 rfl IR_spec_l6Mutate hargs hw


end Go.Proofs.Ytglnelcmcimljaa

/-
  Bodies of functions in the small language, as a program printed them, and that each is what the translation gives.
-/
namespace Go.Proofs.Ytglnelcmcimljaa
open Go
set_option linter.all false
set_option linter.defProp false
set_option maxRecDepth 1000000

end Go.Proofs.Ytglnelcmcimljaa

/-
  Bodies of functions in the small language, as a program printed them, and that each is what the translation gives.
-/
namespace Go.Proofs.Ytglnelcmcimljaa
open Go
set_option linter.all false
set_option linter.defProp false
set_option maxRecDepth 1000000

def H_spec_l6Word : Hint := ⟨[(0, false), (1, false), (4, false), (5, false), (6, false)], [[2]]⟩
def K103_1 : C := .seq (.pl <| .st (.ext 5 1) <|
    .st (.act none (.px (some 5) (.mv (.v 3)))) <|
    .st (.act none (.px (some 2) (.mv (.v 5)))) .done) (.ret)
@[simp] def W103_1 := @C.wpe _ _ K103_1.eq_1
def K103_2 : C := .pl <| .st (.ext 5 2) <|
    .st (.act none (.px (some 5) (.mv (.v 4)))) <|
    .st (.act none (.px (some 6) (.bin .add (.v 5) (.c (.int .i64 1))))) <|
    .st (.act none (.px (some 4) (.mv (.v 6)))) .done
@[simp] def W103_2 := @C.wpe _ _ K103_2.eq_1
def K103_3 : Pl := .st (.act none (.px (some 3) (.mv (.v 10)))) .done
@[simp] def W103_3 := @Pl.wpe _ _ K103_3.eq_1
def K103_4 : Pl := .st (.act none (.psl 9 [.int .i64 0] [(0, 1, .v 8)])) <|
    .st (.act none (.ex (some 10) (.app 8 1 [.int .i64 0] (.o (.v 5)) (.p 1 9)))) K103_3
@[simp] def W103_4 := @Pl.wpe _ _ K103_4.eq_1
def K103_5 : Pl := .st (.act none (.ex (some 8) (.call fn_spec_l16Rd_num [.v 6, .v 7]))) K103_4
@[simp] def W103_5 := @Pl.wpe _ _ K103_5.eq_1
def K103_6 : C := .seq (.block 1 (.pl <| .st (.ext 5 6) <|
    .st (.act none (.px (some 5) (.mv (.v 3)))) <|
    .st (.act none (.px (some 6) (.mv (.v 0)))) <|
    .st (.act none (.ex (some 7) (.bls 1 9 [.int .i64 0] [(0, 1, .c (.int .i64 0)), (1, 1, .c (.int .i64 1)), (2, 1, .c (.int .i64 2)), (3, 1, .c (.int .i64 3)), (4, 1, .c (.int .i64 1)), (5, 1, .c (.int .i64 0)), (6, 1, .c (.int .i64 5)), (7, 1, .c (.int .i64 4)), (8, 1, .c (.int .i64 7))]))) K103_5)) K103_2
@[simp] def W103_6 := @C.wpe _ _ K103_6.eq_1
def K103_7 : C := .cond 5 (.v 7) (.skip) (.exit 0)
@[simp] def W103_7 := @C.wpe _ _ K103_7.eq_1
def K103_8 : C := .seq (.seq (.pl <| .st (.ext 5 3) <|
    .st (.act none (.px (some 5) (.mv (.v 4)))) <|
    .st (.act none (.px (some 6) (.mv (.v 1)))) <|
    .st (.act none (.px (some 7) (.bin .lss (.v 5) (.v 6)))) .done) K103_7) K103_6
@[simp] def W103_8 := @C.wpe _ _ K103_8.eq_1
def K103_9 : C := .block 0 (.loop 5 [2] K103_8)
@[simp] def W103_9 := @C.wpe _ _ K103_9.eq_1
def K103_10 : C := .seq (.seq (.pl <| .st (.ext 5 0) <|
    .st (.act none (.px (some 4) (.mv (.c (.int .i64 0))))) .done) K103_9) K103_1
@[simp] def W103_10 := @C.wpe _ _ K103_10.eq_1
def K103_11 : Pl := .st (.act none (.px (some 3) (.mv (.v 5)))) .done
@[simp] def W103_11 := @Pl.wpe _ _ K103_11.eq_1
def K103_12 : C := .seq (.pl <| .st (.ext 5 1) <|
    .st (.act none (.ex (some 5) (.bls 1 0 [.int .i64 0] []))) K103_11) K103_10
@[simp] def W103_12 := @C.wpe _ _ K103_12.eq_1
def B_spec_l6Word : C := .seq (.pl <| .st (.ext 5 0) <|
    .st (.act none (.px (some 2) (.mv (.c (.slice none 0 0))))) .done) K103_12
@[simp] def WB_spec_l6Word := @C.wpe _ _ B_spec_l6Word.eq_1
def R_spec_l6Word : FIR := ⟨B_spec_l6Word, 5, [(2, none)]⟩
theorem IR_spec_l6Word : cfun Try.prog H_spec_l6Word Try.f103 = some R_spec_l6Word := by kernel_rfl
theorem EN_spec_l6Word {args : List Value} {h : Heap} {k : Value → Heap → Prop} (hargs : args.length = 2) (hw : B_spec_l6Word.wp Try.prog (retQ [(2, none)] k) (env0 args 5) h) : CallE Try.prog fn_spec_l6Word args h k := enter Try.func103 rfl IR_spec_l6Word hargs hw


end Go.Proofs.Ytglnelcmcimljaa

/-
  Bodies of functions in the small language, as a program printed them, and that each is what the translation gives.
-/
namespace Go.Proofs.Ytglnelcmcimljaa
open Go
set_option linter.all false
set_option linter.defProp false
set_option maxRecDepth 1000000

def H_spec_l7Automaton : Hint := ⟨[(0, false), (2, true), (3, true), (4, false), (5, false), (6, true), (7, false), (8, false), (9, false)], [[2, 3, 7, 8], [2, 3, 6, 8]]⟩
def K52_1 : C := .seq (.pl <| .st (.ext 9 1) <|
    .st (.act none (.pget (some 9) none 5 0 (some 3))) <|
    .st (.act none (.pset none 1 0 3 (.v 9))) .done) (.ret)
@[simp] def W52_1 := @C.wpe _ _ K52_1.eq_1
def K52_2 : C := .pl <| .st (.ext 9 2) <|
    .st (.act none (.px (some 9) (.mv (.v 7)))) <|
    .st (.act none (.px (some 10) (.bin .sub (.v 9) (.c (.int .i64 1))))) <|
    .st (.act none (.px (some 7) (.mv (.v 10)))) .done
@[simp] def W52_2 := @C.wpe _ _ K52_2.eq_1
def K52_3 : Pl := .st (.act none (.als 25 none 5)) <|
    .st (.act none (.pset (some 25) 5 2 1 (.v 24))) .done
@[simp] def W52_3 := @Pl.wpe _ _ K52_3.eq_1
def K52_4 : Pl := .st (.act none (.px (some 22) (.build [.int .i64 0, .int .i64 0, .int .i64 0, .int .i64 0] [(0, 1, .v 13), (1, 1, .v 14), (2, 1, .v 18), (3, 1, .v 21)]))) <|
    .st (.act none (.psl 23 [.int .i64 0, .int .i64 0, .int .i64 0, .int .i64 0] [(0, 4, .v 22)])) <|
    .st (.act none (.ex (some 24) (.app 32 4 [.int .i64 0, .int .i64 0, .int .i64 0, .int .i64 0] (.o (.v 10)) (.p 1 23)))) K52_3
@[simp] def W52_4 := @Pl.wpe _ _ K52_4.eq_1
def K52_5 : Pl := .st (.act none (.px (some 18) (.bin .and (.v 16) (.v 17)))) <|
    .st (.act none (.ex (some 21) (.call fn_spec_l16Rd_pick [.v 19, .v 20]))) K52_4
@[simp] def W52_5 := @Pl.wpe _ _ K52_5.eq_1
def K52_6 : Pl := .st (.act none (.ex (some 16) (.call fn_spec_l16Rd_pick [.v 15, .c (.int .i64 8)]))) K52_5
@[simp] def W52_6 := @Pl.wpe _ _ K52_6.eq_1
def K52_7 : C := .pl <| .st (.ext 9 17) <|
    .st (.act none (.als 9 none 5)) <|
    .st (.act none (.pget (some 10) (some 9) 5 2 none)) <|
    .st (.act none (.px (some 11) (.mv (.v 0)))) <|
    .st (.act none (.px (some 12) (.mv (.v 4)))) <|
    .st (.act none (.px (some 14) (.mv (.v 8)))) <|
    .st (.act none (.px (some 15) (.mv (.v 0)))) <|
    .st (.act none (.px (some 17) (.mv (.v 8)))) <|
    .st (.act none (.px (some 19) (.mv (.v 0)))) <|
    .st (.act none (.px (some 20) (.mv (.v 4)))) <|
    .st (.act none (.ex (some 13) (.call fn_spec_l16Rd_pick [.v 11, .v 12]))) K52_6
@[simp] def W52_7 := @C.wpe _ _ K52_7.eq_1
def K52_8 : Pl := .st (.act none (.px (some 8) (.mv (.v 11)))) .done
@[simp] def W52_8 := @Pl.wpe _ _ K52_8.eq_1
def K52_9 : Pl := .st (.act none (.ex (some 11) (.call fn_spec_l16Rd_num [.v 9, .v 10]))) K52_8
@[simp] def W52_9 := @Pl.wpe _ _ K52_9.eq_1
def K52_10 : C := .seq (.block 3 (.seq (.pl <| .st (.ext 9 3) <|
    .st (.act none (.px (some 9) (.mv (.v 0)))) <|
    .st (.act none (.ex (some 10) (.bls 1 5 [.int .i64 0] [(0, 1, .c (.int .i64 1)), (1, 1, .c (.int .i64 3)), (2, 1, .c (.int .i64 0)), (3, 1, .c (.int .i64 2)), (4, 1, .c (.int .i64 7))]))) K52_9) K52_7)) K52_2
@[simp] def W52_10 := @C.wpe _ _ K52_10.eq_1
def K52_11 : C := .cond 9 (.v 10) (.skip) (.exit 2)
@[simp] def W52_11 := @C.wpe _ _ K52_11.eq_1
def K52_12 : C := .seq (.seq (.pl <| .st (.ext 9 2) <|
    .st (.act none (.px (some 9) (.mv (.v 7)))) <|
    .st (.act none (.px (some 10) (.bin .gtr (.v 9) (.c (.int .i64 0))))) .done) K52_11) K52_10
@[simp] def W52_12 := @C.wpe _ _ K52_12.eq_1
def K52_13 : C := .block 2 (.loop 9 [2, 3, 6, 8] K52_12)
@[simp] def W52_13 := @C.wpe _ _ K52_13.eq_1
def K52_14 : Pl := .st (.act none (.px (some 7) (.mv (.v 11)))) .done
@[simp] def W52_14 := @Pl.wpe _ _ K52_14.eq_1
def K52_15 : Pl := .st (.act none (.ex (some 11) (.call fn_spec_l16Rd_num [.v 9, .v 10]))) K52_14
@[simp] def W52_15 := @Pl.wpe _ _ K52_15.eq_1
def K52_16 : C := .seq (.seq (.pl <| .st (.ext 9 3) <|
    .st (.act none (.px (some 9) (.mv (.v 0)))) <|
    .st (.act none (.ex (some 10) (.bls 1 5 [.int .i64 0] [(0, 1, .c (.int .i64 6)), (1, 1, .c (.int .i64 4)), (2, 1, .c (.int .i64 8)), (3, 1, .c (.int .i64 3)), (4, 1, .c (.int .i64 10))]))) K52_15) K52_13) K52_1
@[simp] def W52_16 := @C.wpe _ _ K52_16.eq_1
def K52_17 : C := .pl <| .st (.ext 9 2) <|
    .st (.act none (.px (some 9) (.mv (.v 6)))) <|
    .st (.act none (.px (some 10) (.bin .add (.v 9) (.c (.int .i64 1))))) <|
    .st (.act none (.px (some 6) (.mv (.v 10)))) .done
@[simp] def W52_17 := @C.wpe _ _ K52_17.eq_1
def K52_18 : Pl := .st (.act none (.als 14 none 5)) <|
    .st (.act none (.pset (some 14) 5 0 1 (.v 13))) .done
@[simp] def W52_18 := @Pl.wpe _ _ K52_18.eq_1
def K52_19 : C := .pl <| .st (.ext 9 6) <|
    .st (.act none (.als 9 none 5)) <|
    .st (.act none (.pget (some 10) (some 9) 5 0 none)) <|
    .st (.act none (.px (some 11) (.mv (.v 6)))) <|
    .st (.act none (.psl 12 [.int .i64 0] [(0, 1, .v 11)])) <|
    .st (.act none (.ex (some 13) (.app 8 1 [.int .i64 0] (.o (.v 10)) (.p 1 12)))) K52_18
@[simp] def W52_19 := @C.wpe _ _ K52_19.eq_1
def K52_20 : C := .cond 9 (.v 20) K52_19 (.skip)
@[simp] def W52_20 := @C.wpe _ _ K52_20.eq_1
def K52_21 : Pl := .st (.act (some (.v 16, false)) (.px (some 19) (.bin .eql (.v 18) (.c (.int .i64 0))))) <|
    .st (.act none (.px (some 20) (.pick (.v 16) (.c (.bool true)) (.v 19)))) .done
@[simp] def W52_21 := @Pl.wpe _ _ K52_21.eq_1
def K52_22 : Pl := .st (.act (some (.v 11, true)) (.px (some 14) (.bin .gtr (.v 13) (.c (.int .i64 0))))) <|
    .st (.act none (.px (some 15) (.pick (.v 11) (.v 14) (.c (.bool false))))) <|
    .st (.act none (.px (some 16) (.mv (.v 15)))) <|
    .st (.act (some (.v 16, false)) (.px (some 17) (.mv (.v 0)))) <|
    .st (.act (some (.v 16, false)) (.ex (some 18) (.call fn_spec_l16Rd_pick [.v 17, .c (.int .i64 5)]))) K52_21
@[simp] def W52_22 := @Pl.wpe _ _ K52_22.eq_1
def K52_23 : C := .seq (.pl <| .st (.ext 9 12) <|
    .st (.act none (.px (some 9) (.mv (.v 6)))) <|
    .st (.act none (.px (some 10) (.bin .eql (.v 9) (.c (.int .i64 0))))) <|
    .st (.act none (.px (some 11) (.mv (.v 10)))) <|
    .st (.act (some (.v 11, true)) (.px (some 12) (.mv (.v 0)))) <|
    .st (.act (some (.v 11, true)) (.ex (some 13) (.call fn_spec_l16Rd_pick [.v 12, .c (.int .i64 12)]))) K52_22) K52_20
@[simp] def W52_23 := @C.wpe _ _ K52_23.eq_1
def K52_24 : Pl := .st (.act none (.px (some 14) (.bin .eql (.v 13) (.c (.int .i64 0))))) <|
    .st (.act none (.px (some 15) (.ia 1 (.v 10) (.v 11)))) <|
    .st (.act none (.ex none (.store 1 (.v 15) (.v 14)))) .done
@[simp] def W52_24 := @Pl.wpe _ _ K52_24.eq_1
def K52_25 : C := .seq (.block 1 (.seq (.pl <| .st (.ext 9 7) <|
    .st (.act none (.als 9 none 5)) <|
    .st (.act none (.pget (some 10) (some 9) 5 1 none)) <|
    .st (.act none (.px (some 11) (.mv (.v 6)))) <|
    .st (.act none (.px (some 12) (.mv (.v 0)))) <|
    .st (.act none (.ex (some 13) (.call fn_spec_l16Rd_pick [.v 12, .c (.int .i64 3)]))) K52_24) K52_23)) K52_17
@[simp] def W52_25 := @C.wpe _ _ K52_25.eq_1
def K52_26 : C := .cond 9 (.v 11) (.skip) (.exit 0)
@[simp] def W52_26 := @C.wpe _ _ K52_26.eq_1
def K52_27 : C := .seq (.seq (.pl <| .st (.ext 9 3) <|
    .st (.act none (.px (some 9) (.mv (.v 6)))) <|
    .st (.act none (.px (some 10) (.mv (.v 4)))) <|
    .st (.act none (.px (some 11) (.bin .lss (.v 9) (.v 10)))) .done) K52_26) K52_25
@[simp] def W52_27 := @C.wpe _ _ K52_27.eq_1
def K52_28 : C := .block 0 (.loop 9 [2, 3, 7, 8] K52_27)
@[simp] def W52_28 := @C.wpe _ _ K52_28.eq_1
def K52_29 : C := .seq (.seq (.pl <| .st (.ext 9 0) <|
    .st (.act none (.px (some 6) (.mv (.c (.int .i64 0))))) .done) K52_28) K52_16
@[simp] def W52_29 := @C.wpe _ _ K52_29.eq_1
def K52_30 : Pl := .st (.act none (.px (some 11) (.build [.slice none 0 0, .slice none 0 0, .slice none 0 0] [(1, 1, .v 10)]))) <|
    .st (.act none (.pnew 5 (.c (.agg #[.slice none 0 0, .slice none 0 0, .slice none 0 0])) [])) <|
    .st (.act none (.pset none 5 0 3 (.v 11))) .done
@[simp] def W52_30 := @Pl.wpe _ _ K52_30.eq_1
def K52_31 : C := .seq (.pl <| .st (.ext 9 3) <|
    .st (.act none (.px (some 9) (.mv (.v 4)))) <|
    .st (.act none (.ex (some 10) (.mks 1 1 [.bool false] (.v 9) (.v 9)))) K52_30) K52_29
@[simp] def W52_31 := @C.wpe _ _ K52_31.eq_1
def K52_32 : Pl := .st (.act none (.px (some 4) (.mv (.v 11)))) .done
@[simp] def W52_32 := @Pl.wpe _ _ K52_32.eq_1
def K52_33 : Pl := .st (.act none (.ex (some 11) (.call fn_spec_l16Rd_num [.v 9, .v 10]))) K52_32
@[simp] def W52_33 := @Pl.wpe _ _ K52_33.eq_1
def K52_34 : C := .seq (.pl <| .st (.ext 9 3) <|
    .st (.act none (.px (some 9) (.mv (.v 0)))) <|
    .st (.act none (.ex (some 10) (.bls 1 5 [.int .i64 0] [(0, 1, .c (.int .i64 3)), (1, 1, .c (.int .i64 2)), (2, 1, .c (.int .i64 4)), (3, 1, .c (.int .i64 1)), (4, 1, .c (.int .i64 5))]))) K52_33) K52_31
@[simp] def W52_34 := @C.wpe _ _ K52_34.eq_1
def K52_35 : C := .seq (.pl <| .st (.ext 9 1) <|
    .st (.act none (.pget (some 9) none 2 0 (some 3))) <|
    .st (.act none (.pset none 1 0 3 (.v 9))) .done) (.ret)
@[simp] def W52_35 := @C.wpe _ _ K52_35.eq_1
def K52_36 : C := .cond 9 (.v 15) K52_35 (.skip)
@[simp] def W52_36 := @C.wpe _ _ K52_36.eq_1
def K52_37 : C := .seq (.pl <| .st (.ext 9 7) <|
    .st (.act none (.px (some 9) (.mv (.v 3)))) <|
    .st (.act none (.px (some 10) (.mv (.v 9)))) <|
    .st (.act (some (.v 10, true)) (.als 11 none 2)) <|
    .st (.act (some (.v 10, true)) (.pget (some 12) (some 11) 2 1 none)) <|
    .st (.act (some (.v 10, true)) (.px (some 13) (.lenV (.v 12)))) <|
    .st (.act (some (.v 10, true)) (.px (some 14) (.bin .leq (.v 13) (.c (.int .i64 16))))) <|
    .st (.act none (.px (some 15) (.pick (.v 10) (.v 14) (.c (.bool false))))) .done) K52_36
@[simp] def W52_37 := @C.wpe _ _ K52_37.eq_1
def K52_38 : Pl := .st (.act none (.px (some 12) (.mv (.v 11)))) <|
    .st (.act none (.px (some 13) (.extract 0 (.v 12)))) <|
    .st (.act none (.px (some 14) (.extract 1 (.v 12)))) <|
    .st (.act none (.pnew 2 (.c (.agg #[.slice none 0 0, .slice none 0 0, .slice none 0 0])) [])) <|
    .st (.act none (.pset none 2 0 3 (.v 13))) <|
    .st (.act none (.px (some 3) (.mv (.v 14)))) .done
@[simp] def W52_38 := @Pl.wpe _ _ K52_38.eq_1
def K52_39 : Pl := .st (.act none (.ex (some 11) (.call fn_spec_TranslateFormula [.v 10]))) K52_38
@[simp] def W52_39 := @Pl.wpe _ _ K52_39.eq_1
def K52_40 : C := .seq (.pl <| .st (.ext 9 6) <|
    .st (.act none (.px (some 9) (.mv (.v 0)))) <|
    .st (.act none (.ex (some 10) (.call fn_spec_l5Formula [.v 9]))) K52_39) K52_37
@[simp] def W52_40 := @C.wpe _ _ K52_40.eq_1
def K52_41 : C := .cond 9 (.v 11) K52_40 (.skip)
@[simp] def W52_41 := @C.wpe _ _ K52_41.eq_1
def K52_42 : Pl := .st (.act none (.px (some 11) (.bin .eql (.v 10) (.c (.int .i64 0))))) .done
@[simp] def W52_42 := @Pl.wpe _ _ K52_42.eq_1
def K52_43 : C := .seq (.seq (.pl <| .st (.ext 9 3) <|
    .st (.act none (.px (some 9) (.mv (.v 0)))) <|
    .st (.act none (.ex (some 10) (.call fn_spec_l16Rd_pick [.v 9, .c (.int .i64 3)]))) K52_42) K52_41) K52_34
@[simp] def W52_43 := @C.wpe _ _ K52_43.eq_1
def B_spec_l7Automaton : C := .seq (.pl <| .st (.ext 9 0) <|
    .st (.act none (.pnew 1 (.c (.agg #[.slice none 0 0, .slice none 0 0, .slice none 0 0])) [])) .done) K52_43
@[simp] def WB_spec_l7Automaton := @C.wpe _ _ B_spec_l7Automaton.eq_1
def R_spec_l7Automaton : FIR := ⟨B_spec_l7Automaton, 9, [(1, some (some 3))]⟩
theorem IR_spec_l7Automaton : cfun Try.prog H_spec_l7Automaton Try.f52 = some R_spec_l7Automaton := by kernel_rfl
theorem EN_spec_l7Automaton {args : List Value} {h : Heap} {k : Value → Heap → Prop} (hargs : args.length = 1) (hw : B_spec_l7Automaton.wp Try.prog (retQ [(1, some (some 3))] k) (env0 args 9) h) : CallE Try.prog fn_spec_l7Automaton args h k := enter Try.func52 rfl IR_spec_l7Automaton hargs hw

def H_spec_l7Basic : Hint := ⟨[(0, false), (1, true), (2, false)], []⟩
def K166_1 : C := .seq (.pl <| .st (.ext 3 18) <|
    .st (.act none (.als 3 none 1)) <|
    .st (.act none (.pget (some 4) (some 3) 1 0 none)) <|
    .st (.act none (.px (some 5) (.bin .eql (.v 4) (.c (.int .i64 2))))) <|
    .st (.act none (.px (some 6) (.mv (.v 5)))) <|
    .st (.act (some (.v 6, false)) (.als 7 none 1)) <|
    .st (.act (some (.v 6, false)) (.pget (some 8) (some 7) 1 0 none)) <|
    .st (.act (some (.v 6, false)) (.px (some 9) (.bin .eql (.v 8) (.c (.int .i64 6))))) <|
    .st (.act none (.px (some 10) (.pick (.v 6) (.c (.bool true)) (.v 9)))) <|
    .st (.act none (.px (some 11) (.mv (.v 10)))) <|
    .st (.act (some (.v 11, false)) (.als 12 none 1)) <|
    .st (.act (some (.v 11, false)) (.pget (some 13) (some 12) 1 0 none)) <|
    .st (.act (some (.v 11, false)) (.px (some 14) (.bin .eql (.v 13) (.c (.int .i64 7))))) <|
    .st (.act none (.px (some 15) (.pick (.v 11) (.c (.bool true)) (.v 14)))) <|
    .st (.act none (.px (some 16) (.mv (.v 15)))) <|
    .st (.act (some (.v 16, false)) (.als 17 none 1)) <|
    .st (.act (some (.v 16, false)) (.pget (some 18) (some 17) 1 0 none)) <|
    .st (.act (some (.v 16, false)) (.px (some 19) (.bin .eql (.v 18) (.c (.int .i64 8))))) <|
    .st (.act none (.px (some 20) (.pick (.v 16) (.c (.bool true)) (.v 19)))) <|
    .st (.act none (.px (some 2) (.mv (.v 20)))) .done) (.ret)
@[simp] def W166_1 := @C.wpe _ _ K166_1.eq_1
def B_spec_l7Basic : C := .seq (.pl <| .st (.ext 3 0) <|
    .st (.act none (.pnew 1 (.v 0) [])) <|
    .st (.act none (.px (some 2) (.mv (.c (.bool false))))) .done) K166_1
@[simp] def WB_spec_l7Basic := @C.wpe _ _ B_spec_l7Basic.eq_1
def R_spec_l7Basic : FIR := ⟨B_spec_l7Basic, 3, [(2, none)]⟩
theorem IR_spec_l7Basic : cfun Try.prog H_spec_l7Basic Try.f166 = some R_spec_l7Basic := by kernel_rfl
theorem EN_spec_l7Basic {args : List Value} {h : Heap} {k : Value → Heap → Prop} (hargs : args.length = 1) (hw : B_spec_l7Basic.wp Try.prog (retQ [(2, none)] k) (env0 args 3) h) : CallE Try.prog fn_spec_l7Basic args h k := enter Try.func166 rfl IR_spec_l7Basic hargs hw

def H_spec_l7Follows : Hint := ⟨[(0, false), (1, false), (2, false), (6, false), (7, false), (8, true), (9, false), (10, false), (26, false)], [[3, 5, 6, 7, 8]]⟩
def K146_1 : C := .seq (.pl <| .st (.ext 9 0) <|
    .st (.act none (.px (some 3) (.mv (.c (.bool true))))) .done) (.ret)
@[simp] def W146_1 := @C.wpe _ _ K146_1.eq_1
def K146_2 : C := .pl <| .st (.ext 9 2) <|
    .st (.act none (.px (some 9) (.mv (.v 4)))) <|
    .st (.act none (.px (some 10) (.bin .add (.v 9) (.c (.int .i64 1))))) <|
    .st (.act none (.px (some 4) (.mv (.v 10)))) .done
@[simp] def W146_2 := @C.wpe _ _ K146_2.eq_1
def K146_3 : C := .seq (.pl <| .st (.ext 9 0) <|
    .st (.act none (.px (some 3) (.mv (.c (.bool false))))) .done) (.ret)
@[simp] def W146_3 := @C.wpe _ _ K146_3.eq_1
def K146_4 : C := .cond 9 (.v 11) K146_3 (.skip)
@[simp] def W146_4 := @C.wpe _ _ K146_4.eq_1
def K146_5 : C := .seq (.pl <| .st (.ext 9 3) <|
    .st (.act none (.px (some 9) (.mv (.v 7)))) <|
    .st (.act none (.px (some 10) (.mv (.v 6)))) <|
    .st (.act none (.px (some 11) (.eqb true (.v 9) (.v 10)))) .done) K146_4
@[simp] def W146_5 := @C.wpe _ _ K146_5.eq_1
def K146_6 : Pl := .st (.act none (.px (some 7) (.mv (.v 15)))) .done
@[simp] def W146_6 := @Pl.wpe _ _ K146_6.eq_1
def K146_7 : C := .pl <| .st (.ext 9 7) <|
    .st (.act none (.px (some 9) (.mv (.v 0)))) <|
    .st (.act none (.px (some 10) (.mv (.v 2)))) <|
    .st (.act none (.als 11 none 5)) <|
    .st (.act none (.pget (some 12) (some 11) 5 2 none)) <|
    .st (.act none (.px (some 13) (.ia 3 (.v 12) (.c (.int .i64 0))))) <|
    .st (.act none (.ld (some 14) (.v 13) (some 3))) <|
    .st (.act none (.ex (some 15) (.call fn_spec_l7Value [.v 9, .v 10, .v 14]))) K146_6
@[simp] def W146_7 := @C.wpe _ _ K146_7.eq_1
def K146_8 : Pl := .st (.act (some (.v 16, false)) (.px (some 28) (.pick (.v 24) (.v 27) (.c (.bool false))))) <|
    .st (.act none (.px (some 29) (.pick (.v 16) (.c (.bool true)) (.v 28)))) <|
    .st (.act none (.px (some 7) (.mv (.v 29)))) .done
@[simp] def W146_8 := @Pl.wpe _ _ K146_8.eq_1
def K146_9 : Pl := .st (.act (some (.v 16, false)) (.px (some 24) (.mv (.v 23)))) <|
    .st (.act (some (.v 24, true)) (.px (some 25) (.mv (.v 2)))) <|
    .st (.act (some (.v 24, true)) (.px (some 26) (.mv (.v 4)))) <|
    .st (.act (some (.v 24, true)) (.ex (some 27) (.call fn_spec_l6Has [.v 25, .v 26]))) K146_8
@[simp] def W146_9 := @Pl.wpe _ _ K146_9.eq_1
def K146_10 : Pl := .st (.act none (.px (some 16) (.mv (.v 15)))) <|
    .st (.act (some (.v 16, false)) (.px (some 17) (.mv (.v 0)))) <|
    .st (.act (some (.v 16, false)) (.px (some 18) (.mv (.v 1)))) <|
    .st (.act (some (.v 16, false)) (.als 19 none 5)) <|
    .st (.act (some (.v 16, false)) (.pget (some 20) (some 19) 5 2 none)) <|
    .st (.act (some (.v 16, false)) (.px (some 21) (.ia 3 (.v 20) (.c (.int .i64 0))))) <|
    .st (.act (some (.v 16, false)) (.ld (some 22) (.v 21) (some 3))) <|
    .st (.act (some (.v 16, false)) (.ex (some 23) (.call fn_spec_l7Value [.v 17, .v 18, .v 22]))) K146_9
@[simp] def W146_10 := @Pl.wpe _ _ K146_10.eq_1
def K146_11 : C := .pl <| .st (.ext 9 21) <|
    .st (.act none (.px (some 9) (.mv (.v 0)))) <|
    .st (.act none (.px (some 10) (.mv (.v 1)))) <|
    .st (.act none (.als 11 none 5)) <|
    .st (.act none (.pget (some 12) (some 11) 5 2 none)) <|
    .st (.act none (.px (some 13) (.ia 3 (.v 12) (.c (.int .i64 1))))) <|
    .st (.act none (.ld (some 14) (.v 13) (some 3))) <|
    .st (.act none (.ex (some 15) (.call fn_spec_l7Value [.v 9, .v 10, .v 14]))) K146_10
@[simp] def W146_11 := @C.wpe _ _ K146_11.eq_1
def K146_12 : Pl := .st (.act (some (.v 16, true)) (.px (some 28) (.pick (.v 24) (.c (.bool true)) (.v 27)))) <|
    .st (.act none (.px (some 29) (.pick (.v 16) (.v 28) (.c (.bool false))))) <|
    .st (.act none (.px (some 7) (.mv (.v 29)))) .done
@[simp] def W146_12 := @Pl.wpe _ _ K146_12.eq_1
def K146_13 : Pl := .st (.act (some (.v 16, true)) (.px (some 24) (.mv (.v 23)))) <|
    .st (.act (some (.v 24, false)) (.px (some 25) (.mv (.v 2)))) <|
    .st (.act (some (.v 24, false)) (.px (some 26) (.mv (.v 4)))) <|
    .st (.act (some (.v 24, false)) (.ex (some 27) (.call fn_spec_l6Has [.v 25, .v 26]))) K146_12
@[simp] def W146_13 := @Pl.wpe _ _ K146_13.eq_1
def K146_14 : Pl := .st (.act none (.px (some 16) (.mv (.v 15)))) <|
    .st (.act (some (.v 16, true)) (.px (some 17) (.mv (.v 0)))) <|
    .st (.act (some (.v 16, true)) (.px (some 18) (.mv (.v 1)))) <|
    .st (.act (some (.v 16, true)) (.als 19 none 5)) <|
    .st (.act (some (.v 16, true)) (.pget (some 20) (some 19) 5 2 none)) <|
    .st (.act (some (.v 16, true)) (.px (some 21) (.ia 3 (.v 20) (.c (.int .i64 0))))) <|
    .st (.act (some (.v 16, true)) (.ld (some 22) (.v 21) (some 3))) <|
    .st (.act (some (.v 16, true)) (.ex (some 23) (.call fn_spec_l7Value [.v 17, .v 18, .v 22]))) K146_13
@[simp] def W146_14 := @Pl.wpe _ _ K146_14.eq_1
def K146_15 : C := .pl <| .st (.ext 9 21) <|
    .st (.act none (.px (some 9) (.mv (.v 0)))) <|
    .st (.act none (.px (some 10) (.mv (.v 1)))) <|
    .st (.act none (.als 11 none 5)) <|
    .st (.act none (.pget (some 12) (some 11) 5 2 none)) <|
    .st (.act none (.px (some 13) (.ia 3 (.v 12) (.c (.int .i64 1))))) <|
    .st (.act none (.ld (some 14) (.v 13) (some 3))) <|
    .st (.act none (.ex (some 15) (.call fn_spec_l7Value [.v 9, .v 10, .v 14]))) K146_14
@[simp] def W146_15 := @C.wpe _ _ K146_15.eq_1
def K146_16 : C := .cond 9 (.v 10) K146_15 (.skip)
@[simp] def W146_16 := @C.wpe _ _ K146_16.eq_1
def K146_17 : C := .seq (.pl <| .st (.ext 9 2) <|
    .st (.act none (.px (some 9) (.bin .eql (.v 8) (.c (.int .i64 8))))) <|
    .st (.act none (.px (some 10) (.mv (.v 9)))) .done) K146_16
@[simp] def W146_17 := @C.wpe _ _ K146_17.eq_1
def K146_18 : C := .cond 9 (.v 10) K146_11 K146_17
@[simp] def W146_18 := @C.wpe _ _ K146_18.eq_1
def K146_19 : C := .seq (.pl <| .st (.ext 9 2) <|
    .st (.act none (.px (some 9) (.bin .eql (.v 8) (.c (.int .i64 7))))) <|
    .st (.act none (.px (some 10) (.mv (.v 9)))) .done) K146_18
@[simp] def W146_19 := @C.wpe _ _ K146_19.eq_1
def K146_20 : C := .cond 9 (.v 10) K146_7 K146_19
@[simp] def W146_20 := @C.wpe _ _ K146_20.eq_1
def K146_21 : C := .block 2 (.seq (.pl <| .st (.ext 9 2) <|
    .st (.act none (.px (some 9) (.bin .eql (.v 8) (.c (.int .i64 6))))) <|
    .st (.act none (.px (some 10) (.mv (.v 9)))) .done) K146_20)
@[simp] def W146_21 := @C.wpe _ _ K146_21.eq_1
def K146_22 : C := .seq (.seq (.pl <| .st (.ext 9 1) <|
    .st (.act none (.als 9 none 5)) <|
    .st (.act none (.pget (some 8) (some 9) 5 0 none)) .done) K146_21) K146_5
@[simp] def W146_22 := @C.wpe _ _ K146_22.eq_1
def K146_23 : C := .seq (.pl <| .st (.ext 9 1) <|
    .st (.act none (.px (some 9) (.mv (.v 6)))) <|
    .st (.act none (.px (some 7) (.mv (.v 9)))) .done) K146_22
@[simp] def W146_23 := @C.wpe _ _ K146_23.eq_1
def K146_24 : Pl := .st (.act none (.px (some 6) (.mv (.v 11)))) .done
@[simp] def W146_24 := @Pl.wpe _ _ K146_24.eq_1
def K146_25 : C := .seq (.pl <| .st (.ext 9 3) <|
    .st (.act none (.px (some 9) (.mv (.v 1)))) <|
    .st (.act none (.px (some 10) (.mv (.v 4)))) <|
    .st (.act none (.ex (some 11) (.call fn_spec_l6Has [.v 9, .v 10]))) K146_24) K146_23
@[simp] def W146_25 := @C.wpe _ _ K146_25.eq_1
def K146_26 : C := .seq (.block 1 (.seq (.pl <| .st (.ext 9 4) <|
    .st (.act none (.px (some 9) (.mv (.v 0)))) <|
    .st (.act none (.px (some 10) (.mv (.v 4)))) <|
    .st (.act none (.px (some 11) (.ia 3 (.v 9) (.v 10)))) <|
    .st (.act none (.ld (some 12) (.v 11) (some 3))) <|
    .st (.act none (.pnew 5 (.c (.agg #[.int .i64 0, .int .i64 0, .slice none 0 0])) [])) <|
    .st (.act none (.pset none 5 0 3 (.v 12))) .done) K146_25)) K146_2
@[simp] def W146_26 := @C.wpe _ _ K146_26.eq_1
def K146_27 : C := .cond 9 (.v 12) (.skip) (.exit 0)
@[simp] def W146_27 := @C.wpe _ _ K146_27.eq_1
def K146_28 : C := .seq (.seq (.pl <| .st (.ext 9 4) <|
    .st (.act none (.px (some 9) (.mv (.v 4)))) <|
    .st (.act none (.px (some 10) (.mv (.v 0)))) <|
    .st (.act none (.px (some 11) (.lenV (.v 10)))) <|
    .st (.act none (.px (some 12) (.bin .lss (.v 9) (.v 11)))) .done) K146_27) K146_26
@[simp] def W146_28 := @C.wpe _ _ K146_28.eq_1
def K146_29 : C := .block 0 (.loop 9 [3, 5, 6, 7, 8] K146_28)
@[simp] def W146_29 := @C.wpe _ _ K146_29.eq_1
def K146_30 : C := .seq (.seq (.pl <| .st (.ext 9 0) <|
    .st (.act none (.px (some 4) (.mv (.c (.int .i64 0))))) .done) K146_29) K146_1
@[simp] def W146_30 := @C.wpe _ _ K146_30.eq_1
def B_spec_l7Follows : C := .seq (.pl <| .st (.ext 9 0) <|
    .st (.act none (.px (some 3) (.mv (.c (.bool false))))) .done) K146_30
@[simp] def WB_spec_l7Follows := @C.wpe _ _ B_spec_l7Follows.eq_1
def R_spec_l7Follows : FIR := ⟨B_spec_l7Follows, 9, [(3, none)]⟩
theorem IR_spec_l7Follows : cfun Try.prog H_spec_l7Follows Try.f146 = some R_spec_l7Follows := by kernel_rfl
theorem EN_spec_l7Follows {args : List Value} {h : Heap} {k : Value → Heap → Prop} (hargs : args.length = 3) (hw : B_spec_l7Follows.wp Try.prog (retQ [(3, none)] k) (env0 args 9) h) : CallE Try.prog fn_spec_l7Follows args h k := enter Try.func146 rfl IR_spec_l7Follows hargs hw

def H_spec_l7Fulfils : Hint := ⟨[(0, false), (1, false), (2, false), (6, false)], []⟩
def K170_1 : Pl := .st (.act none (.px (some 19) (.pick (.v 8) (.c (.bool true)) (.v 18)))) <|
    .st (.act none (.px (some 3) (.mv (.v 19)))) .done
@[simp] def W170_1 := @Pl.wpe _ _ K170_1.eq_1
def K170_2 : Pl := .st (.act none (.px (some 7) (.un .not (.v 6)))) <|
    .st (.act none (.px (some 8) (.mv (.v 7)))) <|
    .st (.act (some (.v 8, false)) (.px (some 9) (.mv (.v 0)))) <|
    .st (.act (some (.v 8, false)) (.px (some 10) (.mv (.v 1)))) <|
    .st (.act (some (.v 8, false)) (.px (some 11) (.mv (.v 0)))) <|
    .st (.act (some (.v 8, false)) (.px (some 12) (.mv (.v 2)))) <|
    .st (.act (some (.v 8, false)) (.px (some 13) (.ia 3 (.v 11) (.v 12)))) <|
    .st (.act (some (.v 8, false)) (.px (some 14) (.fa 2 (.v 13)))) <|
    .st (.act (some (.v 8, false)) (.ld (some 15) (.v 14) none)) <|
    .st (.act (some (.v 8, false)) (.px (some 16) (.ia 3 (.v 15) (.c (.int .i64 1))))) <|
    .st (.act (some (.v 8, false)) (.ld (some 17) (.v 16) (some 3))) <|
    .st (.act (some (.v 8, false)) (.ex (some 18) (.call fn_spec_l7Value [.v 9, .v 10, .v 17]))) K170_1
@[simp] def W170_2 := @Pl.wpe _ _ K170_2.eq_1
def K170_3 : C := .seq (.pl <| .st (.ext 4 16) <|
    .st (.act none (.px (some 4) (.mv (.v 1)))) <|
    .st (.act none (.px (some 5) (.mv (.v 2)))) <|
    .st (.act none (.ex (some 6) (.call fn_spec_l6Has [.v 4, .v 5]))) K170_2) (.ret)
@[simp] def W170_3 := @C.wpe _ _ K170_3.eq_1
def B_spec_l7Fulfils : C := .seq (.pl <| .st (.ext 4 0) <|
    .st (.act none (.px (some 3) (.mv (.c (.bool false))))) .done) K170_3
@[simp] def WB_spec_l7Fulfils := @C.wpe _ _ B_spec_l7Fulfils.eq_1
def R_spec_l7Fulfils : FIR := ⟨B_spec_l7Fulfils, 4, [(3, none)]⟩
theorem IR_spec_l7Fulfils : cfun Try.prog H_spec_l7Fulfils Try.f170 = some R_spec_l7Fulfils := by kernel_rfl
theorem EN_spec_l7Fulfils {args : List Value} {h : Heap} {k : Value → Heap → Prop} (hargs : args.length = 3) (hw : B_spec_l7Fulfils.wp Try.prog (retQ [(3, none)] k) (env0 args 4) h) : CallE Try.prog fn_spec_l7Fulfils args h k := enter Try.func170 rfl IR_spec_l7Fulfils hargs hw

def H_spec_l7Letter : Hint := ⟨[(0, false), (1, false), (4, false), (5, false), (6, false), (7, false), (8, false)], [[2, 3]]⟩
def K145_1 : C := .seq (.pl <| .st (.ext 7 2) <|
    .st (.act none (.px (some 7) (.mv (.v 4)))) <|
    .st (.act none (.px (some 8) (.mv (.v 5)))) <|
    .st (.act none (.px (some 2) (.mv (.v 7)))) <|
    .st (.act none (.px (some 3) (.mv (.v 8)))) .done) (.ret)
@[simp] def W145_1 := @C.wpe _ _ K145_1.eq_1
def K145_2 : C := .pl <| .st (.ext 7 2) <|
    .st (.act none (.px (some 7) (.mv (.v 6)))) <|
    .st (.act none (.px (some 8) (.bin .add (.v 7) (.c (.int .i64 1))))) <|
    .st (.act none (.px (some 6) (.mv (.v 8)))) .done
@[simp] def W145_2 := @C.wpe _ _ K145_2.eq_1
def K145_3 : C := .pl <| .st (.ext 7 9) <|
    .st (.act none (.px (some 7) (.mv (.v 5)))) <|
    .st (.act none (.px (some 8) (.mv (.v 0)))) <|
    .st (.act none (.px (some 9) (.mv (.v 6)))) <|
    .st (.act none (.px (some 10) (.ia 3 (.v 8) (.v 9)))) <|
    .st (.act none (.px (some 11) (.fa 1 (.v 10)))) <|
    .st (.act none (.ld (some 12) (.v 11) none)) <|
    .st (.act none (.px (some 13) (.conv .u64 (.v 12)))) <|
    .st (.act none (.px (some 14) (.bin .shl (.c (.int .i64 1)) (.v 13)))) <|
    .st (.act none (.px (some 15) (.bin .or (.v 7) (.v 14)))) <|
    .st (.act none (.px (some 5) (.mv (.v 15)))) .done
@[simp] def W145_3 := @C.wpe _ _ K145_3.eq_1
def K145_4 : C := .cond 7 (.v 9) K145_3 (.skip)
@[simp] def W145_4 := @C.wpe _ _ K145_4.eq_1
def K145_5 : C := .seq (.pl <| .st (.ext 7 3) <|
    .st (.act none (.px (some 7) (.mv (.v 1)))) <|
    .st (.act none (.px (some 8) (.mv (.v 6)))) <|
    .st (.act none (.ex (some 9) (.call fn_spec_l6Has [.v 7, .v 8]))) .done) K145_4
@[simp] def W145_5 := @C.wpe _ _ K145_5.eq_1
def K145_6 : C := .seq (.pl <| .st (.ext 7 9) <|
    .st (.act none (.px (some 7) (.mv (.v 4)))) <|
    .st (.act none (.px (some 8) (.mv (.v 0)))) <|
    .st (.act none (.px (some 9) (.mv (.v 6)))) <|
    .st (.act none (.px (some 10) (.ia 3 (.v 8) (.v 9)))) <|
    .st (.act none (.px (some 11) (.fa 1 (.v 10)))) <|
    .st (.act none (.ld (some 12) (.v 11) none)) <|
    .st (.act none (.px (some 13) (.conv .u64 (.v 12)))) <|
    .st (.act none (.px (some 14) (.bin .shl (.c (.int .i64 1)) (.v 13)))) <|
    .st (.act none (.px (some 15) (.bin .or (.v 7) (.v 14)))) <|
    .st (.act none (.px (some 4) (.mv (.v 15)))) .done) K145_5
@[simp] def W145_6 := @C.wpe _ _ K145_6.eq_1
def K145_7 : C := .cond 7 (.v 12) K145_6 (.skip)
@[simp] def W145_7 := @C.wpe _ _ K145_7.eq_1
def K145_8 : C := .seq (.block 1 (.seq (.pl <| .st (.ext 7 6) <|
    .st (.act none (.px (some 7) (.mv (.v 0)))) <|
    .st (.act none (.px (some 8) (.mv (.v 6)))) <|
    .st (.act none (.px (some 9) (.ia 3 (.v 7) (.v 8)))) <|
    .st (.act none (.px (some 10) (.fa 0 (.v 9)))) <|
    .st (.act none (.ld (some 11) (.v 10) none)) <|
    .st (.act none (.px (some 12) (.bin .eql (.v 11) (.c (.int .i64 2))))) .done) K145_7)) K145_2
@[simp] def W145_8 := @C.wpe _ _ K145_8.eq_1
def K145_9 : C := .cond 7 (.v 10) (.skip) (.exit 0)
@[simp] def W145_9 := @C.wpe _ _ K145_9.eq_1
def K145_10 : C := .seq (.seq (.pl <| .st (.ext 7 4) <|
    .st (.act none (.px (some 7) (.mv (.v 6)))) <|
    .st (.act none (.px (some 8) (.mv (.v 0)))) <|
    .st (.act none (.px (some 9) (.lenV (.v 8)))) <|
    .st (.act none (.px (some 10) (.bin .lss (.v 7) (.v 9)))) .done) K145_9) K145_8
@[simp] def W145_10 := @C.wpe _ _ K145_10.eq_1
def K145_11 : C := .block 0 (.loop 7 [2, 3] K145_10)
@[simp] def W145_11 := @C.wpe _ _ K145_11.eq_1
def K145_12 : C := .seq (.seq (.pl <| .st (.ext 7 0) <|
    .st (.act none (.px (some 6) (.mv (.c (.int .i64 0))))) .done) K145_11) K145_1
@[simp] def W145_12 := @C.wpe _ _ K145_12.eq_1
def K145_13 : C := .seq (.pl <| .st (.ext 7 0) <|
    .st (.act none (.px (some 5) (.mv (.c (.int .i64 0))))) .done) K145_12
@[simp] def W145_13 := @C.wpe _ _ K145_13.eq_1
def K145_14 : C := .seq (.pl <| .st (.ext 7 0) <|
    .st (.act none (.px (some 4) (.mv (.c (.int .i64 0))))) .done) K145_13
@[simp] def W145_14 := @C.wpe _ _ K145_14.eq_1
def B_spec_l7Letter : C := .seq (.pl <| .st (.ext 7 0) <|
    .st (.act none (.px (some 2) (.mv (.c (.int .i64 0))))) <|
    .st (.act none (.px (some 3) (.mv (.c (.int .i64 0))))) .done) K145_14
@[simp] def WB_spec_l7Letter := @C.wpe _ _ B_spec_l7Letter.eq_1
def R_spec_l7Letter : FIR := ⟨B_spec_l7Letter, 7, [(2, none), (3, none)]⟩
theorem IR_spec_l7Letter : cfun Try.prog H_spec_l7Letter Try.f145 = some R_spec_l7Letter := by kernel_rfl
theorem EN_spec_l7Letter {args : List Value} {h : Heap} {k : Value → Heap → Prop} (hargs : args.length = 2) (hw : B_spec_l7Letter.wp Try.prog (retQ [(2, none), (3, none)] k) (env0 args 7) h) : CallE Try.prog fn_spec_l7Letter args h k := enter Try.func145 rfl IR_spec_l7Letter hargs hw

def H_spec_l7Mutate : Hint := ⟨[(0, false), (1, false), (3, true), (4, true), (5, true), (20, false)], []⟩
def K51_1 : C := .seq (.pl <| .st (.ext 6 1) <|
    .st (.act none (.pget (some 6) none 4 0 (some 3))) <|
    .st (.act none (.pset none 3 0 3 (.v 6))) .done) (.ret)
@[simp] def W51_1 := @C.wpe _ _ K51_1.eq_1
def K51_2 : Pl := .st (.act none (.als 13 none 4)) <|
    .st (.act none (.pset (some 13) 4 0 1 (.v 12))) .done
@[simp] def W51_2 := @Pl.wpe _ _ K51_2.eq_1
def K51_3 : Pl := .st (.act none (.psl 11 [.int .i64 0] [(0, 1, .v 10)])) <|
    .st (.act none (.ex (some 12) (.app 8 1 [.int .i64 0] (.o (.v 7)) (.p 1 11)))) K51_2
@[simp] def W51_3 := @Pl.wpe _ _ K51_3.eq_1
def K51_4 : Pl := .st (.act none (.ex (some 10) (.call fn_spec_l16Rd_num [.v 8, .v 9]))) K51_3
@[simp] def W51_4 := @Pl.wpe _ _ K51_4.eq_1
def K51_5 : C := .pl <| .st (.ext 6 8) <|
    .st (.act none (.als 6 none 4)) <|
    .st (.act none (.pget (some 7) (some 6) 4 0 none)) <|
    .st (.act none (.px (some 8) (.mv (.v 0)))) <|
    .st (.act none (.ex (some 9) (.bls 1 4 [.int .i64 0] [(0, 1, .c (.int .i64 0)), (1, 1, .c (.int .i64 (-1))), (2, 1, .c (.int .i64 64)), (3, 1, .c (.int .i64 3))]))) K51_4
@[simp] def W51_5 := @C.wpe _ _ K51_5.eq_1
def K51_6 : Pl := .st (.act none (.px (some 11) (.ia 4 (.v 7) (.c (.int .i64 0))))) <|
    .st (.act none (.px (some 12) (.fa 2 (.v 11)))) <|
    .st (.act none (.ex none (.store 1 (.v 12) (.v 10)))) .done
@[simp] def W51_6 := @Pl.wpe _ _ K51_6.eq_1
def K51_7 : Pl := .st (.act none (.ex (some 10) (.call fn_spec_l16Rd_num [.v 8, .v 9]))) K51_6
@[simp] def W51_7 := @Pl.wpe _ _ K51_7.eq_1
def K51_8 : C := .pl <| .st (.ext 6 7) <|
    .st (.act none (.als 6 none 4)) <|
    .st (.act none (.pget (some 7) (some 6) 4 2 none)) <|
    .st (.act none (.px (some 8) (.mv (.v 0)))) <|
    .st (.act none (.ex (some 9) (.bls 1 3 [.int .i64 0] [(0, 1, .c (.int .i64 8)), (1, 1, .c (.int .i64 (-1))), (2, 1, .c (.int .i64 7))]))) K51_7
@[simp] def W51_8 := @C.wpe _ _ K51_8.eq_1
def K51_9 : C := .cond 6 (.v 9) K51_8 (.skip)
@[simp] def W51_9 := @C.wpe _ _ K51_9.eq_1
def K51_10 : C := .seq (.pl <| .st (.ext 6 4) <|
    .st (.act none (.als 6 none 4)) <|
    .st (.act none (.pget (some 7) (some 6) 4 2 none)) <|
    .st (.act none (.px (some 8) (.lenV (.v 7)))) <|
    .st (.act none (.px (some 9) (.bin .gtr (.v 8) (.c (.int .i64 0))))) .done) K51_9
@[simp] def W51_10 := @C.wpe _ _ K51_10.eq_1
def K51_11 : Pl := .st (.act none (.px (some 11) (.ia 4 (.v 7) (.c (.int .i64 0))))) <|
    .st (.act none (.px (some 12) (.fa 3 (.v 11)))) <|
    .st (.act none (.ex none (.store 1 (.v 12) (.v 10)))) .done
@[simp] def W51_11 := @Pl.wpe _ _ K51_11.eq_1
def K51_12 : Pl := .st (.act none (.ex (some 10) (.call fn_spec_l16Rd_num [.v 8, .v 9]))) K51_11
@[simp] def W51_12 := @Pl.wpe _ _ K51_12.eq_1
def K51_13 : C := .pl <| .st (.ext 6 7) <|
    .st (.act none (.als 6 none 4)) <|
    .st (.act none (.pget (some 7) (some 6) 4 2 none)) <|
    .st (.act none (.px (some 8) (.mv (.v 0)))) <|
    .st (.act none (.ex (some 9) (.bls 1 4 [.int .i64 0] [(0, 1, .c (.int .i64 (-1))), (1, 1, .c (.int .i64 0)), (2, 1, .c (.int .i64 64)), (3, 1, .c (.int .i64 9223372036854775807))]))) K51_12
@[simp] def W51_13 := @C.wpe _ _ K51_13.eq_1
def K51_14 : C := .cond 6 (.v 9) K51_13 (.skip)
@[simp] def W51_14 := @C.wpe _ _ K51_14.eq_1
def K51_15 : C := .seq (.pl <| .st (.ext 6 4) <|
    .st (.act none (.als 6 none 4)) <|
    .st (.act none (.pget (some 7) (some 6) 4 2 none)) <|
    .st (.act none (.px (some 8) (.lenV (.v 7)))) <|
    .st (.act none (.px (some 9) (.bin .gtr (.v 8) (.c (.int .i64 0))))) .done) K51_14
@[simp] def W51_15 := @C.wpe _ _ K51_15.eq_1
def K51_16 : C := .seq (.pl <| .st (.ext 6 1) <|
    .st (.act none (.px (some 6) (.build [.slice none 0 0, .slice none 0 0, .slice none 0 0] []))) <|
    .st (.act none (.pset none 3 0 3 (.v 6))) .done) (.ret)
@[simp] def W51_16 := @C.wpe _ _ K51_16.eq_1
def K51_17 : Pl := .st (.act none (.px (some 15) (.ia 4 (.v 7) (.v 11)))) <|
    .st (.act none (.px (some 16) (.fa 1 (.v 15)))) <|
    .st (.act none (.ex none (.store 1 (.v 16) (.v 14)))) .done
@[simp] def W51_17 := @Pl.wpe _ _ K51_17.eq_1
def K51_18 : Pl := .st (.act none (.ex (some 14) (.call fn_spec_l16Rd_num [.v 12, .v 13]))) K51_17
@[simp] def W51_18 := @Pl.wpe _ _ K51_18.eq_1
def K51_19 : C := .pl <| .st (.ext 6 11) <|
    .st (.act none (.als 6 none 4)) <|
    .st (.act none (.pget (some 7) (some 6) 4 2 none)) <|
    .st (.act none (.als 8 none 4)) <|
    .st (.act none (.pget (some 9) (some 8) 4 2 none)) <|
    .st (.act none (.px (some 10) (.lenV (.v 9)))) <|
    .st (.act none (.px (some 11) (.bin .sub (.v 10) (.c (.int .i64 1))))) <|
    .st (.act none (.px (some 12) (.mv (.v 0)))) <|
    .st (.act none (.ex (some 13) (.bls 1 3 [.int .i64 0] [(0, 1, .c (.int .i64 8)), (1, 1, .c (.int .i64 (-1))), (2, 1, .c (.int .i64 0))]))) K51_18
@[simp] def W51_19 := @C.wpe _ _ K51_19.eq_1
def K51_20 : C := .cond 6 (.v 9) K51_19 (.skip)
@[simp] def W51_20 := @C.wpe _ _ K51_20.eq_1
def K51_21 : C := .seq (.pl <| .st (.ext 6 4) <|
    .st (.act none (.als 6 none 4)) <|
    .st (.act none (.pget (some 7) (some 6) 4 2 none)) <|
    .st (.act none (.px (some 8) (.lenV (.v 7)))) <|
    .st (.act none (.px (some 9) (.bin .gtr (.v 8) (.c (.int .i64 0))))) .done) K51_20
@[simp] def W51_21 := @C.wpe _ _ K51_21.eq_1
def K51_22 : C := .cond 6 (.v 7) K51_21 (.skip)
@[simp] def W51_22 := @C.wpe _ _ K51_22.eq_1
def K51_23 : C := .seq (.pl <| .st (.ext 6 2) <|
    .st (.act none (.px (some 6) (.bin .eql (.v 5) (.c (.int .i64 4))))) <|
    .st (.act none (.px (some 7) (.mv (.v 6)))) .done) K51_22
@[simp] def W51_23 := @C.wpe _ _ K51_23.eq_1
def K51_24 : C := .cond 6 (.v 7) K51_16 K51_23
@[simp] def W51_24 := @C.wpe _ _ K51_24.eq_1
def K51_25 : C := .seq (.pl <| .st (.ext 6 2) <|
    .st (.act none (.px (some 6) (.bin .eql (.v 5) (.c (.int .i64 3))))) <|
    .st (.act none (.px (some 7) (.mv (.v 6)))) .done) K51_24
@[simp] def W51_25 := @C.wpe _ _ K51_25.eq_1
def K51_26 : C := .cond 6 (.v 7) K51_15 K51_25
@[simp] def W51_26 := @C.wpe _ _ K51_26.eq_1
def K51_27 : C := .seq (.pl <| .st (.ext 6 2) <|
    .st (.act none (.px (some 6) (.bin .eql (.v 5) (.c (.int .i64 2))))) <|
    .st (.act none (.px (some 7) (.mv (.v 6)))) .done) K51_26
@[simp] def W51_27 := @C.wpe _ _ K51_27.eq_1
def K51_28 : C := .cond 6 (.v 7) K51_10 K51_27
@[simp] def W51_28 := @C.wpe _ _ K51_28.eq_1
def K51_29 : C := .seq (.pl <| .st (.ext 6 2) <|
    .st (.act none (.px (some 6) (.bin .eql (.v 5) (.c (.int .i64 1))))) <|
    .st (.act none (.px (some 7) (.mv (.v 6)))) .done) K51_28
@[simp] def W51_29 := @C.wpe _ _ K51_29.eq_1
def K51_30 : C := .cond 6 (.v 7) K51_5 K51_29
@[simp] def W51_30 := @C.wpe _ _ K51_30.eq_1
def K51_31 : C := .block 0 (.seq (.pl <| .st (.ext 6 2) <|
    .st (.act none (.px (some 6) (.bin .eql (.v 5) (.c (.int .i64 0))))) <|
    .st (.act none (.px (some 7) (.mv (.v 6)))) .done) K51_30)
@[simp] def W51_31 := @C.wpe _ _ K51_31.eq_1
def K51_32 : C := .seq (.seq (.pl <| .st (.ext 6 1) <|
    .st (.act none (.px (some 6) (.mv (.v 0)))) <|
    .st (.act none (.ex (some 5) (.call fn_spec_l16Rd_pick [.v 6, .c (.int .i64 40)]))) .done) K51_31) K51_1
@[simp] def W51_32 := @C.wpe _ _ K51_32.eq_1
def K51_33 : Pl := .st (.act none (.px (some 18) (.build [.slice none 0 0, .slice none 0 0, .slice none 0 0] [(0, 1, .v 9), (1, 1, .v 13), (2, 1, .v 17)]))) <|
    .st (.act none (.pset none 4 0 3 (.v 18))) .done
@[simp] def W51_33 := @Pl.wpe _ _ K51_33.eq_1
def K51_34 : Pl := .st (.act none (.ex (some 17) (.app 32 4 [.int .i64 0, .int .i64 0, .int .i64 0, .int .i64 0] (.p 0 14) (.o (.v 16))))) K51_33
@[simp] def W51_34 := @Pl.wpe _ _ K51_34.eq_1
def K51_35 : Pl := .st (.act none (.ex (some 13) (.app 1 1 [.bool false] (.p 0 10) (.o (.v 12))))) K51_34
@[simp] def W51_35 := @Pl.wpe _ _ K51_35.eq_1
def K51_36 : C := .seq (.pl <| .st (.ext 6 13) <|
    .st (.act none (.psl 6 [] [])) <|
    .st (.act none (.als 7 none 2)) <|
    .st (.act none (.pget (some 8) (some 7) 2 0 none)) <|
    .st (.act none (.psl 10 [] [])) <|
    .st (.act none (.als 11 none 2)) <|
    .st (.act none (.pget (some 12) (some 11) 2 1 none)) <|
    .st (.act none (.psl 14 [] [])) <|
    .st (.act none (.als 15 none 2)) <|
    .st (.act none (.pget (some 16) (some 15) 2 2 none)) <|
    .st (.act none (.pnew 4 (.c (.agg #[.slice none 0 0, .slice none 0 0, .slice none 0 0])) [])) <|
    .st (.act none (.ex (some 9) (.app 8 1 [.int .i64 0] (.p 0 6) (.o (.v 8))))) K51_35) K51_32
@[simp] def W51_36 := @C.wpe _ _ K51_36.eq_1
def B_spec_l7Mutate : C := .seq (.pl <| .st (.ext 6 0) <|
    .st (.act none (.pnew 2 (.v 1) [])) <|
    .st (.act none (.pnew 3 (.c (.agg #[.slice none 0 0, .slice none 0 0, .slice none 0 0])) [])) .done) K51_36
@[simp] def WB_spec_l7Mutate := @C.wpe _ _ B_spec_l7Mutate.eq_1
def R_spec_l7Mutate : FIR := ⟨B_spec_l7Mutate, 6, [(3, some (some 3))]⟩
theorem IR_spec_l7Mutate : cfun Try.prog H_spec_l7Mutate Try.f51 = some R_spec_l7Mutate := by kernel_rfl
theorem EN_spec_l7Mutate {args : List Value} {h : Heap} {k : Value → Heap → Prop} (hargs : args.length = 2) (hw : B_spec_l7Mutate.wp Try.prog (retQ [(3, some (some 3))] k) (env0 args 6) h) : CallE Try.prog fn_spec_l7Mutate args h k := enter Try.func51 rfl IR_spec_l7Mutate hargs hw

def H_spec_l7Pair : Hint := ⟨[(0, false), (1, false), (4, false), (5, false), (6, false)], [[2, 3]]⟩
def K147_1 : Pl := .st (.act none (.px (some 9) (.mv (.v 0)))) <|
    .st (.act none (.px (some 10) (.lenV (.v 9)))) <|
    .st (.act none (.px (some 2) (.mv (.v 8)))) <|
    .st (.act none (.px (some 3) (.mv (.v 10)))) .done
@[simp] def W147_1 := @Pl.wpe _ _ K147_1.eq_1
def K147_2 : C := .seq (.pl <| .st (.ext 5 6) <|
    .st (.act none (.px (some 5) (.mv (.v 0)))) <|
    .st (.act none (.px (some 6) (.mv (.v 1)))) <|
    .st (.act none (.psl 7 [.slice none 0 0] [(0, 1, .v 6)])) <|
    .st (.act none (.ex (some 8) (.app 24 1 [.slice none 0 0] (.o (.v 5)) (.p 1 7)))) K147_1) (.ret)
@[simp] def W147_2 := @C.wpe _ _ K147_2.eq_1
def K147_3 : C := .pl <| .st (.ext 5 2) <|
    .st (.act none (.px (some 5) (.mv (.v 4)))) <|
    .st (.act none (.px (some 6) (.bin .add (.v 5) (.c (.int .i64 1))))) <|
    .st (.act none (.px (some 4) (.mv (.v 6)))) .done
@[simp] def W147_3 := @C.wpe _ _ K147_3.eq_1
def K147_4 : C := .seq (.pl <| .st (.ext 5 2) <|
    .st (.act none (.px (some 5) (.mv (.v 0)))) <|
    .st (.act none (.px (some 6) (.mv (.v 4)))) <|
    .st (.act none (.px (some 2) (.mv (.v 5)))) <|
    .st (.act none (.px (some 3) (.mv (.v 6)))) .done) (.ret)
@[simp] def W147_4 := @C.wpe _ _ K147_4.eq_1
def K147_5 : C := .cond 5 (.v 10) K147_4 (.skip)
@[simp] def W147_5 := @C.wpe _ _ K147_5.eq_1
def K147_6 : C := .seq (.block 1 (.seq (.pl <| .st (.ext 5 6) <|
    .st (.act none (.px (some 5) (.mv (.v 0)))) <|
    .st (.act none (.px (some 6) (.mv (.v 4)))) <|
    .st (.act none (.px (some 7) (.ia 1 (.v 5) (.v 6)))) <|
    .st (.act none (.ld (some 8) (.v 7) none)) <|
    .st (.act none (.px (some 9) (.mv (.v 1)))) <|
    .st (.act none (.ex (some 10) (.call fn_spec_l2Ints [.v 8, .v 9]))) .done) K147_5)) K147_3
@[simp] def W147_6 := @C.wpe _ _ K147_6.eq_1
def K147_7 : C := .cond 5 (.v 8) (.skip) (.exit 0)
@[simp] def W147_7 := @C.wpe _ _ K147_7.eq_1
def K147_8 : C := .seq (.seq (.pl <| .st (.ext 5 4) <|
    .st (.act none (.px (some 5) (.mv (.v 4)))) <|
    .st (.act none (.px (some 6) (.mv (.v 0)))) <|
    .st (.act none (.px (some 7) (.lenV (.v 6)))) <|
    .st (.act none (.px (some 8) (.bin .lss (.v 5) (.v 7)))) .done) K147_7) K147_6
@[simp] def W147_8 := @C.wpe _ _ K147_8.eq_1
def K147_9 : C := .block 0 (.loop 5 [2, 3] K147_8)
@[simp] def W147_9 := @C.wpe _ _ K147_9.eq_1
def K147_10 : C := .seq (.seq (.pl <| .st (.ext 5 0) <|
    .st (.act none (.px (some 4) (.mv (.c (.int .i64 0))))) .done) K147_9) K147_2
@[simp] def W147_10 := @C.wpe _ _ K147_10.eq_1
def B_spec_l7Pair : C := .seq (.pl <| .st (.ext 5 0) <|
    .st (.act none (.px (some 2) (.mv (.c (.slice none 0 0))))) <|
    .st (.act none (.px (some 3) (.mv (.c (.int .i64 0))))) .done) K147_10
@[simp] def WB_spec_l7Pair := @C.wpe _ _ B_spec_l7Pair.eq_1
def R_spec_l7Pair : FIR := ⟨B_spec_l7Pair, 5, [(2, none), (3, none)]⟩
theorem IR_spec_l7Pair : cfun Try.prog H_spec_l7Pair Try.f147 = some R_spec_l7Pair := by kernel_rfl
theorem EN_spec_l7Pair {args : List Value} {h : Heap} {k : Value → Heap → Prop} (hargs : args.length = 2) (hw : B_spec_l7Pair.wp Try.prog (retQ [(2, none), (3, none)] k) (env0 args 5) h) : CallE Try.prog fn_spec_l7Pair args h k := enter Try.func147 rfl IR_spec_l7Pair hargs hw

def H_spec_l7Phase : Hint := ⟨[(0, false), (1, false), (2, false), (3, false), (8, false), (9, false)], []⟩
def K144_1 : C := .seq (.pl <| .st (.ext 6 1) <|
    .st (.act none (.px (some 6) (.mv (.v 3)))) <|
    .st (.act none (.px (some 4) (.mv (.v 6)))) <|
    .st (.act none (.px (some 5) (.mv (.c (.bool false))))) .done) (.ret)
@[simp] def W144_1 := @C.wpe _ _ K144_1.eq_1
def K144_2 : C := .seq (.pl <| .st (.ext 6 7) <|
    .st (.act none (.px (some 6) (.mv (.v 3)))) <|
    .st (.act none (.px (some 7) (.bin .add (.v 6) (.c (.int .i64 1))))) <|
    .st (.act none (.px (some 8) (.mv (.v 1)))) <|
    .st (.act none (.px (some 9) (.lenV (.v 8)))) <|
    .st (.act none (.px (some 10) (.bin .rem (.v 7) (.v 9)))) <|
    .st (.act none (.px (some 11) (.mv (.v 3)))) <|
    .st (.act none (.px (some 12) (.bin .eql (.v 11) (.c (.int .i64 0))))) <|
    .st (.act none (.px (some 4) (.mv (.v 10)))) <|
    .st (.act none (.px (some 5) (.mv (.v 12)))) .done) (.ret)
@[simp] def W144_2 := @C.wpe _ _ K144_2.eq_1
def K144_3 : C := .cond 6 (.v 12) K144_2 (.skip)
@[simp] def W144_3 := @C.wpe _ _ K144_3.eq_1
def K144_4 : C := .seq (.seq (.pl <| .st (.ext 6 7) <|
    .st (.act none (.px (some 6) (.mv (.v 0)))) <|
    .st (.act none (.px (some 7) (.mv (.v 2)))) <|
    .st (.act none (.px (some 8) (.mv (.v 1)))) <|
    .st (.act none (.px (some 9) (.mv (.v 3)))) <|
    .st (.act none (.px (some 10) (.ia 1 (.v 8) (.v 9)))) <|
    .st (.act none (.ld (some 11) (.v 10) none)) <|
    .st (.act none (.ex (some 12) (.call fn_spec_l7Fulfils [.v 6, .v 7, .v 11]))) .done) K144_3) K144_1
@[simp] def W144_4 := @C.wpe _ _ K144_4.eq_1
def K144_5 : C := .seq (.pl <| .st (.ext 6 0) <|
    .st (.act none (.px (some 4) (.mv (.c (.int .i64 0))))) <|
    .st (.act none (.px (some 5) (.mv (.c (.bool true))))) .done) (.ret)
@[simp] def W144_5 := @C.wpe _ _ K144_5.eq_1
def K144_6 : C := .cond 6 (.v 8) K144_5 (.skip)
@[simp] def W144_6 := @C.wpe _ _ K144_6.eq_1
def K144_7 : C := .seq (.seq (.pl <| .st (.ext 6 3) <|
    .st (.act none (.px (some 6) (.mv (.v 1)))) <|
    .st (.act none (.px (some 7) (.lenV (.v 6)))) <|
    .st (.act none (.px (some 8) (.bin .eql (.v 7) (.c (.int .i64 0))))) .done) K144_6) K144_4
@[simp] def W144_7 := @C.wpe _ _ K144_7.eq_1
def B_spec_l7Phase : C := .seq (.pl <| .st (.ext 6 0) <|
    .st (.act none (.px (some 4) (.mv (.c (.int .i64 0))))) <|
    .st (.act none (.px (some 5) (.mv (.c (.bool false))))) .done) K144_7
@[simp] def WB_spec_l7Phase := @C.wpe _ _ B_spec_l7Phase.eq_1
def R_spec_l7Phase : FIR := ⟨B_spec_l7Phase, 6, [(4, none), (5, none)]⟩
theorem IR_spec_l7Phase : cfun Try.prog H_spec_l7Phase Try.f144 = some R_spec_l7Phase := by kernel_rfl
theorem EN_spec_l7Phase {args : List Value} {h : Heap} {k : Value → Heap → Prop} (hargs : args.length = 4) (hw : B_spec_l7Phase.wp Try.prog (retQ [(4, none), (5, none)] k) (env0 args 6) h) : CallE Try.prog fn_spec_l7Phase args h k := enter Try.func144 rfl IR_spec_l7Phase hargs hw

def H_spec_l7Untils : Hint := ⟨[(0, false), (2, false), (3, false), (4, false)], [[1]]⟩
def K142_1 : C := .seq (.pl <| .st (.ext 4 1) <|
    .st (.act none (.px (some 4) (.mv (.v 2)))) <|
    .st (.act none (.px (some 1) (.mv (.v 4)))) .done) (.ret)
@[simp] def W142_1 := @C.wpe _ _ K142_1.eq_1
def K142_2 : C := .pl <| .st (.ext 4 2) <|
    .st (.act none (.px (some 4) (.mv (.v 3)))) <|
    .st (.act none (.px (some 5) (.bin .add (.v 4) (.c (.int .i64 1))))) <|
    .st (.act none (.px (some 3) (.mv (.v 5)))) .done
@[simp] def W142_2 := @C.wpe _ _ K142_2.eq_1
def K142_3 : Pl := .st (.act none (.px (some 2) (.mv (.v 7)))) .done
@[simp] def W142_3 := @Pl.wpe _ _ K142_3.eq_1
def K142_4 : C := .pl <| .st (.ext 4 4) <|
    .st (.act none (.px (some 4) (.mv (.v 2)))) <|
    .st (.act none (.px (some 5) (.mv (.v 3)))) <|
    .st (.act none (.psl 6 [.int .i64 0] [(0, 1, .v 5)])) <|
    .st (.act none (.ex (some 7) (.app 8 1 [.int .i64 0] (.o (.v 4)) (.p 1 6)))) K142_3
@[simp] def W142_4 := @C.wpe _ _ K142_4.eq_1
def K142_5 : C := .cond 4 (.v 9) K142_4 (.skip)
@[simp] def W142_5 := @C.wpe _ _ K142_5.eq_1
def K142_6 : C := .seq (.block 1 (.seq (.pl <| .st (.ext 4 6) <|
    .st (.act none (.px (some 4) (.mv (.v 0)))) <|
    .st (.act none (.px (some 5) (.mv (.v 3)))) <|
    .st (.act none (.px (some 6) (.ia 3 (.v 4) (.v 5)))) <|
    .st (.act none (.px (some 7) (.fa 0 (.v 6)))) <|
    .st (.act none (.ld (some 8) (.v 7) none)) <|
    .st (.act none (.px (some 9) (.bin .eql (.v 8) (.c (.int .i64 7))))) .done) K142_5)) K142_2
@[simp] def W142_6 := @C.wpe _ _ K142_6.eq_1
def K142_7 : C := .cond 4 (.v 7) (.skip) (.exit 0)
@[simp] def W142_7 := @C.wpe _ _ K142_7.eq_1
def K142_8 : C := .seq (.seq (.pl <| .st (.ext 4 4) <|
    .st (.act none (.px (some 4) (.mv (.v 3)))) <|
    .st (.act none (.px (some 5) (.mv (.v 0)))) <|
    .st (.act none (.px (some 6) (.lenV (.v 5)))) <|
    .st (.act none (.px (some 7) (.bin .lss (.v 4) (.v 6)))) .done) K142_7) K142_6
@[simp] def W142_8 := @C.wpe _ _ K142_8.eq_1
def K142_9 : C := .block 0 (.loop 4 [1] K142_8)
@[simp] def W142_9 := @C.wpe _ _ K142_9.eq_1
def K142_10 : C := .seq (.seq (.pl <| .st (.ext 4 0) <|
    .st (.act none (.px (some 3) (.mv (.c (.int .i64 0))))) .done) K142_9) K142_1
@[simp] def W142_10 := @C.wpe _ _ K142_10.eq_1
def K142_11 : Pl := .st (.act none (.px (some 2) (.mv (.v 4)))) .done
@[simp] def W142_11 := @Pl.wpe _ _ K142_11.eq_1
def K142_12 : C := .seq (.pl <| .st (.ext 4 1) <|
    .st (.act none (.ex (some 4) (.bls 1 0 [.int .i64 0] []))) K142_11) K142_10
@[simp] def W142_12 := @C.wpe _ _ K142_12.eq_1
def B_spec_l7Untils : C := .seq (.pl <| .st (.ext 4 0) <|
    .st (.act none (.px (some 1) (.mv (.c (.slice none 0 0))))) .done) K142_12
@[simp] def WB_spec_l7Untils := @C.wpe _ _ B_spec_l7Untils.eq_1
def R_spec_l7Untils : FIR := ⟨B_spec_l7Untils, 4, [(1, none)]⟩
theorem IR_spec_l7Untils : cfun Try.prog H_spec_l7Untils Try.f142 = some R_spec_l7Untils := by kernel_rfl
theorem EN_spec_l7Untils {args : List Value} {h : Heap} {k : Value → Heap → Prop} (hargs : args.length = 1) (hw : B_spec_l7Untils.wp Try.prog (retQ [(1, none)] k) (env0 args 4) h) : CallE Try.prog fn_spec_l7Untils args h k := enter Try.func142 rfl IR_spec_l7Untils hargs hw

def H_spec_l7Value : Hint := ⟨[(0, false), (1, false), (2, false), (5, true), (6, false), (8, false)], []⟩
def K143_1 : Pl := .st (.act none (.px (some 4) (.mv (.v 10)))) .done
@[simp] def W143_1 := @Pl.wpe _ _ K143_1.eq_1
def K143_2 : Pl := .st (.act none (.ex (some 10) (.call fn_spec_l6Has [.v 6, .v 9]))) K143_1
@[simp] def W143_2 := @Pl.wpe _ _ K143_2.eq_1
def K143_3 : C := .seq (.pl <| .st (.ext 6 5) <|
    .st (.act none (.px (some 6) (.mv (.v 1)))) <|
    .st (.act none (.px (some 7) (.mv (.v 0)))) <|
    .st (.act none (.pget (some 8) none 3 0 (some 3))) <|
    .st (.act none (.ex (some 9) (.call fn_spec_l5Find [.v 7, .v 8]))) K143_2) (.ret)
@[simp] def W143_3 := @C.wpe _ _ K143_3.eq_1
def K143_4 : C := .seq (.pl <| .st (.ext 6 0) <|
    .st (.act none (.px (some 4) (.mv (.c (.bool true))))) .done) (.ret)
@[simp] def W143_4 := @C.wpe _ _ K143_4.eq_1
def K143_5 : Pl := .st (.act none (.px (some 13) (.un .not (.v 12)))) <|
    .st (.act none (.px (some 4) (.mv (.v 13)))) .done
@[simp] def W143_5 := @Pl.wpe _ _ K143_5.eq_1
def K143_6 : C := .seq (.pl <| .st (.ext 6 8) <|
    .st (.act none (.px (some 6) (.mv (.v 0)))) <|
    .st (.act none (.px (some 7) (.mv (.v 1)))) <|
    .st (.act none (.als 8 none 3)) <|
    .st (.act none (.pget (some 9) (some 8) 3 2 none)) <|
    .st (.act none (.px (some 10) (.ia 3 (.v 9) (.c (.int .i64 0))))) <|
    .st (.act none (.ld (some 11) (.v 10) (some 3))) <|
    .st (.act none (.ex (some 12) (.call fn_spec_l7Value [.v 6, .v 7, .v 11]))) K143_5) (.ret)
@[simp] def W143_6 := @C.wpe _ _ K143_6.eq_1
def K143_7 : Pl := .st (.act none (.px (some 21) (.pick (.v 13) (.v 20) (.c (.bool false))))) <|
    .st (.act none (.px (some 4) (.mv (.v 21)))) .done
@[simp] def W143_7 := @Pl.wpe _ _ K143_7.eq_1
def K143_8 : Pl := .st (.act none (.px (some 13) (.mv (.v 12)))) <|
    .st (.act (some (.v 13, true)) (.px (some 14) (.mv (.v 0)))) <|
    .st (.act (some (.v 13, true)) (.px (some 15) (.mv (.v 1)))) <|
    .st (.act (some (.v 13, true)) (.als 16 none 3)) <|
    .st (.act (some (.v 13, true)) (.pget (some 17) (some 16) 3 2 none)) <|
    .st (.act (some (.v 13, true)) (.px (some 18) (.ia 3 (.v 17) (.c (.int .i64 1))))) <|
    .st (.act (some (.v 13, true)) (.ld (some 19) (.v 18) (some 3))) <|
    .st (.act (some (.v 13, true)) (.ex (some 20) (.call fn_spec_l7Value [.v 14, .v 15, .v 19]))) K143_7
@[simp] def W143_8 := @Pl.wpe _ _ K143_8.eq_1
def K143_9 : C := .seq (.pl <| .st (.ext 6 16) <|
    .st (.act none (.px (some 6) (.mv (.v 0)))) <|
    .st (.act none (.px (some 7) (.mv (.v 1)))) <|
    .st (.act none (.als 8 none 3)) <|
    .st (.act none (.pget (some 9) (some 8) 3 2 none)) <|
    .st (.act none (.px (some 10) (.ia 3 (.v 9) (.c (.int .i64 0))))) <|
    .st (.act none (.ld (some 11) (.v 10) (some 3))) <|
    .st (.act none (.ex (some 12) (.call fn_spec_l7Value [.v 6, .v 7, .v 11]))) K143_8) (.ret)
@[simp] def W143_9 := @C.wpe _ _ K143_9.eq_1
def K143_10 : Pl := .st (.act none (.px (some 21) (.pick (.v 13) (.c (.bool true)) (.v 20)))) <|
    .st (.act none (.px (some 4) (.mv (.v 21)))) .done
@[simp] def W143_10 := @Pl.wpe _ _ K143_10.eq_1
def K143_11 : Pl := .st (.act none (.px (some 13) (.mv (.v 12)))) <|
    .st (.act (some (.v 13, false)) (.px (some 14) (.mv (.v 0)))) <|
    .st (.act (some (.v 13, false)) (.px (some 15) (.mv (.v 1)))) <|
    .st (.act (some (.v 13, false)) (.als 16 none 3)) <|
    .st (.act (some (.v 13, false)) (.pget (some 17) (some 16) 3 2 none)) <|
    .st (.act (some (.v 13, false)) (.px (some 18) (.ia 3 (.v 17) (.c (.int .i64 1))))) <|
    .st (.act (some (.v 13, false)) (.ld (some 19) (.v 18) (some 3))) <|
    .st (.act (some (.v 13, false)) (.ex (some 20) (.call fn_spec_l7Value [.v 14, .v 15, .v 19]))) K143_10
@[simp] def W143_11 := @Pl.wpe _ _ K143_11.eq_1
def K143_12 : C := .seq (.pl <| .st (.ext 6 16) <|
    .st (.act none (.px (some 6) (.mv (.v 0)))) <|
    .st (.act none (.px (some 7) (.mv (.v 1)))) <|
    .st (.act none (.als 8 none 3)) <|
    .st (.act none (.pget (some 9) (some 8) 3 2 none)) <|
    .st (.act none (.px (some 10) (.ia 3 (.v 9) (.c (.int .i64 0))))) <|
    .st (.act none (.ld (some 11) (.v 10) (some 3))) <|
    .st (.act none (.ex (some 12) (.call fn_spec_l7Value [.v 6, .v 7, .v 11]))) K143_11) (.ret)
@[simp] def W143_12 := @C.wpe _ _ K143_12.eq_1
def K143_13 : C := .cond 6 (.v 7) K143_12 (.skip)
@[simp] def W143_13 := @C.wpe _ _ K143_13.eq_1
def K143_14 : C := .seq (.pl <| .st (.ext 6 2) <|
    .st (.act none (.px (some 6) (.bin .eql (.v 5) (.c (.int .i64 5))))) <|
    .st (.act none (.px (some 7) (.mv (.v 6)))) .done) K143_13
@[simp] def W143_14 := @C.wpe _ _ K143_14.eq_1
def K143_15 : C := .cond 6 (.v 7) K143_9 K143_14
@[simp] def W143_15 := @C.wpe _ _ K143_15.eq_1
def K143_16 : C := .seq (.pl <| .st (.ext 6 2) <|
    .st (.act none (.px (some 6) (.bin .eql (.v 5) (.c (.int .i64 4))))) <|
    .st (.act none (.px (some 7) (.mv (.v 6)))) .done) K143_15
@[simp] def W143_16 := @C.wpe _ _ K143_16.eq_1
def K143_17 : C := .cond 6 (.v 7) K143_6 K143_16
@[simp] def W143_17 := @C.wpe _ _ K143_17.eq_1
def K143_18 : C := .seq (.pl <| .st (.ext 6 2) <|
    .st (.act none (.px (some 6) (.bin .eql (.v 5) (.c (.int .i64 3))))) <|
    .st (.act none (.px (some 7) (.mv (.v 6)))) .done) K143_17
@[simp] def W143_18 := @C.wpe _ _ K143_18.eq_1
def K143_19 : C := .cond 6 (.v 7) K143_4 K143_18
@[simp] def W143_19 := @C.wpe _ _ K143_19.eq_1
def K143_20 : C := .block 0 (.seq (.pl <| .st (.ext 6 2) <|
    .st (.act none (.px (some 6) (.bin .eql (.v 5) (.c (.int .i64 1))))) <|
    .st (.act none (.px (some 7) (.mv (.v 6)))) .done) K143_19)
@[simp] def W143_20 := @C.wpe _ _ K143_20.eq_1
def K143_21 : C := .seq (.seq (.pl <| .st (.ext 6 1) <|
    .st (.act none (.als 6 none 3)) <|
    .st (.act none (.pget (some 5) (some 6) 3 0 none)) .done) K143_20) K143_3
@[simp] def W143_21 := @C.wpe _ _ K143_21.eq_1
def B_spec_l7Value : C := .seq (.pl <| .st (.ext 6 0) <|
    .st (.act none (.pnew 3 (.v 2) [])) <|
    .st (.act none (.px (some 4) (.mv (.c (.bool false))))) .done) K143_21
@[simp] def WB_spec_l7Value := @C.wpe _ _ B_spec_l7Value.eq_1
def R_spec_l7Value : FIR := ⟨B_spec_l7Value, 6, [(4, none)]⟩
theorem IR_spec_l7Value : cfun Try.prog H_spec_l7Value Try.f143 = some R_spec_l7Value := by kernel_rfl
theorem EN_spec_l7Value {args : List Value} {h : Heap} {k : Value → Heap → Prop} (hargs : args.length = 3) (hw : B_spec_l7Value.wp Try.prog (retQ [(4, none)] k) (env0 args 6) h) : CallE Try.prog fn_spec_l7Value args h k := enter Try.func143 rfl IR_spec_l7Value hargs hw


end Go.Proofs.Ytglnelcmcimljaa

/-
  Bodies of functions in the small language, as a program printed them, and that each is what the translation gives.
-/
namespace Go.Proofs.Ytglnelcmcimljaa
open Go
set_option linter.all false
set_option linter.defProp false
set_option maxRecDepth 1000000

def H_spec_l13Automaton : Hint := ⟨[(0, false), (2, true), (3, true), (4, false), (5, false), (6, false), (7, false), (8, true)], [[7]]⟩
def K83_1 : C := .seq (.pl <| .st (.ext 8 1) <|
    .st (.act none (.pget (some 8) none 2 0 (some 3))) <|
    .st (.act none (.pset none 1 0 3 (.v 8))) .done) (.ret)
@[simp] def W83_1 := @C.wpe _ _ K83_1.eq_1
def K83_2 : C := .pl <| .st (.ext 8 2) <|
    .st (.act none (.px (some 8) (.mv (.v 6)))) <|
    .st (.act none (.px (some 9) (.bin .add (.v 8) (.c (.int .i64 1))))) <|
    .st (.act none (.px (some 6) (.mv (.v 9)))) .done
@[simp] def W83_2 := @C.wpe _ _ K83_2.eq_1
def K83_3 : Pl := .st (.act none (.als 20 none 2)) <|
    .st (.act none (.pset (some 20) 2 2 1 (.v 19))) .done
@[simp] def W83_3 := @Pl.wpe _ _ K83_3.eq_1
def K83_4 : C := .pl <| .st (.ext 8 13) <|
    .st (.act none (.als 8 none 2)) <|
    .st (.act none (.pget (some 9) (some 8) 2 2 none)) <|
    .st (.act none (.als 10 none 7)) <|
    .st (.act none (.pget (some 11) (some 10) 7 0 none)) <|
    .st (.act none (.als 12 none 7)) <|
    .st (.act none (.pget (some 13) (some 12) 7 1 none)) <|
    .st (.act none (.als 14 none 7)) <|
    .st (.act none (.pget (some 15) (some 14) 7 2 none)) <|
    .st (.act none (.px (some 16) (.mv (.v 3)))) <|
    .st (.act none (.px (some 17) (.build [.int .i64 0, .int .i64 0, .int .i64 0, .int .i64 0] [(0, 1, .v 11), (1, 1, .v 13), (2, 1, .v 15), (3, 1, .v 16)]))) <|
    .st (.act none (.psl 18 [.int .i64 0, .int .i64 0, .int .i64 0, .int .i64 0] [(0, 4, .v 17)])) <|
    .st (.act none (.ex (some 19) (.app 32 4 [.int .i64 0, .int .i64 0, .int .i64 0, .int .i64 0] (.o (.v 9)) (.p 1 18)))) K83_3
@[simp] def W83_4 := @C.wpe _ _ K83_4.eq_1
def K83_5 : C := .cond 8 (.v 16) K83_4 (.skip)
@[simp] def W83_5 := @C.wpe _ _ K83_5.eq_1
def K83_6 : Pl := .st (.act (some (.v 12, true)) (.px (some 15) (.bin .eql (.v 14) (.c (.int .i64 0))))) <|
    .st (.act none (.px (some 16) (.pick (.v 12) (.v 15) (.c (.bool false))))) .done
@[simp] def W83_6 := @Pl.wpe _ _ K83_6.eq_1
def K83_7 : C := .seq (.pl <| .st (.ext 8 9) <|
    .st (.act none (.als 8 none 7)) <|
    .st (.act none (.pget (some 9) (some 8) 7 3 none)) <|
    .st (.act none (.px (some 10) (.mv (.v 4)))) <|
    .st (.act none (.px (some 11) (.bin .eql (.v 9) (.v 10)))) <|
    .st (.act none (.px (some 12) (.mv (.v 11)))) <|
    .st (.act (some (.v 12, true)) (.px (some 13) (.mv (.v 0)))) <|
    .st (.act (some (.v 12, true)) (.ex (some 14) (.call fn_spec_l16Rd_pick [.v 13, .c (.int .i64 2)]))) K83_6) K83_5
@[simp] def W83_7 := @C.wpe _ _ K83_7.eq_1
def K83_8 : Pl := .st (.act none (.als 20 none 2)) <|
    .st (.act none (.pset (some 20) 2 2 1 (.v 19))) .done
@[simp] def W83_8 := @Pl.wpe _ _ K83_8.eq_1
def K83_9 : C := .pl <| .st (.ext 8 13) <|
    .st (.act none (.als 8 none 2)) <|
    .st (.act none (.pget (some 9) (some 8) 2 2 none)) <|
    .st (.act none (.px (some 10) (.mv (.v 3)))) <|
    .st (.act none (.als 11 none 7)) <|
    .st (.act none (.pget (some 12) (some 11) 7 1 none)) <|
    .st (.act none (.als 13 none 7)) <|
    .st (.act none (.pget (some 14) (some 13) 7 2 none)) <|
    .st (.act none (.als 15 none 7)) <|
    .st (.act none (.pget (some 16) (some 15) 7 3 none)) <|
    .st (.act none (.px (some 17) (.build [.int .i64 0, .int .i64 0, .int .i64 0, .int .i64 0] [(0, 1, .v 10), (1, 1, .v 12), (2, 1, .v 14), (3, 1, .v 16)]))) <|
    .st (.act none (.psl 18 [.int .i64 0, .int .i64 0, .int .i64 0, .int .i64 0] [(0, 4, .v 17)])) <|
    .st (.act none (.ex (some 19) (.app 32 4 [.int .i64 0, .int .i64 0, .int .i64 0, .int .i64 0] (.o (.v 9)) (.p 1 18)))) K83_8
@[simp] def W83_9 := @C.wpe _ _ K83_9.eq_1
def K83_10 : C := .cond 8 (.v 16) K83_9 (.skip)
@[simp] def W83_10 := @C.wpe _ _ K83_10.eq_1
def K83_11 : Pl := .st (.act (some (.v 12, true)) (.px (some 15) (.bin .gtr (.v 14) (.c (.int .i64 0))))) <|
    .st (.act none (.px (some 16) (.pick (.v 12) (.v 15) (.c (.bool false))))) .done
@[simp] def W83_11 := @Pl.wpe _ _ K83_11.eq_1
def K83_12 : C := .seq (.seq (.pl <| .st (.ext 8 9) <|
    .st (.act none (.als 8 none 7)) <|
    .st (.act none (.pget (some 9) (some 8) 7 0 none)) <|
    .st (.act none (.px (some 10) (.mv (.v 4)))) <|
    .st (.act none (.px (some 11) (.bin .eql (.v 9) (.v 10)))) <|
    .st (.act none (.px (some 12) (.mv (.v 11)))) <|
    .st (.act (some (.v 12, true)) (.px (some 13) (.mv (.v 0)))) <|
    .st (.act (some (.v 12, true)) (.ex (some 14) (.call fn_spec_l16Rd_pick [.v 13, .c (.int .i64 6)]))) K83_11) K83_10) K83_7
@[simp] def W83_12 := @C.wpe _ _ K83_12.eq_1
def K83_13 : C := .seq (.block 1 (.seq (.pl <| .st (.ext 8 4) <|
    .st (.act none (.px (some 8) (.mv (.v 5)))) <|
    .st (.act none (.px (some 9) (.mv (.v 6)))) <|
    .st (.act none (.px (some 10) (.ia 4 (.v 8) (.v 9)))) <|
    .st (.act none (.ld (some 11) (.v 10) (some 4))) <|
    .st (.act none (.pnew 7 (.c (.agg #[.int .i64 0, .int .i64 0, .int .i64 0, .int .i64 0])) [])) <|
    .st (.act none (.pset none 7 0 4 (.v 11))) .done) K83_12)) K83_2
@[simp] def W83_13 := @C.wpe _ _ K83_13.eq_1
def K83_14 : C := .cond 8 (.v 11) (.skip) (.exit 0)
@[simp] def W83_14 := @C.wpe _ _ K83_14.eq_1
def K83_15 : C := .seq (.seq (.pl <| .st (.ext 8 4) <|
    .st (.act none (.px (some 8) (.mv (.v 6)))) <|
    .st (.act none (.px (some 9) (.mv (.v 5)))) <|
    .st (.act none (.px (some 10) (.lenV (.v 9)))) <|
    .st (.act none (.px (some 11) (.bin .lss (.v 8) (.v 10)))) .done) K83_14) K83_13
@[simp] def W83_15 := @C.wpe _ _ K83_15.eq_1
def K83_16 : C := .block 0 (.loop 8 [7] K83_15)
@[simp] def W83_16 := @C.wpe _ _ K83_16.eq_1
def K83_17 : C := .seq (.seq (.pl <| .st (.ext 8 0) <|
    .st (.act none (.px (some 6) (.mv (.c (.int .i64 0))))) .done) K83_16) K83_1
@[simp] def W83_17 := @C.wpe _ _ K83_17.eq_1
def K83_18 : Pl := .st (.act none (.px (some 5) (.mv (.v 11)))) .done
@[simp] def W83_18 := @Pl.wpe _ _ K83_18.eq_1
def K83_19 : C := .seq (.pl <| .st (.ext 8 4) <|
    .st (.act none (.psl 8 [] [])) <|
    .st (.act none (.als 9 none 2)) <|
    .st (.act none (.pget (some 10) (some 9) 2 2 none)) <|
    .st (.act none (.ex (some 11) (.app 32 4 [.int .i64 0, .int .i64 0, .int .i64 0, .int .i64 0] (.p 0 8) (.o (.v 10))))) K83_18) K83_17
@[simp] def W83_19 := @C.wpe _ _ K83_19.eq_1
def K83_20 : Pl := .st (.act none (.als 17 none 2)) <|
    .st (.act none (.pset (some 17) 2 1 1 (.v 16))) .done
@[simp] def W83_20 := @Pl.wpe _ _ K83_20.eq_1
def K83_21 : C := .seq (.pl <| .st (.ext 8 10) <|
    .st (.act none (.als 8 none 2)) <|
    .st (.act none (.pget (some 9) (some 8) 2 1 none)) <|
    .st (.act none (.als 10 none 2)) <|
    .st (.act none (.pget (some 11) (some 10) 2 1 none)) <|
    .st (.act none (.px (some 12) (.mv (.v 4)))) <|
    .st (.act none (.px (some 13) (.ia 1 (.v 11) (.v 12)))) <|
    .st (.act none (.ld (some 14) (.v 13) none)) <|
    .st (.act none (.psl 15 [.bool false] [(0, 1, .v 14)])) <|
    .st (.act none (.ex (some 16) (.app 1 1 [.bool false] (.o (.v 9)) (.p 1 15)))) K83_20) K83_19
@[simp] def W83_21 := @C.wpe _ _ K83_21.eq_1
def K83_22 : Pl := .st (.act none (.px (some 4) (.mv (.v 10)))) .done
@[simp] def W83_22 := @Pl.wpe _ _ K83_22.eq_1
def K83_23 : C := .seq (.pl <| .st (.ext 8 3) <|
    .st (.act none (.px (some 8) (.mv (.v 0)))) <|
    .st (.act none (.px (some 9) (.mv (.v 3)))) <|
    .st (.act none (.ex (some 10) (.call fn_spec_l16Rd_pick [.v 8, .v 9]))) K83_22) K83_21
@[simp] def W83_23 := @C.wpe _ _ K83_23.eq_1
def K83_24 : C := .seq (.pl <| .st (.ext 8 1) <|
    .st (.act none (.pget (some 8) none 2 0 (some 3))) <|
    .st (.act none (.pset none 1 0 3 (.v 8))) .done) (.ret)
@[simp] def W83_24 := @C.wpe _ _ K83_24.eq_1
def K83_25 : C := .cond 8 (.v 14) K83_24 (.skip)
@[simp] def W83_25 := @C.wpe _ _ K83_25.eq_1
def K83_26 : Pl := .st (.act none (.px (some 10) (.bin .eql (.v 9) (.c (.int .i64 0))))) <|
    .st (.act none (.px (some 11) (.mv (.v 10)))) <|
    .st (.act (some (.v 11, false)) (.px (some 12) (.mv (.v 3)))) <|
    .st (.act (some (.v 11, false)) (.px (some 13) (.bin .gtr (.v 12) (.c (.int .i64 8))))) <|
    .st (.act none (.px (some 14) (.pick (.v 11) (.c (.bool true)) (.v 13)))) .done
@[simp] def W83_26 := @Pl.wpe _ _ K83_26.eq_1
def K83_27 : C := .seq (.seq (.pl <| .st (.ext 8 7) <|
    .st (.act none (.px (some 8) (.mv (.v 0)))) <|
    .st (.act none (.ex (some 9) (.call fn_spec_l16Rd_pick [.v 8, .c (.int .i64 2)]))) K83_26) K83_25) K83_23
@[simp] def W83_27 := @C.wpe _ _ K83_27.eq_1
def K83_28 : C := .seq (.pl <| .st (.ext 8 3) <|
    .st (.act none (.als 8 none 2)) <|
    .st (.act none (.pget (some 9) (some 8) 2 1 none)) <|
    .st (.act none (.px (some 10) (.lenV (.v 9)))) <|
    .st (.act none (.px (some 3) (.mv (.v 10)))) .done) K83_27
@[simp] def W83_28 := @C.wpe _ _ K83_28.eq_1
def K83_29 : Pl := .st (.act none (.pset none 2 0 3 (.v 9))) .done
@[simp] def W83_29 := @Pl.wpe _ _ K83_29.eq_1
def K83_30 : C := .pl <| .st (.ext 8 2) <|
    .st (.act none (.px (some 8) (.mv (.v 0)))) <|
    .st (.act none (.ex (some 9) (.call fn_spec_l7Automaton [.v 8]))) K83_29
@[simp] def W83_30 := @C.wpe _ _ K83_30.eq_1
def K83_31 : C := .cond 8 (.v 11) K83_30 (.skip)
@[simp] def W83_31 := @C.wpe _ _ K83_31.eq_1
def K83_32 : C := .seq (.seq (.pl <| .st (.ext 8 4) <|
    .st (.act none (.als 8 none 2)) <|
    .st (.act none (.pget (some 9) (some 8) 2 1 none)) <|
    .st (.act none (.px (some 10) (.lenV (.v 9)))) <|
    .st (.act none (.px (some 11) (.bin .gtr (.v 10) (.c (.int .i64 8))))) .done) K83_31) K83_28
@[simp] def W83_32 := @C.wpe _ _ K83_32.eq_1
def K83_33 : Pl := .st (.act none (.pnew 2 (.c (.agg #[.slice none 0 0, .slice none 0 0, .slice none 0 0])) [])) <|
    .st (.act none (.pset none 2 0 3 (.v 9))) .done
@[simp] def W83_33 := @Pl.wpe _ _ K83_33.eq_1
def K83_34 : C := .seq (.pl <| .st (.ext 8 2) <|
    .st (.act none (.px (some 8) (.mv (.v 0)))) <|
    .st (.act none (.ex (some 9) (.call fn_spec_l7Automaton [.v 8]))) K83_33) K83_32
@[simp] def W83_34 := @C.wpe _ _ K83_34.eq_1
def B_spec_l13Automaton : C := .seq (.pl <| .st (.ext 8 0) <|
    .st (.act none (.pnew 1 (.c (.agg #[.slice none 0 0, .slice none 0 0, .slice none 0 0])) [])) .done) K83_34
@[simp] def WB_spec_l13Automaton := @C.wpe _ _ B_spec_l13Automaton.eq_1
def R_spec_l13Automaton : FIR := ⟨B_spec_l13Automaton, 8, [(1, some (some 3))]⟩
theorem IR_spec_l13Automaton : cfun Try.prog H_spec_l13Automaton Try.f83 = some R_spec_l13Automaton := by kernel_rfl
theorem EN_spec_l13Automaton {args : List Value} {h : Heap} {k : Value → Heap → Prop} (hargs : args.length = 1) (hw : B_spec_l13Automaton.wp Try.prog (retQ [(1, some (some 3))] k) (env0 args 8) h) : CallE Try.prog fn_spec_l13Automaton args h k := enter Try.func83 rfl IR_spec_l13Automaton hargs hw


end Go.Proofs.Ytglnelcmcimljaa

/-
  Bodies of functions in the small language, as a program printed them, and that each is what the translation gives.
-/
namespace Go.Proofs.Ytglnelcmcimljaa
open Go
set_option linter.all false
set_option linter.defProp false
set_option maxRecDepth 1000000

def H_spec_DrawTrimAutomaton : Hint := ⟨[(0, false), (2, true), (3, false)], []⟩
def K43_1 : Pl := .st (.act none (.pset none 1 0 3 (.v 6))) .done
@[simp] def W43_1 := @Pl.wpe _ _ K43_1.eq_1
def K43_2 : Pl := .st (.act none (.ex (some 6) (.call fn_spec_l7Mutate [.v 3, .v 5]))) K43_1
@[simp] def W43_2 := @Pl.wpe _ _ K43_2.eq_1
def K43_3 : C := .seq (.pl <| .st (.ext 3 4) <|
    .st (.act none (.px (some 3) (.mv (.v 2)))) <|
    .st (.act none (.px (some 4) (.mv (.v 2)))) <|
    .st (.act none (.ex (some 5) (.call fn_spec_l13Automaton [.v 4]))) K43_2) (.ret)
@[simp] def W43_3 := @C.wpe _ _ K43_3.eq_1
def K43_4 : Pl := .st (.act none (.px (some 2) (.mv (.v 4)))) .done
@[simp] def W43_4 := @Pl.wpe _ _ K43_4.eq_1
def K43_5 : C := .seq (.pl <| .st (.ext 3 2) <|
    .st (.act none (.px (some 3) (.mv (.v 0)))) <|
    .st (.act none (.ex (some 4) (.call fn_spec_l16Open [.v 3]))) K43_4) K43_3
@[simp] def W43_5 := @C.wpe _ _ K43_5.eq_1
def B_spec_DrawTrimAutomaton : C := .seq (.pl <| .st (.ext 3 0) <|
    .st (.act none (.pnew 1 (.c (.agg #[.slice none 0 0, .slice none 0 0, .slice none 0 0])) [])) .done) K43_5
@[simp] def WB_spec_DrawTrimAutomaton := @C.wpe _ _ B_spec_DrawTrimAutomaton.eq_1
def R_spec_DrawTrimAutomaton : FIR := ⟨B_spec_DrawTrimAutomaton, 3, [(1, some (some 3))]⟩
theorem IR_spec_DrawTrimAutomaton : cfun Try.prog H_spec_DrawTrimAutomaton Try.f43 = some R_spec_DrawTrimAutomaton := by kernel_rfl
theorem EN_spec_DrawTrimAutomaton {args : List Value} {h : Heap} {k : Value → Heap → Prop} (hargs : args.length = 1) (hw : B_spec_DrawTrimAutomaton.wp Try.prog (retQ [(1, some (some 3))] k) (env0 args 3) h) : CallE Try.prog fn_spec_DrawTrimAutomaton args h k := enter Try.func43 rfl IR_spec_DrawTrimAutomaton hargs hw


end Go.Proofs.Ytglnelcmcimljaa

/-
  Bodies of functions in the small language, as a program printed them, and that each is what the translation gives.
-/
namespace Go.Proofs.Ytglnelcmcimljaa
open Go
set_option linter.all false
set_option linter.defProp false
set_option maxRecDepth 1000000

end Go.Proofs.Ytglnelcmcimljaa

/-
  Bodies of functions in the small language, as a program printed them, and that each is what the translation gives.
-/
namespace Go.Proofs.Ytglnelcmcimljaa
open Go
set_option linter.all false
set_option linter.defProp false
set_option maxRecDepth 1000000

end Go.Proofs.Ytglnelcmcimljaa

/-
  Formulas in plain Lean: the same trees as expressions (kind, atom, operands). When they are valid, their normal form, their parts.
-/
namespace Go.Proofs.Ytglnelcmcimljaa
open Go
set_option linter.all false
set_option linter.unusedVariables false
set_option linter.unusedSimpArgs false
set_option linter.defProp false
set_option maxRecDepth 1000000

namespace Fm
def arity (k : Int) : Int := if k = 1 ∨ k = 2 then 0 else if k = 3 ∨ k = 6 ∨ k = 9 ∨ k = 10 then 1 else if k = 4 ∨ k = 5 ∨ k = 7 ∨ k = 8 then 2 else -1
/-- one node is well made -/
structure Nd (x : Exq) : Prop where
  ar : (x.kids.length : Int) = arity x.kind
  lo : 0 ≤ x.val
  hi : x.val < 3
  ze : x.kind ≠ 2 → x.val = 0
/-- well made, so many levels -/
def Shp : Nat → Exq → Prop
  | 0, _ => False
  | n + 1, x => Nd x ∧ ∀ y ∈ x.kids, Shp n y
noncomputable instance {n : Nat} {x : Exq} : Decidable (Shp n x) := Classical.propDecidable _
def Ok (x : Exq) : Prop := Shp 6 x ∧ x.nod ≤ 12
noncomputable instance {x : Exq} : Decidable (Ok x) := Classical.propDecidable _
theorem Nd.kind {x : Exq} (h : Nd x) : 1 ≤ x.kind ∧ x.kind ≤ 10 := by
  have := h.ar
  unfold arity at this
  split at this <;> (try split at this) <;> (try split at this) <;> omega
theorem arity_le {k : Int} : arity k ≤ 2 := by
  unfold arity
  split <;> (try split) <;> (try split) <;> omega
theorem arity_ge {k : Int} : -1 ≤ arity k := by
  unfold arity
  split <;> (try split) <;> (try split) <;> omega
theorem Shp.nd {n : Nat} {x : Exq} (h : Shp n x) : Nd x := by
  cases n with
  | zero => exact h.elim
  | succ n => exact h.1
theorem Shp.kid {n : Nat} {x : Exq} (h : Shp (n + 1) x) {i : Nat} (hi : i < x.kids.length) : Shp n x.kids[i] := h.2 _ (List.getElem_mem hi)
theorem Shp.le2 {n : Nat} {x : Exq} (h : Shp n x) : x.kids.length ≤ 2 := by
  have h1 := h.nd.ar
  have h2 := arity_le (k := x.kind)
  omega
theorem Shp.two {n : Nat} {x : Exq} (h : Shp n x) (hk : x.kind = 4 ∨ x.kind = 5 ∨ x.kind = 7 ∨ x.kind = 8) : x.kids.length = 2 := by
  have h1 := h.nd.ar
  unfold arity at h1
  split at h1 <;> (try split at h1) <;> (try split at h1) <;> omega
theorem Shp.one {n : Nat} {x : Exq} (h : Shp n x) (hk : x.kind = 3 ∨ x.kind = 6 ∨ x.kind = 9 ∨ x.kind = 10) : x.kids.length = 1 := by
  have h1 := h.nd.ar
  unfold arity at h1
  split at h1 <;> (try split at h1) <;> (try split at h1) <;> omega
theorem Shp.none {n : Nat} {x : Exq} (h : Shp n x) (hk : x.kind = 1 ∨ x.kind = 2) : x.kids = [] := by
  have h1 := h.nd.ar
  rw [arity, if_pos hk] at h1
  exact List.length_eq_zero_iff.1 (by omega)
theorem Shp.mono : ∀ {n : Nat} {x : Exq}, Shp n x → Shp (n + 1) x
  | 0, _, h => h.elim
  | n + 1, _, h => ⟨h.1, fun y hy => (h.2 y hy).mono⟩
theorem Shp.bnd : ∀ {n : Nat} {x : Exq}, Shp n x → x.nod < 2 ^ n
  | 0, _, h => h.elim
  | n + 1, x, h => by
    have h2 := h.le2
    rw [Exq.nod_eq]
    have h4 : Exq.nods x.kids + x.kids.length ≤ x.kids.length * 2 ^ n := by
      have key : ∀ l : List Exq, (∀ y ∈ l, y.nod < 2 ^ n) → Exq.nods l + l.length ≤ l.length * 2 ^ n := by
        intro l
        induction l with
        | nil => intro _; simp [Exq.nods]
        | cons y l ih =>
          intro hy
          have e1 := hy y (by simp)
          have e2 := ih fun z hz => hy z (by simp [hz])
          simp only [Exq.nods, List.length_cons, Nat.add_mul]
          omega
      exact key x.kids fun y hy => (h.2 y hy).bnd
    have h5 : 0 < 2 ^ n := Nat.two_pow_pos n
    have h6 : 2 ^ (n + 1) = 2 * 2 ^ n := by rw [Nat.pow_succ]; omega
    rw [h6]
    obtain h7 | h7 | h7 : x.kids.length = 0 ∨ x.kids.length = 1 ∨ x.kids.length = 2 := by omega
    all_goals (rw [h7] at h4; omega)

/- NORMAL FORM -/
def tru : Exq := .mk 1 0 []
def neg (x : Exq) : Exq := .mk 3 0 [x]
def dual (k : Int) : Int := if k = 4 then 5 else if k = 5 then 4 else if k = 7 then 8 else 7
mutual
def push : Exq → Bool → Exq
  | .mk k v l, n => if k = 1 ∨ k = 2 then (if n then neg (.mk k v []) else .mk k v [])
    else if k = 3 then (pushes l (!n)).getD 0 Exq.zero
    else if k = 6 then .mk 6 0 [(pushes l n).getD 0 Exq.zero]
    else if k = 9 ∨ k = 10 then (if decide (k = 9) != n then .mk 7 0 [tru, (pushes l n).getD 0 Exq.zero] else .mk 8 0 [neg tru, (pushes l n).getD 0 Exq.zero])
    else .mk (if n then dual k else k) 0 [(pushes l n).getD 0 Exq.zero, (pushes l n).getD 1 Exq.zero]
def pushes : List Exq → Bool → List Exq
  | [], _ => []
  | x :: l, n => push x n :: pushes l n
end
theorem pushes_eq {n : Bool} : ∀ l, pushes l n = l.map fun x => push x n
  | [] => rfl
  | x :: l => by simp only [pushes, List.map_cons, pushes_eq l]
def kp (x : Exq) (n : Bool) (j : Nat) : Exq := (x.kids.map fun y => push y n).getD j Exq.zero
theorem kp_at {x : Exq} {n : Bool} {j : Nat} (hj : j < x.kids.length) : kp x n j = push x.kids[j] n := by simp [kp, hj]
theorem push_eq (x : Exq) (n : Bool) : push x n = if x.kind = 1 ∨ x.kind = 2 then (if n then neg (.mk x.kind x.val []) else .mk x.kind x.val [])
    else if x.kind = 3 then kp x (!n) 0
    else if x.kind = 6 then .mk 6 0 [kp x n 0]
    else if x.kind = 9 ∨ x.kind = 10 then (if decide (x.kind = 9) != n then .mk 7 0 [tru, kp x n 0] else .mk 8 0 [neg tru, kp x n 0])
    else .mk (if n then dual x.kind else x.kind) 0 [kp x n 0, kp x n 1] := by
  cases x with
  | mk k v l => simp only [push, pushes_eq]; rfl
/-- the normal form, if there is one -/
noncomputable def nfR (x : Exq) : Exq := if Ok x ∧ Ok (push x false) then push x false else Exq.zero

/- PARTS -/
noncomputable def fx (l : List Exq) (x : Exq) : Int := match l.findIdx? (fun y => decide (y = x)) with | some i => (i : Int) | .none => -1
theorem fx_at {xs : List Exq} {st : Exq} {i : Nat} (hi : i < xs.length) (he : xs[i] = st) (hn : ∀ (j : Nat) (hj : j < xs.length), j < i → xs[j] ≠ st) : fx xs st = i := by
  have : xs.findIdx? (fun y => decide (y = st)) = some i := by
    rw [List.findIdx?_eq_some_iff_getElem]
    exact ⟨hi, by simpa using he, fun j hj => by simpa using hn j (by omega) hj⟩
  rw [fx, this]
theorem fx_not {xs : List Exq} {st : Exq} (h : st ∉ xs) : fx xs st = -1 := by
  have : xs.findIdx? (fun y => decide (y = st)) = .none := by
    rw [List.findIdx?_eq_none_iff]
    intro y hy
    simp only [decide_eq_false_iff_not]
    rintro rfl
    exact h hy
  rw [fx, this]
theorem fx_mem {xs : List Exq} {st : Exq} (h : st ∈ xs) : ∃ (i : Nat) (hi : i < xs.length), fx xs st = i ∧ xs[i] = st := by
  obtain ⟨i, hi⟩ : ∃ i, xs.findIdx? (fun y => decide (y = st)) = some i := by
    rcases hf : xs.findIdx? (fun y => decide (y = st)) with _ | i
    · rw [List.findIdx?_eq_none_iff] at hf
      have := hf st h
      simp at this
    · exact ⟨i, rfl⟩
  have h2 := hi
  rw [List.findIdx?_eq_some_iff_getElem] at h2
  obtain ⟨h3, h4, _⟩ := h2
  exact ⟨i, h3, by rw [fx, hi], by simpa using h4⟩
theorem fx_neg {xs : List Exq} {st : Exq} : fx xs st < 0 ↔ st ∉ xs := by
  constructor
  · intro h hm
    obtain ⟨i, _, e, _⟩ := fx_mem hm
    omega
  · intro h
    rw [fx_not h]
    decide
noncomputable def ins (o : List Exq) (x : Exq) : List Exq := if x ∈ o then o else o ++ [x]
mutual
noncomputable def subs : Exq → List Exq → List Exq
  | .mk k v l, o => ins (subsL l o) (.mk k v l)
noncomputable def subsL : List Exq → List Exq → List Exq
  | [], o => o
  | x :: l, o => subsL l (subs x o)
end
theorem subsL_eq : ∀ (l : List Exq) (o : List Exq), subsL l o = l.foldl (fun o x => subs x o) o
  | [], _ => rfl
  | x :: l, o => by rw [subsL, subsL_eq l, List.foldl_cons]
theorem subs_eq (x : Exq) (o : List Exq) : subs x o = ins (x.kids.foldl (fun o x => subs x o) o) x := by
  cases x with
  | mk k v l => rw [subs, subsL_eq]; rfl
theorem ins_len {o : List Exq} {x : Exq} : (ins o x).length ≤ o.length + 1 := by unfold ins; split <;> simp
theorem subsL_len : ∀ (l : List Exq), (∀ x ∈ l, ∀ o, (subs x o).length ≤ o.length + x.nod) → ∀ o, (l.foldl (fun o x => subs x o) o).length ≤ o.length + Exq.nods l
  | [], _, o => by simp [Exq.nods]
  | x :: l, h, o => by
    have h1 := h x (by simp) o
    have h2 := subsL_len l (fun y hy => h y (by simp [hy])) (subs x o)
    simp only [List.foldl_cons, Exq.nods]
    omega
theorem subs_len : ∀ (x : Exq) (o : List Exq), (subs x o).length ≤ o.length + x.nod := by
  have key : ∀ (n : Nat) (x : Exq), x.nod ≤ n → ∀ o, (subs x o).length ≤ o.length + x.nod := by
    intro n
    induction n with
    | zero => intro x h; rw [Exq.nod_eq] at h; omega
    | succ n ih =>
      intro x hx o
      rw [Exq.nod_eq] at hx ⊢
      rw [subs_eq]
      have h1 := subsL_len x.kids (fun y hy => ih y (by
        obtain ⟨i, hi, rfl⟩ := List.mem_iff_getElem.1 hy
        have e1 := Exq.nods_take hi
        have e2 := Exq.nods_le x.kids (i + 1)
        omega)) o
      have h2 := ins_len (o := x.kids.foldl (fun o x => subs x o) o) (x := x)
      omega
  exact fun x o => key x.nod x (Nat.le_refl _) o
/-- what holds of all parts of a tree -/
theorem subs_all {P : Exq → Prop} : ∀ (n : Nat) (x : Exq), (∀ y, P y → ∀ z ∈ y.kids, P z) → x.nod ≤ n → P x → ∀ (o : List Exq), (∀ y ∈ o, P y) → ∀ y ∈ subs x o, P y := by
  intro n
  induction n with
  | zero => intro x _ h; rw [Exq.nod_eq] at h; omega
  | succ n ih =>
    intro x hP hx hPx o ho
    rw [Exq.nod_eq] at hx
    rw [subs_eq]
    have hl : ∀ (l : List Exq), (∀ z ∈ l, P z ∧ z.nod ≤ n) → ∀ (o : List Exq), (∀ y ∈ o, P y) → ∀ y ∈ l.foldl (fun o x => subs x o) o, P y := by
      intro l
      induction l with
      | nil => intro _ o ho; exact ho
      | cons z l ihl =>
        intro hz o ho
        rw [List.foldl_cons]
        exact ihl (fun w hw => hz w (by simp [hw])) _ (ih z hP (hz z (by simp)).2 (hz z (by simp)).1 o ho)
    have h1 := hl x.kids (fun z hz => ⟨hP x hPx z hz, by
      obtain ⟨i, hi, rfl⟩ := List.mem_iff_getElem.1 hz
      have e1 := Exq.nods_take hi
      have e2 := Exq.nods_le x.kids (i + 1)
      omega⟩) o ho
    intro y hy
    unfold ins at hy
    split at hy
    · exact h1 y hy
    · rcases List.mem_append.1 hy with hy | hy
      · exact h1 y hy
      · simp at hy; subst hy; exact hPx
/-- the formulas that are basic -/
def bas (x : Exq) : Bool := decide (x.kind = 2 ∨ x.kind = 6 ∨ x.kind = 7 ∨ x.kind = 8)
noncomputable def basics (x : Exq) : List Exq := (subs (push x false) []).filter bas
def bOk (x : Exq) : Prop := (Ok x ∧ Ok (push x false)) ∧ (basics x).length ≤ 5
noncomputable instance {x : Exq} : Decidable (bOk x) := Classical.propDecidable _
noncomputable def basR (x : Exq) : List Exq := if bOk x then basics x else []
theorem Shp.kids6 {x : Exq} (h : ∃ n, n ≤ 6 ∧ Shp n x) : ∀ y ∈ x.kids, ∃ n, n ≤ 6 ∧ Shp n y := by
  obtain ⟨n, hn, hs⟩ := h
  cases n with
  | zero => exact hs.elim
  | succ n => exact fun y hy => ⟨n, by omega, hs.2 y hy⟩
theorem Shp.up {n m : Nat} {x : Exq} (h : Shp n x) (hm : n ≤ m) : Shp m x := by
  induction m with
  | zero => have : n = 0 := by omega
            subst this; exact h
  | succ m ih =>
    by_cases e : n = m + 1
    · subst e; exact h
    · exact (ih (by omega)).mono
theorem basics_ok {x : Exq} (h : bOk x) : ∀ y ∈ basics x, Shp 6 y ∧ bas y = true := by
  intro y hy
  obtain ⟨h1, h2⟩ := List.mem_filter.1 hy
  obtain ⟨n, hn, h3⟩ := subs_all (P := fun y => ∃ n, n ≤ 6 ∧ Shp n y) _ (push x false) (fun y hy => Shp.kids6 hy) (Nat.le_refl _) ⟨6, Nat.le_refl _, h.1.2.1⟩ [] (fun y hy => by simp at hy) y h1
  exact ⟨h3.up hn, h2⟩
end Fm
end Go.Proofs.Ytglnelcmcimljaa
