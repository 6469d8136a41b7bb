/-
  Expressions: trees of numbers; edges, processes, systems: how they lie in cells.
-/
import Derived.Test.YthgimpheeemooaaGreatGE
namespace Go.Proofs.YthgimpheeemooaaGreat
open Go
set_option linter.all false
set_option linter.unusedVariables false
set_option linter.unusedSimpArgs false
set_option linter.defProp false
set_option maxRecDepth 1000000

section
variable {α : Type}
theorem repL_map {t t' : Ty α} {h : Heap} {p : Option Addr} {l : List α} (hs : t.sz = t'.sz) (hr : ∀ cs x, x ∈ l → t.rep h cs x → t'.rep h cs x) (H : @repL α t h p l) : @repL α t' h p l := by
  intro i hi
  obtain ⟨b, off, vs, h1, h2, h3⟩ := H i hi
  refine ⟨b, off, vs, h1, ?_, hr _ _ (List.getElem_mem hi) h3⟩
  have h2 : hcells h b (off + i * t.sz) t.sz = some vs := h2
  show hcells h b (off + i * t'.sz) t'.sz = some vs
  rw [← hs]; exact h2
theorem repS_map {t t' : Ty α} {h : Heap} {cs : List Value} {l : List α} (hs : t.sz = t'.sz) (hr : ∀ cs x, x ∈ l → t.rep h cs x → t'.rep h cs x) (H : @repS α t h cs l) : @repS α t' h cs l := by
  obtain ⟨p, cap, h1, h2, h3, h4⟩ := H
  exact ⟨p, cap, h1, h2, h3, repL_map hs hr h4⟩
theorem ownL_map {t t' : Ty α} (hs : t.sz = t'.sz) : ∀ {l : List α} {cs : List Value} {r : Heap}, (∀ r cs x, x ∈ l → t.own r cs x → t'.own r cs x) → @ownL α t l cs r → @ownL α t' l cs r
  | [], _, _, _, H => H
  | x :: l, cs, r, ho, ⟨r1, r2, h1, h2, h3, h4⟩ => by
    refine ⟨r1, r2, h1, h2, ?_, ?_⟩
    · have := ho r1 _ x (by simp) h3
      show t'.own r1 (cs.take t'.sz) x
      rw [← hs]; exact this
    · have := ownL_map hs (fun r cs x hx => ho r cs x (by simp [hx])) h4
      show @ownL α t' l (cs.drop t'.sz) r2
      rw [← hs]; exact this
theorem ownS_map {t t' : Ty α} (hs : t.sz = t'.sz) {l : List α} {cs : List Value} {r : Heap} (ho : ∀ r cs x, x ∈ l → t.own r cs x → t'.own r cs x) (H : @ownS α t r cs l) : @ownS α t' r cs l := by
  rcases H with h1 | ⟨b, off, cap, cells, el, r', h1, h2, h3, h4, h5, h6⟩
  · exact .inl h1
  · refine .inr ⟨b, off, cap, cells, el, r', h1, h2, ?_, h4, h5, ownL_map hs ho h6⟩
    have h3 : off + cap * t.sz ≤ cells.length := h3
    show off + cap * t'.sz ≤ cells.length
    rw [← hs]; exact h3
end

theorem exists_max {P : Nat → Nat → Prop} (hu : ∀ i n, P i n → P i (n + 1)) : ∀ m, (∀ i, i < m → ∃ n, P i n) → ∃ N, ∀ i, i < m → P i N
  | 0, _ => ⟨0, fun i hi => absurd hi (Nat.not_lt_zero i)⟩
  | m + 1, h => by
    have up : ∀ i n k, P i n → P i (n + k) := by
      intro i n k hp
      induction k with
      | zero => exact hp
      | succ k ih => exact hu _ _ ih
    obtain ⟨N, hN⟩ := exists_max hu m fun i hi => h i (by omega)
    obtain ⟨M, hM⟩ := h m (by omega)
    refine ⟨N + M, fun i hi => ?_⟩
    by_cases e : i = m
    · subst e; rw [Nat.add_comm]; exact up _ _ _ hM
    · exact up _ _ _ (hN i (by omega))

/-- an expression -/
inductive Exq where
  | mk (kind val : Int) (kids : List Exq)
namespace Exq
def kind : Exq → Int | .mk k _ _ => k
def val : Exq → Int | .mk _ v _ => v
def kids : Exq → List Exq | .mk _ _ l => l
@[simp] theorem kind_mk {k v : Int} {l : List Exq} : (Exq.mk k v l).kind = k := rfl
@[simp] theorem val_mk {k v : Int} {l : List Exq} : (Exq.mk k v l).val = v := rfl
@[simp] theorem kids_mk {k v : Int} {l : List Exq} : (Exq.mk k v l).kids = l := rfl
theorem eta (x : Exq) : Exq.mk x.kind x.val x.kids = x := by cases x; rfl
theorem ext_iff' {a b : Exq} : a = b ↔ a.kind = b.kind ∧ a.val = b.val ∧ a.kids = b.kids := by
  cases a; cases b; simp
theorem ind {p : Exq → Prop} (h : ∀ x : Exq, (∀ y ∈ x.kids, p y) → p x) : ∀ x, p x
  | .mk k v l => h _ fun y hy => ind h y
termination_by x => SizeOf.sizeOf x
decreasing_by
  have h1 : y ∈ l := hy
  have := List.sizeOf_lt_of_mem h1
  simp only [Exq.mk.sizeOf_spec]
  omega
def tup (x : Exq) : Int × Int × List Exq := (x.kind, x.val, x.kids)

@[reducible] def T0 : Ty Exq where
  agg := true
  sz := 3
  rep := fun _ _ _ => False
  own := fun _ _ _ => False
  one := fun h => by simp at h
  len := fun h => h.elim
  cell := fun h => h.elim
  mono := fun _ h => h
  own_rep := fun h => h.elim
/-- the product of the fields, where the kids lie as t says -/
@[reducible] def tyTup (t : Ty Exq) : Ty (Int × Int × List Exq) := @instTyProd Int (Int × List Exq) instTyInt (@instTyProd Int (List Exq) instTyInt (@instTyList Exq t))
@[reducible] def T : Nat → Ty Exq
  | 0 => T0
  | n + 1 => @Ty.via Exq (Int × Int × List Exq) (tyTup (T n)) tup
theorem T_sz : ∀ n, (T n).sz = 3
  | 0 => rfl
  | _ + 1 => rfl

theorem tup_rep {t t' : Ty Exq} (hs : t.sz = t'.sz) {h : Heap} {cs : List Value} {x : Exq} (hr : ∀ cs y, y ∈ x.kids → t.rep h cs y → t'.rep h cs y) (H : (tyTup t).rep h cs x.tup) : (tyTup t').rep h cs x.tup := by
  obtain ⟨c1, c2, e1, h1, c3, c4, e2, h2, h3⟩ := H
  exact ⟨c1, c2, e1, h1, c3, c4, e2, h2, repS_map hs hr h3⟩
theorem tup_own {t t' : Ty Exq} (hs : t.sz = t'.sz) {r : Heap} {cs : List Value} {x : Exq} (hr : ∀ r cs y, y ∈ x.kids → t.own r cs y → t'.own r cs y) (H : (tyTup t).own r cs x.tup) : (tyTup t').own r cs x.tup := by
  obtain ⟨c1, c2, r1, r2, e1, e2, d1, h1, c3, c4, r3, r4, e3, e4, d2, h2, h3⟩ := H
  exact ⟨c1, c2, r1, r2, e1, e2, d1, h1, c3, c4, r3, r4, e3, e4, d2, h2, ownS_map hs hr h3⟩
theorem rep_up : ∀ (n : Nat) {h : Heap} {cs : List Value} {x : Exq}, (T n).rep h cs x → (T (n + 1)).rep h cs x
  | 0, _, _, _, H => H.elim
  | n + 1, h, cs, x, H => tup_rep (t := T n) (t' := T (n + 1)) (by rw [T_sz, T_sz]) (fun _ _ _ => rep_up n) H
theorem own_up : ∀ (n : Nat) {r : Heap} {cs : List Value} {x : Exq}, (T n).own r cs x → (T (n + 1)).own r cs x
  | 0, _, _, _, H => H.elim
  | n + 1, h, cs, x, H => tup_own (t := T n) (t' := T (n + 1)) (by rw [T_sz, T_sz]) (fun _ _ _ _ => own_up n) H
theorem own_le {n m : Nat} (hle : n ≤ m) {r : Heap} {cs : List Value} {x : Exq} (H : (T n).own r cs x) : (T m).own r cs x := by
  obtain ⟨k, rfl⟩ := Nat.exists_eq_add_of_le hle
  induction k with
  | zero => exact H
  | succ k ih => exact own_up _ (ih (by omega))
end Exq

instance instTyExq : Ty Exq where
  agg := true
  sz := 3
  rep := fun h cs x => ∃ n, (Exq.T n).rep h cs x
  own := fun r cs x => ∃ n, (Exq.T n).own r cs x
  one := fun h => by simp at h
  len := fun ⟨n, h⟩ => ((Exq.T n).len h).trans (Exq.T_sz n)
  cell := fun ⟨n, h⟩ => (Exq.T n).cell h
  mono := fun hl ⟨n, h⟩ => ⟨n, (Exq.T n).mono hl h⟩
  own_rep := fun ⟨n, h⟩ => ⟨n, (Exq.T n).own_rep h⟩

namespace Exq
theorem rep_iff {h : Heap} {cs : List Value} {x : Exq} : Ty.rep h cs x ↔ Ty.rep h cs x.tup := by
  constructor
  · rintro ⟨n, H⟩
    cases n with
    | zero => exact H.elim
    | succ n => exact tup_rep (t := T n) (t' := instTyExq) (T_sz n) (fun _ _ _ h => ⟨n, h⟩) H
  · rintro ⟨c1, c2, e1, h1, c3, c4, e2, h2, p, cap, e3, h3, h4, hl⟩
    have hl : ∀ i, i < x.kids.length → ∃ n, ∃ (hi : i < x.kids.length), ∃ b off vs, p = some ⟨b, off, none⟩ ∧ hcells h b (off + i * 3) 3 = some vs ∧ (T n).rep h vs x.kids[i] := by
      intro i hi
      obtain ⟨b, off, vs, g1, g2, n, g3⟩ := hl i hi
      exact ⟨n, hi, b, off, vs, g1, g2, g3⟩
    obtain ⟨N, hN⟩ := exists_max (P := fun i n => ∃ (hi : i < x.kids.length), ∃ b off vs, p = some ⟨b, off, none⟩ ∧ hcells h b (off + i * 3) 3 = some vs ∧ (T n).rep h vs x.kids[i]) (fun i n ⟨hi, b, off, vs, g1, g2, g3⟩ => ⟨hi, b, off, vs, g1, g2, rep_up n g3⟩) _ hl
    refine ⟨N + 1, c1, c2, e1, h1, c3, c4, e2, h2, p, cap, e3, h3, h4, fun i hi => ?_⟩
    obtain ⟨_, b, off, vs, g1, g2, g3⟩ := hN i hi
    refine ⟨b, off, vs, g1, ?_, g3⟩
    show hcells h b (off + i * (T N).sz) (T N).sz = some vs
    rw [T_sz]; exact g2
theorem ownL_max : ∀ {l : List Exq} {cs : List Value} {r : Heap}, ownL l cs r → ∃ N, @ownL Exq (T N) l cs r
  | [], _, _, H => ⟨0, H⟩
  | x :: l, cs, r, ⟨r1, r2, h1, h2, ⟨n, h3⟩, h4⟩ => by
    obtain ⟨N, h5⟩ := ownL_max h4
    refine ⟨n + N, r1, r2, h1, h2, ?_, ?_⟩
    · show (T (n + N)).own r1 (cs.take (T (n + N)).sz) x
      rw [T_sz]; exact own_le (by omega) h3
    · show @ownL Exq (T (n + N)) l (cs.drop (T (n + N)).sz) r2
      rw [T_sz]; exact ownL_map (t := T N) (t' := T (n + N)) (by rw [T_sz, T_sz]) (fun _ _ _ _ => own_le (by omega)) h5
theorem own_iff {r : Heap} {cs : List Value} {x : Exq} : Ty.own r cs x ↔ Ty.own r cs x.tup := by
  constructor
  · rintro ⟨n, H⟩
    cases n with
    | zero => exact H.elim
    | succ n => exact tup_own (t := T n) (t' := instTyExq) (T_sz n) (fun _ _ _ _ h => ⟨n, h⟩) H
  · rintro ⟨c1, c2, r1, r2, e1, e2, d1, h1, c3, c4, r3, r4, e3, e4, d2, h2, h3⟩
    rcases h3 with h3 | ⟨b, off, cap, cells, el, r', g1, g2, g3, g4, g5, g6⟩
    · exact ⟨1, c1, c2, r1, r2, e1, e2, d1, h1, c3, c4, r3, r4, e3, e4, d2, h2, .inl h3⟩
    · obtain ⟨N, h7⟩ := ownL_max g6
      refine ⟨N + 1, c1, c2, r1, r2, e1, e2, d1, h1, c3, c4, r3, r4, e3, e4, d2, h2, .inr ⟨b, off, cap, cells, el, r', g1, g2, ?_, g4, g5, h7⟩⟩
      show off + cap * (T N).sz ≤ cells.length
      rw [T_sz]; exact g3
end Exq

/-- a number of the machine -/
def I64 (n : Int) : Prop := -9223372036854775808 ≤ n ∧ n < 9223372036854775808
theorem I64.lo {n : Int} (h : I64 n) : -9223372036854775808 ≤ n := h.1
theorem I64.hi {n : Int} (h : I64 n) : n < 9223372036854775808 := h.2

section
variable {g h r : Heap} {Γ : List HP} {v : Value} {cs : List Value}
theorem repExq {x : Exq} : Ty.rep h cs x ↔ ∃ w, cs = [.int .i64 x.kind, .int .i64 x.val, w] ∧ I64 x.kind ∧ I64 x.val ∧ Rep h w x.kids := by
  rw [Exq.rep_iff]
  constructor
  · rintro ⟨c1, c2, rfl, ⟨rfl, h1⟩, c3, c4, rfl, ⟨rfl, h2⟩, h3⟩
    obtain ⟨w, rfl, h4⟩ := (rep1 (α := List Exq) rfl).1 h3
    exact ⟨w, rfl, h1, h2, h4⟩
  · rintro ⟨w, rfl, h1, h2, h3⟩
    exact ⟨[_], [_, _], rfl, ⟨rfl, h1⟩, [_], [_], rfl, ⟨rfl, h2⟩, (rep1 (α := List Exq) rfl).2 ⟨w, rfl, h3⟩⟩
theorem ownExq {x : Exq} : Ty.own r cs x ↔ ∃ w, cs = [.int .i64 x.kind, .int .i64 x.val, w] ∧ I64 x.kind ∧ I64 x.val ∧ Own r w x.kids := by
  rw [Exq.own_iff]
  constructor
  · rintro ⟨c1, c2, r1, r2, rfl, rfl, d1, ⟨rfl, rfl, h1⟩, c3, c4, r3, r4, rfl, rfl, d2, ⟨rfl, rfl, h2⟩, h3⟩
    obtain ⟨w, rfl, h4⟩ := (own1 (α := List Exq) rfl).1 h3
    exact ⟨w, rfl, h1, h2, by rw [nil_add, nil_add]; exact h4⟩
  · rintro ⟨w, rfl, h1, h2, h3⟩
    exact ⟨[_], [_, _], Heap.nil, r, rfl, by simp, by simp, ⟨rfl, rfl, h1⟩, [_], [_], Heap.nil, r, rfl, by simp, by simp, ⟨rfl, rfl, h2⟩, (own1 (α := List Exq) rfl).2 ⟨w, rfl, h3⟩⟩
theorem Rep_Exq {x : Exq} : Rep h v x ↔ ∃ w, v = .agg #[.int .i64 x.kind, .int .i64 x.val, w] ∧ I64 x.kind ∧ I64 x.val ∧ Rep h w x.kids := by
  constructor
  · rintro ⟨cs, rfl, H⟩
    obtain ⟨w, rfl, h1⟩ := repExq.1 H
    exact ⟨w, rfl, h1⟩
  · rintro ⟨w, rfl, h1⟩
    exact ⟨_, rfl, repExq.2 ⟨w, rfl, h1⟩⟩
theorem HS.unExq {x : Exq} (H : HS g (ow v x :: Γ) h) : ∃ w, v = .agg #[.int .i64 x.kind, .int .i64 x.val, w] ∧ I64 x.kind ∧ I64 x.val ∧ HS g (ow w x.kids :: Γ) h := by
  obtain ⟨g', r, rfl, d, ⟨cs, rfl, O⟩, H⟩ := H
  obtain ⟨w, rfl, h1, h2, h3⟩ := ownExq.1 O
  exact ⟨w, rfl, h1, h2, g', r, rfl, d, h3, H⟩
theorem HS.mkExq {x : Exq} {w : Value} (H : HS g (ow w x.kids :: Γ) h) (h1 : I64 x.kind) (h2 : I64 x.val) : HS g (ow (.agg #[.int .i64 x.kind, .int .i64 x.val, w]) x :: Γ) h :=
  H.imp fun _ O => ⟨_, rfl, ownExq.2 ⟨w, rfl, h1, h2, O⟩⟩
theorem HS.mkExq' {kd vl : Int} {l : List Exq} {w : Value} (H : HS g (ow w l :: Γ) h) (h1 : I64 kd) (h2 : I64 vl) : HS g (ow (.agg #[.int .i64 kd, .int .i64 vl, w]) (Exq.mk kd vl l) :: Γ) h :=
  HS.mkExq (x := Exq.mk kd vl l) H h1 h2
theorem Rep.aExq {x : Exq} (hr : Rep h v x) : pgetV (some v) 0 (some 3) = some v ∧ v.cells.size = 3 ∧ allOne v.cells.toList = true ∧ Value.agg v.cells = v := hr.A rfl rfl
end

noncomputable instance : DecidableEq Exq := fun _ _ => Classical.propDecidable _

/-- an edge -/
structure Ed where
  frm : Int
  to : Int
  guard : Exq
  var : Int
  value : Exq
  sync : Int
instance instTyEd : Ty Ed := Ty.via fun (e : Ed) => (e.frm, e.to, e.guard, e.var, e.value, e.sync)
noncomputable instance : DecidableEq Ed := fun _ _ => Classical.propDecidable _
/-- a process -/
structure Pr where
  locs : Int
  edges : List Ed
instance instTyPr : Ty Pr := Ty.via fun (p : Pr) => (p.locs, p.edges)
noncomputable instance : DecidableEq Pr := fun _ _ => Classical.propDecidable _
/-- a system -/
structure Sy where
  init : List Int
  procs : List Pr
instance instTySy : Ty Sy := Ty.via fun (s : Sy) => (s.init, s.procs)
noncomputable instance : DecidableEq Sy := fun _ _ => Classical.propDecidable _
theorem Ed.ext_iff' {a b : Ed} : a = b ↔ a.frm = b.frm ∧ a.to = b.to ∧ a.guard = b.guard ∧ a.var = b.var ∧ a.value = b.value ∧ a.sync = b.sync := by
  cases a; cases b; simp
theorem Pr.ext_iff' {a b : Pr} : a = b ↔ a.locs = b.locs ∧ a.edges = b.edges := by
  cases a; cases b; simp
theorem Sy.ext_iff' {a b : Sy} : a = b ↔ a.init = b.init ∧ a.procs = b.procs := by
  cases a; cases b; simp

/-- an edge's cells, where its two expressions' operands are known -/
def Ed.cs (e : Ed) (w1 w2 : Value) : List Value := [.int .i64 e.frm, .int .i64 e.to, .int .i64 e.guard.kind, .int .i64 e.guard.val, w1, .int .i64 e.var, .int .i64 e.value.kind, .int .i64 e.value.val, w2, .int .i64 e.sync]
structure Ed.ok (e : Ed) : Prop where
  frm : I64 e.frm
  to : I64 e.to
  gk : I64 e.guard.kind
  gv : I64 e.guard.val
  var : I64 e.var
  vk : I64 e.value.kind
  vv : I64 e.value.val
  sync : I64 e.sync

section
variable {g h r : Heap} {Γ : List HP} {v : Value} {cs : List Value}
theorem repEd {e : Ed} : Ty.rep h cs e ↔ ∃ w1 w2, cs = e.cs w1 w2 ∧ e.ok ∧ Rep h w1 e.guard.kids ∧ Rep h w2 e.value.kids := by
  constructor
  · rintro ⟨c1, c2, rfl, ⟨rfl, h1⟩, c3, c4, rfl, ⟨rfl, h2⟩, c5, c6, rfl, h3, c7, c8, rfl, ⟨rfl, h4⟩, c9, c0, rfl, h5, rfl, h6⟩
    obtain ⟨w1, rfl, g1, g2, g3⟩ := repExq.1 h3
    obtain ⟨w2, rfl, g4, g5, g6⟩ := repExq.1 h5
    exact ⟨w1, w2, rfl, ⟨h1, h2, g1, g2, h4, g4, g5, h6⟩, g3, g6⟩
  · rintro ⟨w1, w2, rfl, ok, h1, h2⟩
    exact ⟨[_], _, rfl, ⟨rfl, ok.frm⟩, [_], _, rfl, ⟨rfl, ok.to⟩, [_, _, _], _, rfl, repExq.2 ⟨_, rfl, ok.gk, ok.gv, h1⟩, [_], _, rfl, ⟨rfl, ok.var⟩, [_, _, _], _, rfl, repExq.2 ⟨_, rfl, ok.vk, ok.vv, h2⟩, rfl, ok.sync⟩
theorem ownEd {e : Ed} : Ty.own r cs e ↔ ∃ w1 w2 r1 r2, cs = e.cs w1 w2 ∧ e.ok ∧ r = r1.add r2 ∧ Dj r1 r2 ∧ Own r1 w1 e.guard.kids ∧ Own r2 w2 e.value.kids := by
  constructor
  · rintro ⟨c1, c2, _, _, rfl, rfl, _, ⟨rfl, rfl, h1⟩, c3, c4, _, _, rfl, rfl, _, ⟨rfl, rfl, h2⟩, c5, c6, ra, rb, rfl, rfl, d, h3, c7, c8, _, _, rfl, rfl, _, ⟨rfl, rfl, h4⟩, c9, c0, rc, rd, rfl, rfl, d2, h5, rfl, rfl, h6⟩
    obtain ⟨w1, rfl, g1, g2, g3⟩ := ownExq.1 h3
    obtain ⟨w2, rfl, g4, g5, g6⟩ := ownExq.1 h5
    exact ⟨w1, w2, ra, rc, rfl, ⟨h1, h2, g1, g2, h4, g4, g5, h6⟩, by simp, by simpa using d, g3, g6⟩
  · rintro ⟨w1, w2, r1, r2, rfl, ok, rfl, d, h1, h2⟩
    exact ⟨[_], _, Heap.nil, r1.add r2, rfl, by simp, by simp, ⟨rfl, rfl, ok.frm⟩, [_], _, Heap.nil, r1.add r2, rfl, by simp, by simp, ⟨rfl, rfl, ok.to⟩, [_, _, _], _, r1, r2, rfl, rfl, d, ownExq.2 ⟨_, rfl, ok.gk, ok.gv, h1⟩,
      [_], _, Heap.nil, r2, rfl, by simp, by simp, ⟨rfl, rfl, ok.var⟩, [_, _, _], _, r2, Heap.nil, rfl, by simp, by simp, ownExq.2 ⟨_, rfl, ok.vk, ok.vv, h2⟩, rfl, rfl, ok.sync⟩
theorem Rep_Ed {e : Ed} : Rep h v e ↔ ∃ w1 w2, v = .agg (e.cs w1 w2).toArray ∧ e.ok ∧ Rep h w1 e.guard.kids ∧ Rep h w2 e.value.kids := by
  constructor
  · rintro ⟨cs, rfl, H⟩
    obtain ⟨w1, w2, rfl, h1⟩ := repEd.1 H
    exact ⟨w1, w2, rfl, h1⟩
  · rintro ⟨w1, w2, rfl, h1⟩
    exact ⟨_, rfl, repEd.2 ⟨w1, w2, rfl, h1⟩⟩
theorem HS.unEd {e : Ed} (H : HS g (ow v e :: Γ) h) : ∃ w1 w2, v = .agg (e.cs w1 w2).toArray ∧ e.ok ∧ HS g (ow w1 e.guard.kids :: ow w2 e.value.kids :: Γ) h := by
  obtain ⟨g', r, rfl, d, ⟨cs, rfl, O⟩, H⟩ := H
  obtain ⟨w1, w2, r1, r2, rfl, ok, rfl, d2, h1, h2⟩ := ownEd.1 O
  obtain ⟨d3, d4⟩ := Dj_add.1 d
  exact ⟨w1, w2, rfl, ok, g'.add r2, r1, by rw [add_assoc, d2.comm], add_Dj.2 ⟨d3, d2.symm⟩, h1, g', r2, rfl, d4, h2, H⟩
theorem HS.mkEd {e : Ed} {w1 w2 : Value} (H : HS g (ow w1 e.guard.kids :: ow w2 e.value.kids :: Γ) h) (ok : e.ok) : HS g (ow (.agg (e.cs w1 w2).toArray) e :: Γ) h :=
  H.join2 fun r1 r2 d h1 h2 => ⟨_, rfl, ownEd.2 ⟨w1, w2, r1, r2, rfl, ok, rfl, d, h1, h2⟩⟩
theorem Rep_Pr {p : Pr} : Rep h v p ↔ ∃ w, v = .agg #[.int .i64 p.locs, w] ∧ I64 p.locs ∧ Rep h w p.edges := by
  constructor
  · rintro ⟨cs, rfl, c1, c2, rfl, ⟨rfl, h1⟩, h2⟩
    obtain ⟨w, rfl, h3⟩ := (rep1 (α := List Ed) rfl).1 h2
    exact ⟨w, rfl, h1, h3⟩
  · rintro ⟨w, rfl, h1, h2⟩
    exact ⟨_, rfl, [_], [_], rfl, ⟨rfl, h1⟩, (rep1 (α := List Ed) rfl).2 ⟨w, rfl, h2⟩⟩
theorem HS.unPr {p : Pr} (H : HS g (ow v p :: Γ) h) : ∃ w, v = .agg #[.int .i64 p.locs, w] ∧ I64 p.locs ∧ HS g (ow w p.edges :: Γ) h := by
  obtain ⟨g', r, rfl, d, ⟨cs, rfl, c1, c2, r1, r2, rfl, rfl, d2, ⟨rfl, rfl, h1⟩, h2⟩, H⟩ := H
  obtain ⟨w, rfl, h3⟩ := (own1 (α := List Ed) rfl).1 h2
  exact ⟨w, rfl, h1, g', r2, by simp, by simpa using d, h3, H⟩
theorem HS.mkPr {p : Pr} {w : Value} (H : HS g (ow w p.edges :: Γ) h) (h1 : I64 p.locs) : HS g (ow (.agg #[.int .i64 p.locs, w]) p :: Γ) h :=
  H.imp fun r O => ⟨_, rfl, [_], [_], Heap.nil, r, rfl, by simp, by simp, ⟨rfl, rfl, h1⟩, (own1 (α := List Ed) rfl).2 ⟨w, rfl, O⟩⟩
theorem Rep_Sy {s : Sy} : Rep h v s ↔ ∃ w1 w2, v = .agg #[w1, w2] ∧ Rep h w1 s.init ∧ Rep h w2 s.procs := by
  constructor
  · rintro ⟨cs, rfl, c1, c2, rfl, h1, h2⟩
    obtain ⟨w1, rfl, h3⟩ := (rep1 (α := List Int) rfl).1 h1
    obtain ⟨w2, rfl, h4⟩ := (rep1 (α := List Pr) rfl).1 h2
    exact ⟨w1, w2, rfl, h3, h4⟩
  · rintro ⟨w1, w2, rfl, h1, h2⟩
    exact ⟨_, rfl, [_], [_], rfl, (rep1 (α := List Int) rfl).2 ⟨w1, rfl, h1⟩, (rep1 (α := List Pr) rfl).2 ⟨w2, rfl, h2⟩⟩
theorem HS.unSy {s : Sy} (H : HS g (ow v s :: Γ) h) : ∃ w1 w2, v = .agg #[w1, w2] ∧ HS g (ow w1 s.init :: ow w2 s.procs :: Γ) h := by
  obtain ⟨g', r, rfl, d, ⟨cs, rfl, c1, c2, r1, r2, rfl, rfl, d2, h1, h2⟩, H⟩ := H
  obtain ⟨w1, rfl, h3⟩ := (own1 (α := List Int) rfl).1 h1
  obtain ⟨w2, rfl, h4⟩ := (own1 (α := List Pr) rfl).1 h2
  obtain ⟨d3, d4⟩ := Dj_add.1 d
  exact ⟨w1, w2, rfl, g'.add r2, r1, by rw [add_assoc, d2.comm], add_Dj.2 ⟨d3, d2.symm⟩, h3, g', r2, rfl, d4, h4, H⟩
theorem HS.mkSy {s : Sy} {w1 w2 : Value} (H : HS g (ow w1 s.init :: ow w2 s.procs :: Γ) h) : HS g (ow (.agg #[w1, w2]) s :: Γ) h :=
  H.join2 fun r1 r2 d h1 h2 => ⟨_, rfl, [_], [_], r1, r2, rfl, rfl, d, (own1 (α := List Int) rfl).2 ⟨w1, rfl, h1⟩, (own1 (α := List Pr) rfl).2 ⟨w2, rfl, h2⟩⟩
theorem Rep.aEd {x : Ed} (hr : Rep h v x) : pgetV (some v) 0 (some 10) = some v ∧ v.cells.size = 10 ∧ allOne v.cells.toList = true ∧ Value.agg v.cells = v := hr.A rfl rfl
theorem Rep.aPr {x : Pr} (hr : Rep h v x) : pgetV (some v) 0 (some 2) = some v ∧ v.cells.size = 2 ∧ allOne v.cells.toList = true ∧ Value.agg v.cells = v := hr.A rfl rfl
theorem Rep.aSy {x : Sy} (hr : Rep h v x) : pgetV (some v) 0 (some 2) = some v ∧ v.cells.size = 2 ∧ allOne v.cells.toList = true ∧ Value.agg v.cells = v := hr.A rfl rfl
end

end Go.Proofs.YthgimpheeemooaaGreat
