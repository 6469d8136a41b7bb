/-
  Texts of this proof, one behind the other.
-/
import Derived.WalkKit
import Derived.ProofKit
import Derived.OpenShut
import Derived.Carry
import Derived.Deep.Slices
import Derived.SizedLaws
import Derived.Test.YtglnelcmcimljaaGreatYF3
set_option linter.all false
set_option linter.unusedVariables false
set_option linter.unusedSimpArgs false
set_option linter.defProp false
set_option maxRecDepth 1000000
namespace Go.Proofs.YtglnelcmcimljaaGreat
open Go
theorem foldl_tk {α β : Type} {f : β → α → β} {b : β} {l : List α} {i : Nat} (hi : i < l.length) : (l.take (i + 1)).foldl f b = f ((l.take i).foldl f b) l[i] := by
  rw [List.take_add_one, List.getElem?_eq_getElem hi, List.foldl_append]; rfl
def VOk (vs : List Int) : Prop := vs.length = 3 ∧ ∀ x ∈ vs, 0 ≤ x ∧ x ≤ 3
theorem VOk.len {vs : List Int} (h : VOk vs) : vs.length = 3 := h.1
theorem VOk.at {vs : List Int} (h : VOk vs) {i : Nat} (hi : i < vs.length) : 0 ≤ vs[i] ∧ vs[i] ≤ 3 := h.2 _ (List.getElem_mem hi)
noncomputable instance {vs : List Int} : Decidable (VOk vs) := Classical.propDecidable _
namespace Exq
def arity (k : Int) : Int := if k = 1 ∨ k = 2 then 0 else if k = 3 then 1 else if 4 ≤ k ∧ k ≤ 9 then 2 else -1
def most (k : Int) : Int := if k = 1 then 3 else if k = 2 then 2 else 0
structure Nd (x : Exq) : Prop where
  ar : (x.kids.length : Int) = arity x.kind
  lo : 0 ≤ x.val
  hi : x.val ≤ most x.kind
def Shp : Nat → Exq → Prop
  | 0, _ => False
  | n + 1, x => x.Nd ∧ ∀ y ∈ x.kids, Shp n y
mutual
def nod : Exq → Nat
  | .mk _ _ l => 1 + nods l
def nods : List Exq → Nat
  | [] => 0
  | x :: l => x.nod + nods l
end
theorem nod_eq (x : Exq) : x.nod = 1 + nods x.kids := by cases x; rfl
theorem nods_take : ∀ {l : List Exq} {i : Nat} (hi : i < l.length), nods (l.take (i + 1)) = nods (l.take i) + l[i].nod
  | x :: l, 0, _ => by simp [nods]
  | x :: l, i + 1, hi => by
    have := nods_take (l := l) (i := i) (by simpa using hi)
    simp only [List.take_succ_cons, nods, List.getElem_cons_succ, this]; omega
theorem nods_le : ∀ (l : List Exq) (i : Nat), nods (l.take i) ≤ nods l
  | [], i => by simp
  | x :: l, 0 => by simp [nods]
  | x :: l, i + 1 => by
    simp only [List.take_succ_cons, nods]
    have := nods_le l i
    omega
def Ok (x : Exq) : Prop := x.Shp 6 ∧ x.nod ≤ 15
noncomputable instance {x : Exq} : Decidable x.Ok := Classical.propDecidable _
def zero : Exq := .mk 0 0 []
theorem Nd.kind {x : Exq} (h : x.Nd) : 1 ≤ x.kind ∧ x.kind ≤ 9 := by
  have := h.ar
  unfold arity at this
  split at this <;> (try split at this) <;> (try split at this) <;> omega
theorem Shp.nd {n : Nat} {x : Exq} (h : x.Shp n) : x.Nd := by
  cases n with
  | zero => exact h.elim
  | succ n => exact h.1
theorem Shp.kid {n : Nat} {x : Exq} (h : x.Shp (n + 1)) {i : Nat} (hi : i < x.kids.length) : x.kids[i].Shp n := h.2 _ (List.getElem_mem hi)
theorem Shp.bnd : ∀ {n : Nat} {x : Exq}, x.Shp n → x.nod < 2 ^ n
  | 0, _, h => h.elim
  | n + 1, x, h => by
    have h1 := h.1.ar
    have h2 : x.kids.length ≤ 2 := by
      unfold arity at h1
      split at h1 <;> (try split at h1) <;> (try split at h1) <;> omega
    have h3 : nods x.kids + x.kids.length ≤ x.kids.length * 2 ^ n := by
      have key : ∀ l : List Exq, (∀ y ∈ l, Shp n y) → nods l + l.length ≤ l.length * 2 ^ n := by
        intro l
        induction l with
        | nil => intro _; simp [nods]
        | cons y l ih =>
          intro hl
          have g1 := Shp.bnd (hl y (by simp))
          have g2 := ih fun z hz => hl z (by simp [hz])
          simp only [nods, List.length_cons, Nat.add_mul]
          omega
      exact key _ h.2
    have h4 : x.kids.length * 2 ^ n ≤ 2 * 2 ^ n := Nat.mul_le_mul_right _ h2
    have h5 : 0 < 2 ^ n := Nat.pow_pos (by decide)
    rw [nod_eq, Nat.pow_succ]
    by_cases h6 : x.kids.length = 0
    · have : x.kids = [] := List.length_eq_zero_iff.1 h6
      rw [this]; simp only [nods]; omega
    · rcases (show x.kids.length = 1 ∨ x.kids.length = 2 by omega) with h7 | h7 <;> rw [h7] at h3 h4 <;> omega
def tr (p : Prop) [Decidable p] : Int := if p then 1 else 0
def evk (vs : List Int) (k v a b : Int) : Int :=
  if k = 1 then v else if k = 2 then vs.getD v.toNat 0 else if k = 3 then tr (a = 0) else if k = 4 then tr (a ≠ 0 ∧ b ≠ 0) else if k = 5 then tr (a ≠ 0 ∨ b ≠ 0)
  else if k = 6 then tr (a = b) else if k = 7 then tr (a < b) else if k = 8 then (a + b).tmod 4 else (a - b + 4).tmod 4
mutual
def ev (vs : List Int) : Exq → Int
  | .mk k v l => evk vs k v ((evs vs l).getD 0 0) ((evs vs l).getD 1 0)
def evs (vs : List Int) : List Exq → List Int
  | [] => []
  | x :: l => x.ev vs :: evs vs l
end
def kev (x : Exq) (vs : List Int) (j : Nat) : Int := (x.kids.map (ev vs)).getD j 0
mutual
def mkv : Exq → List Bool → List Bool
  | .mk k v l, M => mkvs l (if k = 2 then M.set v.toNat true else M)
def mkvs : List Exq → List Bool → List Bool
  | [], M => M
  | x :: l, M => mkvs l (x.mkv M)
end
end Exq
structure Ed.Ok (e : Ed) (n : Int) : Prop where
  n1 : 1 ≤ n
  n4 : n ≤ 4
  f0 : 0 ≤ e.frm
  f1 : e.frm < n
  t0 : 0 ≤ e.to
  t1 : e.to < n
  gd : e.guard.Ok
  v0 : -1 ≤ e.var
  v1 : e.var ≤ 2
  vl : (0 ≤ e.var ∧ e.value.Ok) ∨ (e.var < 0 ∧ e.value = Exq.zero)
  s0 : -2 ≤ e.sync
  s1 : e.sync ≤ 2
noncomputable instance {e : Ed} {n : Int} : Decidable (e.Ok n) := Classical.propDecidable _
structure Pr.Ok (p : Pr) : Prop where
  n1 : 1 ≤ p.locs
  n4 : p.locs ≤ 4
  el : p.edges.length ≤ 6
  ed : ∀ e ∈ p.edges, e.Ok p.locs
noncomputable instance {p : Pr} : Decidable p.Ok := Classical.propDecidable _
structure Sy.Ok (s : Sy) : Prop where
  vs : VOk s.init
  p1 : 1 ≤ s.procs.length
  p3 : s.procs.length ≤ 3
  pr : ∀ p ∈ s.procs, p.Ok
noncomputable instance {s : Sy} : Decidable s.Ok := Classical.propDecidable _
theorem Sy.Ok.at {s : Sy} (h : s.Ok) {i : Nat} (hi : i < s.procs.length) : s.procs[i].Ok := h.pr _ (List.getElem_mem hi)
theorem Pr.Ok.at {p : Pr} (h : p.Ok) {i : Nat} (hi : i < p.edges.length) : p.edges[i].Ok p.locs := h.ed _ (List.getElem_mem hi)
structure LOk (l : List Exq) : Prop where
  len : l.length = 3
  ok : ∀ x ∈ l, x.Ok
noncomputable instance {l : List Exq} : Decidable (LOk l) := Classical.propDecidable _
def relL (labels : List Exq) (M : List Bool) : List Bool := labels.foldl (fun M x => x.mkv M) M
def relG (s : Sy) (M : List Bool) : List Bool := s.procs.foldl (fun M p => p.edges.foldl (fun M e => e.guard.mkv M) M) M
def Ed.relv (M : List Bool) (e : Ed) : List Bool := if 0 ≤ e.var ∧ M.getD e.var.toNat false = true then e.value.mkv M else M
def relV (s : Sy) (M : List Bool) : List Bool := s.procs.foldl (fun M p => p.edges.foldl Ed.relv M) M
def Sy.rel (s : Sy) (labels : List Exq) : List Bool := relV s (relV s (relV s (relG s (relL labels [false, false, false]))))
end Go.Proofs.YtglnelcmcimljaaGreat

namespace Go.Proofs.YtglnelcmcimljaaGreat
open Go
theorem Rep.cut {α : Type} [Ty α] {h : Heap} {v : Value} {l : List α} (R : Rep h v l) {n esz : Nat} {k : IntKind} (hn : n ≤ l.length) : ∃ v', sliceVV esz v none (some (some (.int k n))) none = some v' ∧ Rep h v' (l.take n) := by
  obtain ⟨p, cap, rfl, h1, h2, h3⟩ := Rep_list.1 R
  have hl : (l.take n).length = n := by simp; omega
  have hc : n ≤ cap := by omega
  cases n with
  | zero =>
    cases p with
    | none =>
      refine ⟨.slice none 0 cap, ?_, Rep_list.2 ⟨none, cap, by simp, by simp, trivial, fun i hi => by simp at hi⟩⟩
      simp [sliceVV, bndV]
    | some a =>
      by_cases hz : cap = 0
      · refine ⟨.slice (some a) 0 cap, ?_, Rep_list.2 ⟨some a, cap, by simp, by simp, trivial, fun i hi => by simp at hi⟩⟩
        simp [sliceVV, bndV, hz]
      · refine ⟨.slice (some (a.add 0)) 0 cap, ?_, Rep_list.2 ⟨some (a.add 0), cap, by simp, by simp, trivial, fun i hi => by simp at hi⟩⟩
        simp [sliceVV, bndV, hz]
  | succ n =>
    obtain ⟨b, off, vs, rfl, _⟩ := h3 0 (by omega)
    refine ⟨.slice (some ⟨b, off, none⟩) (n + 1) cap, ?_, Rep_list.2 ⟨_, cap, by rw [hl], by rw [hl]; omega, trivial, fun i hi => ?_⟩⟩
    · simp [sliceVV, bndV, add_none]
      rw [if_pos (by omega)]
    · rw [hl] at hi
      obtain ⟨b', off', vs, e1, e2, e3⟩ := h3 i (by omega)
      exact ⟨b', off', vs, e1, e2, by simpa using e3⟩
@[simp] theorem nilcV_ptr {a : Addr} : nilcV (.pointer (some a)) = some (.pointer (some a)) := rfl
instance instTyU8 : Ty (BitVec 8) where
  agg := false
  sz := 1
  rep := fun _ cs n => cs = [.int .u8 n.toNat]
  own := fun r cs n => r = Heap.nil ∧ cs = [.int .u8 n.toNat]
  one := fun _ => rfl
  len := by rintro h cs x rfl; rfl
  cell := by rintro h cs x rfl v hv; simp at hv; subst hv; rfl
  mono := fun _ hr => hr
  own_rep := fun ho => ho.2
instance instFlatU8 : Flat (BitVec 8) := ⟨fun n => [.int .u8 n.toNat], fun _ => True, by simp [Ty.rep], by simp [Ty.own]⟩
theorem Rep.Y {h : Heap} {v : Value} {l : List (BitVec 8)} (hr : Rep h v l) : ((∀ (kd : IntKind) (i : Nat), i < l.length → iaV 1 v (.int kd i) = some (elp 1 v i)) ∧ (∀ (kd : IntKind) (i : Int), 0 ≤ i → i < l.length → iaV 1 v (.int kd i) = some (elp 1 v i.toNat)) ∧ lenVV v = some (.int .i64 l.length)) ∧
    ∀ (i : Nat) (hi : i < l.length), hload h (some (elp 1 v i)) none = some (.int .u8 l[i].toNat) := ⟨hr.X rfl, fun _ hi => hr.ldF hi⟩
theorem xor_nn {a b : Int} (ha : 0 ≤ a) (ha2 : a < 9223372036854775808) (hb : 0 ≤ b) (hb2 : b < 9223372036854775808) : 0 ≤ xorI .i64 a b ∧ xorI .i64 a b < 9223372036854775808 := by
  have e1 : (BitVec.ofInt 64 a).toNat = a.toNat := by rw [BitVec.toNat_ofInt]; congr 1; exact Int.emod_eq_of_lt ha (by omega)
  have e2 : (BitVec.ofInt 64 b).toNat = b.toNat := by rw [BitVec.toNat_ofInt]; congr 1; exact Int.emod_eq_of_lt hb (by omega)
  have h : a.toNat ^^^ b.toNat < 2 ^ 63 := Nat.xor_lt_two_pow (by omega) (by omega)
  have e3 : xorI .i64 a b = ((a.toNat ^^^ b.toNat : Nat) : Int) := by
    unfold xorI
    rw [show IntKind.i64.bits = 64 from rfl, BitVec.toNat_xor, e1, e2]
    exact wrap64 (by omega) (by omega)
  rw [e3]
  omega
abbrev rb (b : Nat) (sl : Value) (p : Int) : HP := bx b [sl, .int .i64 p]
theorem tmod_rng {a b : Int} (ha : 0 ≤ a) (hb : 0 < b) : 0 ≤ a.tmod b ∧ a.tmod b < b := by
  rw [Int.tmod_eq_emod_of_nonneg ha]
  exact ⟨Int.emod_nonneg _ (by omega), Int.emod_lt_of_pos _ hb⟩
theorem tdiv_rng {a b : Int} (ha : 0 ≤ a) (hb : 0 < b) : 0 ≤ a.tdiv b ∧ a.tdiv b ≤ a := by
  rw [Int.tdiv_eq_ediv_of_nonneg ha]
  exact ⟨Int.ediv_nonneg ha (by omega), Int.ediv_le_self _ ha⟩
theorem c_pick {g h : Heap} {Γ : List HP} {b : Nat} {sl : Value} {l : List (BitVec 8)} {p n : Int} (R : Rep g sl l) (H : HS g (rb b sl p :: Γ) h) (hp : 0 ≤ p) (hp2 : p < 1099511627776) (hn : I64 n) :
    CallE Tryz.prog fn_spec_l16Rd_pick [.pointer (some ⟨b, 0, none⟩), .int .i64 n] h (fun u h' => ∃ r, u = .int .i64 r ∧ I64 r ∧ 0 ≤ r ∧ (1 ≤ n → r < n) ∧ HS g (rb b sl (p + 1) :: Γ) h') := by
  have hL := R.lt
  have hn1 := hn.1
  have hn2 := hn.2
  refine CallE.gen fun k hk => EN_spec_l16Rd_pick rfl ?_
  have hb0 : hload h (some (.pointer (some ⟨b, 0, none⟩))) none = some sl := H.bxld rfl
  have hb1 : hload h (some (.pointer (some ⟨b, 1, none⟩))) none = some (.int .i64 p) := H.bxld rfl
  simp -implicitDefEqProofs (disch:=first|omega|(simp only[LnZ];omega))[wrap64, hb0, hb1]
  refine HS.bxst (o := 1) (sz := 1) (u := .int .i64 (p + 1)) H rfl rfl rfl rfl (by simp) fun h2 H => ?_
  replace H : HS g (rb b sl (p + 1) :: Γ) h2 := H
  have hb0 : hload h2 (some (.pointer (some ⟨b, 0, none⟩))) none = some sl := H.bxld rfl
  have hb1 : hload h2 (some (.pointer (some ⟨b, 1, none⟩))) none = some (.int .i64 (p + 1)) := H.bxld rfl
  by_cases a1 : n < 1
  · simp -implicitDefEqProofs (disch:=first|omega|(simp only[LnZ];omega))[wrap64, hb0, hb1, a1]
    exact RetK.keep (hk _ _ ⟨0, rfl, ⟨by omega, by omega⟩, by omega, fun h => absurd h (by omega), H⟩)
  obtain ⟨ln, hln⟩ : ∃ ln : Int, ln = l.length := ⟨_, rfl⟩
  have hlen := (R.on H).len
  rw [← hln] at hlen
  by_cases a2 : ln = 0
  · simp -implicitDefEqProofs (disch:=first|omega|(simp only[LnZ];omega))[wrap64, hb0, hb1, a1, hlen, a2]
    exact RetK.keep (hk _ _ ⟨0, rfl, ⟨by omega, by omega⟩, by omega, fun h => by omega, H⟩)
  obtain ⟨m, rfl⟩ : ∃ m : Nat, p = m := ⟨p.toNat, (Int.toNat_of_nonneg hp).symm⟩
  have hn0 : ¬ n = 0 := by omega
  by_cases a3 : (m : Int) < ln
  · have hk3 : m < l.length := by omega
    obtain ⟨c, hc⟩ : ∃ c : Int, c = l[m].toNat := ⟨_, rfl⟩
    have hc2 : c < 256 := by have := l[m].isLt; omega
    have hc0 : 0 ≤ c := by omega
    have hld := (R.on H).Y.2 m hk3
    rw [← hc] at hld
    obtain ⟨r1, r2⟩ := tmod_rng hc0 (show 0 < n by omega)
    simp -implicitDefEqProofs (disch:=first|omega|(simp only[LnZ];omega))[wrap64, hb0, hb1, a1, hlen, a2, a3, (R.on H).Y.1.1, hld, hn0]
    exact RetK.keep (hk _ _ ⟨c.tmod n, rfl, ⟨by omega, by omega⟩, r1, fun _ => r2, H⟩)
  · obtain ⟨s1, s2⟩ := tmod_rng (a := (m : Int)) (b := ln) (by omega) (by omega)
    obtain ⟨i1, hi1⟩ : ∃ i1 : Nat, (m : Int).tmod ln = i1 := ⟨_, (Int.toNat_of_nonneg s1).symm⟩
    obtain ⟨t1, t2⟩ := tmod_rng (a := (m : Int) * 7 + 3) (b := ln) (by omega) (by omega)
    obtain ⟨i2, hi2⟩ : ∃ i2 : Nat, ((m : Int) * 7 + 3).tmod ln = i2 := ⟨_, (Int.toNat_of_nonneg t1).symm⟩
    obtain ⟨q1, q2⟩ := tdiv_rng (a := (m : Int)) (b := ln) (by omega) (by omega)
    obtain ⟨q, hq⟩ : ∃ q : Int, (m : Int).tdiv ln = q := ⟨_, rfl⟩
    rw [hi1] at s1 s2
    rw [hi2] at t1 t2
    rw [hq] at q1 q2
    have hl1 : i1 < l.length := by omega
    have hl2 : i2 < l.length := by omega
    obtain ⟨c, hc⟩ : ∃ c : Int, c = l[i1].toNat := ⟨_, rfl⟩
    have hc2 : c < 256 := by have := l[i1].isLt; omega
    have hc0 : 0 ≤ c := by omega
    have hld := (R.on H).Y.2 i1 hl1
    rw [← hc] at hld
    obtain ⟨d, hd⟩ : ∃ d : Int, d = l[i2].toNat := ⟨_, rfl⟩
    have hd2 : d < 256 := by have := l[i2].isLt; omega
    have hd0 : 0 ≤ d := by omega
    have hld2 := (R.on H).Y.2 i2 hl2
    rw [← hd] at hld2
    obtain ⟨x, hx⟩ : ∃ x : Int, x = c * 131 + d * 1117 + (m : Int) * 29 + q * 53 := ⟨_, rfl⟩
    have hx0 : 0 ≤ x := by omega
    have hx1 : x < 9223372036854775808 := by omega
    obtain ⟨y1, y2⟩ := tdiv_rng (a := x) (b := 64) hx0 (by omega)
    obtain ⟨z1, z2⟩ := xor_nn hx0 hx1 y1 (by omega)
    obtain ⟨w1, w2⟩ := tmod_rng z1 (show 0 < n by omega)
    simp -implicitDefEqProofs (disch:=first|omega|(simp only[LnZ];omega))[wrap64, hb0, hb1, a1, hlen, a2, a3, (R.on H).Y.1.1, hi1, hi2, hq, hld, hld2, hn0, ← hx]
    exact RetK.keep (hk _ _ ⟨_, rfl, ⟨by omega, by omega⟩, w1, fun _ => w2, H⟩)
theorem c_num {g h : Heap} {Γ : List HP} {b : Nat} {sl v : Value} {l : List (BitVec 8)} {p : Int} {xs : List Int} (R : Rep g sl l) (H : HS g (ow v xs :: rb b sl p :: Γ) h) (hp : 0 ≤ p) (hp2 : p < 1099511627776) (hx : xs ≠ []) :
    CallE Tryz.prog fn_spec_l16Rd_num [.pointer (some ⟨b, 0, none⟩), v] h (fun u h' => ∃ r, u = .int .i64 r ∧ I64 r ∧ r ∈ xs ∧ HS g (rb b sl (p + 1) :: Γ) h') := by
  have hL := H.rep.lt
  have hpos : 0 < xs.length := List.length_pos_iff.2 hx
  refine CallE.gen fun k hk => EN_spec_l16Rd_num rfl ?_
  simp -implicitDefEqProofs (disch:=first|omega|(simp only[LnZ];omega))[wrap64, H.rep.len]
  refine (c_pick R H.sw1 hp hp2 ⟨by omega, by omega⟩).go ?_
  rintro _ h1 ⟨r, rfl, hr, hr0, hr1, H⟩
  obtain ⟨i, rfl⟩ : ∃ i : Nat, r = i := ⟨r.toNat, (Int.toNat_of_nonneg hr0).symm⟩
  have hi : i < xs.length := by have := hr1 (by omega); omega
  have hok := H.sw1.rep.okI hi
  simp -implicitDefEqProofs (disch:=first|omega|(simp only[LnZ];omega))[wrap64, H.sw1.rep.I]
  exact RetK.keep (hk _ _ ⟨xs[i], rfl, ⟨hok.1, hok.2⟩, List.getElem_mem hi, H.sw1.drop⟩)
theorem c_l16Open {h : Heap} {v : Value} {l : List (BitVec 8)} (R : Rep h v l) : CallE Tryz.prog fn_spec_l16Open [v] h (fun u h' => ∃ b sl, ∃ l' : List (BitVec 8), u = .pointer (some ⟨b, 0, none⟩) ∧ Rep h sl l' ∧ HS h [rb b sl 0] h') := by
  have hL := R.lt
  refine CallE.gen fun k hk => EN_spec_l16Open rfl ?_
  by_cases a1 : (2000 : Int) < l.length
  · obtain ⟨v', e1, R'⟩ := R.cut (n := 2000) (esz := 1) (k := .i64) (by omega)
    have hO := R'.one
    have e2 : sliceVV 1 v none (some (some (.int .i64 2000))) none = some v' := e1
    simp -implicitDefEqProofs (disch:=first|omega|(simp only[LnZ];omega))[wrap64, R.len, a1, e2, setC, hO, R'.cells]
    refine HS.init.alloc rfl fun b h1 H => ?_
    simp -implicitDefEqProofs (disch:=first|omega|(simp only[LnZ];omega))[wrap64]
    exact RetK.keep (hk _ _ ⟨b, v', _, rfl, R', H⟩)
  · have hO := R.one
    simp -implicitDefEqProofs (disch:=first|omega|(simp only[LnZ];omega))[wrap64, R.len, a1, setC, hO, R.cells]
    refine HS.init.alloc rfl fun b h1 H => ?_
    simp -implicitDefEqProofs (disch:=first|omega|(simp only[LnZ];omega))[wrap64]
    exact RetK.keep (hk _ _ ⟨b, v, _, rfl, R, H⟩)
end Go.Proofs.YtglnelcmcimljaaGreat

namespace Go.Proofs.YtglnelcmcimljaaGreat
open Go Go.RowKit
def whole (w : World) : Heap := fun b => w.heap[b]?
theorem calls_law {P : Program} {f : FuncId} {fn : Func} {args : List Value} {W : World} (hf : P.funcs[f]? = some fn) (hname : (fn.name == "runtime.NumGoroutine") = false) (hb : fn.body.isSome = true)
    (h : CallE P f args (whole W) (fun u h' => (whole W).le h' ∧ u = .bool true)) : Calls P f args.toArray W fun e W' => e = .returned (.bool true) ∧ Below W.heap.size W W' := by
  have h1 := h W (fun b o hb => hb)
  obtain ⟨bd, hbd⟩ := Option.isSome_iff_exists.1 hb
  have hname' : ¬ fn.name = "runtime.NumGoroutine" := by simpa using hname
  have hcall : (callFunc f args.toArray).run P W = .ok (.enter f args.toArray) W := by
    simp [callFunc, hf, hname', hbd]
  rw [hcall] at h1
  refine Calls.mono h1 ?_
  rintro e W' ⟨v, h', rfl, ⟨hl, rfl⟩, hs, hF⟩
  refine ⟨rfl, hF.os, hF.tape, hF.output, hF.size, ?_⟩
  intro k hk
  have h2 : whole W k = some W.heap[k] := by simp [whole, hk]
  rw [hs _ _ (hl _ _ h2)]
  simp [hk]
section
variable {H : Type} {enc : TypeId × Value → H} {P : Program}
theorem trodAll_below (hl : laidOutB P = true) {W W' : World} : ∀ {ts : List TypeId} {vs : List Value} {ds : List (DataW H)} {ps : List MemPlace}, (∀ t ∈ ts, P.readableRec t = true ∧ t < P.types.size) →
    DataW.TrodAll enc P W 0 (fun _ => true) true ts vs ds ps → Below W.heap.size W W' → (∀ x ∈ ps, x.block < W.heap.size) → DataW.TrodAll enc P W' 0 (fun b => decide (b < W.heap.size)) true ts vs ds ps
  | [], [], [], _, _, h, _, _ => h
  | _ :: _, _ :: _, _ :: _, _, ht, ⟨p, q, h1, h2, e⟩, hb, hlt =>
    ⟨p, q, Below.trod hl (ht _ (by simp)).1 (ht _ (by simp)).2 h1 hb (fun x hx => hlt x (by rw [e]; exact List.mem_append_left _ hx)),
      trodAll_below hl (fun t h => ht t (by simp [h])) h2 hb (fun x hx => hlt x (by rw [e]; exact List.mem_append_right _ hx)), e⟩
theorem kept_below {W W' : World} (hb : Below W.heap.size W W') (may : MemPlace → Prop) : W.keptBut W' may := by
  refine ⟨hb.os, hb.output, fun i hi => ?_⟩
  rw [hb.block i hi]
  split
  · rename_i h1 h2; rw [h1] at h2; simp only [Option.some.injEq, Obj.cells.injEq] at h2; obtain ⟨rfl, rfl, rfl⟩ := h2; exact ⟨rfl, rfl, rfl, fun _ _ => rfl⟩
  · rename_i h1 h2; rw [h1] at h2; simp only [Option.some.injEq, Obj.map.injEq] at h2; obtain ⟨rfl, rfl⟩ := h2; exact .inr ⟨rfl, rfl⟩
  · rfl
theorem post_law {f : Func} {s : ChangeSpec} {W W' : World} {args : Array Value} {ds gs : List (DataW H)} {before : List MemPlace} (hl : laidOutB P = true) (hvars : s.vars = []) (ht : ∀ t ∈ f.params.toList, P.readableRec t = true ∧ t < P.types.size)
    (hr : ∃ t, f.resultTypes = #[t] ∧ P.underlying t = some .bool) (hspec : (s.fn H (ds ++ gs)).results = [.lit (.bool true)] ∧ (s.fn H (ds ++ gs)).args = ds ∧ (s.fn H (ds ++ gs)).vars = [])
    (hW : DataW.Whole enc P f.params.toList s.vars false W args.toList ds gs before) (hb : Below W.heap.size W W') : s.post enc P f false true false false W args (.bool true) W' := by
  obtain ⟨t, ht1, ht2⟩ := hr
  obtain ⟨h1, h2, h3⟩ := hspec
  have hW' := hW
  obtain ⟨p, q, hA, hV, rfl, hz, hn⟩ := hW
  rw [hvars] at hV
  obtain ⟨rfl, rfl⟩ := Go.ChangeShapes.trodVars_none hV
  have hlt : ∀ x ∈ p ++ [], x.block < W.heap.size := fun x hx => by simpa using hW'.lt x hx
  refine ⟨ds, [], p ++ [], [], p, [], hW', ?_, ?_, ?_, World.keptBut_mono (fun x hx => ⟨by simpa using hx, .inr (.inl (by simpa using hx))⟩) (kept_below hb (fun x => x ∈ p)), by simp⟩
  · rw [h1, ht1]
    exact trodAll_cons_mk (shut_bool ht2 _) Go.ChangeShapes.trodAll_mk0
  · rw [h2]
    exact trodAll_below hl ht hA hb (fun x hx => hlt x (by simpa using hx))
  · rw [h3, hvars]; rfl
end
def wOk {H : Type} (P : Program) (t : TypeId) (d : DataW H) : Prop := ∀ n ∈ d.weights P t, n ≤ reachBytes
theorem wOk_all {H : Type} {P : Program} {e : TypeId} : ∀ {l : List (DataW H)}, (∀ n ∈ DataW.weightsAll P e l, n ≤ reachBytes) → ∀ d ∈ l, wOk P e d
  | [], _, d, hd => by simp at hd
  | x :: l, h, d, hd => by
    simp only [DataW.weightsAll, List.mem_append] at h
    rcases List.mem_cons.1 hd with rfl | hd
    · exact fun n hn => h n (.inl hn)
    · exact wOk_all (fun n hn => h n (.inr hn)) d hd
theorem wOk_each {H : Type} {P : Program} : ∀ {ts : List TypeId} {l : List (DataW H)}, (∀ n ∈ DataW.weightsEach P ts l, n ≤ reachBytes) → ∀ (i : Nat) t d, ts[i]? = some t → l[i]? = some d → wOk P t d
  | [], _, _, i, t, d, h1, _ => by simp at h1
  | _ :: _, [], _, i, t, d, _, h2 => by simp at h2
  | t0 :: ts, x :: l, h, 0, t, d, h1, h2 => by
    simp at h1 h2; subst h1 h2
    exact fun n hn => h n (by simp only [DataW.weightsEach, List.mem_append]; exact .inl hn)
  | t0 :: ts, x :: l, h, i + 1, t, d, h1, h2 => wOk_each (ts := ts) (l := l) (fun n hn => h n (by simp only [DataW.weightsEach, List.mem_append]; exact .inr hn)) i t d (by simpa using h1) (by simpa using h2)
def RdT (P : Program) (t : TypeId) (α : Type) [Ty α] : Prop := ∀ {H : Type} (enc : TypeId × Value → H) (W : World) (sp : Nat → Bool) (fuel : Nat) (cs : List Value) (x : DataW H × List MemPlace),
  DataW.trod enc P W 0 sp true fuel t cs = some x → wOk P t x.1 → ∃ y : α, Ty.rep (whole W) cs y
section
variable {P : Program} {t : TypeId}
theorem cells_whole {W : World} {b off : Nat} : ∀ {n : Nat} {l : List Value}, W.cells? 0 ⟨b, off, none⟩ n = some l → hcells (whole W) b off n = some l := by
  have key : ∀ n o l, (List.range' o n).mapM (fun i => W.cell? ((⟨b, off, none⟩ : Addr).add i)) = some l → hcells (whole W) b (off + o) n = some l := by
    intro n
    induction n with
    | zero => intro o l h; simpa [hcells] using h
    | succ n ih =>
      intro o l h
      rw [List.range'_succ, List.mapM_cons] at h
      simp only [Option.bind_eq_bind, Option.bind_eq_some_iff, Option.pure_def, Option.some.injEq] at h
      obtain ⟨v, h1, r, h2, rfl⟩ := h
      have h3 := ih (o + 1) r h2
      have h4 : hcell (whole W) b (off + o) = some v := by
        rw [addr_add0] at h1
        simp only [World.cell?, Option.isSome_none, Bool.false_eq_true, if_false] at h1
        simp only [hcell, whole]
        split at h1
        · rename_i hb; rw [hb]; exact h1
        · simp at h1
      simp only [hcells, h4]
      rw [show off + o + 1 = off + (o + 1) by omega, h3]
  intro n l h
  simp only [World.cells?, Nat.zero_le, if_true] at h
  rw [List.range_eq_range'] at h
  exact key n 0 l h
theorem cells_spot {W : World} {b off s n : Nat} (hn : 0 < n) : W.cells? 0 ⟨b, off, some s⟩ n = none := by
  simp only [World.cells?, Nat.zero_le, if_true]
  cases n with
  | zero => omega
  | succ n =>
    rw [List.range_succ_eq_map, List.mapM_cons]
    have : W.cell? ((⟨b, off, some s⟩ : Addr).add 0) = none := by
      simp only [Addr.add, if_true, World.cell?]
      split <;> simp
    rw [this]; rfl
theorem rd_list {α : Type} [Ty α] {e : TypeId} (ht : P.underlying t = some (.slice e)) (hc : P.cellsOf e = Ty.sz α) (hpos : 0 < Ty.sz α) (hby : 0 < P.bytesOf e) (he : RdT P e α) : RdT P t (List α) := by
  intro H enc W sp fuel cs x h hwt
  rcases Go.Deep.open_slice ht h with ⟨rfl, _⟩ | ⟨a, len, cap, m, n, D, Pl, rfl, _, hlen, hcap, hm, rfl, hel⟩
  · exact ⟨[], none, 0, rfl, by simp, trivial, fun i hi => by simp at hi⟩
  · have hle : len ≤ m := by rw [hm]; split <;> omega
    simp only [wOk, DataW.weights, ht, List.mem_cons, List.mem_append] at hwt
    have hsz : len ≤ reachBytes := by
      have h1 := hwt _ (.inl rfl)
      simp only [List.length_map, List.length_range] at h1
      have h2 : len * 1 ≤ (len + (m - len)) * P.bytesOf e := Nat.mul_le_mul (by omega) hby
      omega
    have hwe := wOk_all (fun n hn => hwt n (.inr (.inl hn)))
    have hall : ∀ i, i < len → ∃ y : α, ∃ b off vs, some a = some (⟨b, off, none⟩ : Addr) ∧ hcells (whole W) b (off + i * Ty.sz α) (Ty.sz α) = some vs ∧ Ty.rep (whole W) vs y := by
      intro i hi
      obtain ⟨cs', h1, h2⟩ := hel i (by omega)
      obtain ⟨y, hy⟩ := he enc W sp n cs' _ h2 (hwe _ (List.mem_map.2 ⟨i, by simpa using hi, rfl⟩))
      obtain ⟨b, off, spot⟩ := a
      rw [hc] at h1
      -- the address is plain: its first element could be read
      have h0 : spot = none := by
        cases spot with
        | none => rfl
        | some s =>
          obtain ⟨cs0, g1, _⟩ := hel 0 (by omega)
          rw [hc] at g1
          simp only [Nat.zero_mul, Addr.add, if_true] at g1
          rw [cells_spot hpos] at g1
          simp at g1
      subst h0
      rw [addr_add0] at h1
      exact ⟨y, b, off, cs', rfl, cells_whole h1, hy⟩
    have hch : ∃ l : List α, l.length = len ∧ ∀ i (hi : i < l.length), ∃ b off vs, some a = some (⟨b, off, none⟩ : Addr) ∧ hcells (whole W) b (off + i * Ty.sz α) (Ty.sz α) = some vs ∧ Ty.rep (whole W) vs l[i] := by
      refine ⟨(List.finRange len).map fun i => Classical.choose (hall i.1 i.2), by simp, fun i hi => ?_⟩
      have hi' : i < len := by simpa using hi
      have := Classical.choose_spec (hall i hi')
      simpa using this
    obtain ⟨l, hl, hr⟩ := hch
    refine ⟨l, some a, cap, by rw [hl], ⟨by omega, ?_⟩, trivial, hr⟩
    have : reachBytes < 4611686018427387904 := by decide
    omega
end
section
variable {P : Program} {W : World} {r : Reach} {base : Nat} {t e : TypeId} {v : Value}
theorem okWide_slice (ht : P.underlying t = some (.slice e)) (h : Value.okWide P W r base t v) : ∃ a n c, v = .slice a n c := by
  unfold Value.okWide at h
  rw [ht] at h
  simp only [Cell.okWide, ht] at h
  cases v <;> simp [Cell.ok, ht] at h ⊢
end
end Go.Proofs.YtglnelcmcimljaaGreat

namespace Go.Proofs.YtglnelcmcimljaaGreat
open Go
theorem rd_u8 {P : Program} {t : TypeId} (ht : P.underlying t = some (.int .u8)) : RdT P t (BitVec 8) := by
  intro H enc W sp fuel cs x h hwt
  cases fuel with
  | zero => simp [DataW.trod] at h
  | succ n =>
    unfold DataW.trod at h
    rw [ht] at h
    split at h
    case h_2 k k' m h1 =>
      simp only [Option.some.injEq, TypeDesc.int.injEq] at h1
      subst h1
      split at h
      case isTrue hc =>
        obtain ⟨rfl, hw⟩ := hc
        have := bounds_u8 hw
        refine ⟨BitVec.ofNat 8 m.toNat, ?_⟩
        show _ = [Value.int .u8 ((BitVec.ofNat 8 m.toNat).toNat : Int)]
        have e : ((BitVec.ofNat 8 m.toNat).toNat : Int) = m := by
          rw [BitVec.toNat_ofNat, Nat.mod_eq_of_lt (by omega)]; omega
        rw [e]
      case isFalse => simp at h
    all_goals simp_all
end Go.Proofs.YtglnelcmcimljaaGreat

namespace Go.Proofs.YtglnelcmcimljaaGreat
open Go
def H_impl_Automaton_simplify : Hint := ⟨[(0, false), (1, true), (2, true), (3, true)], [[0, 3]]⟩
def K53_1 : C := .pl <| .e 4 1 <|
 .o (.pget (some 4) none 3 0 (some 3)) <|
 .o (.pset none 1 0 3 (.v 4)) .done
@[simp] def W53_1 := C.w K53_1.eq_1
def K53_2 : C := .seq (.pl <| .e 4 1 <|
 .o (.pget (some 4) none 3 0 (some 3)) <|
 .o (.pset none 2 0 3 (.v 4)) .done) (.ret)
@[simp] def W53_2 := C.w K53_2.eq_1
def K53_3 : C := .cond 4 (.v 6) K53_2 (.skip)
@[simp] def W53_3 := C.w K53_3.eq_1
def K53_4 : C := .seq (.seq (.pl <| .e 4 3 <|
 .o (.pget (some 4) none 3 0 (some 3)) <|
 .o (.pget (some 5) none 1 0 (some 3)) <|
 .c 6 (.call fn_impl_AutomatonSame [.v 4, .v 5]) .done) K53_3) K53_1
@[simp] def W53_4 := C.w K53_4.eq_1
def K53_5 : Pl := .o (.pnew 3 (.c (.agg #[.slice none 0 0, .slice none 0 0, .slice none 0 0])) []) <|
 .o (.pset none 3 0 3 (.v 6)) .done
@[simp] def W53_5 := Pl.w K53_5.eq_1
def K53_6 : Pl := .c 6 (.call fn_impl_Automaton_merge [.v 5]) K53_5
@[simp] def W53_6 := Pl.w K53_6.eq_1
def K53_7 : C := .block 1 (.seq (.pl <| .e 4 3 <|
 .o (.pget (some 4) none 1 0 (some 3)) <|
 .c 5 (.call fn_impl_Automaton_trim [.v 4]) K53_6) K53_4)
@[simp] def W53_7 := C.w K53_7.eq_1
def K53_8 : C := .block 0 (.loop 4 [0, 3] K53_7)
@[simp] def W53_8 := C.w K53_8.eq_1
def B_impl_Automaton_simplify : C := .seq (.pl <| .e 4 0 <|
 .o (.pnew 1 (.v 0) []) <|
 .o (.pnew 2 (.c (.agg #[.slice none 0 0, .slice none 0 0, .slice none 0 0])) []) .done) K53_8
@[simp] def WB_impl_Automaton_simplify := C.w B_impl_Automaton_simplify.eq_1
def R_impl_Automaton_simplify : FIR := ⟨B_impl_Automaton_simplify, 4, [(2, some (some 3))]⟩
theorem IR_impl_Automaton_simplify : cfun Tryz.prog H_impl_Automaton_simplify Tryz.f53 = some R_impl_Automaton_simplify := by kernel_rfl
theorem EN_impl_Automaton_simplify : ENT Tryz.prog B_impl_Automaton_simplify [(2, some (some 3))] 1 4 fn_impl_Automaton_simplify := fun hargs hw => enter Tryz.func53 rfl IR_impl_Automaton_simplify hargs hw
def H_impl_Automaton_trim : Hint := ⟨[(0, false), (1, true), (2, true), (3, false), (4, false), (5, false), (6, true), (7, false), (9, false), (11, true), (23, false), (24, false), (64, false), (65, false), (66, false), (86, false), (87, false), (88, false)], [[0, 7, 8, 9, 12, 13, 14, 15, 16, 17], [0, 3, 4, 7, 8, 9, 10, 11, 15, 16, 17], [0, 1, 3, 4, 7, 8, 9, 10, 11, 12, 13, 14]]⟩
def K94_1 : Pl := .o (.pset none 2 0 3 (.v 19)) .done
@[simp] def W94_1 := Pl.w K94_1.eq_1
def K94_2 : C := .seq (.pl <| .e 18 2 <|
 .o (.pget (some 18) none 6 0 (some 3)) <|
 .c 19 (.call fn_impl_Automaton_copyOf [.v 18]) K94_1) (.ret)
@[simp] def W94_2 := C.w K94_2.eq_1
def K94_3 : C := .pl <| .e 18 1 <|
 .x 18 (.bin .add (.v 17) (.c (.int .i64 1))) <|
 .m 17 18 .done
@[simp] def W94_3 := C.w K94_3.eq_1
def K94_4 : Pl := .a 37 6 <|
 .o (.pset (some 37) 6 2 1 (.v 36)) .done
@[simp] def W94_4 := Pl.w K94_4.eq_1
def K94_5 : C := .pl <| .e 18 20 <|
 .a 18 6 <|
 .g 19 18 6 2 <|
 .m 20 5 <|
 .a 21 9 <|
 .g 22 21 9 0 <|
 .x 23 (.ia 1 (.v 20) (.v 22)) <|
 .l 24 23 <|
 .a 25 9 <|
 .g 26 25 9 1 <|
 .a 27 9 <|
 .g 28 27 9 2 <|
 .m 29 5 <|
 .a 30 9 <|
 .g 31 30 9 3 <|
 .x 32 (.ia 1 (.v 29) (.v 31)) <|
 .l 33 32 <|
 .x 34 (.build [.int .i64 0, .int .i64 0, .int .i64 0, .int .i64 0] [(0, 1, .v 24), (1, 1, .v 26), (2, 1, .v 28), (3, 1, .v 33)]) <|
 .o (.psl 35 [.int .i64 0, .int .i64 0, .int .i64 0, .int .i64 0] [(0, 4, .v 34)]) <|
 .c 36 (.app 32 4 [.int .i64 0, .int .i64 0, .int .i64 0, .int .i64 0] (.o (.v 19)) (.p 1 35)) K94_4
@[simp] def W94_5 := C.w K94_5.eq_1
def K94_6 : C := .cond 18 (.v 31) K94_5 (.skip)
@[simp] def W94_6 := C.w K94_6.eq_1
def K94_7 : C := .seq (.pl <| .e 18 14 <|
 .m 18 5 <|
 .a 19 9 <|
 .g 20 19 9 0 <|
 .x 21 (.ia 1 (.v 18) (.v 20)) <|
 .l 22 21 <|
 .x 23 (.bin .geq (.v 22) (.c (.int .i64 0))) <|
 .m 24 23 <|
 .y 24 (.px (some 25) (.mv (.v 5))) <|
 .y 24 (.als 26 none 9) <|
 .y 24 (.pget (some 27) (some 26) 9 3 none) <|
 .y 24 (.px (some 28) (.ia 1 (.v 25) (.v 27))) <|
 .y 24 (.ld (some 29) (.v 28) none) <|
 .y 24 (.px (some 30) (.bin .geq (.v 29) (.c (.int .i64 0)))) <|
 .x 31 (.pick (.v 24) (.v 30) (.c (.bool false))) .done) K94_6
@[simp] def W94_7 := C.w K94_7.eq_1
def K94_8 : C := .seq (.block 5 (.seq (.pl <| .e 18 2 <|
 .x 18 (.ia 4 (.v 15) (.v 17)) <|
 .o (.ld (some 19) (.v 18) (some 4)) <|
 .o (.pnew 9 (.c (.agg #[.int .i64 0, .int .i64 0, .int .i64 0, .int .i64 0])) []) <|
 .o (.pset none 9 0 4 (.v 19)) .done) K94_7)) K94_3
@[simp] def W94_8 := C.w K94_8.eq_1
def K94_9 : C := .seq (.cond 18 (.v 18) (.skip) (.exit 4)) K94_8
@[simp] def W94_9 := C.w K94_9.eq_1
def K94_10 : C := .seq (.pl <| .e 18 1 <|
 .x 18 (.bin .lss (.v 17) (.v 16)) .done) K94_9
@[simp] def W94_10 := C.w K94_10.eq_1
def K94_11 : C := .block 4 (.loop 18 [0, 1, 3, 4, 7, 8, 9, 10, 11, 12, 13, 14] K94_10)
@[simp] def W94_11 := C.w K94_11.eq_1
def K94_12 : C := .seq (.seq (.pl <| .e 18 1 <|
 .a 18 1 <|
 .g 15 18 1 2 <|
 .x 16 (.lenV (.v 15)) <|
 .x 17 (.mv (.c (.int .i64 0))) .done) K94_11) K94_2
@[simp] def W94_12 := C.w K94_12.eq_1
def K94_13 : C := .pl <| .e 18 1 <|
 .x 18 (.bin .add (.v 14) (.c (.int .i64 1))) <|
 .m 14 18 .done
@[simp] def W94_13 := C.w K94_13.eq_1
def K94_14 : Pl := .a 26 6 <|
 .o (.pset (some 26) 6 0 1 (.v 25)) .done
@[simp] def W94_14 := Pl.w K94_14.eq_1
def K94_15 : C := .pl <| .e 18 9 <|
 .a 18 6 <|
 .g 19 18 6 0 <|
 .m 20 5 <|
 .m 21 8 <|
 .x 22 (.ia 1 (.v 20) (.v 21)) <|
 .l 23 22 <|
 .o (.psl 24 [.int .i64 0] [(0, 1, .v 23)]) <|
 .c 25 (.app 8 1 [.int .i64 0] (.o (.v 19)) (.p 1 24)) K94_14
@[simp] def W94_15 := C.w K94_15.eq_1
def K94_16 : C := .cond 18 (.v 22) K94_15 (.skip)
@[simp] def W94_16 := C.w K94_16.eq_1
def K94_17 : C := .seq (.pl <| .e 18 5 <|
 .m 18 5 <|
 .m 19 8 <|
 .x 20 (.ia 1 (.v 18) (.v 19)) <|
 .l 21 20 <|
 .x 22 (.bin .geq (.v 21) (.c (.int .i64 0))) .done) K94_16
@[simp] def W94_17 := C.w K94_17.eq_1
def K94_18 : C := .seq (.block 3 (.seq (.pl <| .e 18 2 <|
 .x 18 (.ia 1 (.v 12) (.v 14)) <|
 .l 19 18 <|
 .m 8 19 .done) K94_17)) K94_13
@[simp] def W94_18 := C.w K94_18.eq_1
def K94_19 : C := .seq (.cond 18 (.v 18) (.skip) (.exit 2)) K94_18
@[simp] def W94_19 := C.w K94_19.eq_1
def K94_20 : C := .seq (.pl <| .e 18 1 <|
 .x 18 (.bin .lss (.v 14) (.v 13)) .done) K94_19
@[simp] def W94_20 := C.w K94_20.eq_1
def K94_21 : C := .block 2 (.loop 18 [0, 3, 4, 7, 8, 9, 10, 11, 15, 16, 17] K94_20)
@[simp] def W94_21 := C.w K94_21.eq_1
def K94_22 : C := .seq (.seq (.pl <| .e 18 1 <|
 .a 18 1 <|
 .g 12 18 1 0 <|
 .x 13 (.lenV (.v 12)) <|
 .x 14 (.mv (.c (.int .i64 0))) .done) K94_21) K94_12
@[simp] def W94_22 := C.w K94_22.eq_1
def K94_23 : Pl := .x 19 (.build [.slice none 0 0, .slice none 0 0, .slice none 0 0] [(1, 1, .v 18)]) <|
 .o (.pset none 2 0 3 (.v 19)) .done
@[simp] def W94_23 := Pl.w K94_23.eq_1
def K94_24 : C := .seq (.pl <| .e 18 2 <|
 .c 18 (.mks 1 1 [.bool false] (.c (.int .i64 1)) (.c (.int .i64 1))) K94_23) (.ret)
@[simp] def W94_24 := C.w K94_24.eq_1
def K94_25 : C := .cond 18 (.v 21) K94_24 (.skip)
@[simp] def W94_25 := C.w K94_25.eq_1
def K94_26 : C := .seq (.seq (.pl <| .e 18 4 <|
 .a 18 6 <|
 .g 19 18 6 1 <|
 .x 20 (.lenV (.v 19)) <|
 .x 21 (.bin .eql (.v 20) (.c (.int .i64 0))) .done) K94_25) K94_22
@[simp] def W94_26 := C.w K94_26.eq_1
def K94_27 : C := .pl <| .e 18 1 <|
 .x 18 (.bin .add (.v 11) (.c (.int .i64 1))) <|
 .m 11 18 .done
@[simp] def W94_27 := C.w K94_27.eq_1
def K94_28 : Pl := .a 27 6 <|
 .o (.pset (some 27) 6 1 1 (.v 26)) .done
@[simp] def W94_28 := Pl.w K94_28.eq_1
def K94_29 : C := .pl <| .e 18 10 <|
 .a 18 6 <|
 .g 19 18 6 1 <|
 .a 20 1 <|
 .g 21 20 1 1 <|
 .m 22 7 <|
 .x 23 (.ia 1 (.v 21) (.v 22)) <|
 .l 24 23 <|
 .o (.psl 25 [.bool false] [(0, 1, .v 24)]) <|
 .c 26 (.app 1 1 [.bool false] (.o (.v 19)) (.p 1 25)) K94_28
@[simp] def W94_29 := C.w K94_29.eq_1
def K94_30 : C := .seq (.pl <| .e 18 6 <|
 .m 18 5 <|
 .m 19 7 <|
 .a 20 6 <|
 .g 21 20 6 1 <|
 .x 22 (.lenV (.v 21)) <|
 .x 23 (.ia 1 (.v 18) (.v 19)) <|
 .o (.ex none (.store 1 (.v 23) (.v 22))) .done) K94_29
@[simp] def W94_30 := C.w K94_30.eq_1
def K94_31 : C := .cond 18 (.v 27) K94_30 (.skip)
@[simp] def W94_31 := C.w K94_31.eq_1
def K94_32 : C := .seq (.pl <| .e 18 10 <|
 .m 18 3 <|
 .m 19 7 <|
 .x 20 (.ia 1 (.v 18) (.v 19)) <|
 .l 21 20 <|
 .m 22 21 <|
 .y 22 (.px (some 23) (.mv (.v 4))) <|
 .y 22 (.px (some 24) (.mv (.v 7))) <|
 .y 22 (.px (some 25) (.ia 1 (.v 23) (.v 24))) <|
 .y 22 (.ld (some 26) (.v 25) none) <|
 .x 27 (.pick (.v 22) (.v 26) (.c (.bool false))) .done) K94_31
@[simp] def W94_32 := C.w K94_32.eq_1
def K94_33 : C := .seq (.pl <| .e 18 3 <|
 .m 18 5 <|
 .m 19 7 <|
 .x 20 (.ia 1 (.v 18) (.v 19)) <|
 .o (.ex none (.store 1 (.v 20) (.c (.int .i64 (-1))))) .done) K94_32
@[simp] def W94_33 := C.w K94_33.eq_1
def K94_34 : C := .seq (.block 1 (.seq (.pl <| .e 18 1 <|
 .m 18 11 <|
 .m 7 18 .done) K94_33)) K94_27
@[simp] def W94_34 := C.w K94_34.eq_1
def K94_35 : C := .seq (.cond 18 (.v 18) (.skip) (.exit 0)) K94_34
@[simp] def W94_35 := C.w K94_35.eq_1
def K94_36 : C := .seq (.pl <| .e 18 1 <|
 .x 18 (.bin .lss (.v 11) (.v 10)) .done) K94_35
@[simp] def W94_36 := C.w K94_36.eq_1
def K94_37 : C := .block 0 (.loop 18 [0, 7, 8, 9, 12, 13, 14, 15, 16, 17] K94_36)
@[simp] def W94_37 := C.w K94_37.eq_1
def K94_38 : C := .seq (.seq (.pl <| .e 18 1 <|
 .m 18 3 <|
 .x 10 (.lenV (.v 18)) <|
 .x 11 (.mv (.c (.int .i64 0))) .done) K94_37) K94_26
@[simp] def W94_38 := C.w K94_38.eq_1
def K94_39 : C := .seq (.pl <| .e 18 0 <|
 .o (.pnew 6 (.c (.agg #[.slice none 0 0, .slice none 0 0, .slice none 0 0])) []) .done) K94_38
@[simp] def W94_39 := C.w K94_39.eq_1
def K94_40 : Pl := .m 5 20 .done
@[simp] def W94_40 := Pl.w K94_40.eq_1
def K94_41 : C := .seq (.pl <| .e 18 3 <|
 .m 18 3 <|
 .x 19 (.lenV (.v 18)) <|
 .c 20 (.mks 8 1 [.int .i64 0] (.v 19) (.v 19)) K94_40) K94_39
@[simp] def W94_41 := C.w K94_41.eq_1
def K94_42 : Pl := .m 3 22 <|
 .m 4 24 .done
@[simp] def W94_42 := Pl.w K94_42.eq_1
def K94_43 : Pl := .c 24 (.call fn_impl_Automaton_live [.v 23]) K94_42
@[simp] def W94_43 := Pl.w K94_43.eq_1
def K94_44 : Pl := .c 22 (.call fn_impl_reachable [.v 19, .v 21]) K94_43
@[simp] def W94_44 := Pl.w K94_44.eq_1
def K94_45 : C := .seq (.pl <| .e 18 7 <|
 .o (.pget (some 18) none 1 0 (some 3)) <|
 .a 20 1 <|
 .g 21 20 1 0 <|
 .o (.pget (some 23) none 1 0 (some 3)) <|
 .c 19 (.call fn_impl_Automaton_next [.v 18]) K94_44) K94_41
@[simp] def W94_45 := C.w K94_45.eq_1
def B_impl_Automaton_trim : C := .seq (.pl <| .e 18 0 <|
 .o (.pnew 1 (.v 0) []) <|
 .o (.pnew 2 (.c (.agg #[.slice none 0 0, .slice none 0 0, .slice none 0 0])) []) .done) K94_45
@[simp] def WB_impl_Automaton_trim := C.w B_impl_Automaton_trim.eq_1
def R_impl_Automaton_trim : FIR := ⟨B_impl_Automaton_trim, 18, [(2, some (some 3))]⟩
theorem IR_impl_Automaton_trim : cfun Tryz.prog H_impl_Automaton_trim Tryz.f94 = some R_impl_Automaton_trim := by kernel_rfl
theorem EN_impl_Automaton_trim : ENT Tryz.prog B_impl_Automaton_trim [(2, some (some 3))] 1 18 fn_impl_Automaton_trim := fun hargs hw => enter Tryz.func94 rfl IR_impl_Automaton_trim hargs hw
def H_impl_SimplifyAutomaton : Hint := ⟨[(0, false), (1, true), (2, true), (3, false)], []⟩
def K21_1 : Pl := .o (.pset none 2 0 3 (.v 5)) <|
 .x 3 (.mv (.c (.bool true))) .done
@[simp] def W21_1 := Pl.w K21_1.eq_1
def K21_2 : C := .seq (.pl <| .e 4 2 <|
 .o (.pget (some 4) none 1 0 (some 3)) <|
 .c 5 (.call fn_impl_Automaton_simplify [.v 4]) K21_1) (.ret)
@[simp] def W21_2 := C.w K21_2.eq_1
def K21_3 : C := .seq (.pl <| .e 4 1 <|
 .x 4 (.build [.slice none 0 0, .slice none 0 0, .slice none 0 0] []) <|
 .o (.pset none 2 0 3 (.v 4)) <|
 .x 3 (.mv (.c (.bool false))) .done) (.ret)
@[simp] def W21_3 := C.w K21_3.eq_1
def K21_4 : C := .cond 4 (.v 6) K21_3 (.skip)
@[simp] def W21_4 := C.w K21_4.eq_1
def K21_5 : Pl := .x 6 (.un .not (.v 5)) .done
@[simp] def W21_5 := Pl.w K21_5.eq_1
def K21_6 : C := .seq (.seq (.pl <| .e 4 3 <|
 .o (.pget (some 4) none 1 0 (some 3)) <|
 .c 5 (.call fn_impl_AutomatonValid [.v 4]) K21_5) K21_4) K21_2
@[simp] def W21_6 := C.w K21_6.eq_1
def B_impl_SimplifyAutomaton : C := .seq (.pl <| .e 4 0 <|
 .o (.pnew 1 (.v 0) []) <|
 .o (.pnew 2 (.c (.agg #[.slice none 0 0, .slice none 0 0, .slice none 0 0])) []) <|
 .x 3 (.mv (.c (.bool false))) .done) K21_6
@[simp] def WB_impl_SimplifyAutomaton := C.w B_impl_SimplifyAutomaton.eq_1
def R_impl_SimplifyAutomaton : FIR := ⟨B_impl_SimplifyAutomaton, 4, [(2, some (some 3)), (3, none)]⟩
theorem IR_impl_SimplifyAutomaton : cfun Tryz.prog H_impl_SimplifyAutomaton Tryz.f21 = some R_impl_SimplifyAutomaton := by kernel_rfl
theorem EN_impl_SimplifyAutomaton : ENT Tryz.prog B_impl_SimplifyAutomaton [(2, some (some 3)), (3, none)] 1 4 fn_impl_SimplifyAutomaton := fun hargs hw => enter Tryz.func21 rfl IR_impl_SimplifyAutomaton hargs hw
def H_laws_FnSimplifyAutomaton : Hint := ⟨[(0, false), (1, false), (4, false), (5, true), (6, true), (7, true), (8, true), (9, false), (10, true), (11, false), (12, false), (13, false), (14, false), (15, false), (16, true), (17, false)], []⟩
def K5_1 : Pl := .x 31 (.pick (.v 27) (.v 30) (.c (.bool false))) <|
 .m 32 31 <|
 .y 32 (.als 33 none 6) <|
 .y 32 (.pget (some 34) (some 33) 6 1 none) <|
 .y 32 (.px (some 35) (.lenV (.v 34))) <|
 .y 32 (.als 36 none 3) <|
 .y 32 (.pget (some 37) (some 36) 3 1 none) <|
 .y 32 (.px (some 38) (.lenV (.v 37))) <|
 .y 32 (.px (some 39) (.bin .leq (.v 35) (.v 38))) <|
 .x 40 (.pick (.v 32) (.v 39) (.c (.bool false))) <|
 .m 2 40 .done
@[simp] def W5_1 := Pl.w K5_1.eq_1
def K5_2 : C := .seq (.pl <| .e 16 25 <|
 .m 16 11 <|
 .m 17 13 <|
 .x 18 (.eqb false (.v 16) (.v 17)) <|
 .m 19 18 <|
 .y 19 (.px (some 20) (.mv (.v 10))) <|
 .y 19 (.px (some 21) (.mv (.v 12))) <|
 .y 19 (.px (some 22) (.eqb false (.v 20) (.v 21))) <|
 .x 23 (.pick (.v 19) (.v 22) (.c (.bool false))) <|
 .m 24 23 <|
 .y 24 (.px (some 25) (.mv (.v 15))) <|
 .x 26 (.pick (.v 24) (.v 25) (.c (.bool false))) <|
 .m 27 26 <|
 .y 27 (.pget (some 28) none 14 0 (some 3)) <|
 .y 27 (.pget (some 29) none 6 0 (some 3)) <|
 .st (.act (some (.v 27, true)) (.ex (some 30) (.call fn_impl_AutomatonSame [.v 28, .v 29]))) K5_1) (.ret)
@[simp] def W5_2 := C.w K5_2.eq_1
def K5_3 : Pl := .m 18 17 <|
 .x 19 (.extract 0 (.v 18)) <|
 .x 20 (.extract 1 (.v 18)) <|
 .o (.pnew 14 (.c (.agg #[.slice none 0 0, .slice none 0 0, .slice none 0 0])) []) <|
 .o (.pset none 14 0 3 (.v 19)) <|
 .m 15 20 .done
@[simp] def W5_3 := Pl.w K5_3.eq_1
def K5_4 : C := .seq (.pl <| .e 16 5 <|
 .o (.pget (some 16) none 6 0 (some 3)) <|
 .c 17 (.call fn_impl_SimplifyAutomaton [.v 16]) K5_3) K5_2
@[simp] def W5_4 := C.w K5_4.eq_1
def K5_5 : Pl := .m 19 18 <|
 .x 20 (.extract 0 (.v 19)) <|
 .x 21 (.extract 1 (.v 19)) <|
 .m 12 20 <|
 .m 13 21 .done
@[simp] def W5_5 := Pl.w K5_5.eq_1
def K5_6 : C := .seq (.pl <| .e 16 6 <|
 .o (.pget (some 16) none 6 0 (some 3)) <|
 .o (.pget (some 17) none 5 0 (some 2)) <|
 .c 18 (.call fn_impl_Accepts [.v 16, .v 17]) K5_5) K5_4
@[simp] def W5_6 := C.w K5_6.eq_1
def K5_7 : Pl := .m 19 18 <|
 .x 20 (.extract 0 (.v 19)) <|
 .x 21 (.extract 1 (.v 19)) <|
 .m 10 20 <|
 .m 11 21 .done
@[simp] def W5_7 := Pl.w K5_7.eq_1
def K5_8 : C := .seq (.pl <| .e 16 6 <|
 .o (.pget (some 16) none 3 0 (some 3)) <|
 .o (.pget (some 17) none 5 0 (some 2)) <|
 .c 18 (.call fn_impl_Accepts [.v 16, .v 17]) K5_7) K5_6
@[simp] def W5_8 := C.w K5_8.eq_1
def K5_9 : Pl := .x 23 (.pick (.v 19) (.v 22) (.c (.bool false))) <|
 .m 2 23 .done
@[simp] def W5_9 := Pl.w K5_9.eq_1
def K5_10 : C := .seq (.pl <| .e 16 8 <|
 .m 16 7 <|
 .m 17 9 <|
 .x 18 (.eqb false (.v 16) (.v 17)) <|
 .m 19 18 <|
 .y 19 (.pget (some 20) none 6 0 (some 3)) <|
 .y 19 (.pget (some 21) none 8 0 (some 3)) <|
 .st (.act (some (.v 19, true)) (.ex (some 22) (.call fn_impl_AutomatonSame [.v 20, .v 21]))) K5_9) (.ret)
@[simp] def W5_10 := C.w K5_10.eq_1
def K5_11 : C := .cond 16 (.v 28) K5_10 (.skip)
@[simp] def W5_11 := C.w K5_11.eq_1
def K5_12 : Pl := .n 19 (.px (some 23) (.un .not (.v 22))) <|
 .x 24 (.pick (.v 19) (.c (.bool true)) (.v 23)) <|
 .m 25 24 <|
 .n 25 (.px (some 26) (.mv (.v 7))) <|
 .n 25 (.px (some 27) (.un .not (.v 26))) <|
 .x 28 (.pick (.v 25) (.c (.bool true)) (.v 27)) .done
@[simp] def W5_12 := Pl.w K5_12.eq_1
def K5_13 : C := .seq (.seq (.pl <| .e 16 13 <|
 .m 16 7 <|
 .m 17 9 <|
 .x 18 (.eqb true (.v 16) (.v 17)) <|
 .m 19 18 <|
 .n 19 (.pget (some 20) none 6 0 (some 3)) <|
 .n 19 (.pget (some 21) none 8 0 (some 3)) <|
 .st (.act (some (.v 19, false)) (.ex (some 22) (.call fn_impl_AutomatonSame [.v 20, .v 21]))) K5_12) K5_11) K5_8
@[simp] def W5_13 := C.w K5_13.eq_1
def K5_14 : Pl := .m 18 17 <|
 .x 19 (.extract 0 (.v 18)) <|
 .x 20 (.extract 1 (.v 18)) <|
 .o (.pnew 8 (.c (.agg #[.slice none 0 0, .slice none 0 0, .slice none 0 0])) []) <|
 .o (.pset none 8 0 3 (.v 19)) <|
 .m 9 20 .done
@[simp] def W5_14 := Pl.w K5_14.eq_1
def K5_15 : C := .seq (.pl <| .e 16 5 <|
 .o (.pget (some 16) none 3 0 (some 3)) <|
 .c 17 (.call fn_spec_SimplifyAutomaton [.v 16]) K5_14) K5_13
@[simp] def W5_15 := C.w K5_15.eq_1
def K5_16 : Pl := .m 18 17 <|
 .x 19 (.extract 0 (.v 18)) <|
 .x 20 (.extract 1 (.v 18)) <|
 .o (.pnew 6 (.c (.agg #[.slice none 0 0, .slice none 0 0, .slice none 0 0])) []) <|
 .o (.pset none 6 0 3 (.v 19)) <|
 .m 7 20 .done
@[simp] def W5_16 := Pl.w K5_16.eq_1
def K5_17 : C := .seq (.pl <| .e 16 5 <|
 .o (.pget (some 16) none 3 0 (some 3)) <|
 .c 17 (.call fn_impl_SimplifyAutomaton [.v 16]) K5_16) K5_15
@[simp] def W5_17 := C.w K5_17.eq_1
def K5_18 : Pl := .m 18 17 <|
 .x 19 (.extract 0 (.v 18)) <|
 .x 20 (.extract 1 (.v 18)) <|
 .o (.pnew 4 (.c (.agg #[.slice none 0 0, .slice none 0 0, .slice none 0 0])) []) <|
 .o (.pnew 5 (.c (.agg #[.slice none 0 0, .slice none 0 0])) []) <|
 .o (.pset none 4 0 3 (.v 19)) <|
 .o (.pset none 5 0 2 (.v 20)) .done
@[simp] def W5_18 := Pl.w K5_18.eq_1
def K5_19 : C := .seq (.pl <| .e 16 5 <|
 .m 16 1 <|
 .c 17 (.call fn_spec_DrawAccepts [.v 16]) K5_18) K5_17
@[simp] def W5_19 := C.w K5_19.eq_1
def K5_20 : Pl := .o (.pnew 3 (.c (.agg #[.slice none 0 0, .slice none 0 0, .slice none 0 0])) []) <|
 .o (.pset none 3 0 3 (.v 17)) .done
@[simp] def W5_20 := Pl.w K5_20.eq_1
def K5_21 : C := .seq (.pl <| .e 16 2 <|
 .m 16 0 <|
 .c 17 (.call fn_spec_DrawSimplifyAutomaton [.v 16]) K5_20) K5_19
@[simp] def W5_21 := C.w K5_21.eq_1
def K5_22 : C := .seq (.pl <| .e 16 0 <|
 .x 2 (.mv (.c (.bool true))) .done) (.ret)
@[simp] def W5_22 := C.w K5_22.eq_1
def K5_23 : C := .cond 16 (.v 23) K5_22 (.skip)
@[simp] def W5_23 := C.w K5_23.eq_1
def K5_24 : C := .seq (.seq (.pl <| .e 16 8 <|
 .m 16 0 <|
 .x 17 (.lenV (.v 16)) <|
 .x 18 (.bin .gtr (.v 17) (.c (.int .i64 1048576))) <|
 .m 19 18 <|
 .n 19 (.px (some 20) (.mv (.v 1))) <|
 .n 19 (.px (some 21) (.lenV (.v 20))) <|
 .n 19 (.px (some 22) (.bin .gtr (.v 21) (.c (.int .i64 1048576)))) <|
 .x 23 (.pick (.v 19) (.c (.bool true)) (.v 22)) .done) K5_23) K5_21
@[simp] def W5_24 := C.w K5_24.eq_1
def B_laws_FnSimplifyAutomaton : C := .seq (.pl <| .e 16 0 <|
 .x 2 (.mv (.c (.bool false))) .done) K5_24
@[simp] def WB_laws_FnSimplifyAutomaton := C.w B_laws_FnSimplifyAutomaton.eq_1
def R_laws_FnSimplifyAutomaton : FIR := ⟨B_laws_FnSimplifyAutomaton, 16, [(2, none)]⟩
theorem IR_laws_FnSimplifyAutomaton : cfun Tryz.prog H_laws_FnSimplifyAutomaton Tryz.f5 = some R_laws_FnSimplifyAutomaton := by kernel_rfl
theorem EN_laws_FnSimplifyAutomaton : ENT Tryz.prog B_laws_FnSimplifyAutomaton [(2, none)] 2 16 fn_laws_FnSimplifyAutomaton := fun hargs hw => enter Tryz.func5 rfl IR_laws_FnSimplifyAutomaton hargs hw
def H_spec_AutomatonSame : Hint := ⟨[(0, false), (1, false), (2, true), (3, true), (4, false), (5, false), (6, false)], [[0, 1, 4, 6], [0, 1, 4, 5]]⟩
def K55_1 : C := .seq (.pl <| .e 7 0 <|
 .x 4 (.mv (.c (.bool true))) .done) (.ret)
@[simp] def W55_1 := C.w K55_1.eq_1
def K55_2 : C := .pl <| .e 7 2 <|
 .m 7 6 <|
 .x 8 (.bin .add (.v 7) (.c (.int .i64 1))) <|
 .m 6 8 .done
@[simp] def W55_2 := C.w K55_2.eq_1
def K55_3 : C := .seq (.pl <| .e 7 0 <|
 .x 4 (.mv (.c (.bool false))) .done) (.ret)
@[simp] def W55_3 := C.w K55_3.eq_1
def K55_4 : C := .cond 7 (.v 17) K55_3 (.skip)
@[simp] def W55_4 := C.w K55_4.eq_1
def K55_5 : C := .seq (.block 3 (.seq (.pl <| .e 7 11 <|
 .a 7 2 <|
 .g 8 7 2 2 <|
 .m 9 6 <|
 .x 10 (.ia 4 (.v 8) (.v 9)) <|
 .o (.ld (some 11) (.v 10) (some 4)) <|
 .a 12 3 <|
 .g 13 12 3 2 <|
 .m 14 6 <|
 .x 15 (.ia 4 (.v 13) (.v 14)) <|
 .o (.ld (some 16) (.v 15) (some 4)) <|
 .x 17 (.eqf true [.i, .i, .i, .i] (.v 11) (.v 16)) .done) K55_4)) K55_2
@[simp] def W55_5 := C.w K55_5.eq_1
def K55_6 : C := .cond 7 (.v 11) (.skip) (.exit 2)
@[simp] def W55_6 := C.w K55_6.eq_1
def K55_7 : C := .seq (.seq (.pl <| .e 7 5 <|
 .m 7 6 <|
 .a 8 2 <|
 .g 9 8 2 2 <|
 .x 10 (.lenV (.v 9)) <|
 .x 11 (.bin .lss (.v 7) (.v 10)) .done) K55_6) K55_5
@[simp] def W55_7 := C.w K55_7.eq_1
def K55_8 : C := .block 2 (.loop 7 [0, 1, 4, 5] K55_7)
@[simp] def W55_8 := C.w K55_8.eq_1
def K55_9 : C := .seq (.seq (.pl <| .e 7 0 <|
 .x 6 (.mv (.c (.int .i64 0))) .done) K55_8) K55_1
@[simp] def W55_9 := C.w K55_9.eq_1
def K55_10 : C := .pl <| .e 7 2 <|
 .m 7 5 <|
 .x 8 (.bin .add (.v 7) (.c (.int .i64 1))) <|
 .m 5 8 .done
@[simp] def W55_10 := C.w K55_10.eq_1
def K55_11 : C := .seq (.pl <| .e 7 0 <|
 .x 4 (.mv (.c (.bool false))) .done) (.ret)
@[simp] def W55_11 := C.w K55_11.eq_1
def K55_12 : C := .cond 7 (.v 17) K55_11 (.skip)
@[simp] def W55_12 := C.w K55_12.eq_1
def K55_13 : C := .seq (.block 1 (.seq (.pl <| .e 7 11 <|
 .a 7 2 <|
 .g 8 7 2 1 <|
 .m 9 5 <|
 .x 10 (.ia 1 (.v 8) (.v 9)) <|
 .l 11 10 <|
 .a 12 3 <|
 .g 13 12 3 1 <|
 .m 14 5 <|
 .x 15 (.ia 1 (.v 13) (.v 14)) <|
 .l 16 15 <|
 .x 17 (.eqb true (.v 11) (.v 16)) .done) K55_12)) K55_10
@[simp] def W55_13 := C.w K55_13.eq_1
def K55_14 : C := .cond 7 (.v 11) (.skip) (.exit 0)
@[simp] def W55_14 := C.w K55_14.eq_1
def K55_15 : C := .seq (.seq (.pl <| .e 7 5 <|
 .m 7 5 <|
 .a 8 2 <|
 .g 9 8 2 1 <|
 .x 10 (.lenV (.v 9)) <|
 .x 11 (.bin .lss (.v 7) (.v 10)) .done) K55_14) K55_13
@[simp] def W55_15 := C.w K55_15.eq_1
def K55_16 : C := .block 0 (.loop 7 [0, 1, 4, 6] K55_15)
@[simp] def W55_16 := C.w K55_16.eq_1
def K55_17 : C := .seq (.seq (.pl <| .e 7 0 <|
 .x 5 (.mv (.c (.int .i64 0))) .done) K55_16) K55_9
@[simp] def W55_17 := C.w K55_17.eq_1
def K55_18 : C := .seq (.pl <| .e 7 0 <|
 .x 4 (.mv (.c (.bool false))) .done) (.ret)
@[simp] def W55_18 := C.w K55_18.eq_1
def K55_19 : C := .cond 7 (.v 30) K55_18 (.skip)
@[simp] def W55_19 := C.w K55_19.eq_1
def K55_20 : Pl := .x 12 (.un .not (.v 11)) <|
 .m 13 12 <|
 .n 13 (.als 14 none 2) <|
 .n 13 (.pget (some 15) (some 14) 2 1 none) <|
 .n 13 (.px (some 16) (.lenV (.v 15))) <|
 .n 13 (.als 17 none 3) <|
 .n 13 (.pget (some 18) (some 17) 3 1 none) <|
 .n 13 (.px (some 19) (.lenV (.v 18))) <|
 .n 13 (.px (some 20) (.bin .neq (.v 16) (.v 19))) <|
 .x 21 (.pick (.v 13) (.c (.bool true)) (.v 20)) <|
 .m 22 21 <|
 .n 22 (.als 23 none 2) <|
 .n 22 (.pget (some 24) (some 23) 2 2 none) <|
 .n 22 (.px (some 25) (.lenV (.v 24))) <|
 .n 22 (.als 26 none 3) <|
 .n 22 (.pget (some 27) (some 26) 3 2 none) <|
 .n 22 (.px (some 28) (.lenV (.v 27))) <|
 .n 22 (.px (some 29) (.bin .neq (.v 25) (.v 28))) <|
 .x 30 (.pick (.v 22) (.c (.bool true)) (.v 29)) .done
@[simp] def W55_20 := Pl.w K55_20.eq_1
def K55_21 : C := .seq (.seq (.pl <| .e 7 24 <|
 .a 7 2 <|
 .g 8 7 2 0 <|
 .a 9 3 <|
 .g 10 9 3 0 <|
 .c 11 (.call fn_spec_l2Ints [.v 8, .v 10]) K55_20) K55_19) K55_17
@[simp] def W55_21 := C.w K55_21.eq_1
def B_spec_AutomatonSame : C := .seq (.pl <| .e 7 0 <|
 .o (.pnew 2 (.v 0) []) <|
 .o (.pnew 3 (.v 1) []) <|
 .x 4 (.mv (.c (.bool false))) .done) K55_21
@[simp] def WB_spec_AutomatonSame := C.w B_spec_AutomatonSame.eq_1
def R_spec_AutomatonSame : FIR := ⟨B_spec_AutomatonSame, 7, [(4, none)]⟩
theorem IR_spec_AutomatonSame : cfun Tryz.prog H_spec_AutomatonSame Tryz.f55 = some R_spec_AutomatonSame := by kernel_rfl
theorem EN_spec_AutomatonSame : ENT Tryz.prog B_spec_AutomatonSame [(4, none)] 2 7 fn_spec_AutomatonSame := fun hargs hw => enter Tryz.func55 rfl IR_spec_AutomatonSame hargs hw
def H_spec_DrawSimplifyAutomaton : Hint := ⟨[(0, false), (2, true)], []⟩
def K20_1 : Pl := .o (.pset none 1 0 3 (.v 3)) .done
@[simp] def W20_1 := Pl.w K20_1.eq_1
def K20_2 : C := .seq (.pl <| .e 2 2 <|
 .m 2 0 <|
 .c 3 (.call fn_spec_DrawTrimAutomaton [.v 2]) K20_1) (.ret)
@[simp] def W20_2 := C.w K20_2.eq_1
def B_spec_DrawSimplifyAutomaton : C := .seq (.pl <| .e 2 0 <|
 .o (.pnew 1 (.c (.agg #[.slice none 0 0, .slice none 0 0, .slice none 0 0])) []) .done) K20_2
@[simp] def WB_spec_DrawSimplifyAutomaton := C.w B_spec_DrawSimplifyAutomaton.eq_1
def R_spec_DrawSimplifyAutomaton : FIR := ⟨B_spec_DrawSimplifyAutomaton, 2, [(1, some (some 3))]⟩
theorem IR_spec_DrawSimplifyAutomaton : cfun Tryz.prog H_spec_DrawSimplifyAutomaton Tryz.f20 = some R_spec_DrawSimplifyAutomaton := by kernel_rfl
theorem EN_spec_DrawSimplifyAutomaton : ENT Tryz.prog B_spec_DrawSimplifyAutomaton [(1, some (some 3))] 1 2 fn_spec_DrawSimplifyAutomaton := fun hargs hw => enter Tryz.func20 rfl IR_spec_DrawSimplifyAutomaton hargs hw
def H_spec_SimplifyAutomaton : Hint := ⟨[(0, false), (1, true), (2, true), (3, false), (4, true)], [[0, 3, 4]]⟩
def K22_1 : C := .pl <| .e 5 1 <|
 .o (.pget (some 5) none 4 0 (some 3)) <|
 .o (.pset none 1 0 3 (.v 5)) .done
@[simp] def W22_1 := C.w K22_1.eq_1
def K22_2 : C := .seq (.pl <| .e 5 1 <|
 .o (.pget (some 5) none 4 0 (some 3)) <|
 .o (.pset none 2 0 3 (.v 5)) <|
 .x 3 (.mv (.c (.bool true))) .done) (.ret)
@[simp] def W22_2 := C.w K22_2.eq_1
def K22_3 : C := .cond 5 (.v 7) K22_2 (.skip)
@[simp] def W22_3 := C.w K22_3.eq_1
def K22_4 : C := .seq (.seq (.pl <| .e 5 3 <|
 .o (.pget (some 5) none 4 0 (some 3)) <|
 .o (.pget (some 6) none 1 0 (some 3)) <|
 .c 7 (.call fn_spec_AutomatonSame [.v 5, .v 6]) .done) K22_3) K22_1
@[simp] def W22_4 := C.w K22_4.eq_1
def K22_5 : Pl := .o (.pnew 4 (.c (.agg #[.slice none 0 0, .slice none 0 0, .slice none 0 0])) []) <|
 .o (.pset none 4 0 3 (.v 7)) .done
@[simp] def W22_5 := Pl.w K22_5.eq_1
def K22_6 : Pl := .c 7 (.call fn_spec_l13Merge [.v 6]) K22_5
@[simp] def W22_6 := Pl.w K22_6.eq_1
def K22_7 : C := .block 1 (.seq (.pl <| .e 5 3 <|
 .o (.pget (some 5) none 1 0 (some 3)) <|
 .c 6 (.call fn_spec_l13Trim [.v 5]) K22_6) K22_4)
@[simp] def W22_7 := C.w K22_7.eq_1
def K22_8 : C := .block 0 (.loop 5 [0, 3, 4] K22_7)
@[simp] def W22_8 := C.w K22_8.eq_1
def K22_9 : C := .seq (.pl <| .e 5 1 <|
 .x 5 (.build [.slice none 0 0, .slice none 0 0, .slice none 0 0] []) <|
 .o (.pset none 2 0 3 (.v 5)) <|
 .x 3 (.mv (.c (.bool false))) .done) (.ret)
@[simp] def W22_9 := C.w K22_9.eq_1
def K22_10 : C := .cond 5 (.v 7) K22_9 (.skip)
@[simp] def W22_10 := C.w K22_10.eq_1
def K22_11 : Pl := .x 7 (.un .not (.v 6)) .done
@[simp] def W22_11 := Pl.w K22_11.eq_1
def K22_12 : C := .seq (.seq (.pl <| .e 5 3 <|
 .o (.pget (some 5) none 1 0 (some 3)) <|
 .c 6 (.call fn_spec_AutomatonValid [.v 5]) K22_11) K22_10) K22_8
@[simp] def W22_12 := C.w K22_12.eq_1
def B_spec_SimplifyAutomaton : C := .seq (.pl <| .e 5 0 <|
 .o (.pnew 1 (.v 0) []) <|
 .o (.pnew 2 (.c (.agg #[.slice none 0 0, .slice none 0 0, .slice none 0 0])) []) <|
 .x 3 (.mv (.c (.bool false))) .done) K22_12
@[simp] def WB_spec_SimplifyAutomaton := C.w B_spec_SimplifyAutomaton.eq_1
def R_spec_SimplifyAutomaton : FIR := ⟨B_spec_SimplifyAutomaton, 5, [(2, some (some 3)), (3, none)]⟩
theorem IR_spec_SimplifyAutomaton : cfun Tryz.prog H_spec_SimplifyAutomaton Tryz.f22 = some R_spec_SimplifyAutomaton := by kernel_rfl
theorem EN_spec_SimplifyAutomaton : ENT Tryz.prog B_spec_SimplifyAutomaton [(2, some (some 3)), (3, none)] 1 5 fn_spec_SimplifyAutomaton := fun hargs hw => enter Tryz.func22 rfl IR_spec_SimplifyAutomaton hargs hw
def H_spec_l13Keep : Hint := ⟨[(0, false), (1, false), (2, true), (4, true), (5, true), (6, false), (7, false), (8, false), (9, false), (10, true)], [[0, 7, 8, 9], [0, 6, 8, 9], [0, 6, 7, 9]]⟩
def K97_1 : C := .seq (.pl <| .e 10 1 <|
 .o (.pget (some 10) none 4 0 (some 3)) <|
 .o (.pset none 3 0 3 (.v 10)) .done) (.ret)
@[simp] def W97_1 := C.w K97_1.eq_1
def K97_2 : Pl := .a 11 4 <|
 .o (.pset (some 11) 4 1 1 (.v 10)) .done
@[simp] def W97_2 := Pl.w K97_2.eq_1
def K97_3 : C := .pl <| .e 10 2 <|
 .c 10 (.bls 1 1 [.bool false] [(0, 1, .c (.bool false))]) K97_2
@[simp] def W97_3 := C.w K97_3.eq_1
def K97_4 : C := .cond 10 (.v 13) K97_3 (.skip)
@[simp] def W97_4 := C.w K97_4.eq_1
def K97_5 : C := .seq (.seq (.pl <| .e 10 4 <|
 .a 10 4 <|
 .g 11 10 4 1 <|
 .x 12 (.lenV (.v 11)) <|
 .x 13 (.bin .eql (.v 12) (.c (.int .i64 0))) .done) K97_4) K97_1
@[simp] def W97_5 := C.w K97_5.eq_1
def K97_6 : C := .pl <| .e 10 2 <|
 .m 10 8 <|
 .x 11 (.bin .add (.v 10) (.c (.int .i64 1))) <|
 .m 8 11 .done
@[simp] def W97_6 := C.w K97_6.eq_1
def K97_7 : Pl := .a 29 4 <|
 .o (.pset (some 29) 4 2 1 (.v 28)) .done
@[simp] def W97_7 := Pl.w K97_7.eq_1
def K97_8 : C := .pl <| .e 10 20 <|
 .a 10 4 <|
 .g 11 10 4 2 <|
 .m 12 5 <|
 .a 13 9 <|
 .g 14 13 9 0 <|
 .x 15 (.ia 1 (.v 12) (.v 14)) <|
 .l 16 15 <|
 .a 17 9 <|
 .g 18 17 9 1 <|
 .a 19 9 <|
 .g 20 19 9 2 <|
 .m 21 5 <|
 .a 22 9 <|
 .g 23 22 9 3 <|
 .x 24 (.ia 1 (.v 21) (.v 23)) <|
 .l 25 24 <|
 .x 26 (.build [.int .i64 0, .int .i64 0, .int .i64 0, .int .i64 0] [(0, 1, .v 16), (1, 1, .v 18), (2, 1, .v 20), (3, 1, .v 25)]) <|
 .o (.psl 27 [.int .i64 0, .int .i64 0, .int .i64 0, .int .i64 0] [(0, 4, .v 26)]) <|
 .c 28 (.app 32 4 [.int .i64 0, .int .i64 0, .int .i64 0, .int .i64 0] (.o (.v 11)) (.p 1 27)) K97_7
@[simp] def W97_8 := C.w K97_8.eq_1
def K97_9 : C := .cond 10 (.v 21) K97_8 (.skip)
@[simp] def W97_9 := C.w K97_9.eq_1
def K97_10 : C := .seq (.pl <| .e 10 12 <|
 .m 10 1 <|
 .a 11 9 <|
 .g 12 11 9 0 <|
 .x 13 (.ia 1 (.v 10) (.v 12)) <|
 .l 14 13 <|
 .m 15 14 <|
 .y 15 (.px (some 16) (.mv (.v 1))) <|
 .y 15 (.als 17 none 9) <|
 .y 15 (.pget (some 18) (some 17) 9 3 none) <|
 .y 15 (.px (some 19) (.ia 1 (.v 16) (.v 18))) <|
 .y 15 (.ld (some 20) (.v 19) none) <|
 .x 21 (.pick (.v 15) (.v 20) (.c (.bool false))) .done) K97_9
@[simp] def W97_10 := C.w K97_10.eq_1
def K97_11 : C := .seq (.block 5 (.seq (.pl <| .e 10 5 <|
 .a 10 2 <|
 .g 11 10 2 2 <|
 .m 12 8 <|
 .x 13 (.ia 4 (.v 11) (.v 12)) <|
 .o (.ld (some 14) (.v 13) (some 4)) <|
 .o (.pnew 9 (.c (.agg #[.int .i64 0, .int .i64 0, .int .i64 0, .int .i64 0])) []) <|
 .o (.pset none 9 0 4 (.v 14)) .done) K97_10)) K97_6
@[simp] def W97_11 := C.w K97_11.eq_1
def K97_12 : C := .cond 10 (.v 14) (.skip) (.exit 4)
@[simp] def W97_12 := C.w K97_12.eq_1
def K97_13 : C := .seq (.seq (.pl <| .e 10 5 <|
 .m 10 8 <|
 .a 11 2 <|
 .g 12 11 2 2 <|
 .x 13 (.lenV (.v 12)) <|
 .x 14 (.bin .lss (.v 10) (.v 13)) .done) K97_12) K97_11
@[simp] def W97_13 := C.w K97_13.eq_1
def K97_14 : C := .block 4 (.loop 10 [0, 6, 7, 9] K97_13)
@[simp] def W97_14 := C.w K97_14.eq_1
def K97_15 : C := .seq (.seq (.pl <| .e 10 0 <|
 .x 8 (.mv (.c (.int .i64 0))) .done) K97_14) K97_5
@[simp] def W97_15 := C.w K97_15.eq_1
def K97_16 : C := .pl <| .e 10 2 <|
 .m 10 7 <|
 .x 11 (.bin .add (.v 10) (.c (.int .i64 1))) <|
 .m 7 11 .done
@[simp] def W97_16 := C.w K97_16.eq_1
def K97_17 : Pl := .a 22 4 <|
 .o (.pset (some 22) 4 0 1 (.v 21)) .done
@[simp] def W97_17 := Pl.w K97_17.eq_1
def K97_18 : C := .pl <| .e 10 13 <|
 .a 10 4 <|
 .g 11 10 4 0 <|
 .m 12 5 <|
 .a 13 2 <|
 .g 14 13 2 0 <|
 .m 15 7 <|
 .x 16 (.ia 1 (.v 14) (.v 15)) <|
 .l 17 16 <|
 .x 18 (.ia 1 (.v 12) (.v 17)) <|
 .l 19 18 <|
 .o (.psl 20 [.int .i64 0] [(0, 1, .v 19)]) <|
 .c 21 (.app 8 1 [.int .i64 0] (.o (.v 11)) (.p 1 20)) K97_17
@[simp] def W97_18 := C.w K97_18.eq_1
def K97_19 : C := .cond 10 (.v 17) K97_18 (.skip)
@[simp] def W97_19 := C.w K97_19.eq_1
def K97_20 : C := .seq (.block 3 (.seq (.pl <| .e 10 8 <|
 .m 10 1 <|
 .a 11 2 <|
 .g 12 11 2 0 <|
 .m 13 7 <|
 .x 14 (.ia 1 (.v 12) (.v 13)) <|
 .l 15 14 <|
 .x 16 (.ia 1 (.v 10) (.v 15)) <|
 .l 17 16 .done) K97_19)) K97_16
@[simp] def W97_20 := C.w K97_20.eq_1
def K97_21 : C := .cond 10 (.v 14) (.skip) (.exit 2)
@[simp] def W97_21 := C.w K97_21.eq_1
def K97_22 : C := .seq (.seq (.pl <| .e 10 5 <|
 .m 10 7 <|
 .a 11 2 <|
 .g 12 11 2 0 <|
 .x 13 (.lenV (.v 12)) <|
 .x 14 (.bin .lss (.v 10) (.v 13)) .done) K97_21) K97_20
@[simp] def W97_22 := C.w K97_22.eq_1
def K97_23 : C := .block 2 (.loop 10 [0, 6, 8, 9] K97_22)
@[simp] def W97_23 := C.w K97_23.eq_1
def K97_24 : C := .seq (.seq (.pl <| .e 10 0 <|
 .x 7 (.mv (.c (.int .i64 0))) .done) K97_23) K97_15
@[simp] def W97_24 := C.w K97_24.eq_1
def K97_25 : C := .pl <| .e 10 2 <|
 .m 10 6 <|
 .x 11 (.bin .add (.v 10) (.c (.int .i64 1))) <|
 .m 6 11 .done
@[simp] def W97_25 := C.w K97_25.eq_1
def K97_26 : Pl := .a 19 4 <|
 .o (.pset (some 19) 4 1 1 (.v 18)) .done
@[simp] def W97_26 := Pl.w K97_26.eq_1
def K97_27 : C := .pl <| .e 10 10 <|
 .a 10 4 <|
 .g 11 10 4 1 <|
 .a 12 2 <|
 .g 13 12 2 1 <|
 .m 14 6 <|
 .x 15 (.ia 1 (.v 13) (.v 14)) <|
 .l 16 15 <|
 .o (.psl 17 [.bool false] [(0, 1, .v 16)]) <|
 .c 18 (.app 1 1 [.bool false] (.o (.v 11)) (.p 1 17)) K97_26
@[simp] def W97_27 := C.w K97_27.eq_1
def K97_28 : C := .cond 10 (.v 13) K97_27 (.skip)
@[simp] def W97_28 := C.w K97_28.eq_1
def K97_29 : C := .seq (.pl <| .e 10 4 <|
 .m 10 1 <|
 .m 11 6 <|
 .x 12 (.ia 1 (.v 10) (.v 11)) <|
 .l 13 12 .done) K97_28
@[simp] def W97_29 := C.w K97_29.eq_1
def K97_30 : Pl := .m 5 15 .done
@[simp] def W97_30 := Pl.w K97_30.eq_1
def K97_31 : C := .seq (.block 1 (.seq (.pl <| .e 10 6 <|
 .m 10 5 <|
 .a 11 4 <|
 .g 12 11 4 1 <|
 .x 13 (.lenV (.v 12)) <|
 .o (.psl 14 [.int .i64 0] [(0, 1, .v 13)]) <|
 .c 15 (.app 8 1 [.int .i64 0] (.o (.v 10)) (.p 1 14)) K97_30) K97_29)) K97_25
@[simp] def W97_31 := C.w K97_31.eq_1
def K97_32 : C := .cond 10 (.v 13) (.skip) (.exit 0)
@[simp] def W97_32 := C.w K97_32.eq_1
def K97_33 : C := .seq (.seq (.pl <| .e 10 4 <|
 .m 10 6 <|
 .m 11 1 <|
 .x 12 (.lenV (.v 11)) <|
 .x 13 (.bin .lss (.v 10) (.v 12)) .done) K97_32) K97_31
@[simp] def W97_33 := C.w K97_33.eq_1
def K97_34 : C := .block 0 (.loop 10 [0, 7, 8, 9] K97_33)
@[simp] def W97_34 := C.w K97_34.eq_1
def K97_35 : C := .seq (.seq (.pl <| .e 10 0 <|
 .x 6 (.mv (.c (.int .i64 0))) .done) K97_34) K97_24
@[simp] def W97_35 := C.w K97_35.eq_1
def K97_36 : Pl := .m 5 10 .done
@[simp] def W97_36 := Pl.w K97_36.eq_1
def K97_37 : C := .seq (.pl <| .e 10 1 <|
 .c 10 (.bls 1 0 [.int .i64 0] []) K97_36) K97_35
@[simp] def W97_37 := C.w K97_37.eq_1
def K97_38 : C := .seq (.pl <| .e 10 1 <|
 .x 10 (.build [.slice none 0 0, .slice none 0 0, .slice none 0 0] []) <|
 .o (.pnew 4 (.c (.agg #[.slice none 0 0, .slice none 0 0, .slice none 0 0])) []) <|
 .o (.pset none 4 0 3 (.v 10)) .done) K97_37
@[simp] def W97_38 := C.w K97_38.eq_1
def B_spec_l13Keep : C := .seq (.pl <| .e 10 0 <|
 .o (.pnew 2 (.v 0) []) <|
 .o (.pnew 3 (.c (.agg #[.slice none 0 0, .slice none 0 0, .slice none 0 0])) []) .done) K97_38
@[simp] def WB_spec_l13Keep := C.w B_spec_l13Keep.eq_1
def R_spec_l13Keep : FIR := ⟨B_spec_l13Keep, 10, [(3, some (some 3))]⟩
theorem IR_spec_l13Keep : cfun Tryz.prog H_spec_l13Keep Tryz.f97 = some R_spec_l13Keep := by kernel_rfl
theorem EN_spec_l13Keep : ENT Tryz.prog B_spec_l13Keep [(3, some (some 3))] 2 10 fn_spec_l13Keep := fun hargs hw => enter Tryz.func97 rfl IR_spec_l13Keep hargs hw
def H_spec_l13Trim : Hint := ⟨[(0, false), (1, true), (2, true), (3, false), (4, false), (5, false), (6, false)], [[0]]⟩
def K54_1 : Pl := .o (.pset none 2 0 3 (.v 9)) .done
@[simp] def W54_1 := Pl.w K54_1.eq_1
def K54_2 : C := .seq (.pl <| .e 7 3 <|
 .o (.pget (some 7) none 1 0 (some 3)) <|
 .m 8 5 <|
 .c 9 (.call fn_spec_l13Keep [.v 7, .v 8]) K54_1) (.ret)
@[simp] def W54_2 := C.w K54_2.eq_1
def K54_3 : C := .pl <| .e 7 2 <|
 .m 7 6 <|
 .x 8 (.bin .add (.v 7) (.c (.int .i64 1))) <|
 .m 6 8 .done
@[simp] def W54_3 := C.w K54_3.eq_1
def K54_4 : C := .seq (.block 1 (.pl <| .e 7 13 <|
 .m 7 5 <|
 .m 8 4 <|
 .m 9 6 <|
 .x 10 (.ia 1 (.v 8) (.v 9)) <|
 .l 11 10 <|
 .m 12 3 <|
 .m 13 4 <|
 .m 14 6 <|
 .x 15 (.ia 1 (.v 13) (.v 14)) <|
 .l 16 15 <|
 .x 17 (.ia 1 (.v 12) (.v 16)) <|
 .l 18 17 <|
 .x 19 (.ia 1 (.v 7) (.v 11)) <|
 .o (.ex none (.store 1 (.v 19) (.v 18))) .done)) K54_3
@[simp] def W54_4 := C.w K54_4.eq_1
def K54_5 : C := .cond 7 (.v 10) (.skip) (.exit 0)
@[simp] def W54_5 := C.w K54_5.eq_1
def K54_6 : C := .seq (.seq (.pl <| .e 7 4 <|
 .m 7 6 <|
 .m 8 4 <|
 .x 9 (.lenV (.v 8)) <|
 .x 10 (.bin .lss (.v 7) (.v 9)) .done) K54_5) K54_4
@[simp] def W54_6 := C.w K54_6.eq_1
def K54_7 : C := .block 0 (.loop 7 [0] K54_6)
@[simp] def W54_7 := C.w K54_7.eq_1
def K54_8 : C := .seq (.seq (.pl <| .e 7 0 <|
 .x 6 (.mv (.c (.int .i64 0))) .done) K54_7) K54_2
@[simp] def W54_8 := C.w K54_8.eq_1
def K54_9 : Pl := .m 5 9 .done
@[simp] def W54_9 := Pl.w K54_9.eq_1
def K54_10 : C := .seq (.pl <| .e 7 3 <|
 .m 7 3 <|
 .x 8 (.lenV (.v 7)) <|
 .c 9 (.mks 1 1 [.bool false] (.v 8) (.v 8)) K54_9) K54_8
@[simp] def W54_10 := C.w K54_10.eq_1
def K54_11 : Pl := .m 4 11 .done
@[simp] def W54_11 := Pl.w K54_11.eq_1
def K54_12 : Pl := .c 11 (.call fn_spec_l7Reach [.v 8, .v 10]) K54_11
@[simp] def W54_12 := Pl.w K54_12.eq_1
def K54_13 : C := .seq (.pl <| .e 7 5 <|
 .o (.pget (some 7) none 1 0 (some 3)) <|
 .a 9 1 <|
 .g 10 9 1 0 <|
 .c 8 (.call fn_spec_l7Next [.v 7]) K54_12) K54_10
@[simp] def W54_13 := C.w K54_13.eq_1
def K54_14 : Pl := .m 3 8 .done
@[simp] def W54_14 := Pl.w K54_14.eq_1
def K54_15 : C := .seq (.pl <| .e 7 2 <|
 .o (.pget (some 7) none 1 0 (some 3)) <|
 .c 8 (.call fn_spec_LiveStates [.v 7]) K54_14) K54_13
@[simp] def W54_15 := C.w K54_15.eq_1
def B_spec_l13Trim : C := .seq (.pl <| .e 7 0 <|
 .o (.pnew 1 (.v 0) []) <|
 .o (.pnew 2 (.c (.agg #[.slice none 0 0, .slice none 0 0, .slice none 0 0])) []) .done) K54_15
@[simp] def WB_spec_l13Trim := C.w B_spec_l13Trim.eq_1
def R_spec_l13Trim : FIR := ⟨B_spec_l13Trim, 7, [(2, some (some 3))]⟩
theorem IR_spec_l13Trim : cfun Tryz.prog H_spec_l13Trim Tryz.f54 = some R_spec_l13Trim := by kernel_rfl
theorem EN_spec_l13Trim : ENT Tryz.prog B_spec_l13Trim [(2, some (some 3))] 1 7 fn_spec_l13Trim := fun hargs hw => enter Tryz.func54 rfl IR_spec_l13Trim hargs hw
end Go.Proofs.YtglnelcmcimljaaGreat

namespace Go.Proofs.YtglnelcmcimljaaGreat
open Go
end Go.Proofs.YtglnelcmcimljaaGreat

namespace Go.Proofs.YtglnelcmcimljaaGreat
open Go
end Go.Proofs.YtglnelcmcimljaaGreat

namespace Go.Proofs.YtglnelcmcimljaaGreat
open Go
def H_impl_AutomatonSame : Hint := ⟨[(0, false), (1, false), (2, true), (3, true), (4, false)], []⟩
def K18_1 : Pl := .x 23 (.pick (.v 17) (.v 22) (.c (.bool false))) <|
 .m 4 23 .done
@[simp] def W18_1 := Pl.w K18_1.eq_1
def K18_2 : Pl := .x 16 (.pick (.v 10) (.v 15) (.c (.bool false))) <|
 .m 17 16 <|
 .y 17 (.als 18 none 2) <|
 .y 17 (.pget (some 19) (some 18) 2 2 none) <|
 .y 17 (.als 20 none 3) <|
 .y 17 (.pget (some 21) (some 20) 3 2 none) <|
 .st (.act (some (.v 17, true)) (.ex (some 22) (.call fn_slices_Equal_S_impl_Transition_impl_Transition [.v 19, .v 21]))) K18_1
@[simp] def W18_2 := Pl.w K18_2.eq_1
def K18_3 : Pl := .m 10 9 <|
 .y 10 (.als 11 none 2) <|
 .y 10 (.pget (some 12) (some 11) 2 1 none) <|
 .y 10 (.als 13 none 3) <|
 .y 10 (.pget (some 14) (some 13) 3 1 none) <|
 .st (.act (some (.v 10, true)) (.ex (some 15) (.call fn_slices_Equal_S_bool_bool [.v 12, .v 14]))) K18_2
@[simp] def W18_3 := Pl.w K18_3.eq_1
def K18_4 : C := .seq (.pl <| .e 5 19 <|
 .a 5 2 <|
 .g 6 5 2 0 <|
 .a 7 3 <|
 .g 8 7 3 0 <|
 .c 9 (.call fn_slices_Equal_S_int_int [.v 6, .v 8]) K18_3) (.ret)
@[simp] def W18_4 := C.w K18_4.eq_1
def B_impl_AutomatonSame : C := .seq (.pl <| .e 5 0 <|
 .o (.pnew 2 (.v 0) []) <|
 .o (.pnew 3 (.v 1) []) <|
 .x 4 (.mv (.c (.bool false))) .done) K18_4
@[simp] def WB_impl_AutomatonSame := C.w B_impl_AutomatonSame.eq_1
def R_impl_AutomatonSame : FIR := ⟨B_impl_AutomatonSame, 5, [(4, none)]⟩
theorem IR_impl_AutomatonSame : cfun Tryz.prog H_impl_AutomatonSame Tryz.f18 = some R_impl_AutomatonSame := by kernel_rfl
theorem EN_impl_AutomatonSame : ENT Tryz.prog B_impl_AutomatonSame [(4, none)] 2 5 fn_impl_AutomatonSame := fun hargs hw => enter Tryz.func18 rfl IR_impl_AutomatonSame hargs hw
def H_impl_Automaton_copyOf : Hint := ⟨[(0, false), (1, true), (2, true)], []⟩
def K90_1 : Pl := .x 12 (.build [.slice none 0 0, .slice none 0 0, .slice none 0 0] [(0, 1, .v 5), (1, 1, .v 8), (2, 1, .v 11)]) <|
 .o (.pset none 2 0 3 (.v 12)) .done
@[simp] def W90_1 := Pl.w K90_1.eq_1
def K90_2 : Pl := .c 11 (.call fn_impl_clone_impl_Transition [.v 10]) K90_1
@[simp] def W90_2 := Pl.w K90_2.eq_1
def K90_3 : Pl := .c 8 (.call fn_impl_clone_bool [.v 7]) K90_2
@[simp] def W90_3 := Pl.w K90_3.eq_1
def K90_4 : C := .seq (.pl <| .e 3 10 <|
 .a 3 1 <|
 .g 4 3 1 0 <|
 .a 6 1 <|
 .g 7 6 1 1 <|
 .a 9 1 <|
 .g 10 9 1 2 <|
 .c 5 (.call fn_impl_clone_int [.v 4]) K90_3) (.ret)
@[simp] def W90_4 := C.w K90_4.eq_1
def B_impl_Automaton_copyOf : C := .seq (.pl <| .e 3 0 <|
 .o (.pnew 1 (.v 0) []) <|
 .o (.pnew 2 (.c (.agg #[.slice none 0 0, .slice none 0 0, .slice none 0 0])) []) .done) K90_4
@[simp] def WB_impl_Automaton_copyOf := C.w B_impl_Automaton_copyOf.eq_1
def R_impl_Automaton_copyOf : FIR := ⟨B_impl_Automaton_copyOf, 3, [(2, some (some 3))]⟩
theorem IR_impl_Automaton_copyOf : cfun Tryz.prog H_impl_Automaton_copyOf Tryz.f90 = some R_impl_Automaton_copyOf := by kernel_rfl
theorem EN_impl_Automaton_copyOf : ENT Tryz.prog B_impl_Automaton_copyOf [(2, some (some 3))] 1 3 fn_impl_Automaton_copyOf := fun hargs hw => enter Tryz.func90 rfl IR_impl_Automaton_copyOf hargs hw
def H_impl_Automaton_merge : Hint := ⟨[(0, false), (1, true), (2, true), (3, false), (4, false), (5, true), (6, false), (7, false), (8, false), (10, true), (11, true), (18, false), (19, false), (20, false), (55, false), (56, false), (57, false)], [[0, 3, 6, 7, 8, 9, 10, 14, 15, 16], [0, 1, 3, 6, 7, 9, 10, 11, 12, 13]]⟩
def K45_1 : Pl := .o (.pset none 2 0 3 (.v 18)) .done
@[simp] def W45_1 := Pl.w K45_1.eq_1
def K45_2 : C := .seq (.pl <| .e 17 2 <|
 .o (.pget (some 17) none 5 0 (some 3)) <|
 .c 18 (.call fn_impl_Automaton_copyOf [.v 17]) K45_1) (.ret)
@[simp] def W45_2 := C.w K45_2.eq_1
def K45_3 : C := .pl <| .e 17 1 <|
 .x 17 (.bin .add (.v 16) (.c (.int .i64 1))) <|
 .m 16 17 .done
@[simp] def W45_3 := C.w K45_3.eq_1
def K45_4 : Pl := .a 22 5 <|
 .o (.pset (some 22) 5 2 1 (.v 21)) .done
@[simp] def W45_4 := Pl.w K45_4.eq_1
def K45_5 : C := .pl <| .e 17 6 <|
 .a 17 5 <|
 .g 18 17 5 2 <|
 .o (.pget (some 19) none 10 0 (some 4)) <|
 .o (.psl 20 [.int .i64 0, .int .i64 0, .int .i64 0, .int .i64 0] [(0, 4, .v 19)]) <|
 .c 21 (.app 32 4 [.int .i64 0, .int .i64 0, .int .i64 0, .int .i64 0] (.o (.v 18)) (.p 1 20)) K45_4
@[simp] def W45_5 := C.w K45_5.eq_1
def K45_6 : C := .seq (.pl <| .e 17 2 <|
 .m 17 8 <|
 .o (.pget (some 18) none 10 0 (some 4)) <|
 .o (.ex none (.mput (.many [.i, .i, .i, .i]) (.v 17) (.v 18) (.c (.bool true)))) .done) K45_5
@[simp] def W45_6 := C.w K45_6.eq_1
def K45_7 : C := .cond 17 (.v 20) K45_6 (.skip)
@[simp] def W45_7 := C.w K45_7.eq_1
def K45_8 : Pl := .x 20 (.un .not (.v 19)) .done
@[simp] def W45_8 := Pl.w K45_8.eq_1
def K45_9 : C := .seq (.pl <| .e 17 4 <|
 .m 17 8 <|
 .o (.pget (some 18) none 10 0 (some 4)) <|
 .c 19 (.mget (.many [.i, .i, .i, .i]) (.bool false) false (.v 17) (.v 18)) K45_8) K45_7
@[simp] def W45_9 := C.w K45_9.eq_1
def K45_10 : C := .seq (.pl <| .e 17 15 <|
 .m 17 4 <|
 .a 18 9 <|
 .g 19 18 9 0 <|
 .x 20 (.ia 1 (.v 17) (.v 19)) <|
 .l 21 20 <|
 .a 22 9 <|
 .g 23 22 9 1 <|
 .a 24 9 <|
 .g 25 24 9 2 <|
 .m 26 4 <|
 .a 27 9 <|
 .g 28 27 9 3 <|
 .x 29 (.ia 1 (.v 26) (.v 28)) <|
 .l 30 29 <|
 .x 31 (.build [.int .i64 0, .int .i64 0, .int .i64 0, .int .i64 0] [(0, 1, .v 21), (1, 1, .v 23), (2, 1, .v 25), (3, 1, .v 30)]) <|
 .o (.pnew 10 (.c (.agg #[.int .i64 0, .int .i64 0, .int .i64 0, .int .i64 0])) []) <|
 .o (.pset none 10 0 4 (.v 31)) .done) K45_9
@[simp] def W45_10 := C.w K45_10.eq_1
def K45_11 : C := .seq (.block 3 (.seq (.pl <| .e 17 2 <|
 .x 17 (.ia 4 (.v 14) (.v 16)) <|
 .o (.ld (some 18) (.v 17) (some 4)) <|
 .o (.pnew 9 (.c (.agg #[.int .i64 0, .int .i64 0, .int .i64 0, .int .i64 0])) []) <|
 .o (.pset none 9 0 4 (.v 18)) .done) K45_10)) K45_3
@[simp] def W45_11 := C.w K45_11.eq_1
def K45_12 : C := .seq (.cond 17 (.v 17) (.skip) (.exit 2)) K45_11
@[simp] def W45_12 := C.w K45_12.eq_1
def K45_13 : C := .seq (.pl <| .e 17 1 <|
 .x 17 (.bin .lss (.v 16) (.v 15)) .done) K45_12
@[simp] def W45_13 := C.w K45_13.eq_1
def K45_14 : C := .block 2 (.loop 17 [0, 1, 3, 6, 7, 9, 10, 11, 12, 13] K45_13)
@[simp] def W45_14 := C.w K45_14.eq_1
def K45_15 : C := .seq (.seq (.pl <| .e 17 1 <|
 .a 17 1 <|
 .g 14 17 1 2 <|
 .x 15 (.lenV (.v 14)) <|
 .x 16 (.mv (.c (.int .i64 0))) .done) K45_14) K45_2
@[simp] def W45_15 := C.w K45_15.eq_1
def K45_16 : Pl := .m 8 17 .done
@[simp] def W45_16 := Pl.w K45_16.eq_1
def K45_17 : C := .seq (.pl <| .e 17 1 <|
 .c 17 (.mkm) K45_16) K45_15
@[simp] def W45_17 := C.w K45_17.eq_1
def K45_18 : Pl := .a 20 5 <|
 .o (.pset (some 20) 5 0 1 (.v 19)) .done
@[simp] def W45_18 := Pl.w K45_18.eq_1
def K45_19 : C := .seq (.pl <| .e 17 4 <|
 .a 17 5 <|
 .g 18 17 5 0 <|
 .c 19 (.call fn_slices_Compact_S_int_int [.v 18]) K45_18) K45_17
@[simp] def W45_19 := C.w K45_19.eq_1
def K45_20 : C := .seq (.pl <| .e 17 3 <|
 .a 17 5 <|
 .g 18 17 5 0 <|
 .c 19 (.call fn_slices_Sort_S_int_int [.v 18]) .done) K45_19
@[simp] def W45_20 := C.w K45_20.eq_1
def K45_21 : Pl := .a 21 5 <|
 .o (.pset (some 21) 5 0 1 (.v 20)) .done
@[simp] def W45_21 := Pl.w K45_21.eq_1
def K45_22 : C := .seq (.pl <| .e 17 5 <|
 .m 17 4 <|
 .a 18 1 <|
 .g 19 18 1 0 <|
 .c 20 (.call fn_impl_picked [.v 17, .v 19]) K45_21) K45_20
@[simp] def W45_22 := C.w K45_22.eq_1
def K45_23 : C := .pl <| .e 17 1 <|
 .x 17 (.bin .add (.v 13) (.c (.int .i64 1))) <|
 .m 13 17 .done
@[simp] def W45_23 := C.w K45_23.eq_1
def K45_24 : Pl := .a 26 5 <|
 .o (.pset (some 26) 5 1 1 (.v 25)) .done
@[simp] def W45_24 := Pl.w K45_24.eq_1
def K45_25 : C := .pl <| .e 17 10 <|
 .a 17 5 <|
 .g 18 17 5 1 <|
 .a 19 1 <|
 .g 20 19 1 1 <|
 .m 21 6 <|
 .x 22 (.ia 1 (.v 20) (.v 21)) <|
 .l 23 22 <|
 .o (.psl 24 [.bool false] [(0, 1, .v 23)]) <|
 .c 25 (.app 1 1 [.bool false] (.o (.v 18)) (.p 1 24)) K45_24
@[simp] def W45_25 := C.w K45_25.eq_1
def K45_26 : C := .cond 17 (.v 21) K45_25 (.skip)
@[simp] def W45_26 := C.w K45_26.eq_1
def K45_27 : C := .seq (.pl <| .e 17 5 <|
 .m 17 7 <|
 .a 18 5 <|
 .g 19 18 5 1 <|
 .x 20 (.lenV (.v 19)) <|
 .x 21 (.bin .eql (.v 17) (.v 20)) .done) K45_26
@[simp] def W45_27 := C.w K45_27.eq_1
def K45_28 : C := .seq (.block 1 (.seq (.pl <| .e 17 3 <|
 .m 17 13 <|
 .x 18 (.ia 1 (.v 11) (.v 13)) <|
 .l 19 18 <|
 .m 6 17 <|
 .m 7 19 .done) K45_27)) K45_23
@[simp] def W45_28 := C.w K45_28.eq_1
def K45_29 : C := .seq (.cond 17 (.v 17) (.skip) (.exit 0)) K45_28
@[simp] def W45_29 := C.w K45_29.eq_1
def K45_30 : C := .seq (.pl <| .e 17 1 <|
 .x 17 (.bin .lss (.v 13) (.v 12)) .done) K45_29
@[simp] def W45_30 := C.w K45_30.eq_1
def K45_31 : C := .block 0 (.loop 17 [0, 3, 6, 7, 8, 9, 10, 14, 15, 16] K45_30)
@[simp] def W45_31 := C.w K45_31.eq_1
def K45_32 : C := .seq (.seq (.pl <| .e 17 0 <|
 .m 11 4 <|
 .x 12 (.lenV (.v 11)) <|
 .x 13 (.mv (.c (.int .i64 0))) .done) K45_31) K45_22
@[simp] def W45_32 := C.w K45_32.eq_1
def K45_33 : C := .seq (.pl <| .e 17 0 <|
 .o (.pnew 5 (.c (.agg #[.slice none 0 0, .slice none 0 0, .slice none 0 0])) []) .done) K45_32
@[simp] def W45_33 := C.w K45_33.eq_1
def K45_34 : Pl := .m 4 20 .done
@[simp] def W45_34 := Pl.w K45_34.eq_1
def K45_35 : C := .seq (.pl <| .e 17 4 <|
 .l 17 3 <|
 .x 18 (.lenV (.v 17)) <|
 .x 19 (.mkf (.func fn_impl_Automaton_merge_1) [] [.v 3]) <|
 .c 20 (.call fn_impl_grouped [.v 18, .v 19]) K45_34) K45_33
@[simp] def W45_35 := C.w K45_35.eq_1
def K45_36 : Pl := .o (.ex none (.store 1 (.v 3) (.v 18))) .done
@[simp] def W45_36 := Pl.w K45_36.eq_1
def K45_37 : Pl := .c 3 (.alloc (.c (.slice none 0 0))) K45_36
@[simp] def W45_37 := Pl.w K45_37.eq_1
def K45_38 : C := .seq (.pl <| .e 17 2 <|
 .o (.pget (some 17) none 1 0 (some 3)) <|
 .c 18 (.call fn_impl_Automaton_simulation [.v 17]) K45_37) K45_35
@[simp] def W45_38 := C.w K45_38.eq_1
def B_impl_Automaton_merge : C := .seq (.pl <| .e 17 0 <|
 .o (.pnew 1 (.v 0) []) <|
 .o (.pnew 2 (.c (.agg #[.slice none 0 0, .slice none 0 0, .slice none 0 0])) []) .done) K45_38
@[simp] def WB_impl_Automaton_merge := C.w B_impl_Automaton_merge.eq_1
def R_impl_Automaton_merge : FIR := ⟨B_impl_Automaton_merge, 17, [(2, some (some 3))]⟩
theorem IR_impl_Automaton_merge : cfun Tryz.prog H_impl_Automaton_merge Tryz.f45 = some R_impl_Automaton_merge := by kernel_rfl
theorem EN_impl_Automaton_merge : ENT Tryz.prog B_impl_Automaton_merge [(2, some (some 3))] 1 17 fn_impl_Automaton_merge := fun hargs hw => enter Tryz.func45 rfl IR_impl_Automaton_merge hargs hw
def H_impl_Automaton_merge_1 : Hint := ⟨[(0, false), (1, false), (2, false), (5, false)], []⟩
def K86_1 : C := .seq (.pl <| .e 4 18 <|
 .l 4 2 <|
 .m 5 0 <|
 .x 6 (.ia 1 (.v 4) (.v 5)) <|
 .l 7 6 <|
 .m 8 1 <|
 .x 9 (.bin .shr (.v 7) (.v 8)) <|
 .x 10 (.bin .and (.v 9) (.c (.int .u64 1))) <|
 .x 11 (.bin .eql (.v 10) (.c (.int .u64 1))) <|
 .m 12 11 <|
 .y 12 (.ld (some 13) (.v 2) none) <|
 .y 12 (.px (some 14) (.mv (.v 1))) <|
 .y 12 (.px (some 15) (.ia 1 (.v 13) (.v 14))) <|
 .y 12 (.ld (some 16) (.v 15) none) <|
 .y 12 (.px (some 17) (.mv (.v 0))) <|
 .y 12 (.px (some 18) (.bin .shr (.v 16) (.v 17))) <|
 .y 12 (.px (some 19) (.bin .and (.v 18) (.c (.int .u64 1)))) <|
 .y 12 (.px (some 20) (.bin .eql (.v 19) (.c (.int .u64 1)))) <|
 .x 21 (.pick (.v 12) (.v 20) (.c (.bool false))) <|
 .m 3 21 .done) (.ret)
@[simp] def W86_1 := C.w K86_1.eq_1
def B_impl_Automaton_merge_1 : C := .seq (.pl <| .e 4 0 <|
 .x 3 (.mv (.c (.bool false))) .done) K86_1
@[simp] def WB_impl_Automaton_merge_1 := C.w B_impl_Automaton_merge_1.eq_1
def R_impl_Automaton_merge_1 : FIR := ⟨B_impl_Automaton_merge_1, 4, [(3, none)]⟩
theorem IR_impl_Automaton_merge_1 : cfun Tryz.prog H_impl_Automaton_merge_1 Tryz.f86 = some R_impl_Automaton_merge_1 := by kernel_rfl
theorem EN_impl_Automaton_merge_1 : ENT Tryz.prog B_impl_Automaton_merge_1 [(3, none)] 3 4 fn_impl_Automaton_merge_1 := fun hargs hw => enter Tryz.func86 rfl IR_impl_Automaton_merge_1 hargs hw
def H_impl_Automaton_simulation : Hint := ⟨[(0, false), (1, true), (2, false), (3, false), (4, false), (6, true), (7, false), (8, false), (9, false), (10, false), (11, false), (12, false), (13, false), (14, false), (21, false), (22, false), (23, false), (27, false), (51, false), (52, false), (55, false), (56, false), (84, false), (85, false), (88, false), (89, false)], [[0, 2, 5, 6, 7, 8, 9, 10, 11, 12, 13, 17, 18, 19, 20, 21, 22, 23, 24, 25], [0, 2, 6, 7, 8, 9, 10, 11, 12, 13, 18, 19, 20, 21, 22, 23, 24, 25], [0, 2, 5, 6, 8, 9, 10, 11, 12, 13, 14, 15, 16, 17, 20, 21, 22, 23, 24, 25], [0, 2, 5, 6, 9, 10, 11, 12, 13, 14, 15, 16, 17, 22, 23, 24, 25], [0, 1, 2, 4, 5, 6, 8, 9, 12, 13, 14, 15, 16, 17, 18, 19, 20, 21, 22, 23, 24, 25], [0, 1, 2, 4, 5, 6, 8, 9, 12, 13, 14, 15, 16, 17, 18, 19, 20, 21, 24, 25], [0, 1, 2, 4, 5, 6, 8, 9, 13, 14, 15, 16, 17, 18, 19, 20, 21]]⟩
def K84_1 : C := .seq (.pl <| .e 26 1 <|
 .l 26 7 <|
 .m 2 26 .done) (.ret)
@[simp] def W84_1 := C.w K84_1.eq_1
def K84_2 : C := .pl <| .e 26 1 <|
 .x 26 (.bin .add (.v 23) (.c (.int .i64 1))) <|
 .m 23 26 .done
@[simp] def W84_2 := C.w K84_2.eq_1
def K84_3 : C := .pl <| .e 26 1 <|
 .x 26 (.bin .add (.v 25) (.c (.int .i64 1))) <|
 .m 25 26 .done
@[simp] def W84_3 := C.w K84_3.eq_1
def K84_4 : C := .pl <| .e 26 0 <|
 .x 11 (.mv (.c (.bool true))) .done
@[simp] def W84_4 := C.w K84_4.eq_1
def K84_5 : C := .seq (.pl <| .e 26 8 <|
 .l 26 7 <|
 .m 27 12 <|
 .x 28 (.ia 1 (.v 26) (.v 27)) <|
 .l 29 28 <|
 .m 30 13 <|
 .x 31 (.bin .shl (.c (.int .u64 1)) (.v 30)) <|
 .x 32 (.bin .andNot (.v 29) (.v 31)) <|
 .x 33 (.ia 1 (.v 26) (.v 27)) <|
 .o (.ex none (.store 1 (.v 33) (.v 32))) .done) K84_4
@[simp] def W84_5 := C.w K84_5.eq_1
def K84_6 : C := .cond 26 (.v 40) K84_5 (.skip)
@[simp] def W84_6 := C.w K84_6.eq_1
def K84_7 : Pl := .y 34 (.px (some 39) (.un .not (.v 38))) <|
 .x 40 (.pick (.v 34) (.v 39) (.c (.bool false))) .done
@[simp] def W84_7 := Pl.w K84_7.eq_1
def K84_8 : C := .seq (.pl <| .e 26 15 <|
 .l 26 7 <|
 .m 27 12 <|
 .x 28 (.ia 1 (.v 26) (.v 27)) <|
 .l 29 28 <|
 .m 30 13 <|
 .x 31 (.bin .shr (.v 29) (.v 30)) <|
 .x 32 (.bin .and (.v 31) (.c (.int .u64 1))) <|
 .x 33 (.bin .eql (.v 32) (.c (.int .u64 1))) <|
 .m 34 33 <|
 .y 34 (.px (some 35) (.mv (.v 10))) <|
 .y 34 (.px (some 36) (.mv (.v 13))) <|
 .y 34 (.px (some 37) (.mv (.v 12))) <|
 .st (.act (some (.v 34, true)) (.ex (some 38) (.callv (.v 35) [.v 36, .v 37]))) K84_7) K84_6
@[simp] def W84_8 := C.w K84_8.eq_1
def K84_9 : C := .seq (.block 13 (.seq (.pl <| .e 26 1 <|
 .m 26 25 <|
 .m 13 26 .done) K84_8)) K84_3
@[simp] def W84_9 := C.w K84_9.eq_1
def K84_10 : C := .seq (.cond 26 (.v 26) (.skip) (.exit 12)) K84_9
@[simp] def W84_10 := C.w K84_10.eq_1
def K84_11 : C := .seq (.pl <| .e 26 1 <|
 .x 26 (.bin .lss (.v 25) (.v 24)) .done) K84_10
@[simp] def W84_11 := C.w K84_11.eq_1
def K84_12 : C := .block 12 (.loop 26 [0, 1, 2, 4, 5, 6, 8, 9, 13, 14, 15, 16, 17, 18, 19, 20, 21] K84_11)
@[simp] def W84_12 := C.w K84_12.eq_1
def K84_13 : C := .seq (.pl <| .e 26 0 <|
 .l 24 3 <|
 .x 25 (.mv (.c (.int .i64 0))) .done) K84_12
@[simp] def W84_13 := C.w K84_13.eq_1
def K84_14 : C := .seq (.block 11 (.seq (.pl <| .e 26 1 <|
 .m 26 23 <|
 .m 12 26 .done) K84_13)) K84_2
@[simp] def W84_14 := C.w K84_14.eq_1
def K84_15 : C := .seq (.cond 26 (.v 26) (.skip) (.exit 10)) K84_14
@[simp] def W84_15 := C.w K84_15.eq_1
def K84_16 : C := .seq (.pl <| .e 26 1 <|
 .x 26 (.bin .lss (.v 23) (.v 22)) .done) K84_15
@[simp] def W84_16 := C.w K84_16.eq_1
def K84_17 : C := .block 10 (.loop 26 [0, 1, 2, 4, 5, 6, 8, 9, 12, 13, 14, 15, 16, 17, 18, 19, 20, 21, 24, 25] K84_16)
@[simp] def W84_17 := C.w K84_17.eq_1
def K84_18 : C := .seq (.pl <| .e 26 0 <|
 .l 22 3 <|
 .x 23 (.mv (.c (.int .i64 0))) .done) K84_17
@[simp] def W84_18 := C.w K84_18.eq_1
def K84_19 : C := .block 9 (.seq (.pl <| .e 26 0 <|
 .x 11 (.mv (.c (.bool false))) .done) K84_18)
@[simp] def W84_19 := C.w K84_19.eq_1
def K84_20 : C := .cond 26 (.v 26) (.skip) (.exit 8)
@[simp] def W84_20 := C.w K84_20.eq_1
def K84_21 : C := .seq (.seq (.pl <| .e 26 1 <|
 .m 26 11 .done) K84_20) K84_19
@[simp] def W84_21 := C.w K84_21.eq_1
def K84_22 : C := .block 8 (.loop 26 [0, 1, 2, 4, 5, 6, 8, 9, 12, 13, 14, 15, 16, 17, 18, 19, 20, 21, 22, 23, 24, 25] K84_21)
@[simp] def W84_22 := C.w K84_22.eq_1
def K84_23 : C := .seq (.seq (.pl <| .e 26 0 <|
 .x 11 (.mv (.c (.bool true))) .done) K84_22) K84_1
@[simp] def W84_23 := C.w K84_23.eq_1
def K84_24 : C := .seq (.pl <| .e 26 1 <|
 .x 26 (.mkf (.func fn_impl_Automaton_simulation_1) [] [.v 3, .v 4, .v 7]) <|
 .m 10 26 .done) K84_23
@[simp] def W84_24 := C.w K84_24.eq_1
def K84_25 : C := .pl <| .e 26 1 <|
 .x 26 (.bin .add (.v 19) (.c (.int .i64 1))) <|
 .m 19 26 .done
@[simp] def W84_25 := C.w K84_25.eq_1
def K84_26 : C := .pl <| .e 26 1 <|
 .x 26 (.bin .add (.v 21) (.c (.int .i64 1))) <|
 .m 21 26 .done
@[simp] def W84_26 := C.w K84_26.eq_1
def K84_27 : C := .pl <| .e 26 8 <|
 .l 26 7 <|
 .m 27 8 <|
 .x 28 (.ia 1 (.v 26) (.v 27)) <|
 .l 29 28 <|
 .m 30 9 <|
 .x 31 (.bin .shl (.c (.int .u64 1)) (.v 30)) <|
 .x 32 (.bin .or (.v 29) (.v 31)) <|
 .x 33 (.ia 1 (.v 26) (.v 27)) <|
 .o (.ex none (.store 1 (.v 33) (.v 32))) .done
@[simp] def W84_27 := C.w K84_27.eq_1
def K84_28 : C := .cond 26 (.v 38) K84_27 (.skip)
@[simp] def W84_28 := C.w K84_28.eq_1
def K84_29 : C := .seq (.pl <| .e 26 13 <|
 .a 26 1 <|
 .g 27 26 1 1 <|
 .m 28 9 <|
 .x 29 (.ia 1 (.v 27) (.v 28)) <|
 .l 30 29 <|
 .m 31 30 <|
 .n 31 (.als 32 none 1) <|
 .n 31 (.pget (some 33) (some 32) 1 1 none) <|
 .n 31 (.px (some 34) (.mv (.v 8))) <|
 .n 31 (.px (some 35) (.ia 1 (.v 33) (.v 34))) <|
 .n 31 (.ld (some 36) (.v 35) none) <|
 .n 31 (.px (some 37) (.un .not (.v 36))) <|
 .x 38 (.pick (.v 31) (.c (.bool true)) (.v 37)) .done) K84_28
@[simp] def W84_29 := C.w K84_29.eq_1
def K84_30 : C := .seq (.block 7 (.seq (.pl <| .e 26 1 <|
 .m 26 21 <|
 .m 9 26 .done) K84_29)) K84_26
@[simp] def W84_30 := C.w K84_30.eq_1
def K84_31 : C := .seq (.cond 26 (.v 26) (.skip) (.exit 6)) K84_30
@[simp] def W84_31 := C.w K84_31.eq_1
def K84_32 : C := .seq (.pl <| .e 26 1 <|
 .x 26 (.bin .lss (.v 21) (.v 20)) .done) K84_31
@[simp] def W84_32 := C.w K84_32.eq_1
def K84_33 : C := .block 6 (.loop 26 [0, 2, 5, 6, 9, 10, 11, 12, 13, 14, 15, 16, 17, 22, 23, 24, 25] K84_32)
@[simp] def W84_33 := C.w K84_33.eq_1
def K84_34 : C := .seq (.pl <| .e 26 0 <|
 .l 20 3 <|
 .x 21 (.mv (.c (.int .i64 0))) .done) K84_33
@[simp] def W84_34 := C.w K84_34.eq_1
def K84_35 : C := .seq (.block 5 (.seq (.pl <| .e 26 1 <|
 .m 26 19 <|
 .m 8 26 .done) K84_34)) K84_25
@[simp] def W84_35 := C.w K84_35.eq_1
def K84_36 : C := .seq (.cond 26 (.v 26) (.skip) (.exit 4)) K84_35
@[simp] def W84_36 := C.w K84_36.eq_1
def K84_37 : C := .seq (.pl <| .e 26 1 <|
 .x 26 (.bin .lss (.v 19) (.v 18)) .done) K84_36
@[simp] def W84_37 := C.w K84_37.eq_1
def K84_38 : C := .block 4 (.loop 26 [0, 2, 5, 6, 8, 9, 10, 11, 12, 13, 14, 15, 16, 17, 20, 21, 22, 23, 24, 25] K84_37)
@[simp] def W84_38 := C.w K84_38.eq_1
def K84_39 : C := .seq (.seq (.pl <| .e 26 1 <|
 .l 26 7 <|
 .x 18 (.lenV (.v 26)) <|
 .x 19 (.mv (.c (.int .i64 0))) .done) K84_38) K84_24
@[simp] def W84_39 := C.w K84_39.eq_1
def K84_40 : Pl := .o (.ex none (.store 1 (.v 7) (.v 27))) .done
@[simp] def W84_40 := Pl.w K84_40.eq_1
def K84_41 : Pl := .c 7 (.alloc (.c (.slice none 0 0))) K84_40
@[simp] def W84_41 := Pl.w K84_41.eq_1
def K84_42 : C := .seq (.pl <| .e 26 2 <|
 .l 26 3 <|
 .c 27 (.mks 8 1 [.int .u64 0] (.v 26) (.v 26)) K84_41) K84_39
@[simp] def W84_42 := C.w K84_42.eq_1
def K84_43 : C := .pl <| .e 26 1 <|
 .x 26 (.bin .add (.v 16) (.c (.int .i64 1))) <|
 .m 16 26 .done
@[simp] def W84_43 := C.w K84_43.eq_1
def K84_44 : C := .pl <| .e 26 1 <|
 .x 26 (.bin .add (.v 17) (.c (.int .i64 1))) <|
 .m 17 26 .done
@[simp] def W84_44 := C.w K84_44.eq_1
def K84_45 : C := .pl <| .e 26 13 <|
 .l 26 4 <|
 .a 27 5 <|
 .g 28 27 5 0 <|
 .m 29 6 <|
 .x 30 (.ia 8 (.v 26) (.v 28)) <|
 .x 31 (.iaA 8 1 (.v 30) (.v 29)) <|
 .l 32 31 <|
 .a 33 5 <|
 .g 34 33 5 3 <|
 .x 35 (.bin .shl (.c (.int .u64 1)) (.v 34)) <|
 .x 36 (.bin .or (.v 32) (.v 35)) <|
 .x 37 (.ia 8 (.v 26) (.v 28)) <|
 .x 38 (.iaA 8 1 (.v 37) (.v 29)) <|
 .o (.ex none (.store 1 (.v 38) (.v 36))) .done
@[simp] def W84_45 := C.w K84_45.eq_1
def K84_46 : C := .cond 26 (.v 28) K84_45 (.skip)
@[simp] def W84_46 := C.w K84_46.eq_1
def K84_47 : C := .seq (.pl <| .e 26 3 <|
 .o (.pget (some 26) none 5 0 (some 4)) <|
 .m 27 6 <|
 .c 28 (.call fn_impl_Transition_takes [.v 26, .v 27]) .done) K84_46
@[simp] def W84_47 := C.w K84_47.eq_1
def K84_48 : C := .seq (.block 3 (.seq (.pl <| .e 26 1 <|
 .m 26 17 <|
 .m 6 26 .done) K84_47)) K84_44
@[simp] def W84_48 := C.w K84_48.eq_1
def K84_49 : C := .seq (.cond 26 (.v 26) (.skip) (.exit 2)) K84_48
@[simp] def W84_49 := C.w K84_49.eq_1
def K84_50 : C := .seq (.pl <| .e 26 1 <|
 .x 26 (.bin .lss (.v 17) (.c (.int .i64 8))) .done) K84_49
@[simp] def W84_50 := C.w K84_50.eq_1
def K84_51 : C := .block 2 (.loop 26 [0, 2, 6, 7, 8, 9, 10, 11, 12, 13, 18, 19, 20, 21, 22, 23, 24, 25] K84_50)
@[simp] def W84_51 := C.w K84_51.eq_1
def K84_52 : C := .seq (.pl <| .e 26 0 <|
 .x 17 (.mv (.c (.int .i64 0))) .done) K84_51
@[simp] def W84_52 := C.w K84_52.eq_1
def K84_53 : C := .seq (.block 1 (.seq (.pl <| .e 26 2 <|
 .x 26 (.ia 4 (.v 14) (.v 16)) <|
 .o (.ld (some 27) (.v 26) (some 4)) <|
 .o (.pnew 5 (.c (.agg #[.int .i64 0, .int .i64 0, .int .i64 0, .int .i64 0])) []) <|
 .o (.pset none 5 0 4 (.v 27)) .done) K84_52)) K84_43
@[simp] def W84_53 := C.w K84_53.eq_1
def K84_54 : C := .seq (.cond 26 (.v 26) (.skip) (.exit 0)) K84_53
@[simp] def W84_54 := C.w K84_54.eq_1
def K84_55 : C := .seq (.pl <| .e 26 1 <|
 .x 26 (.bin .lss (.v 16) (.v 15)) .done) K84_54
@[simp] def W84_55 := C.w K84_55.eq_1
def K84_56 : C := .block 0 (.loop 26 [0, 2, 5, 6, 7, 8, 9, 10, 11, 12, 13, 17, 18, 19, 20, 21, 22, 23, 24, 25] K84_55)
@[simp] def W84_56 := C.w K84_56.eq_1
def K84_57 : C := .seq (.seq (.pl <| .e 26 1 <|
 .a 26 1 <|
 .g 14 26 1 2 <|
 .x 15 (.lenV (.v 14)) <|
 .x 16 (.mv (.c (.int .i64 0))) .done) K84_56) K84_42
@[simp] def W84_57 := C.w K84_57.eq_1
def K84_58 : Pl := .o (.ex none (.store 1 (.v 4) (.v 27))) .done
@[simp] def W84_58 := Pl.w K84_58.eq_1
def K84_59 : Pl := .c 4 (.alloc (.c (.slice none 0 0))) K84_58
@[simp] def W84_59 := Pl.w K84_59.eq_1
def K84_60 : C := .seq (.pl <| .e 26 2 <|
 .l 26 3 <|
 .c 27 (.mks 64 8 [.int .u64 0, .int .u64 0, .int .u64 0, .int .u64 0, .int .u64 0, .int .u64 0, .int .u64 0, .int .u64 0] (.v 26) (.v 26)) K84_59) K84_57
@[simp] def W84_60 := C.w K84_60.eq_1
def K84_61 : Pl := .o (.ex none (.store 1 (.v 3) (.v 28))) .done
@[simp] def W84_61 := Pl.w K84_61.eq_1
def K84_62 : C := .seq (.pl <| .e 26 3 <|
 .a 26 1 <|
 .g 27 26 1 1 <|
 .x 28 (.lenV (.v 27)) <|
 .c 3 (.alloc (.c (.int .i64 0))) K84_61) K84_60
@[simp] def W84_62 := C.w K84_62.eq_1
def B_impl_Automaton_simulation : C := .seq (.pl <| .e 26 0 <|
 .o (.pnew 1 (.v 0) []) <|
 .x 2 (.mv (.c (.slice none 0 0))) .done) K84_62
@[simp] def WB_impl_Automaton_simulation := C.w B_impl_Automaton_simulation.eq_1
def R_impl_Automaton_simulation : FIR := ⟨B_impl_Automaton_simulation, 26, [(2, none)]⟩
theorem IR_impl_Automaton_simulation : cfun Tryz.prog H_impl_Automaton_simulation Tryz.f84 = some R_impl_Automaton_simulation := by kernel_rfl
theorem EN_impl_Automaton_simulation : ENT Tryz.prog B_impl_Automaton_simulation [(2, none)] 1 26 fn_impl_Automaton_simulation := fun hargs hw => enter Tryz.func84 rfl IR_impl_Automaton_simulation hargs hw
def H_impl_Automaton_simulation_1 : Hint := ⟨[(0, false), (1, false), (2, false), (3, false), (4, false), (7, false), (8, false), (9, false), (10, false), (13, false), (14, false)], [[5, 6, 7, 9, 10], [5, 7]]⟩
def K125_1 : C := .seq (.pl <| .e 11 0 <|
 .x 5 (.mv (.c (.bool true))) .done) (.ret)
@[simp] def W125_1 := C.w K125_1.eq_1
def K125_2 : C := .pl <| .e 11 1 <|
 .x 11 (.bin .add (.v 8) (.c (.int .i64 1))) <|
 .m 8 11 .done
@[simp] def W125_2 := C.w K125_2.eq_1
def K125_3 : C := .pl <| .e 11 1 <|
 .x 11 (.bin .add (.v 10) (.c (.int .i64 1))) <|
 .m 10 11 .done
@[simp] def W125_3 := C.w K125_3.eq_1
def K125_4 : C := .seq (.pl <| .e 11 0 <|
 .x 5 (.mv (.c (.bool false))) .done) (.ret)
@[simp] def W125_4 := C.w K125_4.eq_1
def K125_5 : C := .cond 11 (.v 34) K125_4 (.skip)
@[simp] def W125_5 := C.w K125_5.eq_1
def K125_6 : C := .seq (.pl <| .e 11 24 <|
 .l 11 3 <|
 .m 12 1 <|
 .m 13 6 <|
 .x 14 (.ia 8 (.v 11) (.v 12)) <|
 .x 15 (.iaA 8 1 (.v 14) (.v 13)) <|
 .l 16 15 <|
 .m 17 7 <|
 .x 18 (.bin .shr (.v 16) (.v 17)) <|
 .x 19 (.bin .and (.v 18) (.c (.int .u64 1))) <|
 .x 20 (.bin .eql (.v 19) (.c (.int .u64 1))) <|
 .m 21 20 <|
 .y 21 (.ld (some 22) (.v 3) none) <|
 .y 21 (.px (some 23) (.mv (.v 0))) <|
 .y 21 (.px (some 24) (.mv (.v 6))) <|
 .y 21 (.px (some 25) (.ia 8 (.v 22) (.v 23))) <|
 .y 21 (.px (some 26) (.iaA 8 1 (.v 25) (.v 24))) <|
 .y 21 (.ld (some 27) (.v 26) none) <|
 .y 21 (.ld (some 28) (.v 4) none) <|
 .y 21 (.px (some 29) (.mv (.v 7))) <|
 .y 21 (.px (some 30) (.ia 1 (.v 28) (.v 29))) <|
 .y 21 (.ld (some 31) (.v 30) none) <|
 .y 21 (.px (some 32) (.bin .and (.v 27) (.v 31))) <|
 .y 21 (.px (some 33) (.bin .eql (.v 32) (.c (.int .u64 0)))) <|
 .x 34 (.pick (.v 21) (.v 33) (.c (.bool false))) .done) K125_5
@[simp] def W125_6 := C.w K125_6.eq_1
def K125_7 : C := .seq (.block 3 (.seq (.pl <| .e 11 1 <|
 .m 11 10 <|
 .m 7 11 .done) K125_6)) K125_3
@[simp] def W125_7 := C.w K125_7.eq_1
def K125_8 : C := .seq (.cond 11 (.v 11) (.skip) (.exit 2)) K125_7
@[simp] def W125_8 := C.w K125_8.eq_1
def K125_9 : C := .seq (.pl <| .e 11 1 <|
 .x 11 (.bin .lss (.v 10) (.v 9)) .done) K125_8
@[simp] def W125_9 := C.w K125_9.eq_1
def K125_10 : C := .block 2 (.loop 11 [5, 7] K125_9)
@[simp] def W125_10 := C.w K125_10.eq_1
def K125_11 : C := .seq (.pl <| .e 11 0 <|
 .l 9 2 <|
 .x 10 (.mv (.c (.int .i64 0))) .done) K125_10
@[simp] def W125_11 := C.w K125_11.eq_1
def K125_12 : C := .seq (.block 1 (.seq (.pl <| .e 11 1 <|
 .m 11 8 <|
 .m 6 11 .done) K125_11)) K125_2
@[simp] def W125_12 := C.w K125_12.eq_1
def K125_13 : C := .seq (.cond 11 (.v 11) (.skip) (.exit 0)) K125_12
@[simp] def W125_13 := C.w K125_13.eq_1
def K125_14 : C := .seq (.pl <| .e 11 1 <|
 .x 11 (.bin .lss (.v 8) (.c (.int .i64 8))) .done) K125_13
@[simp] def W125_14 := C.w K125_14.eq_1
def K125_15 : C := .block 0 (.loop 11 [5, 6, 7, 9, 10] K125_14)
@[simp] def W125_15 := C.w K125_15.eq_1
def K125_16 : C := .seq (.seq (.pl <| .e 11 0 <|
 .x 8 (.mv (.c (.int .i64 0))) .done) K125_15) K125_1
@[simp] def W125_16 := C.w K125_16.eq_1
def B_impl_Automaton_simulation_1 : C := .seq (.pl <| .e 11 0 <|
 .x 5 (.mv (.c (.bool false))) .done) K125_16
@[simp] def WB_impl_Automaton_simulation_1 := C.w B_impl_Automaton_simulation_1.eq_1
def R_impl_Automaton_simulation_1 : FIR := ⟨B_impl_Automaton_simulation_1, 11, [(5, none)]⟩
theorem IR_impl_Automaton_simulation_1 : cfun Tryz.prog H_impl_Automaton_simulation_1 Tryz.f125 = some R_impl_Automaton_simulation_1 := by kernel_rfl
theorem EN_impl_Automaton_simulation_1 : ENT Tryz.prog B_impl_Automaton_simulation_1 [(5, none)] 5 11 fn_impl_Automaton_simulation_1 := fun hargs hw => enter Tryz.func125 rfl IR_impl_Automaton_simulation_1 hargs hw
def H_impl_clone_bool : Hint := ⟨[(0, false), (2, false)], []⟩
def K128_1 : Pl := .m 1 4 .done
@[simp] def W128_1 := Pl.w K128_1.eq_1
def K128_2 : Pl := .c 4 (.call fn_slices_Clip_S_bool_bool [.v 3]) K128_1
@[simp] def W128_2 := Pl.w K128_2.eq_1
def K128_3 : C := .seq (.pl <| .e 2 3 <|
 .m 2 0 <|
 .c 3 (.call fn_slices_Clone_S_bool_bool [.v 2]) K128_2) (.ret)
@[simp] def W128_3 := C.w K128_3.eq_1
def B_impl_clone_bool : C := .seq (.pl <| .e 2 0 <|
 .x 1 (.mv (.c (.slice none 0 0))) .done) K128_3
@[simp] def WB_impl_clone_bool := C.w B_impl_clone_bool.eq_1
def R_impl_clone_bool : FIR := ⟨B_impl_clone_bool, 2, [(1, none)]⟩
theorem IR_impl_clone_bool : cfun Tryz.prog H_impl_clone_bool Tryz.f128 = some R_impl_clone_bool := by kernel_rfl
theorem EN_impl_clone_bool : ENT Tryz.prog B_impl_clone_bool [(1, none)] 1 2 fn_impl_clone_bool := fun hargs hw => enter Tryz.func128 rfl IR_impl_clone_bool hargs hw
def H_impl_clone_impl_Transition : Hint := ⟨[(0, false), (2, false)], []⟩
def K129_1 : Pl := .m 1 4 .done
@[simp] def W129_1 := Pl.w K129_1.eq_1
def K129_2 : Pl := .c 4 (.call fn_slices_Clip_S_impl_Transition_impl_Transition [.v 3]) K129_1
@[simp] def W129_2 := Pl.w K129_2.eq_1
def K129_3 : C := .seq (.pl <| .e 2 3 <|
 .m 2 0 <|
 .c 3 (.call fn_slices_Clone_S_impl_Transition_impl_Transition [.v 2]) K129_2) (.ret)
@[simp] def W129_3 := C.w K129_3.eq_1
def B_impl_clone_impl_Transition : C := .seq (.pl <| .e 2 0 <|
 .x 1 (.mv (.c (.slice none 0 0))) .done) K129_3
@[simp] def WB_impl_clone_impl_Transition := C.w B_impl_clone_impl_Transition.eq_1
def R_impl_clone_impl_Transition : FIR := ⟨B_impl_clone_impl_Transition, 2, [(1, none)]⟩
theorem IR_impl_clone_impl_Transition : cfun Tryz.prog H_impl_clone_impl_Transition Tryz.f129 = some R_impl_clone_impl_Transition := by kernel_rfl
theorem EN_impl_clone_impl_Transition : ENT Tryz.prog B_impl_clone_impl_Transition [(1, none)] 1 2 fn_impl_clone_impl_Transition := fun hargs hw => enter Tryz.func129 rfl IR_impl_clone_impl_Transition hargs hw
def H_impl_grouped : Hint := ⟨[(0, false), (1, false), (4, false), (5, false), (6, false), (7, false), (8, false), (12, false), (13, false), (20, false), (21, false)], [[0, 2, 5, 6, 9, 10], [0, 2, 6]]⟩
def K85_1 : C := .seq (.pl <| .e 11 1 <|
 .m 11 3 <|
 .m 2 11 .done) (.ret)
@[simp] def W85_1 := C.w K85_1.eq_1
def K85_2 : C := .pl <| .e 11 1 <|
 .x 11 (.bin .add (.v 8) (.c (.int .i64 1))) <|
 .m 8 11 .done
@[simp] def W85_2 := C.w K85_2.eq_1
def K85_3 : C := .pl <| .e 11 2 <|
 .m 11 4 <|
 .x 12 (.bin .add (.v 11) (.c (.int .i64 1))) <|
 .m 4 12 .done
@[simp] def W85_3 := C.w K85_3.eq_1
def K85_4 : C := .cond 11 (.v 16) K85_3 (.skip)
@[simp] def W85_4 := C.w K85_4.eq_1
def K85_5 : C := .seq (.pl <| .e 11 6 <|
 .m 11 3 <|
 .m 12 5 <|
 .x 13 (.ia 1 (.v 11) (.v 12)) <|
 .l 14 13 <|
 .m 15 4 <|
 .x 16 (.bin .eql (.v 14) (.v 15)) .done) K85_4
@[simp] def W85_5 := C.w K85_5.eq_1
def K85_6 : C := .pl <| .e 11 1 <|
 .x 11 (.bin .add (.v 10) (.c (.int .i64 1))) <|
 .m 10 11 .done
@[simp] def W85_6 := C.w K85_6.eq_1
def K85_7 : C := .seq (.pl <| .e 11 7 <|
 .m 11 3 <|
 .m 12 5 <|
 .m 13 3 <|
 .m 14 6 <|
 .x 15 (.ia 1 (.v 13) (.v 14)) <|
 .l 16 15 <|
 .x 17 (.ia 1 (.v 11) (.v 12)) <|
 .o (.ex none (.store 1 (.v 17) (.v 16))) .done) (.exit 2)
@[simp] def W85_7 := C.w K85_7.eq_1
def K85_8 : C := .cond 11 (.v 14) K85_7 (.skip)
@[simp] def W85_8 := C.w K85_8.eq_1
def K85_9 : C := .seq (.pl <| .e 11 4 <|
 .m 11 1 <|
 .m 12 5 <|
 .m 13 6 <|
 .c 14 (.callv (.v 11) [.v 12, .v 13]) .done) K85_8
@[simp] def W85_9 := C.w K85_9.eq_1
def K85_10 : C := .seq (.block 3 (.seq (.pl <| .e 11 1 <|
 .m 11 10 <|
 .m 6 11 .done) K85_9)) K85_6
@[simp] def W85_10 := C.w K85_10.eq_1
def K85_11 : C := .seq (.cond 11 (.v 11) (.skip) (.exit 2)) K85_10
@[simp] def W85_11 := C.w K85_11.eq_1
def K85_12 : C := .seq (.pl <| .e 11 1 <|
 .x 11 (.bin .lss (.v 10) (.v 9)) .done) K85_11
@[simp] def W85_12 := C.w K85_12.eq_1
def K85_13 : C := .block 2 (.loop 11 [0, 2, 6] K85_12)
@[simp] def W85_13 := C.w K85_13.eq_1
def K85_14 : C := .seq (.seq (.pl <| .e 11 0 <|
 .m 9 5 <|
 .x 10 (.mv (.c (.int .i64 0))) .done) K85_13) K85_5
@[simp] def W85_14 := C.w K85_14.eq_1
def K85_15 : C := .seq (.pl <| .e 11 4 <|
 .m 11 3 <|
 .m 12 5 <|
 .m 13 4 <|
 .x 14 (.ia 1 (.v 11) (.v 12)) <|
 .o (.ex none (.store 1 (.v 14) (.v 13))) .done) K85_14
@[simp] def W85_15 := C.w K85_15.eq_1
def K85_16 : C := .seq (.block 1 (.seq (.pl <| .e 11 1 <|
 .m 11 8 <|
 .m 5 11 .done) K85_15)) K85_2
@[simp] def W85_16 := C.w K85_16.eq_1
def K85_17 : C := .seq (.cond 11 (.v 11) (.skip) (.exit 0)) K85_16
@[simp] def W85_17 := C.w K85_17.eq_1
def K85_18 : C := .seq (.pl <| .e 11 1 <|
 .x 11 (.bin .lss (.v 8) (.v 7)) .done) K85_17
@[simp] def W85_18 := C.w K85_18.eq_1
def K85_19 : C := .block 0 (.loop 11 [0, 2, 5, 6, 9, 10] K85_18)
@[simp] def W85_19 := C.w K85_19.eq_1
def K85_20 : C := .seq (.seq (.pl <| .e 11 1 <|
 .m 11 3 <|
 .x 7 (.lenV (.v 11)) <|
 .x 8 (.mv (.c (.int .i64 0))) .done) K85_19) K85_1
@[simp] def W85_20 := C.w K85_20.eq_1
def K85_21 : C := .seq (.pl <| .e 11 0 <|
 .x 4 (.mv (.c (.int .i64 0))) .done) K85_20
@[simp] def W85_21 := C.w K85_21.eq_1
def K85_22 : Pl := .m 3 12 .done
@[simp] def W85_22 := Pl.w K85_22.eq_1
def K85_23 : C := .seq (.pl <| .e 11 2 <|
 .m 11 0 <|
 .c 12 (.mks 8 1 [.int .i64 0] (.v 11) (.v 11)) K85_22) K85_21
@[simp] def W85_23 := C.w K85_23.eq_1
def B_impl_grouped : C := .seq (.pl <| .e 11 0 <|
 .x 2 (.mv (.c (.slice none 0 0))) .done) K85_23
@[simp] def WB_impl_grouped := C.w B_impl_grouped.eq_1
def R_impl_grouped : FIR := ⟨B_impl_grouped, 11, [(2, none)]⟩
theorem IR_impl_grouped : cfun Tryz.prog H_impl_grouped Tryz.f85 = some R_impl_grouped := by kernel_rfl
theorem EN_impl_grouped : ENT Tryz.prog B_impl_grouped [(2, none)] 2 11 fn_impl_grouped := fun hargs hw => enter Tryz.func85 rfl IR_impl_grouped hargs hw
def H_impl_picked : Hint := ⟨[(0, false), (1, false), (4, false), (5, false), (6, false), (7, false), (11, false), (12, false), (13, false)], [[1, 2, 4, 5]]⟩
def K87_1 : C := .seq (.pl <| .e 9 1 <|
 .m 9 3 <|
 .m 2 9 .done) (.ret)
@[simp] def W87_1 := C.w K87_1.eq_1
def K87_2 : C := .pl <| .e 9 1 <|
 .x 9 (.bin .add (.v 8) (.c (.int .i64 1))) <|
 .m 8 9 .done
@[simp] def W87_2 := C.w K87_2.eq_1
def K87_3 : C := .pl <| .e 9 7 <|
 .m 9 3 <|
 .m 10 4 <|
 .m 11 0 <|
 .m 12 5 <|
 .x 13 (.ia 1 (.v 11) (.v 12)) <|
 .l 14 13 <|
 .x 15 (.ia 1 (.v 9) (.v 10)) <|
 .o (.ex none (.store 1 (.v 15) (.v 14))) .done
@[simp] def W87_3 := C.w K87_3.eq_1
def K87_4 : C := .seq (.block 1 (.seq (.pl <| .e 9 3 <|
 .m 9 8 <|
 .x 10 (.ia 1 (.v 6) (.v 8)) <|
 .l 11 10 <|
 .m 4 9 <|
 .m 5 11 .done) K87_3)) K87_2
@[simp] def W87_4 := C.w K87_4.eq_1
def K87_5 : C := .seq (.cond 9 (.v 9) (.skip) (.exit 0)) K87_4
@[simp] def W87_5 := C.w K87_5.eq_1
def K87_6 : C := .seq (.pl <| .e 9 1 <|
 .x 9 (.bin .lss (.v 8) (.v 7)) .done) K87_5
@[simp] def W87_6 := C.w K87_6.eq_1
def K87_7 : C := .block 0 (.loop 9 [1, 2, 4, 5] K87_6)
@[simp] def W87_7 := C.w K87_7.eq_1
def K87_8 : C := .seq (.seq (.pl <| .e 9 0 <|
 .m 6 1 <|
 .x 7 (.lenV (.v 6)) <|
 .x 8 (.mv (.c (.int .i64 0))) .done) K87_7) K87_1
@[simp] def W87_8 := C.w K87_8.eq_1
def K87_9 : Pl := .m 3 11 .done
@[simp] def W87_9 := Pl.w K87_9.eq_1
def K87_10 : C := .seq (.pl <| .e 9 3 <|
 .m 9 1 <|
 .x 10 (.lenV (.v 9)) <|
 .c 11 (.mks 8 1 [.int .i64 0] (.v 10) (.v 10)) K87_9) K87_8
@[simp] def W87_10 := C.w K87_10.eq_1
def B_impl_picked : C := .seq (.pl <| .e 9 0 <|
 .x 2 (.mv (.c (.slice none 0 0))) .done) K87_10
@[simp] def WB_impl_picked := C.w B_impl_picked.eq_1
def R_impl_picked : FIR := ⟨B_impl_picked, 9, [(2, none)]⟩
theorem IR_impl_picked : cfun Tryz.prog H_impl_picked Tryz.f87 = some R_impl_picked := by kernel_rfl
theorem EN_impl_picked : ENT Tryz.prog B_impl_picked [(2, none)] 2 9 fn_impl_picked := fun hargs hw => enter Tryz.func87 rfl IR_impl_picked hargs hw
def H_slices_Clip_S_bool_bool : Hint := ⟨[(0, false), (2, false)], []⟩
def K159_1 : C := .seq (.pl <| .e 2 6 <|
 .m 2 0 <|
 .m 3 0 <|
 .x 4 (.lenV (.v 3)) <|
 .m 5 0 <|
 .x 6 (.lenV (.v 5)) <|
 .x 7 (.sliceV 1 (.v 2) none (some (.v 4)) (some (.v 6))) <|
 .m 1 7 .done) (.ret)
@[simp] def W159_1 := C.w K159_1.eq_1
def B_slices_Clip_S_bool_bool : C := .seq (.pl <| .e 2 0 <|
 .x 1 (.mv (.c (.slice none 0 0))) .done) K159_1
@[simp] def WB_slices_Clip_S_bool_bool := C.w B_slices_Clip_S_bool_bool.eq_1
def R_slices_Clip_S_bool_bool : FIR := ⟨B_slices_Clip_S_bool_bool, 2, [(1, none)]⟩
theorem IR_slices_Clip_S_bool_bool : cfun Tryz.prog H_slices_Clip_S_bool_bool Tryz.f159 = some R_slices_Clip_S_bool_bool := by kernel_rfl
theorem EN_slices_Clip_S_bool_bool : ENT Tryz.prog B_slices_Clip_S_bool_bool [(1, none)] 1 2 fn_slices_Clip_S_bool_bool := fun hargs hw => enter Tryz.func159 rfl IR_slices_Clip_S_bool_bool hargs hw
def H_slices_Clip_S_impl_Transition_impl_Transition : Hint := ⟨[(0, false), (2, false)], []⟩
def K161_1 : C := .seq (.pl <| .e 2 6 <|
 .m 2 0 <|
 .m 3 0 <|
 .x 4 (.lenV (.v 3)) <|
 .m 5 0 <|
 .x 6 (.lenV (.v 5)) <|
 .x 7 (.sliceV 4 (.v 2) none (some (.v 4)) (some (.v 6))) <|
 .m 1 7 .done) (.ret)
@[simp] def W161_1 := C.w K161_1.eq_1
def B_slices_Clip_S_impl_Transition_impl_Transition : C := .seq (.pl <| .e 2 0 <|
 .x 1 (.mv (.c (.slice none 0 0))) .done) K161_1
@[simp] def WB_slices_Clip_S_impl_Transition_impl_Transition := C.w B_slices_Clip_S_impl_Transition_impl_Transition.eq_1
def R_slices_Clip_S_impl_Transition_impl_Transition : FIR := ⟨B_slices_Clip_S_impl_Transition_impl_Transition, 2, [(1, none)]⟩
theorem IR_slices_Clip_S_impl_Transition_impl_Transition : cfun Tryz.prog H_slices_Clip_S_impl_Transition_impl_Transition Tryz.f161 = some R_slices_Clip_S_impl_Transition_impl_Transition := by kernel_rfl
theorem EN_slices_Clip_S_impl_Transition_impl_Transition : ENT Tryz.prog B_slices_Clip_S_impl_Transition_impl_Transition [(1, none)] 1 2 fn_slices_Clip_S_impl_Transition_impl_Transition := fun hargs hw => enter Tryz.func161 rfl IR_slices_Clip_S_impl_Transition_impl_Transition hargs hw
def H_slices_Clone_S_bool_bool : Hint := ⟨[(0, false), (2, false)], []⟩
def K160_1 : Pl := .m 1 4 .done
@[simp] def W160_1 := Pl.w K160_1.eq_1
def K160_2 : C := .seq (.pl <| .e 2 3 <|
 .o (.psl 2 [] []) <|
 .m 3 0 <|
 .c 4 (.app 1 1 [.bool false] (.p 0 2) (.o (.v 3))) K160_1) (.ret)
@[simp] def W160_2 := C.w K160_2.eq_1
def K160_3 : C := .seq (.pl <| .e 2 0 <|
 .x 1 (.mv (.c (.slice none 0 0))) .done) (.ret)
@[simp] def W160_3 := C.w K160_3.eq_1
def K160_4 : C := .cond 2 (.v 3) K160_3 (.skip)
@[simp] def W160_4 := C.w K160_4.eq_1
def K160_5 : C := .seq (.seq (.pl <| .e 2 2 <|
 .m 2 0 <|
 .x 3 (.isNil false (.v 2)) .done) K160_4) K160_2
@[simp] def W160_5 := C.w K160_5.eq_1
def B_slices_Clone_S_bool_bool : C := .seq (.pl <| .e 2 0 <|
 .x 1 (.mv (.c (.slice none 0 0))) .done) K160_5
@[simp] def WB_slices_Clone_S_bool_bool := C.w B_slices_Clone_S_bool_bool.eq_1
def R_slices_Clone_S_bool_bool : FIR := ⟨B_slices_Clone_S_bool_bool, 2, [(1, none)]⟩
theorem IR_slices_Clone_S_bool_bool : cfun Tryz.prog H_slices_Clone_S_bool_bool Tryz.f160 = some R_slices_Clone_S_bool_bool := by kernel_rfl
theorem EN_slices_Clone_S_bool_bool : ENT Tryz.prog B_slices_Clone_S_bool_bool [(1, none)] 1 2 fn_slices_Clone_S_bool_bool := fun hargs hw => enter Tryz.func160 rfl IR_slices_Clone_S_bool_bool hargs hw
def H_slices_Clone_S_impl_Transition_impl_Transition : Hint := ⟨[(0, false), (2, false)], []⟩
def K162_1 : Pl := .m 1 4 .done
@[simp] def W162_1 := Pl.w K162_1.eq_1
def K162_2 : C := .seq (.pl <| .e 2 3 <|
 .o (.psl 2 [] []) <|
 .m 3 0 <|
 .c 4 (.app 32 4 [.int .i64 0, .int .i64 0, .int .i64 0, .int .i64 0] (.p 0 2) (.o (.v 3))) K162_1) (.ret)
@[simp] def W162_2 := C.w K162_2.eq_1
def K162_3 : C := .seq (.pl <| .e 2 0 <|
 .x 1 (.mv (.c (.slice none 0 0))) .done) (.ret)
@[simp] def W162_3 := C.w K162_3.eq_1
def K162_4 : C := .cond 2 (.v 3) K162_3 (.skip)
@[simp] def W162_4 := C.w K162_4.eq_1
def K162_5 : C := .seq (.seq (.pl <| .e 2 2 <|
 .m 2 0 <|
 .x 3 (.isNil false (.v 2)) .done) K162_4) K162_2
@[simp] def W162_5 := C.w K162_5.eq_1
def B_slices_Clone_S_impl_Transition_impl_Transition : C := .seq (.pl <| .e 2 0 <|
 .x 1 (.mv (.c (.slice none 0 0))) .done) K162_5
@[simp] def WB_slices_Clone_S_impl_Transition_impl_Transition := C.w B_slices_Clone_S_impl_Transition_impl_Transition.eq_1
def R_slices_Clone_S_impl_Transition_impl_Transition : FIR := ⟨B_slices_Clone_S_impl_Transition_impl_Transition, 2, [(1, none)]⟩
theorem IR_slices_Clone_S_impl_Transition_impl_Transition : cfun Tryz.prog H_slices_Clone_S_impl_Transition_impl_Transition Tryz.f162 = some R_slices_Clone_S_impl_Transition_impl_Transition := by kernel_rfl
theorem EN_slices_Clone_S_impl_Transition_impl_Transition : ENT Tryz.prog B_slices_Clone_S_impl_Transition_impl_Transition [(1, none)] 1 2 fn_slices_Clone_S_impl_Transition_impl_Transition := fun hargs hw => enter Tryz.func162 rfl IR_slices_Clone_S_impl_Transition_impl_Transition hargs hw
def H_slices_Equal_S_bool_bool : Hint := ⟨[(0, false), (1, false), (4, false), (5, false), (12, false), (13, false)], [[2, 3]]⟩
def K48_1 : C := .seq (.pl <| .e 6 0 <|
 .x 2 (.mv (.c (.bool true))) .done) (.ret)
@[simp] def W48_1 := C.w K48_1.eq_1
def K48_2 : C := .pl <| .e 6 1 <|
 .x 6 (.bin .add (.v 5) (.c (.int .i64 1))) <|
 .m 5 6 .done
@[simp] def W48_2 := C.w K48_2.eq_1
def K48_3 : C := .seq (.pl <| .e 6 0 <|
 .x 2 (.mv (.c (.bool false))) .done) (.ret)
@[simp] def W48_3 := C.w K48_3.eq_1
def K48_4 : C := .cond 6 (.v 14) K48_3 (.skip)
@[simp] def W48_4 := C.w K48_4.eq_1
def K48_5 : C := .seq (.pl <| .e 6 9 <|
 .m 6 0 <|
 .m 7 3 <|
 .x 8 (.ia 1 (.v 6) (.v 7)) <|
 .l 9 8 <|
 .m 10 1 <|
 .m 11 3 <|
 .x 12 (.ia 1 (.v 10) (.v 11)) <|
 .l 13 12 <|
 .x 14 (.eqb true (.v 9) (.v 13)) .done) K48_4
@[simp] def W48_5 := C.w K48_5.eq_1
def K48_6 : C := .seq (.block 1 (.seq (.pl <| .e 6 1 <|
 .m 6 5 <|
 .m 3 6 .done) K48_5)) K48_2
@[simp] def W48_6 := C.w K48_6.eq_1
def K48_7 : C := .seq (.cond 6 (.v 6) (.skip) (.exit 0)) K48_6
@[simp] def W48_7 := C.w K48_7.eq_1
def K48_8 : C := .seq (.pl <| .e 6 1 <|
 .x 6 (.bin .lss (.v 5) (.v 4)) .done) K48_7
@[simp] def W48_8 := C.w K48_8.eq_1
def K48_9 : C := .block 0 (.loop 6 [2, 3] K48_8)
@[simp] def W48_9 := C.w K48_9.eq_1
def K48_10 : C := .seq (.seq (.pl <| .e 6 1 <|
 .m 6 0 <|
 .x 4 (.lenV (.v 6)) <|
 .x 5 (.mv (.c (.int .i64 0))) .done) K48_9) K48_1
@[simp] def W48_10 := C.w K48_10.eq_1
def K48_11 : C := .seq (.pl <| .e 6 0 <|
 .x 2 (.mv (.c (.bool false))) .done) (.ret)
@[simp] def W48_11 := C.w K48_11.eq_1
def K48_12 : C := .cond 6 (.v 10) K48_11 (.skip)
@[simp] def W48_12 := C.w K48_12.eq_1
def K48_13 : C := .seq (.seq (.pl <| .e 6 5 <|
 .m 6 0 <|
 .x 7 (.lenV (.v 6)) <|
 .m 8 1 <|
 .x 9 (.lenV (.v 8)) <|
 .x 10 (.bin .neq (.v 7) (.v 9)) .done) K48_12) K48_10
@[simp] def W48_13 := C.w K48_13.eq_1
def B_slices_Equal_S_bool_bool : C := .seq (.pl <| .e 6 0 <|
 .x 2 (.mv (.c (.bool false))) .done) K48_13
@[simp] def WB_slices_Equal_S_bool_bool := C.w B_slices_Equal_S_bool_bool.eq_1
def R_slices_Equal_S_bool_bool : FIR := ⟨B_slices_Equal_S_bool_bool, 6, [(2, none)]⟩
theorem IR_slices_Equal_S_bool_bool : cfun Tryz.prog H_slices_Equal_S_bool_bool Tryz.f48 = some R_slices_Equal_S_bool_bool := by kernel_rfl
theorem EN_slices_Equal_S_bool_bool : ENT Tryz.prog B_slices_Equal_S_bool_bool [(2, none)] 2 6 fn_slices_Equal_S_bool_bool := fun hargs hw => enter Tryz.func48 rfl IR_slices_Equal_S_bool_bool hargs hw
def H_slices_Equal_S_impl_Transition_impl_Transition : Hint := ⟨[(0, false), (1, false), (4, false), (5, false), (12, false), (13, false)], [[2, 3]]⟩
def K49_1 : C := .seq (.pl <| .e 6 0 <|
 .x 2 (.mv (.c (.bool true))) .done) (.ret)
@[simp] def W49_1 := C.w K49_1.eq_1
def K49_2 : C := .pl <| .e 6 1 <|
 .x 6 (.bin .add (.v 5) (.c (.int .i64 1))) <|
 .m 5 6 .done
@[simp] def W49_2 := C.w K49_2.eq_1
def K49_3 : C := .seq (.pl <| .e 6 0 <|
 .x 2 (.mv (.c (.bool false))) .done) (.ret)
@[simp] def W49_3 := C.w K49_3.eq_1
def K49_4 : C := .cond 6 (.v 14) K49_3 (.skip)
@[simp] def W49_4 := C.w K49_4.eq_1
def K49_5 : C := .seq (.pl <| .e 6 9 <|
 .m 6 0 <|
 .m 7 3 <|
 .x 8 (.ia 4 (.v 6) (.v 7)) <|
 .o (.ld (some 9) (.v 8) (some 4)) <|
 .m 10 1 <|
 .m 11 3 <|
 .x 12 (.ia 4 (.v 10) (.v 11)) <|
 .o (.ld (some 13) (.v 12) (some 4)) <|
 .x 14 (.eqf true [.i, .i, .i, .i] (.v 9) (.v 13)) .done) K49_4
@[simp] def W49_5 := C.w K49_5.eq_1
def K49_6 : C := .seq (.block 1 (.seq (.pl <| .e 6 1 <|
 .m 6 5 <|
 .m 3 6 .done) K49_5)) K49_2
@[simp] def W49_6 := C.w K49_6.eq_1
def K49_7 : C := .seq (.cond 6 (.v 6) (.skip) (.exit 0)) K49_6
@[simp] def W49_7 := C.w K49_7.eq_1
def K49_8 : C := .seq (.pl <| .e 6 1 <|
 .x 6 (.bin .lss (.v 5) (.v 4)) .done) K49_7
@[simp] def W49_8 := C.w K49_8.eq_1
def K49_9 : C := .block 0 (.loop 6 [2, 3] K49_8)
@[simp] def W49_9 := C.w K49_9.eq_1
def K49_10 : C := .seq (.seq (.pl <| .e 6 1 <|
 .m 6 0 <|
 .x 4 (.lenV (.v 6)) <|
 .x 5 (.mv (.c (.int .i64 0))) .done) K49_9) K49_1
@[simp] def W49_10 := C.w K49_10.eq_1
def K49_11 : C := .seq (.pl <| .e 6 0 <|
 .x 2 (.mv (.c (.bool false))) .done) (.ret)
@[simp] def W49_11 := C.w K49_11.eq_1
def K49_12 : C := .cond 6 (.v 10) K49_11 (.skip)
@[simp] def W49_12 := C.w K49_12.eq_1
def K49_13 : C := .seq (.seq (.pl <| .e 6 5 <|
 .m 6 0 <|
 .x 7 (.lenV (.v 6)) <|
 .m 8 1 <|
 .x 9 (.lenV (.v 8)) <|
 .x 10 (.bin .neq (.v 7) (.v 9)) .done) K49_12) K49_10
@[simp] def W49_13 := C.w K49_13.eq_1
def B_slices_Equal_S_impl_Transition_impl_Transition : C := .seq (.pl <| .e 6 0 <|
 .x 2 (.mv (.c (.bool false))) .done) K49_13
@[simp] def WB_slices_Equal_S_impl_Transition_impl_Transition := C.w B_slices_Equal_S_impl_Transition_impl_Transition.eq_1
def R_slices_Equal_S_impl_Transition_impl_Transition : FIR := ⟨B_slices_Equal_S_impl_Transition_impl_Transition, 6, [(2, none)]⟩
theorem IR_slices_Equal_S_impl_Transition_impl_Transition : cfun Tryz.prog H_slices_Equal_S_impl_Transition_impl_Transition Tryz.f49 = some R_slices_Equal_S_impl_Transition_impl_Transition := by kernel_rfl
theorem EN_slices_Equal_S_impl_Transition_impl_Transition : ENT Tryz.prog B_slices_Equal_S_impl_Transition_impl_Transition [(2, none)] 2 6 fn_slices_Equal_S_impl_Transition_impl_Transition := fun hargs hw => enter Tryz.func49 rfl IR_slices_Equal_S_impl_Transition_impl_Transition hargs hw
def H_spec_DrawAccepts : Hint := ⟨[(0, false), (2, true), (3, true), (4, false), (5, true)], []⟩
def K15_1 : Pl := .o (.pset none 1 0 3 (.v 5)) <|
 .o (.pset none 2 0 2 (.v 9)) .done
@[simp] def W15_1 := Pl.w K15_1.eq_1
def K15_2 : Pl := .c 9 (.call fn_spec_l6Mutate [.v 6, .v 8]) K15_1
@[simp] def W15_2 := Pl.w K15_2.eq_1
def K15_3 : C := .seq (.pl <| .e 5 5 <|
 .o (.pget (some 5) none 4 0 (some 3)) <|
 .m 6 3 <|
 .m 7 3 <|
 .c 8 (.call fn_spec_l6Lasso [.v 7]) K15_2) (.ret)
@[simp] def W15_3 := C.w K15_3.eq_1
def K15_4 : Pl := .o (.pnew 4 (.c (.agg #[.slice none 0 0, .slice none 0 0, .slice none 0 0])) []) <|
 .o (.pset none 4 0 3 (.v 8)) .done
@[simp] def W15_4 := Pl.w K15_4.eq_1
def K15_5 : Pl := .c 8 (.call fn_spec_l7Mutate [.v 5, .v 7]) K15_4
@[simp] def W15_5 := Pl.w K15_5.eq_1
def K15_6 : C := .seq (.pl <| .e 5 4 <|
 .m 5 3 <|
 .m 6 3 <|
 .c 7 (.call fn_spec_l7Automaton [.v 6]) K15_5) K15_3
@[simp] def W15_6 := C.w K15_6.eq_1
def K15_7 : Pl := .m 3 6 .done
@[simp] def W15_7 := Pl.w K15_7.eq_1
def K15_8 : C := .seq (.pl <| .e 5 2 <|
 .m 5 0 <|
 .c 6 (.call fn_spec_l16Open [.v 5]) K15_7) K15_6
@[simp] def W15_8 := C.w K15_8.eq_1
def B_spec_DrawAccepts : C := .seq (.pl <| .e 5 0 <|
 .o (.pnew 1 (.c (.agg #[.slice none 0 0, .slice none 0 0, .slice none 0 0])) []) <|
 .o (.pnew 2 (.c (.agg #[.slice none 0 0, .slice none 0 0])) []) .done) K15_8
@[simp] def WB_spec_DrawAccepts := C.w B_spec_DrawAccepts.eq_1
def R_spec_DrawAccepts : FIR := ⟨B_spec_DrawAccepts, 5, [(1, some (some 3)), (2, some (some 2))]⟩
theorem IR_spec_DrawAccepts : cfun Tryz.prog H_spec_DrawAccepts Tryz.f15 = some R_spec_DrawAccepts := by kernel_rfl
theorem EN_spec_DrawAccepts : ENT Tryz.prog B_spec_DrawAccepts [(1, some (some 3)), (2, some (some 2))] 1 5 fn_spec_DrawAccepts := fun hargs hw => enter Tryz.func15 rfl IR_spec_DrawAccepts hargs hw
def H_spec_DrawTrimAutomaton : Hint := ⟨[(0, false), (2, true), (3, false)], []⟩
def K42_1 : Pl := .o (.pset none 1 0 3 (.v 6)) .done
@[simp] def W42_1 := Pl.w K42_1.eq_1
def K42_2 : Pl := .c 6 (.call fn_spec_l7Mutate [.v 3, .v 5]) K42_1
@[simp] def W42_2 := Pl.w K42_2.eq_1
def K42_3 : C := .seq (.pl <| .e 3 4 <|
 .m 3 2 <|
 .m 4 2 <|
 .c 5 (.call fn_spec_l13Automaton [.v 4]) K42_2) (.ret)
@[simp] def W42_3 := C.w K42_3.eq_1
def K42_4 : Pl := .m 2 4 .done
@[simp] def W42_4 := Pl.w K42_4.eq_1
def K42_5 : C := .seq (.pl <| .e 3 2 <|
 .m 3 0 <|
 .c 4 (.call fn_spec_l16Open [.v 3]) K42_4) K42_3
@[simp] def W42_5 := C.w K42_5.eq_1
def B_spec_DrawTrimAutomaton : C := .seq (.pl <| .e 3 0 <|
 .o (.pnew 1 (.c (.agg #[.slice none 0 0, .slice none 0 0, .slice none 0 0])) []) .done) K42_5
@[simp] def WB_spec_DrawTrimAutomaton := C.w B_spec_DrawTrimAutomaton.eq_1
def R_spec_DrawTrimAutomaton : FIR := ⟨B_spec_DrawTrimAutomaton, 3, [(1, some (some 3))]⟩
theorem IR_spec_DrawTrimAutomaton : cfun Tryz.prog H_spec_DrawTrimAutomaton Tryz.f42 = some R_spec_DrawTrimAutomaton := by kernel_rfl
theorem EN_spec_DrawTrimAutomaton : ENT Tryz.prog B_spec_DrawTrimAutomaton [(1, some (some 3))] 1 3 fn_spec_DrawTrimAutomaton := fun hargs hw => enter Tryz.func42 rfl IR_spec_DrawTrimAutomaton hargs hw
def H_spec_l13Answers : Hint := ⟨[(0, false), (1, false), (2, false), (6, false), (7, false), (8, false), (9, false), (10, false)], [[3, 5, 6, 7], [3, 6, 7], [3]]⟩
def K131_1 : C := .seq (.pl <| .e 8 0 <|
 .x 3 (.mv (.c (.bool true))) .done) (.ret)
@[simp] def W131_1 := C.w K131_1.eq_1
def K131_2 : C := .pl <| .e 8 2 <|
 .m 8 4 <|
 .x 9 (.bin .add (.v 8) (.c (.int .i64 1))) <|
 .m 4 9 .done
@[simp] def W131_2 := C.w K131_2.eq_1
def K131_3 : C := .pl <| .e 8 2 <|
 .m 8 5 <|
 .x 9 (.bin .add (.v 8) (.c (.int .i64 1))) <|
 .m 5 9 .done
@[simp] def W131_3 := C.w K131_3.eq_1
def K131_4 : C := .seq (.pl <| .e 8 0 <|
 .x 3 (.mv (.c (.bool false))) .done) (.ret)
@[simp] def W131_4 := C.w K131_4.eq_1
def K131_5 : C := .cond 8 (.v 9) K131_4 (.skip)
@[simp] def W131_5 := C.w K131_5.eq_1
def K131_6 : C := .seq (.pl <| .e 8 2 <|
 .m 8 6 <|
 .x 9 (.un .not (.v 8)) .done) K131_5
@[simp] def W131_6 := C.w K131_6.eq_1
def K131_7 : C := .pl <| .e 8 2 <|
 .m 8 7 <|
 .x 9 (.bin .add (.v 8) (.c (.int .i64 1))) <|
 .m 7 9 .done
@[simp] def W131_7 := C.w K131_7.eq_1
def K131_8 : Pl := .m 14 13 <|
 .y 14 (.px (some 15) (.mv (.v 2))) <|
 .y 14 (.px (some 16) (.mv (.v 0))) <|
 .y 14 (.px (some 17) (.mv (.v 5))) <|
 .y 14 (.px (some 18) (.ia 4 (.v 16) (.v 17))) <|
 .y 14 (.px (some 19) (.fa 3 (.v 18))) <|
 .y 14 (.ld (some 20) (.v 19) none) <|
 .y 14 (.px (some 21) (.ia 1 (.v 15) (.v 20))) <|
 .y 14 (.ld (some 22) (.v 21) none) <|
 .y 14 (.px (some 23) (.mv (.v 1))) <|
 .y 14 (.px (some 24) (.mv (.v 7))) <|
 .y 14 (.px (some 25) (.ia 4 (.v 23) (.v 24))) <|
 .y 14 (.px (some 26) (.fa 3 (.v 25))) <|
 .y 14 (.ld (some 27) (.v 26) none) <|
 .y 14 (.px (some 28) (.ia 1 (.v 22) (.v 27))) <|
 .y 14 (.ld (some 29) (.v 28) none) <|
 .x 30 (.pick (.v 14) (.v 29) (.c (.bool false))) <|
 .m 6 30 .done
@[simp] def W131_8 := Pl.w K131_8.eq_1
def K131_9 : C := .seq (.block 5 (.pl <| .e 8 23 <|
 .m 8 1 <|
 .m 9 7 <|
 .x 10 (.ia 4 (.v 8) (.v 9)) <|
 .o (.ld (some 11) (.v 10) (some 4)) <|
 .m 12 4 <|
 .c 13 (.call fn_spec_l7On [.v 11, .v 12]) K131_8)) K131_7
@[simp] def W131_9 := C.w K131_9.eq_1
def K131_10 : C := .cond 8 (.v 15) (.skip) (.exit 4)
@[simp] def W131_10 := C.w K131_10.eq_1
def K131_11 : C := .seq (.seq (.pl <| .e 8 8 <|
 .m 8 7 <|
 .m 9 1 <|
 .x 10 (.lenV (.v 9)) <|
 .x 11 (.bin .lss (.v 8) (.v 10)) <|
 .m 12 11 <|
 .y 12 (.px (some 13) (.mv (.v 6))) <|
 .y 12 (.px (some 14) (.un .not (.v 13))) <|
 .x 15 (.pick (.v 12) (.v 14) (.c (.bool false))) .done) K131_10) K131_9
@[simp] def W131_11 := C.w K131_11.eq_1
def K131_12 : C := .block 4 (.loop 8 [3] K131_11)
@[simp] def W131_12 := C.w K131_12.eq_1
def K131_13 : C := .seq (.seq (.pl <| .e 8 0 <|
 .x 7 (.mv (.c (.int .i64 0))) .done) K131_12) K131_6
@[simp] def W131_13 := C.w K131_13.eq_1
def K131_14 : C := .seq (.pl <| .e 8 0 <|
 .x 6 (.mv (.c (.bool false))) .done) K131_13
@[simp] def W131_14 := C.w K131_14.eq_1
def K131_15 : C := .cond 8 (.v 14) (.exit 3) (.skip)
@[simp] def W131_15 := C.w K131_15.eq_1
def K131_16 : Pl := .x 14 (.un .not (.v 13)) .done
@[simp] def W131_16 := Pl.w K131_16.eq_1
def K131_17 : C := .seq (.block 3 (.seq (.seq (.pl <| .e 8 7 <|
 .m 8 0 <|
 .m 9 5 <|
 .x 10 (.ia 4 (.v 8) (.v 9)) <|
 .o (.ld (some 11) (.v 10) (some 4)) <|
 .m 12 4 <|
 .c 13 (.call fn_spec_l7On [.v 11, .v 12]) K131_16) K131_15) K131_14)) K131_3
@[simp] def W131_17 := C.w K131_17.eq_1
def K131_18 : C := .cond 8 (.v 11) (.skip) (.exit 2)
@[simp] def W131_18 := C.w K131_18.eq_1
def K131_19 : C := .seq (.seq (.pl <| .e 8 4 <|
 .m 8 5 <|
 .m 9 0 <|
 .x 10 (.lenV (.v 9)) <|
 .x 11 (.bin .lss (.v 8) (.v 10)) .done) K131_18) K131_17
@[simp] def W131_19 := C.w K131_19.eq_1
def K131_20 : C := .block 2 (.loop 8 [3, 6, 7] K131_19)
@[simp] def W131_20 := C.w K131_20.eq_1
def K131_21 : C := .seq (.block 1 (.seq (.pl <| .e 8 0 <|
 .x 5 (.mv (.c (.int .i64 0))) .done) K131_20)) K131_2
@[simp] def W131_21 := C.w K131_21.eq_1
def K131_22 : C := .cond 8 (.v 9) (.skip) (.exit 0)
@[simp] def W131_22 := C.w K131_22.eq_1
def K131_23 : C := .seq (.seq (.pl <| .e 8 2 <|
 .m 8 4 <|
 .x 9 (.bin .leq (.v 8) (.c (.int .i64 7))) .done) K131_22) K131_21
@[simp] def W131_23 := C.w K131_23.eq_1
def K131_24 : C := .block 0 (.loop 8 [3, 5, 6, 7] K131_23)
@[simp] def W131_24 := C.w K131_24.eq_1
def K131_25 : C := .seq (.seq (.pl <| .e 8 0 <|
 .x 4 (.mv (.c (.int .i64 0))) .done) K131_24) K131_1
@[simp] def W131_25 := C.w K131_25.eq_1
def B_spec_l13Answers : C := .seq (.pl <| .e 8 0 <|
 .x 3 (.mv (.c (.bool false))) .done) K131_25
@[simp] def WB_spec_l13Answers := C.w B_spec_l13Answers.eq_1
def R_spec_l13Answers : FIR := ⟨B_spec_l13Answers, 8, [(3, none)]⟩
theorem IR_spec_l13Answers : cfun Tryz.prog H_spec_l13Answers Tryz.f131 = some R_spec_l13Answers := by kernel_rfl
theorem EN_spec_l13Answers : ENT Tryz.prog B_spec_l13Answers [(3, none)] 3 8 fn_spec_l13Answers := fun hargs hw => enter Tryz.func131 rfl IR_spec_l13Answers hargs hw
def H_spec_l13Automaton : Hint := ⟨[(0, false), (2, true), (3, true), (4, false), (5, false), (6, false), (7, false), (8, true)], [[7]]⟩
def K83_1 : C := .seq (.pl <| .e 8 1 <|
 .o (.pget (some 8) none 2 0 (some 3)) <|
 .o (.pset none 1 0 3 (.v 8)) .done) (.ret)
@[simp] def W83_1 := C.w K83_1.eq_1
def K83_2 : C := .pl <| .e 8 2 <|
 .m 8 6 <|
 .x 9 (.bin .add (.v 8) (.c (.int .i64 1))) <|
 .m 6 9 .done
@[simp] def W83_2 := C.w K83_2.eq_1
def K83_3 : Pl := .a 20 2 <|
 .o (.pset (some 20) 2 2 1 (.v 19)) .done
@[simp] def W83_3 := Pl.w K83_3.eq_1
def K83_4 : C := .pl <| .e 8 13 <|
 .a 8 2 <|
 .g 9 8 2 2 <|
 .a 10 7 <|
 .g 11 10 7 0 <|
 .a 12 7 <|
 .g 13 12 7 1 <|
 .a 14 7 <|
 .g 15 14 7 2 <|
 .m 16 3 <|
 .x 17 (.build [.int .i64 0, .int .i64 0, .int .i64 0, .int .i64 0] [(0, 1, .v 11), (1, 1, .v 13), (2, 1, .v 15), (3, 1, .v 16)]) <|
 .o (.psl 18 [.int .i64 0, .int .i64 0, .int .i64 0, .int .i64 0] [(0, 4, .v 17)]) <|
 .c 19 (.app 32 4 [.int .i64 0, .int .i64 0, .int .i64 0, .int .i64 0] (.o (.v 9)) (.p 1 18)) K83_3
@[simp] def W83_4 := C.w K83_4.eq_1
def K83_5 : C := .cond 8 (.v 16) K83_4 (.skip)
@[simp] def W83_5 := C.w K83_5.eq_1
def K83_6 : Pl := .y 12 (.px (some 15) (.bin .eql (.v 14) (.c (.int .i64 0)))) <|
 .x 16 (.pick (.v 12) (.v 15) (.c (.bool false))) .done
@[simp] def W83_6 := Pl.w K83_6.eq_1
def K83_7 : C := .seq (.pl <| .e 8 9 <|
 .a 8 7 <|
 .g 9 8 7 3 <|
 .m 10 4 <|
 .x 11 (.bin .eql (.v 9) (.v 10)) <|
 .m 12 11 <|
 .y 12 (.px (some 13) (.mv (.v 0))) <|
 .st (.act (some (.v 12, true)) (.ex (some 14) (.call fn_spec_l16Rd_pick [.v 13, .c (.int .i64 2)]))) K83_6) K83_5
@[simp] def W83_7 := C.w K83_7.eq_1
def K83_8 : Pl := .a 20 2 <|
 .o (.pset (some 20) 2 2 1 (.v 19)) .done
@[simp] def W83_8 := Pl.w K83_8.eq_1
def K83_9 : C := .pl <| .e 8 13 <|
 .a 8 2 <|
 .g 9 8 2 2 <|
 .m 10 3 <|
 .a 11 7 <|
 .g 12 11 7 1 <|
 .a 13 7 <|
 .g 14 13 7 2 <|
 .a 15 7 <|
 .g 16 15 7 3 <|
 .x 17 (.build [.int .i64 0, .int .i64 0, .int .i64 0, .int .i64 0] [(0, 1, .v 10), (1, 1, .v 12), (2, 1, .v 14), (3, 1, .v 16)]) <|
 .o (.psl 18 [.int .i64 0, .int .i64 0, .int .i64 0, .int .i64 0] [(0, 4, .v 17)]) <|
 .c 19 (.app 32 4 [.int .i64 0, .int .i64 0, .int .i64 0, .int .i64 0] (.o (.v 9)) (.p 1 18)) K83_8
@[simp] def W83_9 := C.w K83_9.eq_1
def K83_10 : C := .cond 8 (.v 16) K83_9 (.skip)
@[simp] def W83_10 := C.w K83_10.eq_1
def K83_11 : Pl := .y 12 (.px (some 15) (.bin .gtr (.v 14) (.c (.int .i64 0)))) <|
 .x 16 (.pick (.v 12) (.v 15) (.c (.bool false))) .done
@[simp] def W83_11 := Pl.w K83_11.eq_1
def K83_12 : C := .seq (.seq (.pl <| .e 8 9 <|
 .a 8 7 <|
 .g 9 8 7 0 <|
 .m 10 4 <|
 .x 11 (.bin .eql (.v 9) (.v 10)) <|
 .m 12 11 <|
 .y 12 (.px (some 13) (.mv (.v 0))) <|
 .st (.act (some (.v 12, true)) (.ex (some 14) (.call fn_spec_l16Rd_pick [.v 13, .c (.int .i64 6)]))) K83_11) K83_10) K83_7
@[simp] def W83_12 := C.w K83_12.eq_1
def K83_13 : C := .seq (.block 1 (.seq (.pl <| .e 8 4 <|
 .m 8 5 <|
 .m 9 6 <|
 .x 10 (.ia 4 (.v 8) (.v 9)) <|
 .o (.ld (some 11) (.v 10) (some 4)) <|
 .o (.pnew 7 (.c (.agg #[.int .i64 0, .int .i64 0, .int .i64 0, .int .i64 0])) []) <|
 .o (.pset none 7 0 4 (.v 11)) .done) K83_12)) K83_2
@[simp] def W83_13 := C.w K83_13.eq_1
def K83_14 : C := .cond 8 (.v 11) (.skip) (.exit 0)
@[simp] def W83_14 := C.w K83_14.eq_1
def K83_15 : C := .seq (.seq (.pl <| .e 8 4 <|
 .m 8 6 <|
 .m 9 5 <|
 .x 10 (.lenV (.v 9)) <|
 .x 11 (.bin .lss (.v 8) (.v 10)) .done) K83_14) K83_13
@[simp] def W83_15 := C.w K83_15.eq_1
def K83_16 : C := .block 0 (.loop 8 [7] K83_15)
@[simp] def W83_16 := C.w K83_16.eq_1
def K83_17 : C := .seq (.seq (.pl <| .e 8 0 <|
 .x 6 (.mv (.c (.int .i64 0))) .done) K83_16) K83_1
@[simp] def W83_17 := C.w K83_17.eq_1
def K83_18 : Pl := .m 5 11 .done
@[simp] def W83_18 := Pl.w K83_18.eq_1
def K83_19 : C := .seq (.pl <| .e 8 4 <|
 .o (.psl 8 [] []) <|
 .a 9 2 <|
 .g 10 9 2 2 <|
 .c 11 (.app 32 4 [.int .i64 0, .int .i64 0, .int .i64 0, .int .i64 0] (.p 0 8) (.o (.v 10))) K83_18) K83_17
@[simp] def W83_19 := C.w K83_19.eq_1
def K83_20 : Pl := .a 17 2 <|
 .o (.pset (some 17) 2 1 1 (.v 16)) .done
@[simp] def W83_20 := Pl.w K83_20.eq_1
def K83_21 : C := .seq (.pl <| .e 8 10 <|
 .a 8 2 <|
 .g 9 8 2 1 <|
 .a 10 2 <|
 .g 11 10 2 1 <|
 .m 12 4 <|
 .x 13 (.ia 1 (.v 11) (.v 12)) <|
 .l 14 13 <|
 .o (.psl 15 [.bool false] [(0, 1, .v 14)]) <|
 .c 16 (.app 1 1 [.bool false] (.o (.v 9)) (.p 1 15)) K83_20) K83_19
@[simp] def W83_21 := C.w K83_21.eq_1
def K83_22 : Pl := .m 4 10 .done
@[simp] def W83_22 := Pl.w K83_22.eq_1
def K83_23 : C := .seq (.pl <| .e 8 3 <|
 .m 8 0 <|
 .m 9 3 <|
 .c 10 (.call fn_spec_l16Rd_pick [.v 8, .v 9]) K83_22) K83_21
@[simp] def W83_23 := C.w K83_23.eq_1
def K83_24 : C := .seq (.pl <| .e 8 1 <|
 .o (.pget (some 8) none 2 0 (some 3)) <|
 .o (.pset none 1 0 3 (.v 8)) .done) (.ret)
@[simp] def W83_24 := C.w K83_24.eq_1
def K83_25 : C := .cond 8 (.v 14) K83_24 (.skip)
@[simp] def W83_25 := C.w K83_25.eq_1
def K83_26 : Pl := .x 10 (.bin .eql (.v 9) (.c (.int .i64 0))) <|
 .m 11 10 <|
 .n 11 (.px (some 12) (.mv (.v 3))) <|
 .n 11 (.px (some 13) (.bin .gtr (.v 12) (.c (.int .i64 8)))) <|
 .x 14 (.pick (.v 11) (.c (.bool true)) (.v 13)) .done
@[simp] def W83_26 := Pl.w K83_26.eq_1
def K83_27 : C := .seq (.seq (.pl <| .e 8 7 <|
 .m 8 0 <|
 .c 9 (.call fn_spec_l16Rd_pick [.v 8, .c (.int .i64 2)]) K83_26) K83_25) K83_23
@[simp] def W83_27 := C.w K83_27.eq_1
def K83_28 : C := .seq (.pl <| .e 8 3 <|
 .a 8 2 <|
 .g 9 8 2 1 <|
 .x 10 (.lenV (.v 9)) <|
 .m 3 10 .done) K83_27
@[simp] def W83_28 := C.w K83_28.eq_1
def K83_29 : Pl := .o (.pset none 2 0 3 (.v 9)) .done
@[simp] def W83_29 := Pl.w K83_29.eq_1
def K83_30 : C := .pl <| .e 8 2 <|
 .m 8 0 <|
 .c 9 (.call fn_spec_l7Automaton [.v 8]) K83_29
@[simp] def W83_30 := C.w K83_30.eq_1
def K83_31 : C := .cond 8 (.v 11) K83_30 (.skip)
@[simp] def W83_31 := C.w K83_31.eq_1
def K83_32 : C := .seq (.seq (.pl <| .e 8 4 <|
 .a 8 2 <|
 .g 9 8 2 1 <|
 .x 10 (.lenV (.v 9)) <|
 .x 11 (.bin .gtr (.v 10) (.c (.int .i64 8))) .done) K83_31) K83_28
@[simp] def W83_32 := C.w K83_32.eq_1
def K83_33 : Pl := .o (.pnew 2 (.c (.agg #[.slice none 0 0, .slice none 0 0, .slice none 0 0])) []) <|
 .o (.pset none 2 0 3 (.v 9)) .done
@[simp] def W83_33 := Pl.w K83_33.eq_1
def K83_34 : C := .seq (.pl <| .e 8 2 <|
 .m 8 0 <|
 .c 9 (.call fn_spec_l7Automaton [.v 8]) K83_33) K83_32
@[simp] def W83_34 := C.w K83_34.eq_1
def B_spec_l13Automaton : C := .seq (.pl <| .e 8 0 <|
 .o (.pnew 1 (.c (.agg #[.slice none 0 0, .slice none 0 0, .slice none 0 0])) []) .done) K83_34
@[simp] def WB_spec_l13Automaton := C.w B_spec_l13Automaton.eq_1
def R_spec_l13Automaton : FIR := ⟨B_spec_l13Automaton, 8, [(1, some (some 3))]⟩
theorem IR_spec_l13Automaton : cfun Tryz.prog H_spec_l13Automaton Tryz.f83 = some R_spec_l13Automaton := by kernel_rfl
theorem EN_spec_l13Automaton : ENT Tryz.prog B_spec_l13Automaton [(1, some (some 3))] 1 8 fn_spec_l13Automaton := fun hargs hw => enter Tryz.func83 rfl IR_spec_l13Automaton hargs hw
def H_spec_l13Leaving : Hint := ⟨[(0, false), (1, true), (2, false), (3, false), (4, false)], [[0, 2]]⟩
def K130_1 : C := .seq (.pl <| .e 5 1 <|
 .m 5 3 <|
 .m 2 5 .done) (.ret)
@[simp] def W130_1 := C.w K130_1.eq_1
def K130_2 : C := .pl <| .e 5 2 <|
 .m 5 4 <|
 .x 6 (.bin .add (.v 5) (.c (.int .i64 1))) <|
 .m 4 6 .done
@[simp] def W130_2 := C.w K130_2.eq_1
def K130_3 : Pl := .st (.re 11 (.v 10) none none) <|
 .x 28 (.ia 1 (.v 5) (.v 11)) <|
 .o (.ex none (.store 1 (.v 28) (.v 27))) .done
@[simp] def W130_3 := Pl.w K130_3.eq_1
def K130_4 : C := .seq (.block 1 (.pl <| .e 5 24 <|
 .m 5 3 <|
 .a 6 1 <|
 .g 7 6 1 2 <|
 .m 8 4 <|
 .x 9 (.ia 4 (.v 7) (.v 8)) <|
 .x 10 (.fa 0 (.v 9)) <|
 .l 11 10 <|
 .m 12 3 <|
 .a 13 1 <|
 .g 14 13 1 2 <|
 .m 15 4 <|
 .x 16 (.ia 4 (.v 14) (.v 15)) <|
 .x 17 (.fa 0 (.v 16)) <|
 .l 18 17 <|
 .x 19 (.ia 1 (.v 12) (.v 18)) <|
 .l 20 19 <|
 .a 21 1 <|
 .g 22 21 1 2 <|
 .m 23 4 <|
 .x 24 (.ia 4 (.v 22) (.v 23)) <|
 .o (.ld (some 25) (.v 24) (some 4)) <|
 .o (.psl 26 [.int .i64 0, .int .i64 0, .int .i64 0, .int .i64 0] [(0, 4, .v 25)]) <|
 .c 27 (.app 32 4 [.int .i64 0, .int .i64 0, .int .i64 0, .int .i64 0] (.o (.v 20)) (.p 1 26)) K130_3)) K130_2
@[simp] def W130_4 := C.w K130_4.eq_1
def K130_5 : C := .cond 5 (.v 9) (.skip) (.exit 0)
@[simp] def W130_5 := C.w K130_5.eq_1
def K130_6 : C := .seq (.seq (.pl <| .e 5 5 <|
 .m 5 4 <|
 .a 6 1 <|
 .g 7 6 1 2 <|
 .x 8 (.lenV (.v 7)) <|
 .x 9 (.bin .lss (.v 5) (.v 8)) .done) K130_5) K130_4
@[simp] def W130_6 := C.w K130_6.eq_1
def K130_7 : C := .block 0 (.loop 5 [0, 2] K130_6)
@[simp] def W130_7 := C.w K130_7.eq_1
def K130_8 : C := .seq (.seq (.pl <| .e 5 0 <|
 .x 4 (.mv (.c (.int .i64 0))) .done) K130_7) K130_1
@[simp] def W130_8 := C.w K130_8.eq_1
def K130_9 : Pl := .m 3 8 .done
@[simp] def W130_9 := Pl.w K130_9.eq_1
def K130_10 : C := .seq (.pl <| .e 5 4 <|
 .a 5 1 <|
 .g 6 5 1 1 <|
 .x 7 (.lenV (.v 6)) <|
 .c 8 (.mks 24 1 [.slice none 0 0] (.v 7) (.v 7)) K130_9) K130_8
@[simp] def W130_10 := C.w K130_10.eq_1
def B_spec_l13Leaving : C := .seq (.pl <| .e 5 0 <|
 .o (.pnew 1 (.v 0) []) <|
 .x 2 (.mv (.c (.slice none 0 0))) .done) K130_10
@[simp] def WB_spec_l13Leaving := C.w B_spec_l13Leaving.eq_1
def R_spec_l13Leaving : FIR := ⟨B_spec_l13Leaving, 5, [(2, none)]⟩
theorem IR_spec_l13Leaving : cfun Tryz.prog H_spec_l13Leaving Tryz.f130 = some R_spec_l13Leaving := by kernel_rfl
theorem EN_spec_l13Leaving : ENT Tryz.prog B_spec_l13Leaving [(2, none)] 1 5 fn_spec_l13Leaving := fun hargs hw => enter Tryz.func130 rfl IR_spec_l13Leaving hargs hw
end Go.Proofs.YtglnelcmcimljaaGreat

namespace Go.Proofs.YtglnelcmcimljaaGreat
open Go
def H_spec_l5Shape : Hint := ⟨[(0, false), (1, false), (2, true), (4, false), (5, false)], [[0, 3]]⟩
def K140_1 : C := .seq (.pl <| .e 5 0 <|
 .x 3 (.mv (.c (.bool true))) .done) (.ret)
@[simp] def W140_1 := C.w K140_1.eq_1
def K140_2 : C := .pl <| .e 5 2 <|
 .m 5 4 <|
 .x 6 (.bin .add (.v 5) (.c (.int .i64 1))) <|
 .m 4 6 .done
@[simp] def W140_2 := C.w K140_2.eq_1
def K140_3 : C := .seq (.pl <| .e 5 0 <|
 .x 3 (.mv (.c (.bool false))) .done) (.ret)
@[simp] def W140_3 := C.w K140_3.eq_1
def K140_4 : C := .cond 5 (.v 13) K140_3 (.skip)
@[simp] def W140_4 := C.w K140_4.eq_1
def K140_5 : Pl := .x 13 (.un .not (.v 12)) .done
@[simp] def W140_5 := Pl.w K140_5.eq_1
def K140_6 : C := .seq (.block 1 (.seq (.pl <| .e 5 9 <|
 .a 5 2 <|
 .g 6 5 2 2 <|
 .m 7 4 <|
 .x 8 (.ia 3 (.v 6) (.v 7)) <|
 .o (.ld (some 9) (.v 8) (some 3)) <|
 .m 10 1 <|
 .x 11 (.bin .sub (.v 10) (.c (.int .i64 1))) <|
 .c 12 (.call fn_spec_l5Shape [.v 9, .v 11]) K140_5) K140_4)) K140_2
@[simp] def W140_6 := C.w K140_6.eq_1
def K140_7 : C := .cond 5 (.v 9) (.skip) (.exit 0)
@[simp] def W140_7 := C.w K140_7.eq_1
def K140_8 : C := .seq (.seq (.pl <| .e 5 5 <|
 .m 5 4 <|
 .a 6 2 <|
 .g 7 6 2 2 <|
 .x 8 (.lenV (.v 7)) <|
 .x 9 (.bin .lss (.v 5) (.v 8)) .done) K140_7) K140_6
@[simp] def W140_8 := C.w K140_8.eq_1
def K140_9 : C := .block 0 (.loop 5 [0, 3] K140_8)
@[simp] def W140_9 := C.w K140_9.eq_1
def K140_10 : C := .seq (.seq (.pl <| .e 5 0 <|
 .x 4 (.mv (.c (.int .i64 0))) .done) K140_9) K140_1
@[simp] def W140_10 := C.w K140_10.eq_1
def K140_11 : C := .seq (.pl <| .e 5 0 <|
 .x 3 (.mv (.c (.bool false))) .done) (.ret)
@[simp] def W140_11 := C.w K140_11.eq_1
def K140_12 : C := .cond 5 (.v 22) K140_11 (.skip)
@[simp] def W140_12 := C.w K140_12.eq_1
def K140_13 : C := .seq (.seq (.pl <| .e 5 18 <|
 .a 5 2 <|
 .g 6 5 2 1 <|
 .x 7 (.bin .lss (.v 6) (.c (.int .i64 0))) <|
 .m 8 7 <|
 .n 8 (.als 9 none 2) <|
 .n 8 (.pget (some 10) (some 9) 2 1 none) <|
 .n 8 (.px (some 11) (.bin .geq (.v 10) (.c (.int .i64 3)))) <|
 .x 12 (.pick (.v 8) (.c (.bool true)) (.v 11)) <|
 .m 13 12 <|
 .n 13 (.als 14 none 2) <|
 .n 13 (.pget (some 15) (some 14) 2 0 none) <|
 .n 13 (.px (some 16) (.bin .neq (.v 15) (.c (.int .i64 2)))) <|
 .n 13 (.px (some 17) (.mv (.v 16))) <|
 .y 17 (.als 18 none 2) <|
 .y 17 (.pget (some 19) (some 18) 2 1 none) <|
 .y 17 (.px (some 20) (.bin .neq (.v 19) (.c (.int .i64 0)))) <|
 .n 13 (.px (some 21) (.pick (.v 17) (.v 20) (.c (.bool false)))) <|
 .x 22 (.pick (.v 13) (.c (.bool true)) (.v 21)) .done) K140_12) K140_10
@[simp] def W140_13 := C.w K140_13.eq_1
def K140_14 : C := .seq (.pl <| .e 5 0 <|
 .x 3 (.mv (.c (.bool false))) .done) (.ret)
@[simp] def W140_14 := C.w K140_14.eq_1
def K140_15 : C := .cond 5 (.v 15) K140_14 (.skip)
@[simp] def W140_15 := C.w K140_15.eq_1
def K140_16 : Pl := .n 7 (.px (some 14) (.bin .neq (.v 10) (.v 13))) <|
 .x 15 (.pick (.v 7) (.c (.bool true)) (.v 14)) .done
@[simp] def W140_16 := Pl.w K140_16.eq_1
def K140_17 : C := .seq (.seq (.pl <| .e 5 11 <|
 .m 5 1 <|
 .x 6 (.bin .lss (.v 5) (.c (.int .i64 1))) <|
 .m 7 6 <|
 .n 7 (.als 8 none 2) <|
 .n 7 (.pget (some 9) (some 8) 2 2 none) <|
 .n 7 (.px (some 10) (.lenV (.v 9))) <|
 .n 7 (.als 11 none 2) <|
 .n 7 (.pget (some 12) (some 11) 2 0 none) <|
 .st (.act (some (.v 7, false)) (.ex (some 13) (.call fn_spec_l5Arity [.v 12]))) K140_16) K140_15) K140_13
@[simp] def W140_17 := C.w K140_17.eq_1
def B_spec_l5Shape : C := .seq (.pl <| .e 5 0 <|
 .o (.pnew 2 (.v 0) []) <|
 .x 3 (.mv (.c (.bool false))) .done) K140_17
@[simp] def WB_spec_l5Shape := C.w B_spec_l5Shape.eq_1
def R_spec_l5Shape : FIR := ⟨B_spec_l5Shape, 5, [(3, none)]⟩
theorem IR_spec_l5Shape : cfun Tryz.prog H_spec_l5Shape Tryz.f140 = some R_spec_l5Shape := by kernel_rfl
theorem EN_spec_l5Shape : ENT Tryz.prog B_spec_l5Shape [(3, none)] 2 5 fn_spec_l5Shape := fun hargs hw => enter Tryz.func140 rfl IR_spec_l5Shape hargs hw
def H_spec_l5Subs : Hint := ⟨[(0, false), (1, false), (3, true), (4, false), (5, false)], [[1, 3]]⟩
def K132_1 : C := .seq (.pl <| .e 5 1 <|
 .m 5 0 <|
 .m 3 5 .done) (.ret)
@[simp] def W132_1 := C.w K132_1.eq_1
def K132_2 : Pl := .m 0 9 .done
@[simp] def W132_2 := Pl.w K132_2.eq_1
def K132_3 : Pl := .o (.psl 8 [.int .i64 0, .int .i64 0, .slice none 0 0] [(0, 3, .v 7)]) <|
 .c 9 (.app 40 3 [.int .i64 0, .int .i64 0, .slice none 0 0] (.o (.v 5)) (.p 1 8)) K132_2
@[simp] def W132_3 := Pl.w K132_3.eq_1
def K132_4 : C := .pl <| .e 5 5 <|
 .m 5 0 <|
 .o (.pget (some 6) none 2 0 (some 3)) <|
 .c 7 (.call fn_spec_l5Copy [.v 6]) K132_3
@[simp] def W132_4 := C.w K132_4.eq_1
def K132_5 : C := .cond 5 (.v 8) K132_4 (.skip)
@[simp] def W132_5 := C.w K132_5.eq_1
def K132_6 : Pl := .x 8 (.bin .lss (.v 7) (.c (.int .i64 0))) .done
@[simp] def W132_6 := Pl.w K132_6.eq_1
def K132_7 : C := .seq (.seq (.pl <| .e 5 4 <|
 .m 5 0 <|
 .o (.pget (some 6) none 2 0 (some 3)) <|
 .c 7 (.call fn_spec_l5Find [.v 5, .v 6]) K132_6) K132_5) K132_1
@[simp] def W132_7 := C.w K132_7.eq_1
def K132_8 : C := .pl <| .e 5 2 <|
 .m 5 4 <|
 .x 6 (.bin .add (.v 5) (.c (.int .i64 1))) <|
 .m 4 6 .done
@[simp] def W132_8 := C.w K132_8.eq_1
def K132_9 : Pl := .m 0 11 .done
@[simp] def W132_9 := Pl.w K132_9.eq_1
def K132_10 : C := .seq (.block 1 (.pl <| .e 5 7 <|
 .m 5 0 <|
 .a 6 2 <|
 .g 7 6 2 2 <|
 .m 8 4 <|
 .x 9 (.ia 3 (.v 7) (.v 8)) <|
 .o (.ld (some 10) (.v 9) (some 3)) <|
 .c 11 (.call fn_spec_l5Subs [.v 5, .v 10]) K132_9)) K132_8
@[simp] def W132_10 := C.w K132_10.eq_1
def K132_11 : C := .cond 5 (.v 9) (.skip) (.exit 0)
@[simp] def W132_11 := C.w K132_11.eq_1
def K132_12 : C := .seq (.seq (.pl <| .e 5 5 <|
 .m 5 4 <|
 .a 6 2 <|
 .g 7 6 2 2 <|
 .x 8 (.lenV (.v 7)) <|
 .x 9 (.bin .lss (.v 5) (.v 8)) .done) K132_11) K132_10
@[simp] def W132_12 := C.w K132_12.eq_1
def K132_13 : C := .block 0 (.loop 5 [1, 3] K132_12)
@[simp] def W132_13 := C.w K132_13.eq_1
def K132_14 : C := .seq (.seq (.pl <| .e 5 0 <|
 .x 4 (.mv (.c (.int .i64 0))) .done) K132_13) K132_7
@[simp] def W132_14 := C.w K132_14.eq_1
def B_spec_l5Subs : C := .seq (.pl <| .e 5 0 <|
 .o (.pnew 2 (.v 1) []) <|
 .x 3 (.mv (.c (.slice none 0 0))) .done) K132_14
@[simp] def WB_spec_l5Subs := C.w B_spec_l5Subs.eq_1
def R_spec_l5Subs : FIR := ⟨B_spec_l5Subs, 5, [(3, none)]⟩
theorem IR_spec_l5Subs : cfun Tryz.prog H_spec_l5Subs Tryz.f132 = some R_spec_l5Subs := by kernel_rfl
theorem EN_spec_l5Subs : ENT Tryz.prog B_spec_l5Subs [(3, none)] 2 5 fn_spec_l5Subs := fun hargs hw => enter Tryz.func132 rfl IR_spec_l5Subs hargs hw
def H_spec_l5True : Hint := ⟨[(0, true)], []⟩
def K138_1 : C := .seq (.pl <| .e 1 1 <|
 .x 1 (.build [.int .i64 0, .int .i64 0, .slice none 0 0] [(0, 1, .c (.int .i64 1))]) <|
 .o (.pset none 0 0 3 (.v 1)) .done) (.ret)
@[simp] def W138_1 := C.w K138_1.eq_1
def B_spec_l5True : C := .seq (.pl <| .e 1 0 <|
 .o (.pnew 0 (.c (.agg #[.int .i64 0, .int .i64 0, .slice none 0 0])) []) .done) K138_1
@[simp] def WB_spec_l5True := C.w B_spec_l5True.eq_1
def R_spec_l5True : FIR := ⟨B_spec_l5True, 1, [(0, some (some 3))]⟩
theorem IR_spec_l5True : cfun Tryz.prog H_spec_l5True Tryz.f138 = some R_spec_l5True := by kernel_rfl
theorem EN_spec_l5True : ENT Tryz.prog B_spec_l5True [(0, some (some 3))] 0 1 fn_spec_l5True := fun hargs hw => enter Tryz.func138 rfl IR_spec_l5True hargs hw
def H_spec_l6Has : Hint := ⟨[(0, false), (1, false), (4, false)], []⟩
def K135_1 : C := .seq (.pl <| .e 3 6 <|
 .m 3 0 <|
 .m 4 1 <|
 .x 5 (.conv .u64 (.v 4)) <|
 .x 6 (.bin .shr (.v 3) (.v 5)) <|
 .x 7 (.bin .and (.v 6) (.c (.int .i64 1))) <|
 .x 8 (.bin .eql (.v 7) (.c (.int .i64 1))) <|
 .m 2 8 .done) (.ret)
@[simp] def W135_1 := C.w K135_1.eq_1
def B_spec_l6Has : C := .seq (.pl <| .e 3 0 <|
 .x 2 (.mv (.c (.bool false))) .done) K135_1
@[simp] def WB_spec_l6Has := C.w B_spec_l6Has.eq_1
def R_spec_l6Has : FIR := ⟨B_spec_l6Has, 3, [(2, none)]⟩
theorem IR_spec_l6Has : cfun Tryz.prog H_spec_l6Has Tryz.f135 = some R_spec_l6Has := by kernel_rfl
theorem EN_spec_l6Has : ENT Tryz.prog B_spec_l6Has [(2, none)] 2 3 fn_spec_l6Has := fun hargs hw => enter Tryz.func135 rfl IR_spec_l6Has hargs hw
def H_spec_l6Word : Hint := ⟨[(0, false), (1, false), (4, false), (5, false), (6, false)], [[2]]⟩
def K62_1 : C := .seq (.pl <| .e 5 1 <|
 .m 5 3 <|
 .m 2 5 .done) (.ret)
@[simp] def W62_1 := C.w K62_1.eq_1
def K62_2 : C := .pl <| .e 5 2 <|
 .m 5 4 <|
 .x 6 (.bin .add (.v 5) (.c (.int .i64 1))) <|
 .m 4 6 .done
@[simp] def W62_2 := C.w K62_2.eq_1
def K62_3 : Pl := .m 3 10 .done
@[simp] def W62_3 := Pl.w K62_3.eq_1
def K62_4 : Pl := .o (.psl 9 [.int .i64 0] [(0, 1, .v 8)]) <|
 .c 10 (.app 8 1 [.int .i64 0] (.o (.v 5)) (.p 1 9)) K62_3
@[simp] def W62_4 := Pl.w K62_4.eq_1
def K62_5 : Pl := .c 8 (.call fn_spec_l16Rd_num [.v 6, .v 7]) K62_4
@[simp] def W62_5 := Pl.w K62_5.eq_1
def K62_6 : C := .seq (.block 1 (.pl <| .e 5 6 <|
 .m 5 3 <|
 .m 6 0 <|
 .c 7 (.bls 1 9 [.int .i64 0] [(0, 1, .c (.int .i64 0)), (1, 1, .c (.int .i64 1)), (2, 1, .c (.int .i64 2)), (3, 1, .c (.int .i64 3)), (4, 1, .c (.int .i64 1)), (5, 1, .c (.int .i64 0)), (6, 1, .c (.int .i64 5)), (7, 1, .c (.int .i64 4)), (8, 1, .c (.int .i64 7))]) K62_5)) K62_2
@[simp] def W62_6 := C.w K62_6.eq_1
def K62_7 : C := .cond 5 (.v 7) (.skip) (.exit 0)
@[simp] def W62_7 := C.w K62_7.eq_1
def K62_8 : C := .seq (.seq (.pl <| .e 5 3 <|
 .m 5 4 <|
 .m 6 1 <|
 .x 7 (.bin .lss (.v 5) (.v 6)) .done) K62_7) K62_6
@[simp] def W62_8 := C.w K62_8.eq_1
def K62_9 : C := .block 0 (.loop 5 [2] K62_8)
@[simp] def W62_9 := C.w K62_9.eq_1
def K62_10 : C := .seq (.seq (.pl <| .e 5 0 <|
 .x 4 (.mv (.c (.int .i64 0))) .done) K62_9) K62_1
@[simp] def W62_10 := C.w K62_10.eq_1
def K62_11 : Pl := .m 3 5 .done
@[simp] def W62_11 := Pl.w K62_11.eq_1
def K62_12 : C := .seq (.pl <| .e 5 1 <|
 .c 5 (.bls 1 0 [.int .i64 0] []) K62_11) K62_10
@[simp] def W62_12 := C.w K62_12.eq_1
def B_spec_l6Word : C := .seq (.pl <| .e 5 0 <|
 .x 2 (.mv (.c (.slice none 0 0))) .done) K62_12
@[simp] def WB_spec_l6Word := C.w B_spec_l6Word.eq_1
def R_spec_l6Word : FIR := ⟨B_spec_l6Word, 5, [(2, none)]⟩
theorem IR_spec_l6Word : cfun Tryz.prog H_spec_l6Word Tryz.f62 = some R_spec_l6Word := by kernel_rfl
theorem EN_spec_l6Word : ENT Tryz.prog B_spec_l6Word [(2, none)] 2 5 fn_spec_l6Word := fun hargs hw => enter Tryz.func62 rfl IR_spec_l6Word hargs hw
def H_spec_l7Automaton : Hint := ⟨[(0, false), (2, true), (3, true), (4, false), (5, false), (6, true), (7, false), (8, false), (9, false)], [[2, 3, 7, 8], [2, 3, 6, 8]]⟩
def K29_1 : C := .seq (.pl <| .e 9 1 <|
 .o (.pget (some 9) none 5 0 (some 3)) <|
 .o (.pset none 1 0 3 (.v 9)) .done) (.ret)
@[simp] def W29_1 := C.w K29_1.eq_1
def K29_2 : C := .pl <| .e 9 2 <|
 .m 9 7 <|
 .x 10 (.bin .sub (.v 9) (.c (.int .i64 1))) <|
 .m 7 10 .done
@[simp] def W29_2 := C.w K29_2.eq_1
def K29_3 : Pl := .a 25 5 <|
 .o (.pset (some 25) 5 2 1 (.v 24)) .done
@[simp] def W29_3 := Pl.w K29_3.eq_1
def K29_4 : Pl := .x 22 (.build [.int .i64 0, .int .i64 0, .int .i64 0, .int .i64 0] [(0, 1, .v 13), (1, 1, .v 14), (2, 1, .v 18), (3, 1, .v 21)]) <|
 .o (.psl 23 [.int .i64 0, .int .i64 0, .int .i64 0, .int .i64 0] [(0, 4, .v 22)]) <|
 .c 24 (.app 32 4 [.int .i64 0, .int .i64 0, .int .i64 0, .int .i64 0] (.o (.v 10)) (.p 1 23)) K29_3
@[simp] def W29_4 := Pl.w K29_4.eq_1
def K29_5 : Pl := .x 18 (.bin .and (.v 16) (.v 17)) <|
 .c 21 (.call fn_spec_l16Rd_pick [.v 19, .v 20]) K29_4
@[simp] def W29_5 := Pl.w K29_5.eq_1
def K29_6 : Pl := .c 16 (.call fn_spec_l16Rd_pick [.v 15, .c (.int .i64 8)]) K29_5
@[simp] def W29_6 := Pl.w K29_6.eq_1
def K29_7 : C := .pl <| .e 9 17 <|
 .a 9 5 <|
 .g 10 9 5 2 <|
 .m 11 0 <|
 .m 12 4 <|
 .m 14 8 <|
 .m 15 0 <|
 .m 17 8 <|
 .m 19 0 <|
 .m 20 4 <|
 .c 13 (.call fn_spec_l16Rd_pick [.v 11, .v 12]) K29_6
@[simp] def W29_7 := C.w K29_7.eq_1
def K29_8 : Pl := .m 8 11 .done
@[simp] def W29_8 := Pl.w K29_8.eq_1
def K29_9 : Pl := .c 11 (.call fn_spec_l16Rd_num [.v 9, .v 10]) K29_8
@[simp] def W29_9 := Pl.w K29_9.eq_1
def K29_10 : C := .seq (.block 3 (.seq (.pl <| .e 9 3 <|
 .m 9 0 <|
 .c 10 (.bls 1 5 [.int .i64 0] [(0, 1, .c (.int .i64 1)), (1, 1, .c (.int .i64 3)), (2, 1, .c (.int .i64 0)), (3, 1, .c (.int .i64 2)), (4, 1, .c (.int .i64 7))]) K29_9) K29_7)) K29_2
@[simp] def W29_10 := C.w K29_10.eq_1
def K29_11 : C := .cond 9 (.v 10) (.skip) (.exit 2)
@[simp] def W29_11 := C.w K29_11.eq_1
def K29_12 : C := .seq (.seq (.pl <| .e 9 2 <|
 .m 9 7 <|
 .x 10 (.bin .gtr (.v 9) (.c (.int .i64 0))) .done) K29_11) K29_10
@[simp] def W29_12 := C.w K29_12.eq_1
def K29_13 : C := .block 2 (.loop 9 [2, 3, 6, 8] K29_12)
@[simp] def W29_13 := C.w K29_13.eq_1
def K29_14 : Pl := .m 7 11 .done
@[simp] def W29_14 := Pl.w K29_14.eq_1
def K29_15 : Pl := .c 11 (.call fn_spec_l16Rd_num [.v 9, .v 10]) K29_14
@[simp] def W29_15 := Pl.w K29_15.eq_1
def K29_16 : C := .seq (.seq (.pl <| .e 9 3 <|
 .m 9 0 <|
 .c 10 (.bls 1 5 [.int .i64 0] [(0, 1, .c (.int .i64 6)), (1, 1, .c (.int .i64 4)), (2, 1, .c (.int .i64 8)), (3, 1, .c (.int .i64 3)), (4, 1, .c (.int .i64 10))]) K29_15) K29_13) K29_1
@[simp] def W29_16 := C.w K29_16.eq_1
def K29_17 : C := .pl <| .e 9 2 <|
 .m 9 6 <|
 .x 10 (.bin .add (.v 9) (.c (.int .i64 1))) <|
 .m 6 10 .done
@[simp] def W29_17 := C.w K29_17.eq_1
def K29_18 : Pl := .a 14 5 <|
 .o (.pset (some 14) 5 0 1 (.v 13)) .done
@[simp] def W29_18 := Pl.w K29_18.eq_1
def K29_19 : C := .pl <| .e 9 6 <|
 .a 9 5 <|
 .g 10 9 5 0 <|
 .m 11 6 <|
 .o (.psl 12 [.int .i64 0] [(0, 1, .v 11)]) <|
 .c 13 (.app 8 1 [.int .i64 0] (.o (.v 10)) (.p 1 12)) K29_18
@[simp] def W29_19 := C.w K29_19.eq_1
def K29_20 : C := .cond 9 (.v 20) K29_19 (.skip)
@[simp] def W29_20 := C.w K29_20.eq_1
def K29_21 : Pl := .n 16 (.px (some 19) (.bin .eql (.v 18) (.c (.int .i64 0)))) <|
 .x 20 (.pick (.v 16) (.c (.bool true)) (.v 19)) .done
@[simp] def W29_21 := Pl.w K29_21.eq_1
def K29_22 : Pl := .y 11 (.px (some 14) (.bin .gtr (.v 13) (.c (.int .i64 0)))) <|
 .x 15 (.pick (.v 11) (.v 14) (.c (.bool false))) <|
 .m 16 15 <|
 .n 16 (.px (some 17) (.mv (.v 0))) <|
 .st (.act (some (.v 16, false)) (.ex (some 18) (.call fn_spec_l16Rd_pick [.v 17, .c (.int .i64 5)]))) K29_21
@[simp] def W29_22 := Pl.w K29_22.eq_1
def K29_23 : C := .seq (.pl <| .e 9 12 <|
 .m 9 6 <|
 .x 10 (.bin .eql (.v 9) (.c (.int .i64 0))) <|
 .m 11 10 <|
 .y 11 (.px (some 12) (.mv (.v 0))) <|
 .st (.act (some (.v 11, true)) (.ex (some 13) (.call fn_spec_l16Rd_pick [.v 12, .c (.int .i64 12)]))) K29_22) K29_20
@[simp] def W29_23 := C.w K29_23.eq_1
def K29_24 : Pl := .x 14 (.bin .eql (.v 13) (.c (.int .i64 0))) <|
 .x 15 (.ia 1 (.v 10) (.v 11)) <|
 .o (.ex none (.store 1 (.v 15) (.v 14))) .done
@[simp] def W29_24 := Pl.w K29_24.eq_1
def K29_25 : C := .seq (.block 1 (.seq (.pl <| .e 9 7 <|
 .a 9 5 <|
 .g 10 9 5 1 <|
 .m 11 6 <|
 .m 12 0 <|
 .c 13 (.call fn_spec_l16Rd_pick [.v 12, .c (.int .i64 3)]) K29_24) K29_23)) K29_17
@[simp] def W29_25 := C.w K29_25.eq_1
def K29_26 : C := .cond 9 (.v 11) (.skip) (.exit 0)
@[simp] def W29_26 := C.w K29_26.eq_1
def K29_27 : C := .seq (.seq (.pl <| .e 9 3 <|
 .m 9 6 <|
 .m 10 4 <|
 .x 11 (.bin .lss (.v 9) (.v 10)) .done) K29_26) K29_25
@[simp] def W29_27 := C.w K29_27.eq_1
def K29_28 : C := .block 0 (.loop 9 [2, 3, 7, 8] K29_27)
@[simp] def W29_28 := C.w K29_28.eq_1
def K29_29 : C := .seq (.seq (.pl <| .e 9 0 <|
 .x 6 (.mv (.c (.int .i64 0))) .done) K29_28) K29_16
@[simp] def W29_29 := C.w K29_29.eq_1
def K29_30 : Pl := .x 11 (.build [.slice none 0 0, .slice none 0 0, .slice none 0 0] [(1, 1, .v 10)]) <|
 .o (.pnew 5 (.c (.agg #[.slice none 0 0, .slice none 0 0, .slice none 0 0])) []) <|
 .o (.pset none 5 0 3 (.v 11)) .done
@[simp] def W29_30 := Pl.w K29_30.eq_1
def K29_31 : C := .seq (.pl <| .e 9 3 <|
 .m 9 4 <|
 .c 10 (.mks 1 1 [.bool false] (.v 9) (.v 9)) K29_30) K29_29
@[simp] def W29_31 := C.w K29_31.eq_1
def K29_32 : Pl := .m 4 11 .done
@[simp] def W29_32 := Pl.w K29_32.eq_1
def K29_33 : Pl := .c 11 (.call fn_spec_l16Rd_num [.v 9, .v 10]) K29_32
@[simp] def W29_33 := Pl.w K29_33.eq_1
def K29_34 : C := .seq (.pl <| .e 9 3 <|
 .m 9 0 <|
 .c 10 (.bls 1 5 [.int .i64 0] [(0, 1, .c (.int .i64 3)), (1, 1, .c (.int .i64 2)), (2, 1, .c (.int .i64 4)), (3, 1, .c (.int .i64 1)), (4, 1, .c (.int .i64 5))]) K29_33) K29_31
@[simp] def W29_34 := C.w K29_34.eq_1
def K29_35 : C := .seq (.pl <| .e 9 1 <|
 .o (.pget (some 9) none 2 0 (some 3)) <|
 .o (.pset none 1 0 3 (.v 9)) .done) (.ret)
@[simp] def W29_35 := C.w K29_35.eq_1
def K29_36 : C := .cond 9 (.v 15) K29_35 (.skip)
@[simp] def W29_36 := C.w K29_36.eq_1
def K29_37 : C := .seq (.pl <| .e 9 7 <|
 .m 9 3 <|
 .m 10 9 <|
 .y 10 (.als 11 none 2) <|
 .y 10 (.pget (some 12) (some 11) 2 1 none) <|
 .y 10 (.px (some 13) (.lenV (.v 12))) <|
 .y 10 (.px (some 14) (.bin .leq (.v 13) (.c (.int .i64 16)))) <|
 .x 15 (.pick (.v 10) (.v 14) (.c (.bool false))) .done) K29_36
@[simp] def W29_37 := C.w K29_37.eq_1
def K29_38 : Pl := .m 12 11 <|
 .x 13 (.extract 0 (.v 12)) <|
 .x 14 (.extract 1 (.v 12)) <|
 .o (.pnew 2 (.c (.agg #[.slice none 0 0, .slice none 0 0, .slice none 0 0])) []) <|
 .o (.pset none 2 0 3 (.v 13)) <|
 .m 3 14 .done
@[simp] def W29_38 := Pl.w K29_38.eq_1
def K29_39 : Pl := .c 11 (.call fn_spec_TranslateFormula [.v 10]) K29_38
@[simp] def W29_39 := Pl.w K29_39.eq_1
def K29_40 : C := .seq (.pl <| .e 9 6 <|
 .m 9 0 <|
 .c 10 (.call fn_spec_l5Formula [.v 9]) K29_39) K29_37
@[simp] def W29_40 := C.w K29_40.eq_1
def K29_41 : C := .cond 9 (.v 11) K29_40 (.skip)
@[simp] def W29_41 := C.w K29_41.eq_1
def K29_42 : Pl := .x 11 (.bin .eql (.v 10) (.c (.int .i64 0))) .done
@[simp] def W29_42 := Pl.w K29_42.eq_1
def K29_43 : C := .seq (.seq (.pl <| .e 9 3 <|
 .m 9 0 <|
 .c 10 (.call fn_spec_l16Rd_pick [.v 9, .c (.int .i64 3)]) K29_42) K29_41) K29_34
@[simp] def W29_43 := C.w K29_43.eq_1
def B_spec_l7Automaton : C := .seq (.pl <| .e 9 0 <|
 .o (.pnew 1 (.c (.agg #[.slice none 0 0, .slice none 0 0, .slice none 0 0])) []) .done) K29_43
@[simp] def WB_spec_l7Automaton := C.w B_spec_l7Automaton.eq_1
def R_spec_l7Automaton : FIR := ⟨B_spec_l7Automaton, 9, [(1, some (some 3))]⟩
theorem IR_spec_l7Automaton : cfun Tryz.prog H_spec_l7Automaton Tryz.f29 = some R_spec_l7Automaton := by kernel_rfl
theorem EN_spec_l7Automaton : ENT Tryz.prog B_spec_l7Automaton [(1, some (some 3))] 1 9 fn_spec_l7Automaton := fun hargs hw => enter Tryz.func29 rfl IR_spec_l7Automaton hargs hw
def H_spec_l7Basic : Hint := ⟨[(0, false), (1, true), (2, false)], []⟩
def K133_1 : C := .seq (.pl <| .e 3 18 <|
 .a 3 1 <|
 .g 4 3 1 0 <|
 .x 5 (.bin .eql (.v 4) (.c (.int .i64 2))) <|
 .m 6 5 <|
 .n 6 (.als 7 none 1) <|
 .n 6 (.pget (some 8) (some 7) 1 0 none) <|
 .n 6 (.px (some 9) (.bin .eql (.v 8) (.c (.int .i64 6)))) <|
 .x 10 (.pick (.v 6) (.c (.bool true)) (.v 9)) <|
 .m 11 10 <|
 .n 11 (.als 12 none 1) <|
 .n 11 (.pget (some 13) (some 12) 1 0 none) <|
 .n 11 (.px (some 14) (.bin .eql (.v 13) (.c (.int .i64 7)))) <|
 .x 15 (.pick (.v 11) (.c (.bool true)) (.v 14)) <|
 .m 16 15 <|
 .n 16 (.als 17 none 1) <|
 .n 16 (.pget (some 18) (some 17) 1 0 none) <|
 .n 16 (.px (some 19) (.bin .eql (.v 18) (.c (.int .i64 8)))) <|
 .x 20 (.pick (.v 16) (.c (.bool true)) (.v 19)) <|
 .m 2 20 .done) (.ret)
@[simp] def W133_1 := C.w K133_1.eq_1
def B_spec_l7Basic : C := .seq (.pl <| .e 3 0 <|
 .o (.pnew 1 (.v 0) []) <|
 .x 2 (.mv (.c (.bool false))) .done) K133_1
@[simp] def WB_spec_l7Basic := C.w B_spec_l7Basic.eq_1
def R_spec_l7Basic : FIR := ⟨B_spec_l7Basic, 3, [(2, none)]⟩
theorem IR_spec_l7Basic : cfun Tryz.prog H_spec_l7Basic Tryz.f133 = some R_spec_l7Basic := by kernel_rfl
theorem EN_spec_l7Basic : ENT Tryz.prog B_spec_l7Basic [(2, none)] 1 3 fn_spec_l7Basic := fun hargs hw => enter Tryz.func133 rfl IR_spec_l7Basic hargs hw
def H_spec_l7Edge : Hint := ⟨[(0, false), (1, false), (2, true), (4, false)], []⟩
def K67_1 : C := .seq (.pl <| .e 4 45 <|
 .a 4 2 <|
 .g 5 4 2 0 <|
 .x 6 (.bin .geq (.v 5) (.c (.int .i64 0))) <|
 .m 7 6 <|
 .y 7 (.als 8 none 2) <|
 .y 7 (.pget (some 9) (some 8) 2 0 none) <|
 .y 7 (.px (some 10) (.mv (.v 1))) <|
 .y 7 (.px (some 11) (.bin .lss (.v 9) (.v 10))) <|
 .x 12 (.pick (.v 7) (.v 11) (.c (.bool false))) <|
 .m 13 12 <|
 .y 13 (.als 14 none 2) <|
 .y 13 (.pget (some 15) (some 14) 2 3 none) <|
 .y 13 (.px (some 16) (.bin .geq (.v 15) (.c (.int .i64 0)))) <|
 .x 17 (.pick (.v 13) (.v 16) (.c (.bool false))) <|
 .m 18 17 <|
 .y 18 (.als 19 none 2) <|
 .y 18 (.pget (some 20) (some 19) 2 3 none) <|
 .y 18 (.px (some 21) (.mv (.v 1))) <|
 .y 18 (.px (some 22) (.bin .lss (.v 20) (.v 21))) <|
 .x 23 (.pick (.v 18) (.v 22) (.c (.bool false))) <|
 .m 24 23 <|
 .y 24 (.als 25 none 2) <|
 .y 24 (.pget (some 26) (some 25) 2 1 none) <|
 .y 24 (.px (some 27) (.bin .geq (.v 26) (.c (.int .i64 0)))) <|
 .x 28 (.pick (.v 24) (.v 27) (.c (.bool false))) <|
 .m 29 28 <|
 .y 29 (.als 30 none 2) <|
 .y 29 (.pget (some 31) (some 30) 2 1 none) <|
 .y 29 (.px (some 32) (.bin .leq (.v 31) (.c (.int .i64 7)))) <|
 .x 33 (.pick (.v 29) (.v 32) (.c (.bool false))) <|
 .m 34 33 <|
 .y 34 (.als 35 none 2) <|
 .y 34 (.pget (some 36) (some 35) 2 2 none) <|
 .y 34 (.px (some 37) (.bin .geq (.v 36) (.c (.int .i64 0)))) <|
 .x 38 (.pick (.v 34) (.v 37) (.c (.bool false))) <|
 .m 39 38 <|
 .y 39 (.als 40 none 2) <|
 .y 39 (.pget (some 41) (some 40) 2 2 none) <|
 .y 39 (.als 42 none 2) <|
 .y 39 (.pget (some 43) (some 42) 2 1 none) <|
 .y 39 (.px (some 44) (.bin .and (.v 41) (.v 43))) <|
 .y 39 (.als 45 none 2) <|
 .y 39 (.pget (some 46) (some 45) 2 2 none) <|
 .y 39 (.px (some 47) (.bin .eql (.v 44) (.v 46))) <|
 .x 48 (.pick (.v 39) (.v 47) (.c (.bool false))) <|
 .m 3 48 .done) (.ret)
@[simp] def W67_1 := C.w K67_1.eq_1
def B_spec_l7Edge : C := .seq (.pl <| .e 4 0 <|
 .o (.pnew 2 (.v 0) []) <|
 .x 3 (.mv (.c (.bool false))) .done) K67_1
@[simp] def WB_spec_l7Edge := C.w B_spec_l7Edge.eq_1
def R_spec_l7Edge : FIR := ⟨B_spec_l7Edge, 4, [(3, none)]⟩
theorem IR_spec_l7Edge : cfun Tryz.prog H_spec_l7Edge Tryz.f67 = some R_spec_l7Edge := by kernel_rfl
theorem EN_spec_l7Edge : ENT Tryz.prog B_spec_l7Edge [(3, none)] 2 4 fn_spec_l7Edge := fun hargs hw => enter Tryz.func67 rfl IR_spec_l7Edge hargs hw
def H_spec_l7Follows : Hint := ⟨[(0, false), (1, false), (2, false), (6, false), (7, false), (8, true), (9, false), (10, false), (26, false)], [[3, 5, 6, 7, 8]]⟩
def K108_1 : C := .seq (.pl <| .e 9 0 <|
 .x 3 (.mv (.c (.bool true))) .done) (.ret)
@[simp] def W108_1 := C.w K108_1.eq_1
def K108_2 : C := .pl <| .e 9 2 <|
 .m 9 4 <|
 .x 10 (.bin .add (.v 9) (.c (.int .i64 1))) <|
 .m 4 10 .done
@[simp] def W108_2 := C.w K108_2.eq_1
def K108_3 : C := .seq (.pl <| .e 9 0 <|
 .x 3 (.mv (.c (.bool false))) .done) (.ret)
@[simp] def W108_3 := C.w K108_3.eq_1
def K108_4 : C := .cond 9 (.v 11) K108_3 (.skip)
@[simp] def W108_4 := C.w K108_4.eq_1
def K108_5 : C := .seq (.pl <| .e 9 3 <|
 .m 9 7 <|
 .m 10 6 <|
 .x 11 (.eqb true (.v 9) (.v 10)) .done) K108_4
@[simp] def W108_5 := C.w K108_5.eq_1
def K108_6 : Pl := .m 7 15 .done
@[simp] def W108_6 := Pl.w K108_6.eq_1
def K108_7 : C := .pl <| .e 9 7 <|
 .m 9 0 <|
 .m 10 2 <|
 .a 11 5 <|
 .g 12 11 5 2 <|
 .x 13 (.ia 3 (.v 12) (.c (.int .i64 0))) <|
 .o (.ld (some 14) (.v 13) (some 3)) <|
 .c 15 (.call fn_spec_l7Value [.v 9, .v 10, .v 14]) K108_6
@[simp] def W108_7 := C.w K108_7.eq_1
def K108_8 : Pl := .n 16 (.px (some 28) (.pick (.v 24) (.v 27) (.c (.bool false)))) <|
 .x 29 (.pick (.v 16) (.c (.bool true)) (.v 28)) <|
 .m 7 29 .done
@[simp] def W108_8 := Pl.w K108_8.eq_1
def K108_9 : Pl := .n 16 (.px (some 24) (.mv (.v 23))) <|
 .y 24 (.px (some 25) (.mv (.v 2))) <|
 .y 24 (.px (some 26) (.mv (.v 4))) <|
 .st (.act (some (.v 24, true)) (.ex (some 27) (.call fn_spec_l6Has [.v 25, .v 26]))) K108_8
@[simp] def W108_9 := Pl.w K108_9.eq_1
def K108_10 : Pl := .m 16 15 <|
 .n 16 (.px (some 17) (.mv (.v 0))) <|
 .n 16 (.px (some 18) (.mv (.v 1))) <|
 .n 16 (.als 19 none 5) <|
 .n 16 (.pget (some 20) (some 19) 5 2 none) <|
 .n 16 (.px (some 21) (.ia 3 (.v 20) (.c (.int .i64 0)))) <|
 .n 16 (.ld (some 22) (.v 21) (some 3)) <|
 .st (.act (some (.v 16, false)) (.ex (some 23) (.call fn_spec_l7Value [.v 17, .v 18, .v 22]))) K108_9
@[simp] def W108_10 := Pl.w K108_10.eq_1
def K108_11 : C := .pl <| .e 9 21 <|
 .m 9 0 <|
 .m 10 1 <|
 .a 11 5 <|
 .g 12 11 5 2 <|
 .x 13 (.ia 3 (.v 12) (.c (.int .i64 1))) <|
 .o (.ld (some 14) (.v 13) (some 3)) <|
 .c 15 (.call fn_spec_l7Value [.v 9, .v 10, .v 14]) K108_10
@[simp] def W108_11 := C.w K108_11.eq_1
def K108_12 : Pl := .y 16 (.px (some 28) (.pick (.v 24) (.c (.bool true)) (.v 27))) <|
 .x 29 (.pick (.v 16) (.v 28) (.c (.bool false))) <|
 .m 7 29 .done
@[simp] def W108_12 := Pl.w K108_12.eq_1
def K108_13 : Pl := .y 16 (.px (some 24) (.mv (.v 23))) <|
 .n 24 (.px (some 25) (.mv (.v 2))) <|
 .n 24 (.px (some 26) (.mv (.v 4))) <|
 .st (.act (some (.v 24, false)) (.ex (some 27) (.call fn_spec_l6Has [.v 25, .v 26]))) K108_12
@[simp] def W108_13 := Pl.w K108_13.eq_1
def K108_14 : Pl := .m 16 15 <|
 .y 16 (.px (some 17) (.mv (.v 0))) <|
 .y 16 (.px (some 18) (.mv (.v 1))) <|
 .y 16 (.als 19 none 5) <|
 .y 16 (.pget (some 20) (some 19) 5 2 none) <|
 .y 16 (.px (some 21) (.ia 3 (.v 20) (.c (.int .i64 0)))) <|
 .y 16 (.ld (some 22) (.v 21) (some 3)) <|
 .st (.act (some (.v 16, true)) (.ex (some 23) (.call fn_spec_l7Value [.v 17, .v 18, .v 22]))) K108_13
@[simp] def W108_14 := Pl.w K108_14.eq_1
def K108_15 : C := .pl <| .e 9 21 <|
 .m 9 0 <|
 .m 10 1 <|
 .a 11 5 <|
 .g 12 11 5 2 <|
 .x 13 (.ia 3 (.v 12) (.c (.int .i64 1))) <|
 .o (.ld (some 14) (.v 13) (some 3)) <|
 .c 15 (.call fn_spec_l7Value [.v 9, .v 10, .v 14]) K108_14
@[simp] def W108_15 := C.w K108_15.eq_1
def K108_16 : C := .cond 9 (.v 10) K108_15 (.skip)
@[simp] def W108_16 := C.w K108_16.eq_1
def K108_17 : C := .seq (.pl <| .e 9 2 <|
 .x 9 (.bin .eql (.v 8) (.c (.int .i64 8))) <|
 .m 10 9 .done) K108_16
@[simp] def W108_17 := C.w K108_17.eq_1
def K108_18 : C := .cond 9 (.v 10) K108_11 K108_17
@[simp] def W108_18 := C.w K108_18.eq_1
def K108_19 : C := .seq (.pl <| .e 9 2 <|
 .x 9 (.bin .eql (.v 8) (.c (.int .i64 7))) <|
 .m 10 9 .done) K108_18
@[simp] def W108_19 := C.w K108_19.eq_1
def K108_20 : C := .cond 9 (.v 10) K108_7 K108_19
@[simp] def W108_20 := C.w K108_20.eq_1
def K108_21 : C := .block 2 (.seq (.pl <| .e 9 2 <|
 .x 9 (.bin .eql (.v 8) (.c (.int .i64 6))) <|
 .m 10 9 .done) K108_20)
@[simp] def W108_21 := C.w K108_21.eq_1
def K108_22 : C := .seq (.seq (.pl <| .e 9 1 <|
 .a 9 5 <|
 .g 8 9 5 0 .done) K108_21) K108_5
@[simp] def W108_22 := C.w K108_22.eq_1
def K108_23 : C := .seq (.pl <| .e 9 1 <|
 .m 9 6 <|
 .m 7 9 .done) K108_22
@[simp] def W108_23 := C.w K108_23.eq_1
def K108_24 : Pl := .m 6 11 .done
@[simp] def W108_24 := Pl.w K108_24.eq_1
def K108_25 : C := .seq (.pl <| .e 9 3 <|
 .m 9 1 <|
 .m 10 4 <|
 .c 11 (.call fn_spec_l6Has [.v 9, .v 10]) K108_24) K108_23
@[simp] def W108_25 := C.w K108_25.eq_1
def K108_26 : C := .seq (.block 1 (.seq (.pl <| .e 9 4 <|
 .m 9 0 <|
 .m 10 4 <|
 .x 11 (.ia 3 (.v 9) (.v 10)) <|
 .o (.ld (some 12) (.v 11) (some 3)) <|
 .o (.pnew 5 (.c (.agg #[.int .i64 0, .int .i64 0, .slice none 0 0])) []) <|
 .o (.pset none 5 0 3 (.v 12)) .done) K108_25)) K108_2
@[simp] def W108_26 := C.w K108_26.eq_1
def K108_27 : C := .cond 9 (.v 12) (.skip) (.exit 0)
@[simp] def W108_27 := C.w K108_27.eq_1
def K108_28 : C := .seq (.seq (.pl <| .e 9 4 <|
 .m 9 4 <|
 .m 10 0 <|
 .x 11 (.lenV (.v 10)) <|
 .x 12 (.bin .lss (.v 9) (.v 11)) .done) K108_27) K108_26
@[simp] def W108_28 := C.w K108_28.eq_1
def K108_29 : C := .block 0 (.loop 9 [3, 5, 6, 7, 8] K108_28)
@[simp] def W108_29 := C.w K108_29.eq_1
def K108_30 : C := .seq (.seq (.pl <| .e 9 0 <|
 .x 4 (.mv (.c (.int .i64 0))) .done) K108_29) K108_1
@[simp] def W108_30 := C.w K108_30.eq_1
def B_spec_l7Follows : C := .seq (.pl <| .e 9 0 <|
 .x 3 (.mv (.c (.bool false))) .done) K108_30
@[simp] def WB_spec_l7Follows := C.w B_spec_l7Follows.eq_1
def R_spec_l7Follows : FIR := ⟨B_spec_l7Follows, 9, [(3, none)]⟩
theorem IR_spec_l7Follows : cfun Tryz.prog H_spec_l7Follows Tryz.f108 = some R_spec_l7Follows := by kernel_rfl
theorem EN_spec_l7Follows : ENT Tryz.prog B_spec_l7Follows [(3, none)] 3 9 fn_spec_l7Follows := fun hargs hw => enter Tryz.func108 rfl IR_spec_l7Follows hargs hw
def H_spec_l7Fulfils : Hint := ⟨[(0, false), (1, false), (2, false), (6, false)], []⟩
def K137_1 : Pl := .x 19 (.pick (.v 8) (.c (.bool true)) (.v 18)) <|
 .m 3 19 .done
@[simp] def W137_1 := Pl.w K137_1.eq_1
def K137_2 : Pl := .x 7 (.un .not (.v 6)) <|
 .m 8 7 <|
 .n 8 (.px (some 9) (.mv (.v 0))) <|
 .n 8 (.px (some 10) (.mv (.v 1))) <|
 .n 8 (.px (some 11) (.mv (.v 0))) <|
 .n 8 (.px (some 12) (.mv (.v 2))) <|
 .n 8 (.px (some 13) (.ia 3 (.v 11) (.v 12))) <|
 .n 8 (.px (some 14) (.fa 2 (.v 13))) <|
 .n 8 (.ld (some 15) (.v 14) none) <|
 .n 8 (.px (some 16) (.ia 3 (.v 15) (.c (.int .i64 1)))) <|
 .n 8 (.ld (some 17) (.v 16) (some 3)) <|
 .st (.act (some (.v 8, false)) (.ex (some 18) (.call fn_spec_l7Value [.v 9, .v 10, .v 17]))) K137_1
@[simp] def W137_2 := Pl.w K137_2.eq_1
def K137_3 : C := .seq (.pl <| .e 4 16 <|
 .m 4 1 <|
 .m 5 2 <|
 .c 6 (.call fn_spec_l6Has [.v 4, .v 5]) K137_2) (.ret)
@[simp] def W137_3 := C.w K137_3.eq_1
def B_spec_l7Fulfils : C := .seq (.pl <| .e 4 0 <|
 .x 3 (.mv (.c (.bool false))) .done) K137_3
@[simp] def WB_spec_l7Fulfils := C.w B_spec_l7Fulfils.eq_1
def R_spec_l7Fulfils : FIR := ⟨B_spec_l7Fulfils, 4, [(3, none)]⟩
theorem IR_spec_l7Fulfils : cfun Tryz.prog H_spec_l7Fulfils Tryz.f137 = some R_spec_l7Fulfils := by kernel_rfl
theorem EN_spec_l7Fulfils : ENT Tryz.prog B_spec_l7Fulfils [(3, none)] 3 4 fn_spec_l7Fulfils := fun hargs hw => enter Tryz.func137 rfl IR_spec_l7Fulfils hargs hw
def H_spec_l7Letter : Hint := ⟨[(0, false), (1, false), (4, false), (5, false), (6, false), (7, false), (8, false)], [[2, 3]]⟩
def K107_1 : C := .seq (.pl <| .e 7 2 <|
 .m 7 4 <|
 .m 8 5 <|
 .m 2 7 <|
 .m 3 8 .done) (.ret)
@[simp] def W107_1 := C.w K107_1.eq_1
def K107_2 : C := .pl <| .e 7 2 <|
 .m 7 6 <|
 .x 8 (.bin .add (.v 7) (.c (.int .i64 1))) <|
 .m 6 8 .done
@[simp] def W107_2 := C.w K107_2.eq_1
def K107_3 : C := .pl <| .e 7 9 <|
 .m 7 5 <|
 .m 8 0 <|
 .m 9 6 <|
 .x 10 (.ia 3 (.v 8) (.v 9)) <|
 .x 11 (.fa 1 (.v 10)) <|
 .l 12 11 <|
 .x 13 (.conv .u64 (.v 12)) <|
 .x 14 (.bin .shl (.c (.int .i64 1)) (.v 13)) <|
 .x 15 (.bin .or (.v 7) (.v 14)) <|
 .m 5 15 .done
@[simp] def W107_3 := C.w K107_3.eq_1
def K107_4 : C := .cond 7 (.v 9) K107_3 (.skip)
@[simp] def W107_4 := C.w K107_4.eq_1
def K107_5 : C := .seq (.pl <| .e 7 3 <|
 .m 7 1 <|
 .m 8 6 <|
 .c 9 (.call fn_spec_l6Has [.v 7, .v 8]) .done) K107_4
@[simp] def W107_5 := C.w K107_5.eq_1
def K107_6 : C := .seq (.pl <| .e 7 9 <|
 .m 7 4 <|
 .m 8 0 <|
 .m 9 6 <|
 .x 10 (.ia 3 (.v 8) (.v 9)) <|
 .x 11 (.fa 1 (.v 10)) <|
 .l 12 11 <|
 .x 13 (.conv .u64 (.v 12)) <|
 .x 14 (.bin .shl (.c (.int .i64 1)) (.v 13)) <|
 .x 15 (.bin .or (.v 7) (.v 14)) <|
 .m 4 15 .done) K107_5
@[simp] def W107_6 := C.w K107_6.eq_1
def K107_7 : C := .cond 7 (.v 12) K107_6 (.skip)
@[simp] def W107_7 := C.w K107_7.eq_1
def K107_8 : C := .seq (.block 1 (.seq (.pl <| .e 7 6 <|
 .m 7 0 <|
 .m 8 6 <|
 .x 9 (.ia 3 (.v 7) (.v 8)) <|
 .x 10 (.fa 0 (.v 9)) <|
 .l 11 10 <|
 .x 12 (.bin .eql (.v 11) (.c (.int .i64 2))) .done) K107_7)) K107_2
@[simp] def W107_8 := C.w K107_8.eq_1
def K107_9 : C := .cond 7 (.v 10) (.skip) (.exit 0)
@[simp] def W107_9 := C.w K107_9.eq_1
def K107_10 : C := .seq (.seq (.pl <| .e 7 4 <|
 .m 7 6 <|
 .m 8 0 <|
 .x 9 (.lenV (.v 8)) <|
 .x 10 (.bin .lss (.v 7) (.v 9)) .done) K107_9) K107_8
@[simp] def W107_10 := C.w K107_10.eq_1
def K107_11 : C := .block 0 (.loop 7 [2, 3] K107_10)
@[simp] def W107_11 := C.w K107_11.eq_1
def K107_12 : C := .seq (.seq (.pl <| .e 7 0 <|
 .x 6 (.mv (.c (.int .i64 0))) .done) K107_11) K107_1
@[simp] def W107_12 := C.w K107_12.eq_1
def K107_13 : C := .seq (.pl <| .e 7 0 <|
 .x 5 (.mv (.c (.int .i64 0))) .done) K107_12
@[simp] def W107_13 := C.w K107_13.eq_1
def K107_14 : C := .seq (.pl <| .e 7 0 <|
 .x 4 (.mv (.c (.int .i64 0))) .done) K107_13
@[simp] def W107_14 := C.w K107_14.eq_1
def B_spec_l7Letter : C := .seq (.pl <| .e 7 0 <|
 .x 2 (.mv (.c (.int .i64 0))) <|
 .x 3 (.mv (.c (.int .i64 0))) .done) K107_14
@[simp] def WB_spec_l7Letter := C.w B_spec_l7Letter.eq_1
def R_spec_l7Letter : FIR := ⟨B_spec_l7Letter, 7, [(2, none), (3, none)]⟩
theorem IR_spec_l7Letter : cfun Tryz.prog H_spec_l7Letter Tryz.f107 = some R_spec_l7Letter := by kernel_rfl
theorem EN_spec_l7Letter : ENT Tryz.prog B_spec_l7Letter [(2, none), (3, none)] 2 7 fn_spec_l7Letter := fun hargs hw => enter Tryz.func107 rfl IR_spec_l7Letter hargs hw
def H_spec_l7Mutate : Hint := ⟨[(0, false), (1, false), (3, true), (4, true), (5, true), (20, false)], []⟩
def K28_1 : C := .seq (.pl <| .e 6 1 <|
 .o (.pget (some 6) none 4 0 (some 3)) <|
 .o (.pset none 3 0 3 (.v 6)) .done) (.ret)
@[simp] def W28_1 := C.w K28_1.eq_1
def K28_2 : Pl := .a 13 4 <|
 .o (.pset (some 13) 4 0 1 (.v 12)) .done
@[simp] def W28_2 := Pl.w K28_2.eq_1
def K28_3 : Pl := .o (.psl 11 [.int .i64 0] [(0, 1, .v 10)]) <|
 .c 12 (.app 8 1 [.int .i64 0] (.o (.v 7)) (.p 1 11)) K28_2
@[simp] def W28_3 := Pl.w K28_3.eq_1
def K28_4 : Pl := .c 10 (.call fn_spec_l16Rd_num [.v 8, .v 9]) K28_3
@[simp] def W28_4 := Pl.w K28_4.eq_1
def K28_5 : C := .pl <| .e 6 8 <|
 .a 6 4 <|
 .g 7 6 4 0 <|
 .m 8 0 <|
 .c 9 (.bls 1 4 [.int .i64 0] [(0, 1, .c (.int .i64 0)), (1, 1, .c (.int .i64 (-1))), (2, 1, .c (.int .i64 64)), (3, 1, .c (.int .i64 3))]) K28_4
@[simp] def W28_5 := C.w K28_5.eq_1
def K28_6 : Pl := .x 11 (.ia 4 (.v 7) (.c (.int .i64 0))) <|
 .x 12 (.fa 2 (.v 11)) <|
 .o (.ex none (.store 1 (.v 12) (.v 10))) .done
@[simp] def W28_6 := Pl.w K28_6.eq_1
def K28_7 : Pl := .c 10 (.call fn_spec_l16Rd_num [.v 8, .v 9]) K28_6
@[simp] def W28_7 := Pl.w K28_7.eq_1
def K28_8 : C := .pl <| .e 6 7 <|
 .a 6 4 <|
 .g 7 6 4 2 <|
 .m 8 0 <|
 .c 9 (.bls 1 3 [.int .i64 0] [(0, 1, .c (.int .i64 8)), (1, 1, .c (.int .i64 (-1))), (2, 1, .c (.int .i64 7))]) K28_7
@[simp] def W28_8 := C.w K28_8.eq_1
def K28_9 : C := .cond 6 (.v 9) K28_8 (.skip)
@[simp] def W28_9 := C.w K28_9.eq_1
def K28_10 : C := .seq (.pl <| .e 6 4 <|
 .a 6 4 <|
 .g 7 6 4 2 <|
 .x 8 (.lenV (.v 7)) <|
 .x 9 (.bin .gtr (.v 8) (.c (.int .i64 0))) .done) K28_9
@[simp] def W28_10 := C.w K28_10.eq_1
def K28_11 : Pl := .x 11 (.ia 4 (.v 7) (.c (.int .i64 0))) <|
 .x 12 (.fa 3 (.v 11)) <|
 .o (.ex none (.store 1 (.v 12) (.v 10))) .done
@[simp] def W28_11 := Pl.w K28_11.eq_1
def K28_12 : Pl := .c 10 (.call fn_spec_l16Rd_num [.v 8, .v 9]) K28_11
@[simp] def W28_12 := Pl.w K28_12.eq_1
def K28_13 : C := .pl <| .e 6 7 <|
 .a 6 4 <|
 .g 7 6 4 2 <|
 .m 8 0 <|
 .c 9 (.bls 1 4 [.int .i64 0] [(0, 1, .c (.int .i64 (-1))), (1, 1, .c (.int .i64 0)), (2, 1, .c (.int .i64 64)), (3, 1, .c (.int .i64 9223372036854775807))]) K28_12
@[simp] def W28_13 := C.w K28_13.eq_1
def K28_14 : C := .cond 6 (.v 9) K28_13 (.skip)
@[simp] def W28_14 := C.w K28_14.eq_1
def K28_15 : C := .seq (.pl <| .e 6 4 <|
 .a 6 4 <|
 .g 7 6 4 2 <|
 .x 8 (.lenV (.v 7)) <|
 .x 9 (.bin .gtr (.v 8) (.c (.int .i64 0))) .done) K28_14
@[simp] def W28_15 := C.w K28_15.eq_1
def K28_16 : C := .seq (.pl <| .e 6 1 <|
 .x 6 (.build [.slice none 0 0, .slice none 0 0, .slice none 0 0] []) <|
 .o (.pset none 3 0 3 (.v 6)) .done) (.ret)
@[simp] def W28_16 := C.w K28_16.eq_1
def K28_17 : Pl := .x 15 (.ia 4 (.v 7) (.v 11)) <|
 .x 16 (.fa 1 (.v 15)) <|
 .o (.ex none (.store 1 (.v 16) (.v 14))) .done
@[simp] def W28_17 := Pl.w K28_17.eq_1
def K28_18 : Pl := .c 14 (.call fn_spec_l16Rd_num [.v 12, .v 13]) K28_17
@[simp] def W28_18 := Pl.w K28_18.eq_1
def K28_19 : C := .pl <| .e 6 11 <|
 .a 6 4 <|
 .g 7 6 4 2 <|
 .a 8 4 <|
 .g 9 8 4 2 <|
 .x 10 (.lenV (.v 9)) <|
 .x 11 (.bin .sub (.v 10) (.c (.int .i64 1))) <|
 .m 12 0 <|
 .c 13 (.bls 1 3 [.int .i64 0] [(0, 1, .c (.int .i64 8)), (1, 1, .c (.int .i64 (-1))), (2, 1, .c (.int .i64 0))]) K28_18
@[simp] def W28_19 := C.w K28_19.eq_1
def K28_20 : C := .cond 6 (.v 9) K28_19 (.skip)
@[simp] def W28_20 := C.w K28_20.eq_1
def K28_21 : C := .seq (.pl <| .e 6 4 <|
 .a 6 4 <|
 .g 7 6 4 2 <|
 .x 8 (.lenV (.v 7)) <|
 .x 9 (.bin .gtr (.v 8) (.c (.int .i64 0))) .done) K28_20
@[simp] def W28_21 := C.w K28_21.eq_1
def K28_22 : C := .cond 6 (.v 7) K28_21 (.skip)
@[simp] def W28_22 := C.w K28_22.eq_1
def K28_23 : C := .seq (.pl <| .e 6 2 <|
 .x 6 (.bin .eql (.v 5) (.c (.int .i64 4))) <|
 .m 7 6 .done) K28_22
@[simp] def W28_23 := C.w K28_23.eq_1
def K28_24 : C := .cond 6 (.v 7) K28_16 K28_23
@[simp] def W28_24 := C.w K28_24.eq_1
def K28_25 : C := .seq (.pl <| .e 6 2 <|
 .x 6 (.bin .eql (.v 5) (.c (.int .i64 3))) <|
 .m 7 6 .done) K28_24
@[simp] def W28_25 := C.w K28_25.eq_1
def K28_26 : C := .cond 6 (.v 7) K28_15 K28_25
@[simp] def W28_26 := C.w K28_26.eq_1
def K28_27 : C := .seq (.pl <| .e 6 2 <|
 .x 6 (.bin .eql (.v 5) (.c (.int .i64 2))) <|
 .m 7 6 .done) K28_26
@[simp] def W28_27 := C.w K28_27.eq_1
def K28_28 : C := .cond 6 (.v 7) K28_10 K28_27
@[simp] def W28_28 := C.w K28_28.eq_1
def K28_29 : C := .seq (.pl <| .e 6 2 <|
 .x 6 (.bin .eql (.v 5) (.c (.int .i64 1))) <|
 .m 7 6 .done) K28_28
@[simp] def W28_29 := C.w K28_29.eq_1
def K28_30 : C := .cond 6 (.v 7) K28_5 K28_29
@[simp] def W28_30 := C.w K28_30.eq_1
def K28_31 : C := .block 0 (.seq (.pl <| .e 6 2 <|
 .x 6 (.bin .eql (.v 5) (.c (.int .i64 0))) <|
 .m 7 6 .done) K28_30)
@[simp] def W28_31 := C.w K28_31.eq_1
def K28_32 : C := .seq (.seq (.pl <| .e 6 1 <|
 .m 6 0 <|
 .c 5 (.call fn_spec_l16Rd_pick [.v 6, .c (.int .i64 40)]) .done) K28_31) K28_1
@[simp] def W28_32 := C.w K28_32.eq_1
def K28_33 : Pl := .x 18 (.build [.slice none 0 0, .slice none 0 0, .slice none 0 0] [(0, 1, .v 9), (1, 1, .v 13), (2, 1, .v 17)]) <|
 .o (.pset none 4 0 3 (.v 18)) .done
@[simp] def W28_33 := Pl.w K28_33.eq_1
def K28_34 : Pl := .c 17 (.app 32 4 [.int .i64 0, .int .i64 0, .int .i64 0, .int .i64 0] (.p 0 14) (.o (.v 16))) K28_33
@[simp] def W28_34 := Pl.w K28_34.eq_1
def K28_35 : Pl := .c 13 (.app 1 1 [.bool false] (.p 0 10) (.o (.v 12))) K28_34
@[simp] def W28_35 := Pl.w K28_35.eq_1
def K28_36 : C := .seq (.pl <| .e 6 13 <|
 .o (.psl 6 [] []) <|
 .a 7 2 <|
 .g 8 7 2 0 <|
 .o (.psl 10 [] []) <|
 .a 11 2 <|
 .g 12 11 2 1 <|
 .o (.psl 14 [] []) <|
 .a 15 2 <|
 .g 16 15 2 2 <|
 .o (.pnew 4 (.c (.agg #[.slice none 0 0, .slice none 0 0, .slice none 0 0])) []) <|
 .c 9 (.app 8 1 [.int .i64 0] (.p 0 6) (.o (.v 8))) K28_35) K28_32
@[simp] def W28_36 := C.w K28_36.eq_1
def B_spec_l7Mutate : C := .seq (.pl <| .e 6 0 <|
 .o (.pnew 2 (.v 1) []) <|
 .o (.pnew 3 (.c (.agg #[.slice none 0 0, .slice none 0 0, .slice none 0 0])) []) .done) K28_36
@[simp] def WB_spec_l7Mutate := C.w B_spec_l7Mutate.eq_1
def R_spec_l7Mutate : FIR := ⟨B_spec_l7Mutate, 6, [(3, some (some 3))]⟩
theorem IR_spec_l7Mutate : cfun Tryz.prog H_spec_l7Mutate Tryz.f28 = some R_spec_l7Mutate := by kernel_rfl
theorem EN_spec_l7Mutate : ENT Tryz.prog B_spec_l7Mutate [(3, some (some 3))] 2 6 fn_spec_l7Mutate := fun hargs hw => enter Tryz.func28 rfl IR_spec_l7Mutate hargs hw
def H_spec_l7On : Hint := ⟨[(0, false), (1, false), (2, true), (4, false)], []⟩
def K116_1 : C := .seq (.pl <| .e 4 7 <|
 .m 4 1 <|
 .a 5 2 <|
 .g 6 5 2 1 <|
 .x 7 (.bin .and (.v 4) (.v 6)) <|
 .a 8 2 <|
 .g 9 8 2 2 <|
 .x 10 (.bin .eql (.v 7) (.v 9)) <|
 .m 3 10 .done) (.ret)
@[simp] def W116_1 := C.w K116_1.eq_1
def B_spec_l7On : C := .seq (.pl <| .e 4 0 <|
 .o (.pnew 2 (.v 0) []) <|
 .x 3 (.mv (.c (.bool false))) .done) K116_1
@[simp] def WB_spec_l7On := C.w B_spec_l7On.eq_1
def R_spec_l7On : FIR := ⟨B_spec_l7On, 4, [(3, none)]⟩
theorem IR_spec_l7On : cfun Tryz.prog H_spec_l7On Tryz.f116 = some R_spec_l7On := by kernel_rfl
theorem EN_spec_l7On : ENT Tryz.prog B_spec_l7On [(3, none)] 2 4 fn_spec_l7On := fun hargs hw => enter Tryz.func116 rfl IR_spec_l7On hargs hw
def H_spec_l7Pair : Hint := ⟨[(0, false), (1, false), (4, false), (5, false), (6, false)], [[2, 3]]⟩
def K109_1 : Pl := .m 9 0 <|
 .x 10 (.lenV (.v 9)) <|
 .m 2 8 <|
 .m 3 10 .done
@[simp] def W109_1 := Pl.w K109_1.eq_1
def K109_2 : C := .seq (.pl <| .e 5 6 <|
 .m 5 0 <|
 .m 6 1 <|
 .o (.psl 7 [.slice none 0 0] [(0, 1, .v 6)]) <|
 .c 8 (.app 24 1 [.slice none 0 0] (.o (.v 5)) (.p 1 7)) K109_1) (.ret)
@[simp] def W109_2 := C.w K109_2.eq_1
def K109_3 : C := .pl <| .e 5 2 <|
 .m 5 4 <|
 .x 6 (.bin .add (.v 5) (.c (.int .i64 1))) <|
 .m 4 6 .done
@[simp] def W109_3 := C.w K109_3.eq_1
def K109_4 : C := .seq (.pl <| .e 5 2 <|
 .m 5 0 <|
 .m 6 4 <|
 .m 2 5 <|
 .m 3 6 .done) (.ret)
@[simp] def W109_4 := C.w K109_4.eq_1
def K109_5 : C := .cond 5 (.v 10) K109_4 (.skip)
@[simp] def W109_5 := C.w K109_5.eq_1
def K109_6 : C := .seq (.block 1 (.seq (.pl <| .e 5 6 <|
 .m 5 0 <|
 .m 6 4 <|
 .x 7 (.ia 1 (.v 5) (.v 6)) <|
 .l 8 7 <|
 .m 9 1 <|
 .c 10 (.call fn_spec_l2Ints [.v 8, .v 9]) .done) K109_5)) K109_3
@[simp] def W109_6 := C.w K109_6.eq_1
def K109_7 : C := .cond 5 (.v 8) (.skip) (.exit 0)
@[simp] def W109_7 := C.w K109_7.eq_1
def K109_8 : C := .seq (.seq (.pl <| .e 5 4 <|
 .m 5 4 <|
 .m 6 0 <|
 .x 7 (.lenV (.v 6)) <|
 .x 8 (.bin .lss (.v 5) (.v 7)) .done) K109_7) K109_6
@[simp] def W109_8 := C.w K109_8.eq_1
def K109_9 : C := .block 0 (.loop 5 [2, 3] K109_8)
@[simp] def W109_9 := C.w K109_9.eq_1
def K109_10 : C := .seq (.seq (.pl <| .e 5 0 <|
 .x 4 (.mv (.c (.int .i64 0))) .done) K109_9) K109_2
@[simp] def W109_10 := C.w K109_10.eq_1
def B_spec_l7Pair : C := .seq (.pl <| .e 5 0 <|
 .x 2 (.mv (.c (.slice none 0 0))) <|
 .x 3 (.mv (.c (.int .i64 0))) .done) K109_10
@[simp] def WB_spec_l7Pair := C.w B_spec_l7Pair.eq_1
def R_spec_l7Pair : FIR := ⟨B_spec_l7Pair, 5, [(2, none), (3, none)]⟩
theorem IR_spec_l7Pair : cfun Tryz.prog H_spec_l7Pair Tryz.f109 = some R_spec_l7Pair := by kernel_rfl
theorem EN_spec_l7Pair : ENT Tryz.prog B_spec_l7Pair [(2, none), (3, none)] 2 5 fn_spec_l7Pair := fun hargs hw => enter Tryz.func109 rfl IR_spec_l7Pair hargs hw
def H_spec_l7Phase : Hint := ⟨[(0, false), (1, false), (2, false), (3, false), (8, false), (9, false)], []⟩
def K106_1 : C := .seq (.pl <| .e 6 1 <|
 .m 6 3 <|
 .m 4 6 <|
 .x 5 (.mv (.c (.bool false))) .done) (.ret)
@[simp] def W106_1 := C.w K106_1.eq_1
def K106_2 : C := .seq (.pl <| .e 6 7 <|
 .m 6 3 <|
 .x 7 (.bin .add (.v 6) (.c (.int .i64 1))) <|
 .m 8 1 <|
 .x 9 (.lenV (.v 8)) <|
 .x 10 (.bin .rem (.v 7) (.v 9)) <|
 .m 11 3 <|
 .x 12 (.bin .eql (.v 11) (.c (.int .i64 0))) <|
 .m 4 10 <|
 .m 5 12 .done) (.ret)
@[simp] def W106_2 := C.w K106_2.eq_1
def K106_3 : C := .cond 6 (.v 12) K106_2 (.skip)
@[simp] def W106_3 := C.w K106_3.eq_1
def K106_4 : C := .seq (.seq (.pl <| .e 6 7 <|
 .m 6 0 <|
 .m 7 2 <|
 .m 8 1 <|
 .m 9 3 <|
 .x 10 (.ia 1 (.v 8) (.v 9)) <|
 .l 11 10 <|
 .c 12 (.call fn_spec_l7Fulfils [.v 6, .v 7, .v 11]) .done) K106_3) K106_1
@[simp] def W106_4 := C.w K106_4.eq_1
def K106_5 : C := .seq (.pl <| .e 6 0 <|
 .x 4 (.mv (.c (.int .i64 0))) <|
 .x 5 (.mv (.c (.bool true))) .done) (.ret)
@[simp] def W106_5 := C.w K106_5.eq_1
def K106_6 : C := .cond 6 (.v 8) K106_5 (.skip)
@[simp] def W106_6 := C.w K106_6.eq_1
def K106_7 : C := .seq (.seq (.pl <| .e 6 3 <|
 .m 6 1 <|
 .x 7 (.lenV (.v 6)) <|
 .x 8 (.bin .eql (.v 7) (.c (.int .i64 0))) .done) K106_6) K106_4
@[simp] def W106_7 := C.w K106_7.eq_1
def B_spec_l7Phase : C := .seq (.pl <| .e 6 0 <|
 .x 4 (.mv (.c (.int .i64 0))) <|
 .x 5 (.mv (.c (.bool false))) .done) K106_7
@[simp] def WB_spec_l7Phase := C.w B_spec_l7Phase.eq_1
def R_spec_l7Phase : FIR := ⟨B_spec_l7Phase, 6, [(4, none), (5, none)]⟩
theorem IR_spec_l7Phase : cfun Tryz.prog H_spec_l7Phase Tryz.f106 = some R_spec_l7Phase := by kernel_rfl
theorem EN_spec_l7Phase : ENT Tryz.prog B_spec_l7Phase [(4, none), (5, none)] 4 6 fn_spec_l7Phase := fun hargs hw => enter Tryz.func106 rfl IR_spec_l7Phase hargs hw
def H_spec_l7Untils : Hint := ⟨[(0, false), (2, false), (3, false), (4, false)], [[1]]⟩
def K104_1 : C := .seq (.pl <| .e 4 1 <|
 .m 4 2 <|
 .m 1 4 .done) (.ret)
@[simp] def W104_1 := C.w K104_1.eq_1
def K104_2 : C := .pl <| .e 4 2 <|
 .m 4 3 <|
 .x 5 (.bin .add (.v 4) (.c (.int .i64 1))) <|
 .m 3 5 .done
@[simp] def W104_2 := C.w K104_2.eq_1
def K104_3 : Pl := .m 2 7 .done
@[simp] def W104_3 := Pl.w K104_3.eq_1
def K104_4 : C := .pl <| .e 4 4 <|
 .m 4 2 <|
 .m 5 3 <|
 .o (.psl 6 [.int .i64 0] [(0, 1, .v 5)]) <|
 .c 7 (.app 8 1 [.int .i64 0] (.o (.v 4)) (.p 1 6)) K104_3
@[simp] def W104_4 := C.w K104_4.eq_1
def K104_5 : C := .cond 4 (.v 9) K104_4 (.skip)
@[simp] def W104_5 := C.w K104_5.eq_1
def K104_6 : C := .seq (.block 1 (.seq (.pl <| .e 4 6 <|
 .m 4 0 <|
 .m 5 3 <|
 .x 6 (.ia 3 (.v 4) (.v 5)) <|
 .x 7 (.fa 0 (.v 6)) <|
 .l 8 7 <|
 .x 9 (.bin .eql (.v 8) (.c (.int .i64 7))) .done) K104_5)) K104_2
@[simp] def W104_6 := C.w K104_6.eq_1
def K104_7 : C := .cond 4 (.v 7) (.skip) (.exit 0)
@[simp] def W104_7 := C.w K104_7.eq_1
def K104_8 : C := .seq (.seq (.pl <| .e 4 4 <|
 .m 4 3 <|
 .m 5 0 <|
 .x 6 (.lenV (.v 5)) <|
 .x 7 (.bin .lss (.v 4) (.v 6)) .done) K104_7) K104_6
@[simp] def W104_8 := C.w K104_8.eq_1
def K104_9 : C := .block 0 (.loop 4 [1] K104_8)
@[simp] def W104_9 := C.w K104_9.eq_1
def K104_10 : C := .seq (.seq (.pl <| .e 4 0 <|
 .x 3 (.mv (.c (.int .i64 0))) .done) K104_9) K104_1
@[simp] def W104_10 := C.w K104_10.eq_1
def K104_11 : Pl := .m 2 4 .done
@[simp] def W104_11 := Pl.w K104_11.eq_1
def K104_12 : C := .seq (.pl <| .e 4 1 <|
 .c 4 (.bls 1 0 [.int .i64 0] []) K104_11) K104_10
@[simp] def W104_12 := C.w K104_12.eq_1
def B_spec_l7Untils : C := .seq (.pl <| .e 4 0 <|
 .x 1 (.mv (.c (.slice none 0 0))) .done) K104_12
@[simp] def WB_spec_l7Untils := C.w B_spec_l7Untils.eq_1
def R_spec_l7Untils : FIR := ⟨B_spec_l7Untils, 4, [(1, none)]⟩
theorem IR_spec_l7Untils : cfun Tryz.prog H_spec_l7Untils Tryz.f104 = some R_spec_l7Untils := by kernel_rfl
theorem EN_spec_l7Untils : ENT Tryz.prog B_spec_l7Untils [(1, none)] 1 4 fn_spec_l7Untils := fun hargs hw => enter Tryz.func104 rfl IR_spec_l7Untils hargs hw
def H_spec_l7Value : Hint := ⟨[(0, false), (1, false), (2, false), (5, true), (6, false), (8, false)], []⟩
def K105_1 : Pl := .m 4 10 .done
@[simp] def W105_1 := Pl.w K105_1.eq_1
def K105_2 : Pl := .c 10 (.call fn_spec_l6Has [.v 6, .v 9]) K105_1
@[simp] def W105_2 := Pl.w K105_2.eq_1
def K105_3 : C := .seq (.pl <| .e 6 5 <|
 .m 6 1 <|
 .m 7 0 <|
 .o (.pget (some 8) none 3 0 (some 3)) <|
 .c 9 (.call fn_spec_l5Find [.v 7, .v 8]) K105_2) (.ret)
@[simp] def W105_3 := C.w K105_3.eq_1
def K105_4 : C := .seq (.pl <| .e 6 0 <|
 .x 4 (.mv (.c (.bool true))) .done) (.ret)
@[simp] def W105_4 := C.w K105_4.eq_1
def K105_5 : Pl := .x 13 (.un .not (.v 12)) <|
 .m 4 13 .done
@[simp] def W105_5 := Pl.w K105_5.eq_1
def K105_6 : C := .seq (.pl <| .e 6 8 <|
 .m 6 0 <|
 .m 7 1 <|
 .a 8 3 <|
 .g 9 8 3 2 <|
 .x 10 (.ia 3 (.v 9) (.c (.int .i64 0))) <|
 .o (.ld (some 11) (.v 10) (some 3)) <|
 .c 12 (.call fn_spec_l7Value [.v 6, .v 7, .v 11]) K105_5) (.ret)
@[simp] def W105_6 := C.w K105_6.eq_1
def K105_7 : Pl := .x 21 (.pick (.v 13) (.v 20) (.c (.bool false))) <|
 .m 4 21 .done
@[simp] def W105_7 := Pl.w K105_7.eq_1
def K105_8 : Pl := .m 13 12 <|
 .y 13 (.px (some 14) (.mv (.v 0))) <|
 .y 13 (.px (some 15) (.mv (.v 1))) <|
 .y 13 (.als 16 none 3) <|
 .y 13 (.pget (some 17) (some 16) 3 2 none) <|
 .y 13 (.px (some 18) (.ia 3 (.v 17) (.c (.int .i64 1)))) <|
 .y 13 (.ld (some 19) (.v 18) (some 3)) <|
 .st (.act (some (.v 13, true)) (.ex (some 20) (.call fn_spec_l7Value [.v 14, .v 15, .v 19]))) K105_7
@[simp] def W105_8 := Pl.w K105_8.eq_1
def K105_9 : C := .seq (.pl <| .e 6 16 <|
 .m 6 0 <|
 .m 7 1 <|
 .a 8 3 <|
 .g 9 8 3 2 <|
 .x 10 (.ia 3 (.v 9) (.c (.int .i64 0))) <|
 .o (.ld (some 11) (.v 10) (some 3)) <|
 .c 12 (.call fn_spec_l7Value [.v 6, .v 7, .v 11]) K105_8) (.ret)
@[simp] def W105_9 := C.w K105_9.eq_1
def K105_10 : Pl := .x 21 (.pick (.v 13) (.c (.bool true)) (.v 20)) <|
 .m 4 21 .done
@[simp] def W105_10 := Pl.w K105_10.eq_1
def K105_11 : Pl := .m 13 12 <|
 .n 13 (.px (some 14) (.mv (.v 0))) <|
 .n 13 (.px (some 15) (.mv (.v 1))) <|
 .n 13 (.als 16 none 3) <|
 .n 13 (.pget (some 17) (some 16) 3 2 none) <|
 .n 13 (.px (some 18) (.ia 3 (.v 17) (.c (.int .i64 1)))) <|
 .n 13 (.ld (some 19) (.v 18) (some 3)) <|
 .st (.act (some (.v 13, false)) (.ex (some 20) (.call fn_spec_l7Value [.v 14, .v 15, .v 19]))) K105_10
@[simp] def W105_11 := Pl.w K105_11.eq_1
def K105_12 : C := .seq (.pl <| .e 6 16 <|
 .m 6 0 <|
 .m 7 1 <|
 .a 8 3 <|
 .g 9 8 3 2 <|
 .x 10 (.ia 3 (.v 9) (.c (.int .i64 0))) <|
 .o (.ld (some 11) (.v 10) (some 3)) <|
 .c 12 (.call fn_spec_l7Value [.v 6, .v 7, .v 11]) K105_11) (.ret)
@[simp] def W105_12 := C.w K105_12.eq_1
def K105_13 : C := .cond 6 (.v 7) K105_12 (.skip)
@[simp] def W105_13 := C.w K105_13.eq_1
def K105_14 : C := .seq (.pl <| .e 6 2 <|
 .x 6 (.bin .eql (.v 5) (.c (.int .i64 5))) <|
 .m 7 6 .done) K105_13
@[simp] def W105_14 := C.w K105_14.eq_1
def K105_15 : C := .cond 6 (.v 7) K105_9 K105_14
@[simp] def W105_15 := C.w K105_15.eq_1
def K105_16 : C := .seq (.pl <| .e 6 2 <|
 .x 6 (.bin .eql (.v 5) (.c (.int .i64 4))) <|
 .m 7 6 .done) K105_15
@[simp] def W105_16 := C.w K105_16.eq_1
def K105_17 : C := .cond 6 (.v 7) K105_6 K105_16
@[simp] def W105_17 := C.w K105_17.eq_1
def K105_18 : C := .seq (.pl <| .e 6 2 <|
 .x 6 (.bin .eql (.v 5) (.c (.int .i64 3))) <|
 .m 7 6 .done) K105_17
@[simp] def W105_18 := C.w K105_18.eq_1
def K105_19 : C := .cond 6 (.v 7) K105_4 K105_18
@[simp] def W105_19 := C.w K105_19.eq_1
def K105_20 : C := .block 0 (.seq (.pl <| .e 6 2 <|
 .x 6 (.bin .eql (.v 5) (.c (.int .i64 1))) <|
 .m 7 6 .done) K105_19)
@[simp] def W105_20 := C.w K105_20.eq_1
def K105_21 : C := .seq (.seq (.pl <| .e 6 1 <|
 .a 6 3 <|
 .g 5 6 3 0 .done) K105_20) K105_3
@[simp] def W105_21 := C.w K105_21.eq_1
def B_spec_l7Value : C := .seq (.pl <| .e 6 0 <|
 .o (.pnew 3 (.v 2) []) <|
 .x 4 (.mv (.c (.bool false))) .done) K105_21
@[simp] def WB_spec_l7Value := C.w B_spec_l7Value.eq_1
def R_spec_l7Value : FIR := ⟨B_spec_l7Value, 6, [(4, none)]⟩
theorem IR_spec_l7Value : cfun Tryz.prog H_spec_l7Value Tryz.f105 = some R_spec_l7Value := by kernel_rfl
theorem EN_spec_l7Value : ENT Tryz.prog B_spec_l7Value [(4, none)] 3 6 fn_spec_l7Value := fun hargs hw => enter Tryz.func105 rfl IR_spec_l7Value hargs hw
end Go.Proofs.YtglnelcmcimljaaGreat

namespace Go.Proofs.YtglnelcmcimljaaGreat
open Go
def H_spec_l13Merge : Hint := ⟨[(0, false), (1, true), (2, true), (3, false), (4, false), (5, true), (6, false), (7, false), (8, false), (9, false), (10, true), (11, false), (12, false)], [[0, 7, 8, 9, 10, 11, 12], [0, 8, 9, 10, 11, 12], [0, 3, 6, 7, 9, 10, 11, 12], [0, 3, 6, 7, 8, 10, 11, 12], [0, 3, 6, 7, 8]]⟩
def K46_1 : C := .seq (.pl <| .e 13 1 <|
 .o (.pget (some 13) none 5 0 (some 3)) <|
 .o (.pset none 2 0 3 (.v 13)) .done) (.ret)
@[simp] def W46_1 := C.w K46_1.eq_1
def K46_2 : C := .pl <| .e 13 2 <|
 .m 13 9 <|
 .x 14 (.bin .add (.v 13) (.c (.int .i64 1))) <|
 .m 9 14 .done
@[simp] def W46_2 := C.w K46_2.eq_1
def K46_3 : Pl := .a 18 5 <|
 .o (.pset (some 18) 5 2 1 (.v 17)) .done
@[simp] def W46_3 := Pl.w K46_3.eq_1
def K46_4 : C := .pl <| .e 13 6 <|
 .a 13 5 <|
 .g 14 13 5 2 <|
 .o (.pget (some 15) none 10 0 (some 4)) <|
 .o (.psl 16 [.int .i64 0, .int .i64 0, .int .i64 0, .int .i64 0] [(0, 4, .v 15)]) <|
 .c 17 (.app 32 4 [.int .i64 0, .int .i64 0, .int .i64 0, .int .i64 0] (.o (.v 14)) (.p 1 16)) K46_3
@[simp] def W46_4 := C.w K46_4.eq_1
def K46_5 : C := .cond 13 (.v 14) K46_4 (.skip)
@[simp] def W46_5 := C.w K46_5.eq_1
def K46_6 : C := .seq (.pl <| .e 13 2 <|
 .m 13 11 <|
 .x 14 (.un .not (.v 13)) .done) K46_5
@[simp] def W46_6 := C.w K46_6.eq_1
def K46_7 : C := .pl <| .e 13 2 <|
 .m 13 12 <|
 .x 14 (.bin .add (.v 13) (.c (.int .i64 1))) <|
 .m 12 14 .done
@[simp] def W46_7 := C.w K46_7.eq_1
def K46_8 : C := .seq (.block 9 (.pl <| .e 13 10 <|
 .m 13 11 <|
 .m 14 13 <|
 .n 14 (.als 15 none 5) <|
 .n 14 (.pget (some 16) (some 15) 5 2 none) <|
 .n 14 (.px (some 17) (.mv (.v 12))) <|
 .n 14 (.px (some 18) (.ia 4 (.v 16) (.v 17))) <|
 .n 14 (.ld (some 19) (.v 18) (some 4)) <|
 .n 14 (.pget (some 20) none 10 0 (some 4)) <|
 .n 14 (.px (some 21) (.eqf false [.i, .i, .i, .i] (.v 19) (.v 20))) <|
 .x 22 (.pick (.v 14) (.c (.bool true)) (.v 21)) <|
 .m 11 22 .done)) K46_7
@[simp] def W46_8 := C.w K46_8.eq_1
def K46_9 : C := .cond 13 (.v 17) (.skip) (.exit 8)
@[simp] def W46_9 := C.w K46_9.eq_1
def K46_10 : C := .seq (.seq (.pl <| .e 13 5 <|
 .m 13 12 <|
 .a 14 5 <|
 .g 15 14 5 2 <|
 .x 16 (.lenV (.v 15)) <|
 .x 17 (.bin .lss (.v 13) (.v 16)) .done) K46_9) K46_8
@[simp] def W46_10 := C.w K46_10.eq_1
def K46_11 : C := .block 8 (.loop 13 [0, 3, 6, 7, 8] K46_10)
@[simp] def W46_11 := C.w K46_11.eq_1
def K46_12 : C := .seq (.seq (.pl <| .e 13 0 <|
 .x 12 (.mv (.c (.int .i64 0))) .done) K46_11) K46_6
@[simp] def W46_12 := C.w K46_12.eq_1
def K46_13 : C := .seq (.pl <| .e 13 0 <|
 .x 11 (.mv (.c (.bool false))) .done) K46_12
@[simp] def W46_13 := C.w K46_13.eq_1
def K46_14 : C := .seq (.block 7 (.seq (.pl <| .e 13 31 <|
 .m 13 4 <|
 .a 14 1 <|
 .g 15 14 1 2 <|
 .m 16 9 <|
 .x 17 (.ia 4 (.v 15) (.v 16)) <|
 .x 18 (.fa 0 (.v 17)) <|
 .l 19 18 <|
 .x 20 (.ia 1 (.v 13) (.v 19)) <|
 .l 21 20 <|
 .a 22 1 <|
 .g 23 22 1 2 <|
 .m 24 9 <|
 .x 25 (.ia 4 (.v 23) (.v 24)) <|
 .x 26 (.fa 1 (.v 25)) <|
 .l 27 26 <|
 .a 28 1 <|
 .g 29 28 1 2 <|
 .m 30 9 <|
 .x 31 (.ia 4 (.v 29) (.v 30)) <|
 .x 32 (.fa 2 (.v 31)) <|
 .l 33 32 <|
 .m 34 4 <|
 .a 35 1 <|
 .g 36 35 1 2 <|
 .m 37 9 <|
 .x 38 (.ia 4 (.v 36) (.v 37)) <|
 .x 39 (.fa 3 (.v 38)) <|
 .l 40 39 <|
 .x 41 (.ia 1 (.v 34) (.v 40)) <|
 .l 42 41 <|
 .x 43 (.build [.int .i64 0, .int .i64 0, .int .i64 0, .int .i64 0] [(0, 1, .v 21), (1, 1, .v 27), (2, 1, .v 33), (3, 1, .v 42)]) <|
 .o (.pnew 10 (.c (.agg #[.int .i64 0, .int .i64 0, .int .i64 0, .int .i64 0])) []) <|
 .o (.pset none 10 0 4 (.v 43)) .done) K46_13)) K46_2
@[simp] def W46_14 := C.w K46_14.eq_1
def K46_15 : C := .cond 13 (.v 17) (.skip) (.exit 6)
@[simp] def W46_15 := C.w K46_15.eq_1
def K46_16 : C := .seq (.seq (.pl <| .e 13 5 <|
 .m 13 9 <|
 .a 14 1 <|
 .g 15 14 1 2 <|
 .x 16 (.lenV (.v 15)) <|
 .x 17 (.bin .lss (.v 13) (.v 16)) .done) K46_15) K46_14
@[simp] def W46_16 := C.w K46_16.eq_1
def K46_17 : C := .block 6 (.loop 13 [0, 3, 6, 7, 8, 10, 11, 12] K46_16)
@[simp] def W46_17 := C.w K46_17.eq_1
def K46_18 : C := .seq (.seq (.pl <| .e 13 0 <|
 .x 9 (.mv (.c (.int .i64 0))) .done) K46_17) K46_1
@[simp] def W46_18 := C.w K46_18.eq_1
def K46_19 : C := .pl <| .e 13 2 <|
 .m 13 8 <|
 .x 14 (.bin .add (.v 13) (.c (.int .i64 1))) <|
 .m 8 14 .done
@[simp] def W46_19 := C.w K46_19.eq_1
def K46_20 : Pl := .a 24 5 <|
 .o (.pset (some 24) 5 0 1 (.v 23)) .done
@[simp] def W46_20 := Pl.w K46_20.eq_1
def K46_21 : C := .seq (.block 5 (.pl <| .e 13 12 <|
 .a 13 5 <|
 .g 14 13 5 0 <|
 .m 15 4 <|
 .a 16 1 <|
 .g 17 16 1 0 <|
 .m 18 8 <|
 .x 19 (.ia 1 (.v 17) (.v 18)) <|
 .l 20 19 <|
 .x 21 (.ia 1 (.v 15) (.v 20)) <|
 .l 22 21 <|
 .c 23 (.call fn_spec_l10Sorted [.v 14, .v 22]) K46_20)) K46_19
@[simp] def W46_21 := C.w K46_21.eq_1
def K46_22 : C := .cond 13 (.v 17) (.skip) (.exit 4)
@[simp] def W46_22 := C.w K46_22.eq_1
def K46_23 : C := .seq (.seq (.pl <| .e 13 5 <|
 .m 13 8 <|
 .a 14 1 <|
 .g 15 14 1 0 <|
 .x 16 (.lenV (.v 15)) <|
 .x 17 (.bin .lss (.v 13) (.v 16)) .done) K46_22) K46_21
@[simp] def W46_23 := C.w K46_23.eq_1
def K46_24 : C := .block 4 (.loop 13 [0, 3, 6, 7, 9, 10, 11, 12] K46_23)
@[simp] def W46_24 := C.w K46_24.eq_1
def K46_25 : C := .seq (.seq (.pl <| .e 13 0 <|
 .x 8 (.mv (.c (.int .i64 0))) .done) K46_24) K46_18
@[simp] def W46_25 := C.w K46_25.eq_1
def K46_26 : C := .pl <| .e 13 2 <|
 .m 13 6 <|
 .x 14 (.bin .add (.v 13) (.c (.int .i64 1))) <|
 .m 6 14 .done
@[simp] def W46_26 := C.w K46_26.eq_1
def K46_27 : Pl := .m 4 19 .done
@[simp] def W46_27 := Pl.w K46_27.eq_1
def K46_28 : C := .pl <| .e 13 7 <|
 .m 13 4 <|
 .m 14 4 <|
 .m 15 7 <|
 .x 16 (.ia 1 (.v 14) (.v 15)) <|
 .l 17 16 <|
 .o (.psl 18 [.int .i64 0] [(0, 1, .v 17)]) <|
 .c 19 (.app 8 1 [.int .i64 0] (.o (.v 13)) (.p 1 18)) K46_27
@[simp] def W46_28 := C.w K46_28.eq_1
def K46_29 : Pl := .a 22 5 <|
 .o (.pset (some 22) 5 1 1 (.v 21)) .done
@[simp] def W46_29 := Pl.w K46_29.eq_1
def K46_30 : C := .pl <| .e 13 10 <|
 .a 13 5 <|
 .g 14 13 5 1 <|
 .a 15 1 <|
 .g 16 15 1 1 <|
 .m 17 6 <|
 .x 18 (.ia 1 (.v 16) (.v 17)) <|
 .l 19 18 <|
 .o (.psl 20 [.bool false] [(0, 1, .v 19)]) <|
 .c 21 (.app 1 1 [.bool false] (.o (.v 14)) (.p 1 20)) K46_29
@[simp] def W46_30 := C.w K46_30.eq_1
def K46_31 : Pl := .m 4 18 .done
@[simp] def W46_31 := Pl.w K46_31.eq_1
def K46_32 : C := .seq (.pl <| .e 13 6 <|
 .m 13 4 <|
 .a 14 5 <|
 .g 15 14 5 1 <|
 .x 16 (.lenV (.v 15)) <|
 .o (.psl 17 [.int .i64 0] [(0, 1, .v 16)]) <|
 .c 18 (.app 8 1 [.int .i64 0] (.o (.v 13)) (.p 1 17)) K46_31) K46_30
@[simp] def W46_32 := C.w K46_32.eq_1
def K46_33 : C := .cond 13 (.v 15) K46_28 K46_32
@[simp] def W46_33 := C.w K46_33.eq_1
def K46_34 : C := .seq (.pl <| .e 13 3 <|
 .m 13 7 <|
 .m 14 6 <|
 .x 15 (.bin .lss (.v 13) (.v 14)) .done) K46_33
@[simp] def W46_34 := C.w K46_34.eq_1
def K46_35 : C := .block 3 (.pl <| .e 13 2 <|
 .m 13 7 <|
 .x 14 (.bin .add (.v 13) (.c (.int .i64 1))) <|
 .m 7 14 .done)
@[simp] def W46_35 := C.w K46_35.eq_1
def K46_36 : C := .cond 13 (.v 34) (.skip) (.exit 2)
@[simp] def W46_36 := C.w K46_36.eq_1
def K46_37 : C := .seq (.seq (.pl <| .e 13 22 <|
 .m 13 7 <|
 .m 14 6 <|
 .x 15 (.bin .lss (.v 13) (.v 14)) <|
 .m 16 15 <|
 .y 16 (.px (some 17) (.mv (.v 3))) <|
 .y 16 (.px (some 18) (.mv (.v 6))) <|
 .y 16 (.px (some 19) (.ia 1 (.v 17) (.v 18))) <|
 .y 16 (.ld (some 20) (.v 19) none) <|
 .y 16 (.px (some 21) (.mv (.v 7))) <|
 .y 16 (.px (some 22) (.ia 1 (.v 20) (.v 21))) <|
 .y 16 (.ld (some 23) (.v 22) none) <|
 .y 16 (.px (some 24) (.mv (.v 23))) <|
 .y 24 (.px (some 25) (.mv (.v 3))) <|
 .y 24 (.px (some 26) (.mv (.v 7))) <|
 .y 24 (.px (some 27) (.ia 1 (.v 25) (.v 26))) <|
 .y 24 (.ld (some 28) (.v 27) none) <|
 .y 24 (.px (some 29) (.mv (.v 6))) <|
 .y 24 (.px (some 30) (.ia 1 (.v 28) (.v 29))) <|
 .y 24 (.ld (some 31) (.v 30) none) <|
 .y 16 (.px (some 32) (.pick (.v 24) (.v 31) (.c (.bool false)))) <|
 .y 16 (.px (some 33) (.un .not (.v 32))) <|
 .x 34 (.pick (.v 16) (.v 33) (.c (.bool false))) .done) K46_36) K46_35
@[simp] def W46_37 := C.w K46_37.eq_1
def K46_38 : C := .seq (.block 2 (.loop 13 [0, 8, 9, 10, 11, 12] K46_37)) K46_34
@[simp] def W46_38 := C.w K46_38.eq_1
def K46_39 : C := .seq (.block 1 (.seq (.pl <| .e 13 0 <|
 .x 7 (.mv (.c (.int .i64 0))) .done) K46_38)) K46_26
@[simp] def W46_39 := C.w K46_39.eq_1
def K46_40 : C := .cond 13 (.v 16) (.skip) (.exit 0)
@[simp] def W46_40 := C.w K46_40.eq_1
def K46_41 : C := .seq (.seq (.pl <| .e 13 4 <|
 .m 13 6 <|
 .m 14 3 <|
 .x 15 (.lenV (.v 14)) <|
 .x 16 (.bin .lss (.v 13) (.v 15)) .done) K46_40) K46_39
@[simp] def W46_41 := C.w K46_41.eq_1
def K46_42 : C := .block 0 (.loop 13 [0, 7, 8, 9, 10, 11, 12] K46_41)
@[simp] def W46_42 := C.w K46_42.eq_1
def K46_43 : C := .seq (.seq (.pl <| .e 13 0 <|
 .x 6 (.mv (.c (.int .i64 0))) .done) K46_42) K46_25
@[simp] def W46_43 := C.w K46_43.eq_1
def K46_44 : C := .seq (.pl <| .e 13 1 <|
 .x 13 (.build [.slice none 0 0, .slice none 0 0, .slice none 0 0] []) <|
 .o (.pnew 5 (.c (.agg #[.slice none 0 0, .slice none 0 0, .slice none 0 0])) []) <|
 .o (.pset none 5 0 3 (.v 13)) .done) K46_43
@[simp] def W46_44 := C.w K46_44.eq_1
def K46_45 : Pl := .m 4 13 .done
@[simp] def W46_45 := Pl.w K46_45.eq_1
def K46_46 : C := .seq (.pl <| .e 13 1 <|
 .c 13 (.bls 1 0 [.int .i64 0] []) K46_45) K46_44
@[simp] def W46_46 := C.w K46_46.eq_1
def K46_47 : Pl := .m 3 14 .done
@[simp] def W46_47 := Pl.w K46_47.eq_1
def K46_48 : C := .seq (.pl <| .e 13 2 <|
 .o (.pget (some 13) none 1 0 (some 3)) <|
 .c 14 (.call fn_spec_l13Relation [.v 13]) K46_47) K46_46
@[simp] def W46_48 := C.w K46_48.eq_1
def B_spec_l13Merge : C := .seq (.pl <| .e 13 0 <|
 .o (.pnew 1 (.v 0) []) <|
 .o (.pnew 2 (.c (.agg #[.slice none 0 0, .slice none 0 0, .slice none 0 0])) []) .done) K46_48
@[simp] def WB_spec_l13Merge := C.w B_spec_l13Merge.eq_1
def R_spec_l13Merge : FIR := ⟨B_spec_l13Merge, 13, [(2, some (some 3))]⟩
theorem IR_spec_l13Merge : cfun Tryz.prog H_spec_l13Merge Tryz.f46 = some R_spec_l13Merge := by kernel_rfl
theorem EN_spec_l13Merge : ENT Tryz.prog B_spec_l13Merge [(2, some (some 3))] 1 13 fn_spec_l13Merge := fun hargs hw => enter Tryz.func46 rfl IR_spec_l13Merge hargs hw
def H_spec_l13Relation : Hint := ⟨[(0, false), (1, true), (2, false), (3, false), (4, false), (5, false), (6, false), (7, false), (8, false), (9, false), (10, false), (11, false)], [[0, 2, 6, 7, 8, 9, 10, 11], [0, 2, 8, 9, 10, 11], [0, 1, 2, 5, 6, 7, 10, 11], [0, 1, 2, 5, 6, 7, 11], [0, 1, 2, 5, 6, 7]]⟩
def K91_1 : C := .seq (.pl <| .e 12 1 <|
 .m 12 4 <|
 .m 2 12 .done) (.ret)
@[simp] def W91_1 := C.w K91_1.eq_1
def K91_2 : C := .pl <| .e 12 2 <|
 .m 12 10 <|
 .x 13 (.bin .add (.v 12) (.c (.int .i64 1))) <|
 .m 10 13 .done
@[simp] def W91_2 := C.w K91_2.eq_1
def K91_3 : C := .pl <| .e 12 2 <|
 .m 12 11 <|
 .x 13 (.bin .add (.v 12) (.c (.int .i64 1))) <|
 .m 11 13 .done
@[simp] def W91_3 := C.w K91_3.eq_1
def K91_4 : C := .pl <| .e 12 0 <|
 .x 9 (.mv (.c (.bool true))) .done
@[simp] def W91_4 := C.w K91_4.eq_1
def K91_5 : C := .seq (.pl <| .e 12 6 <|
 .m 12 4 <|
 .m 13 10 <|
 .x 14 (.ia 1 (.v 12) (.v 13)) <|
 .l 15 14 <|
 .m 16 11 <|
 .x 17 (.ia 1 (.v 15) (.v 16)) <|
 .o (.ex none (.store 1 (.v 17) (.c (.bool false)))) .done) K91_4
@[simp] def W91_5 := C.w K91_5.eq_1
def K91_6 : C := .cond 12 (.v 31) K91_5 (.skip)
@[simp] def W91_6 := C.w K91_6.eq_1
def K91_7 : Pl := .y 19 (.px (some 30) (.un .not (.v 29))) <|
 .x 31 (.pick (.v 19) (.v 30) (.c (.bool false))) .done
@[simp] def W91_7 := Pl.w K91_7.eq_1
def K91_8 : C := .seq (.block 9 (.seq (.pl <| .e 12 20 <|
 .m 12 4 <|
 .m 13 10 <|
 .x 14 (.ia 1 (.v 12) (.v 13)) <|
 .l 15 14 <|
 .m 16 11 <|
 .x 17 (.ia 1 (.v 15) (.v 16)) <|
 .l 18 17 <|
 .m 19 18 <|
 .y 19 (.px (some 20) (.mv (.v 8))) <|
 .y 19 (.px (some 21) (.mv (.v 10))) <|
 .y 19 (.px (some 22) (.ia 1 (.v 20) (.v 21))) <|
 .y 19 (.ld (some 23) (.v 22) none) <|
 .y 19 (.px (some 24) (.mv (.v 8))) <|
 .y 19 (.px (some 25) (.mv (.v 11))) <|
 .y 19 (.px (some 26) (.ia 1 (.v 24) (.v 25))) <|
 .y 19 (.ld (some 27) (.v 26) none) <|
 .y 19 (.px (some 28) (.mv (.v 4))) <|
 .st (.act (some (.v 19, true)) (.ex (some 29) (.call fn_spec_l13Answers [.v 23, .v 27, .v 28]))) K91_7) K91_6)) K91_3
@[simp] def W91_8 := C.w K91_8.eq_1
def K91_9 : C := .cond 12 (.v 14) (.skip) (.exit 8)
@[simp] def W91_9 := C.w K91_9.eq_1
def K91_10 : C := .seq (.seq (.pl <| .e 12 3 <|
 .m 12 11 <|
 .m 13 3 <|
 .x 14 (.bin .lss (.v 12) (.v 13)) .done) K91_9) K91_8
@[simp] def W91_10 := C.w K91_10.eq_1
def K91_11 : C := .block 8 (.loop 12 [0, 1, 2, 5, 6, 7] K91_10)
@[simp] def W91_11 := C.w K91_11.eq_1
def K91_12 : C := .seq (.block 7 (.seq (.pl <| .e 12 0 <|
 .x 11 (.mv (.c (.int .i64 0))) .done) K91_11)) K91_2
@[simp] def W91_12 := C.w K91_12.eq_1
def K91_13 : C := .cond 12 (.v 14) (.skip) (.exit 6)
@[simp] def W91_13 := C.w K91_13.eq_1
def K91_14 : C := .seq (.seq (.pl <| .e 12 3 <|
 .m 12 10 <|
 .m 13 3 <|
 .x 14 (.bin .lss (.v 12) (.v 13)) .done) K91_13) K91_12
@[simp] def W91_14 := C.w K91_14.eq_1
def K91_15 : C := .block 6 (.loop 12 [0, 1, 2, 5, 6, 7, 11] K91_14)
@[simp] def W91_15 := C.w K91_15.eq_1
def K91_16 : C := .seq (.pl <| .e 12 0 <|
 .x 10 (.mv (.c (.int .i64 0))) .done) K91_15
@[simp] def W91_16 := C.w K91_16.eq_1
def K91_17 : C := .block 5 (.seq (.pl <| .e 12 0 <|
 .x 9 (.mv (.c (.bool false))) .done) K91_16)
@[simp] def W91_17 := C.w K91_17.eq_1
def K91_18 : C := .cond 12 (.v 12) (.skip) (.exit 4)
@[simp] def W91_18 := C.w K91_18.eq_1
def K91_19 : C := .seq (.seq (.pl <| .e 12 1 <|
 .m 12 9 .done) K91_18) K91_17
@[simp] def W91_19 := C.w K91_19.eq_1
def K91_20 : C := .block 4 (.loop 12 [0, 1, 2, 5, 6, 7, 10, 11] K91_19)
@[simp] def W91_20 := C.w K91_20.eq_1
def K91_21 : C := .seq (.seq (.pl <| .e 12 0 <|
 .x 9 (.mv (.c (.bool true))) .done) K91_20) K91_1
@[simp] def W91_21 := C.w K91_21.eq_1
def K91_22 : Pl := .m 8 13 .done
@[simp] def W91_22 := Pl.w K91_22.eq_1
def K91_23 : C := .seq (.pl <| .e 12 2 <|
 .o (.pget (some 12) none 1 0 (some 3)) <|
 .c 13 (.call fn_spec_l13Leaving [.v 12]) K91_22) K91_21
@[simp] def W91_23 := C.w K91_23.eq_1
def K91_24 : C := .pl <| .e 12 2 <|
 .m 12 5 <|
 .x 13 (.bin .add (.v 12) (.c (.int .i64 1))) <|
 .m 5 13 .done
@[simp] def W91_24 := C.w K91_24.eq_1
def K91_25 : Pl := .m 4 15 .done
@[simp] def W91_25 := Pl.w K91_25.eq_1
def K91_26 : C := .pl <| .e 12 4 <|
 .m 12 4 <|
 .m 13 6 <|
 .o (.psl 14 [.slice none 0 0] [(0, 1, .v 13)]) <|
 .c 15 (.app 24 1 [.slice none 0 0] (.o (.v 12)) (.p 1 14)) K91_25
@[simp] def W91_26 := C.w K91_26.eq_1
def K91_27 : C := .pl <| .e 12 2 <|
 .m 12 7 <|
 .x 13 (.bin .add (.v 12) (.c (.int .i64 1))) <|
 .m 7 13 .done
@[simp] def W91_27 := C.w K91_27.eq_1
def K91_28 : Pl := .m 6 27 .done
@[simp] def W91_28 := Pl.w K91_28.eq_1
def K91_29 : C := .seq (.block 3 (.pl <| .e 12 16 <|
 .m 12 6 <|
 .a 13 1 <|
 .g 14 13 1 1 <|
 .m 15 5 <|
 .x 16 (.ia 1 (.v 14) (.v 15)) <|
 .l 17 16 <|
 .x 18 (.un .not (.v 17)) <|
 .m 19 18 <|
 .n 19 (.als 20 none 1) <|
 .n 19 (.pget (some 21) (some 20) 1 1 none) <|
 .n 19 (.px (some 22) (.mv (.v 7))) <|
 .n 19 (.px (some 23) (.ia 1 (.v 21) (.v 22))) <|
 .n 19 (.ld (some 24) (.v 23) none) <|
 .x 25 (.pick (.v 19) (.c (.bool true)) (.v 24)) <|
 .o (.psl 26 [.bool false] [(0, 1, .v 25)]) <|
 .c 27 (.app 1 1 [.bool false] (.o (.v 12)) (.p 1 26)) K91_28)) K91_27
@[simp] def W91_29 := C.w K91_29.eq_1
def K91_30 : C := .cond 12 (.v 14) (.skip) (.exit 2)
@[simp] def W91_30 := C.w K91_30.eq_1
def K91_31 : C := .seq (.seq (.pl <| .e 12 3 <|
 .m 12 7 <|
 .m 13 3 <|
 .x 14 (.bin .lss (.v 12) (.v 13)) .done) K91_30) K91_29
@[simp] def W91_31 := C.w K91_31.eq_1
def K91_32 : C := .block 2 (.loop 12 [0, 2, 8, 9, 10, 11] K91_31)
@[simp] def W91_32 := C.w K91_32.eq_1
def K91_33 : C := .seq (.seq (.pl <| .e 12 0 <|
 .x 7 (.mv (.c (.int .i64 0))) .done) K91_32) K91_26
@[simp] def W91_33 := C.w K91_33.eq_1
def K91_34 : Pl := .m 6 12 .done
@[simp] def W91_34 := Pl.w K91_34.eq_1
def K91_35 : C := .seq (.block 1 (.seq (.pl <| .e 12 1 <|
 .c 12 (.bls 1 0 [.bool false] []) K91_34) K91_33)) K91_24
@[simp] def W91_35 := C.w K91_35.eq_1
def K91_36 : C := .cond 12 (.v 14) (.skip) (.exit 0)
@[simp] def W91_36 := C.w K91_36.eq_1
def K91_37 : C := .seq (.seq (.pl <| .e 12 3 <|
 .m 12 5 <|
 .m 13 3 <|
 .x 14 (.bin .lss (.v 12) (.v 13)) .done) K91_36) K91_35
@[simp] def W91_37 := C.w K91_37.eq_1
def K91_38 : C := .block 0 (.loop 12 [0, 2, 6, 7, 8, 9, 10, 11] K91_37)
@[simp] def W91_38 := C.w K91_38.eq_1
def K91_39 : C := .seq (.seq (.pl <| .e 12 0 <|
 .x 5 (.mv (.c (.int .i64 0))) .done) K91_38) K91_23
@[simp] def W91_39 := C.w K91_39.eq_1
def K91_40 : Pl := .m 4 12 .done
@[simp] def W91_40 := Pl.w K91_40.eq_1
def K91_41 : C := .seq (.pl <| .e 12 1 <|
 .c 12 (.bls 1 0 [.slice none 0 0] []) K91_40) K91_39
@[simp] def W91_41 := C.w K91_41.eq_1
def K91_42 : C := .seq (.pl <| .e 12 3 <|
 .a 12 1 <|
 .g 13 12 1 1 <|
 .x 14 (.lenV (.v 13)) <|
 .m 3 14 .done) K91_41
@[simp] def W91_42 := C.w K91_42.eq_1
def B_spec_l13Relation : C := .seq (.pl <| .e 12 0 <|
 .o (.pnew 1 (.v 0) []) <|
 .x 2 (.mv (.c (.slice none 0 0))) .done) K91_42
@[simp] def WB_spec_l13Relation := C.w B_spec_l13Relation.eq_1
def R_spec_l13Relation : FIR := ⟨B_spec_l13Relation, 12, [(2, none)]⟩
theorem IR_spec_l13Relation : cfun Tryz.prog H_spec_l13Relation Tryz.f91 = some R_spec_l13Relation := by kernel_rfl
theorem EN_spec_l13Relation : ENT Tryz.prog B_spec_l13Relation [(2, none)] 1 12 fn_spec_l13Relation := fun hargs hw => enter Tryz.func91 rfl IR_spec_l13Relation hargs hw
def H_spec_l6Lasso : Hint := ⟨[(0, false), (2, true), (3, true)], []⟩
def K44_1 : C := .seq (.pl <| .e 3 1 <|
 .o (.pget (some 3) none 2 0 (some 2)) <|
 .o (.pset none 1 0 2 (.v 3)) .done) (.ret)
@[simp] def W44_1 := C.w K44_1.eq_1
def K44_2 : Pl := .a 10 2 <|
 .o (.pset (some 10) 2 1 1 (.v 9)) .done
@[simp] def W44_2 := Pl.w K44_2.eq_1
def K44_3 : Pl := .c 9 (.app 8 1 [.int .i64 0] (.o (.v 6)) (.o (.v 8))) K44_2
@[simp] def W44_3 := Pl.w K44_3.eq_1
def K44_4 : C := .pl <| .e 3 8 <|
 .o (.psl 3 [] []) <|
 .a 4 2 <|
 .g 5 4 2 1 <|
 .a 7 2 <|
 .g 8 7 2 1 <|
 .c 6 (.app 8 1 [.int .i64 0] (.p 0 3) (.o (.v 5))) K44_3
@[simp] def W44_4 := C.w K44_4.eq_1
def K44_5 : C := .cond 3 (.v 5) K44_4 (.skip)
@[simp] def W44_5 := C.w K44_5.eq_1
def K44_6 : Pl := .x 5 (.bin .eql (.v 4) (.c (.int .i64 0))) .done
@[simp] def W44_6 := Pl.w K44_6.eq_1
def K44_7 : C := .seq (.seq (.pl <| .e 3 3 <|
 .m 3 0 <|
 .c 4 (.call fn_spec_l16Rd_pick [.v 3, .c (.int .i64 4)]) K44_6) K44_5) K44_1
@[simp] def W44_7 := C.w K44_7.eq_1
def K44_8 : Pl := .x 13 (.build [.slice none 0 0, .slice none 0 0] [(0, 1, .v 7), (1, 1, .v 12)]) <|
 .o (.pnew 2 (.c (.agg #[.slice none 0 0, .slice none 0 0])) []) <|
 .o (.pset none 2 0 2 (.v 13)) .done
@[simp] def W44_8 := Pl.w K44_8.eq_1
def K44_9 : Pl := .c 12 (.call fn_spec_l6Word [.v 8, .v 11]) K44_8
@[simp] def W44_9 := Pl.w K44_9.eq_1
def K44_10 : Pl := .c 11 (.call fn_spec_l16Rd_num [.v 9, .v 10]) K44_9
@[simp] def W44_10 := Pl.w K44_10.eq_1
def K44_11 : Pl := .m 8 0 <|
 .m 9 0 <|
 .c 10 (.bls 1 4 [.int .i64 0] [(0, 1, .c (.int .i64 2)), (1, 1, .c (.int .i64 1)), (2, 1, .c (.int .i64 3)), (3, 1, .c (.int .i64 4))]) K44_10
@[simp] def W44_11 := Pl.w K44_11.eq_1
def K44_12 : Pl := .c 7 (.call fn_spec_l6Word [.v 3, .v 6]) K44_11
@[simp] def W44_12 := Pl.w K44_12.eq_1
def K44_13 : Pl := .c 6 (.call fn_spec_l16Rd_num [.v 4, .v 5]) K44_12
@[simp] def W44_13 := Pl.w K44_13.eq_1
def K44_14 : C := .seq (.pl <| .e 3 11 <|
 .m 3 0 <|
 .m 4 0 <|
 .c 5 (.bls 1 5 [.int .i64 0] [(0, 1, .c (.int .i64 2)), (1, 1, .c (.int .i64 0)), (2, 1, .c (.int .i64 3)), (3, 1, .c (.int .i64 1)), (4, 1, .c (.int .i64 5))]) K44_13) K44_7
@[simp] def W44_14 := C.w K44_14.eq_1
def B_spec_l6Lasso : C := .seq (.pl <| .e 3 0 <|
 .o (.pnew 1 (.c (.agg #[.slice none 0 0, .slice none 0 0])) []) .done) K44_14
@[simp] def WB_spec_l6Lasso := C.w B_spec_l6Lasso.eq_1
def R_spec_l6Lasso : FIR := ⟨B_spec_l6Lasso, 3, [(1, some (some 2))]⟩
theorem IR_spec_l6Lasso : cfun Tryz.prog H_spec_l6Lasso Tryz.f44 = some R_spec_l6Lasso := by kernel_rfl
theorem EN_spec_l6Lasso : ENT Tryz.prog B_spec_l6Lasso [(1, some (some 2))] 1 3 fn_spec_l6Lasso := fun hargs hw => enter Tryz.func44 rfl IR_spec_l6Lasso hargs hw
def H_spec_l6Mutate : Hint := ⟨[(0, false), (1, false), (3, true), (4, true), (5, true), (16, false)], [[1, 2, 5]]⟩
def K43_1 : C := .seq (.pl <| .e 6 1 <|
 .o (.pget (some 6) none 4 0 (some 2)) <|
 .o (.pset none 3 0 2 (.v 6)) .done) (.ret)
@[simp] def W43_1 := C.w K43_1.eq_1
def K43_2 : Pl := .a 7 4 <|
 .o (.pset (some 7) 4 1 1 (.v 6)) .done
@[simp] def W43_2 := Pl.w K43_2.eq_1
def K43_3 : C := .pl <| .e 6 2 <|
 .c 6 (.bls 1 0 [.int .i64 0] []) K43_2
@[simp] def W43_3 := C.w K43_3.eq_1
def K43_4 : Pl := .x 11 (.ia 1 (.v 7) (.c (.int .i64 0))) <|
 .o (.ex none (.store 1 (.v 11) (.v 10))) .done
@[simp] def W43_4 := Pl.w K43_4.eq_1
def K43_5 : Pl := .c 10 (.call fn_spec_l16Rd_num [.v 8, .v 9]) K43_4
@[simp] def W43_5 := Pl.w K43_5.eq_1
def K43_6 : C := .pl <| .e 6 6 <|
 .a 6 4 <|
 .g 7 6 4 1 <|
 .m 8 0 <|
 .c 9 (.bls 1 4 [.int .i64 0] [(0, 1, .c (.int .i64 8)), (1, 1, .c (.int .i64 (-1))), (2, 1, .c (.int .i64 7)), (3, 1, .c (.int .i64 9223372036854775807))]) K43_5
@[simp] def W43_6 := C.w K43_6.eq_1
def K43_7 : Pl := .a 13 4 <|
 .o (.pset (some 13) 4 0 1 (.v 12)) .done
@[simp] def W43_7 := Pl.w K43_7.eq_1
def K43_8 : Pl := .o (.psl 11 [.int .i64 0] [(0, 1, .v 10)]) <|
 .c 12 (.app 8 1 [.int .i64 0] (.o (.v 7)) (.p 1 11)) K43_7
@[simp] def W43_8 := Pl.w K43_8.eq_1
def K43_9 : Pl := .c 10 (.call fn_spec_l16Rd_num [.v 8, .v 9]) K43_8
@[simp] def W43_9 := Pl.w K43_9.eq_1
def K43_10 : C := .pl <| .e 6 8 <|
 .a 6 4 <|
 .g 7 6 4 0 <|
 .m 8 0 <|
 .c 9 (.bls 1 3 [.int .i64 0] [(0, 1, .c (.int .i64 8)), (1, 1, .c (.int .i64 0)), (2, 1, .c (.int .i64 (-9223372036854775808)))]) K43_9
@[simp] def W43_10 := C.w K43_10.eq_1
def K43_11 : Pl := .a 10 4 <|
 .o (.pset (some 10) 4 0 1 (.v 9)) .done
@[simp] def W43_11 := Pl.w K43_11.eq_1
def K43_12 : C := .block 2 (.pl <| .e 6 5 <|
 .a 6 4 <|
 .g 7 6 4 0 <|
 .o (.psl 8 [.int .i64 0] [(0, 1, .c (.int .i64 1))]) <|
 .c 9 (.app 8 1 [.int .i64 0] (.o (.v 7)) (.p 1 8)) K43_11)
@[simp] def W43_12 := C.w K43_12.eq_1
def K43_13 : C := .cond 6 (.v 12) (.skip) (.exit 1)
@[simp] def W43_13 := C.w K43_13.eq_1
def K43_14 : Pl := .x 11 (.bin .add (.c (.int .i64 80)) (.v 10)) <|
 .x 12 (.bin .lss (.v 8) (.v 11)) .done
@[simp] def W43_14 := Pl.w K43_14.eq_1
def K43_15 : C := .seq (.seq (.pl <| .e 6 7 <|
 .a 6 4 <|
 .g 7 6 4 0 <|
 .x 8 (.lenV (.v 7)) <|
 .m 9 0 <|
 .c 10 (.call fn_spec_l16Rd_pick [.v 9, .c (.int .i64 2)]) K43_14) K43_13) K43_12
@[simp] def W43_15 := C.w K43_15.eq_1
def K43_16 : C := .block 1 (.loop 6 [1, 2, 5] K43_15)
@[simp] def W43_16 := C.w K43_16.eq_1
def K43_17 : C := .cond 6 (.v 7) K43_16 (.skip)
@[simp] def W43_17 := C.w K43_17.eq_1
def K43_18 : C := .seq (.pl <| .e 6 2 <|
 .x 6 (.bin .eql (.v 5) (.c (.int .i64 3))) <|
 .m 7 6 .done) K43_17
@[simp] def W43_18 := C.w K43_18.eq_1
def K43_19 : C := .cond 6 (.v 7) K43_10 K43_18
@[simp] def W43_19 := C.w K43_19.eq_1
def K43_20 : C := .seq (.pl <| .e 6 2 <|
 .x 6 (.bin .eql (.v 5) (.c (.int .i64 2))) <|
 .m 7 6 .done) K43_19
@[simp] def W43_20 := C.w K43_20.eq_1
def K43_21 : C := .cond 6 (.v 7) K43_6 K43_20
@[simp] def W43_21 := C.w K43_21.eq_1
def K43_22 : C := .seq (.pl <| .e 6 2 <|
 .x 6 (.bin .eql (.v 5) (.c (.int .i64 1))) <|
 .m 7 6 .done) K43_21
@[simp] def W43_22 := C.w K43_22.eq_1
def K43_23 : C := .cond 6 (.v 7) K43_3 K43_22
@[simp] def W43_23 := C.w K43_23.eq_1
def K43_24 : C := .block 0 (.seq (.pl <| .e 6 2 <|
 .x 6 (.bin .eql (.v 5) (.c (.int .i64 0))) <|
 .m 7 6 .done) K43_23)
@[simp] def W43_24 := C.w K43_24.eq_1
def K43_25 : C := .seq (.seq (.pl <| .e 6 1 <|
 .m 6 0 <|
 .c 5 (.call fn_spec_l16Rd_pick [.v 6, .c (.int .i64 40)]) .done) K43_24) K43_1
@[simp] def W43_25 := C.w K43_25.eq_1
def K43_26 : Pl := .x 14 (.build [.slice none 0 0, .slice none 0 0] [(0, 1, .v 9), (1, 1, .v 13)]) <|
 .o (.pset none 4 0 2 (.v 14)) .done
@[simp] def W43_26 := Pl.w K43_26.eq_1
def K43_27 : Pl := .c 13 (.app 8 1 [.int .i64 0] (.p 0 10) (.o (.v 12))) K43_26
@[simp] def W43_27 := Pl.w K43_27.eq_1
def K43_28 : C := .seq (.pl <| .e 6 9 <|
 .o (.psl 6 [] []) <|
 .a 7 2 <|
 .g 8 7 2 0 <|
 .o (.psl 10 [] []) <|
 .a 11 2 <|
 .g 12 11 2 1 <|
 .o (.pnew 4 (.c (.agg #[.slice none 0 0, .slice none 0 0])) []) <|
 .c 9 (.app 8 1 [.int .i64 0] (.p 0 6) (.o (.v 8))) K43_27) K43_25
@[simp] def W43_28 := C.w K43_28.eq_1
def B_spec_l6Mutate : C := .seq (.pl <| .e 6 0 <|
 .o (.pnew 2 (.v 1) []) <|
 .o (.pnew 3 (.c (.agg #[.slice none 0 0, .slice none 0 0])) []) .done) K43_28
@[simp] def WB_spec_l6Mutate := C.w B_spec_l6Mutate.eq_1
def R_spec_l6Mutate : FIR := ⟨B_spec_l6Mutate, 6, [(3, some (some 2))]⟩
theorem IR_spec_l6Mutate : cfun Tryz.prog H_spec_l6Mutate Tryz.f43 = some R_spec_l6Mutate := by kernel_rfl
theorem EN_spec_l6Mutate : ENT Tryz.prog B_spec_l6Mutate [(3, some (some 2))] 2 6 fn_spec_l6Mutate := fun hargs hw => enter Tryz.func43 rfl IR_spec_l6Mutate hargs hw
end Go.Proofs.YtglnelcmcimljaaGreat

namespace Go.Proofs.YtglnelcmcimljaaGreat
open Go
end Go.Proofs.YtglnelcmcimljaaGreat

namespace Go.Proofs.YtglnelcmcimljaaGreat
open Go
namespace Fm
def arity (k : Int) : Int := if k = 1 ∨ k = 2 then 0 else if k = 3 ∨ k = 6 ∨ k = 9 ∨ k = 10 then 1 else if k = 4 ∨ k = 5 ∨ k = 7 ∨ k = 8 then 2 else -1
structure Nd (x : Exq) : Prop where
  ar : (x.kids.length : Int) = arity x.kind
  lo : 0 ≤ x.val
  hi : x.val < 3
  ze : x.kind ≠ 2 → x.val = 0
def Shp : Nat → Exq → Prop
  | 0, _ => False
  | n + 1, x => Nd x ∧ ∀ y ∈ x.kids, Shp n y
noncomputable instance {n : Nat} {x : Exq} : Decidable (Shp n x) := Classical.propDecidable _
def Ok (x : Exq) : Prop := Shp 6 x ∧ x.nod ≤ 12
noncomputable instance {x : Exq} : Decidable (Ok x) := Classical.propDecidable _
theorem Nd.kind {x : Exq} (h : Nd x) : 1 ≤ x.kind ∧ x.kind ≤ 10 := by
  have := h.ar
  unfold arity at this
  split at this <;> (try split at this) <;> (try split at this) <;> omega
theorem arity_le {k : Int} : arity k ≤ 2 := by
  unfold arity
  split <;> (try split) <;> (try split) <;> omega
theorem arity_ge {k : Int} : -1 ≤ arity k := by
  unfold arity
  split <;> (try split) <;> (try split) <;> omega
theorem Shp.nd {n : Nat} {x : Exq} (h : Shp n x) : Nd x := by
  cases n with
  | zero => exact h.elim
  | succ n => exact h.1
theorem Shp.kid {n : Nat} {x : Exq} (h : Shp (n + 1) x) {i : Nat} (hi : i < x.kids.length) : Shp n x.kids[i] := h.2 _ (List.getElem_mem hi)
theorem Shp.le2 {n : Nat} {x : Exq} (h : Shp n x) : x.kids.length ≤ 2 := by
  have h1 := h.nd.ar
  have h2 := arity_le (k := x.kind)
  omega
theorem Shp.two {n : Nat} {x : Exq} (h : Shp n x) (hk : x.kind = 4 ∨ x.kind = 5 ∨ x.kind = 7 ∨ x.kind = 8) : x.kids.length = 2 := by
  have h1 := h.nd.ar
  unfold arity at h1
  split at h1 <;> (try split at h1) <;> (try split at h1) <;> omega
theorem Shp.one {n : Nat} {x : Exq} (h : Shp n x) (hk : x.kind = 3 ∨ x.kind = 6 ∨ x.kind = 9 ∨ x.kind = 10) : x.kids.length = 1 := by
  have h1 := h.nd.ar
  unfold arity at h1
  split at h1 <;> (try split at h1) <;> (try split at h1) <;> omega
theorem Shp.none {n : Nat} {x : Exq} (h : Shp n x) (hk : x.kind = 1 ∨ x.kind = 2) : x.kids = [] := by
  have h1 := h.nd.ar
  rw [arity, if_pos hk] at h1
  exact List.length_eq_zero_iff.1 (by omega)
theorem Shp.mono : ∀ {n : Nat} {x : Exq}, Shp n x → Shp (n + 1) x
  | 0, _, h => h.elim
  | n + 1, _, h => ⟨h.1, fun y hy => (h.2 y hy).mono⟩
theorem Shp.bnd : ∀ {n : Nat} {x : Exq}, Shp n x → x.nod < 2 ^ n
  | 0, _, h => h.elim
  | n + 1, x, h => by
    have h2 := h.le2
    rw [Exq.nod_eq]
    have h4 : Exq.nods x.kids + x.kids.length ≤ x.kids.length * 2 ^ n := by
      have key : ∀ l : List Exq, (∀ y ∈ l, y.nod < 2 ^ n) → Exq.nods l + l.length ≤ l.length * 2 ^ n := by
        intro l
        induction l with
        | nil => intro _; simp [Exq.nods]
        | cons y l ih =>
          intro hy
          have e1 := hy y (by simp)
          have e2 := ih fun z hz => hy z (by simp [hz])
          simp only [Exq.nods, List.length_cons, Nat.add_mul]
          omega
      exact key x.kids fun y hy => (h.2 y hy).bnd
    have h5 : 0 < 2 ^ n := Nat.two_pow_pos n
    have h6 : 2 ^ (n + 1) = 2 * 2 ^ n := by rw [Nat.pow_succ]; omega
    rw [h6]
    obtain h7 | h7 | h7 : x.kids.length = 0 ∨ x.kids.length = 1 ∨ x.kids.length = 2 := by omega
    all_goals (rw [h7] at h4; omega)
def tru : Exq := .mk 1 0 []
def neg (x : Exq) : Exq := .mk 3 0 [x]
def dual (k : Int) : Int := if k = 4 then 5 else if k = 5 then 4 else if k = 7 then 8 else 7
mutual
def push : Exq → Bool → Exq
  | .mk k v l, n => if k = 1 ∨ k = 2 then (if n then neg (.mk k v []) else .mk k v [])
    else if k = 3 then (pushes l (!n)).getD 0 Exq.zero
    else if k = 6 then .mk 6 0 [(pushes l n).getD 0 Exq.zero]
    else if k = 9 ∨ k = 10 then (if decide (k = 9) != n then .mk 7 0 [tru, (pushes l n).getD 0 Exq.zero] else .mk 8 0 [neg tru, (pushes l n).getD 0 Exq.zero])
    else .mk (if n then dual k else k) 0 [(pushes l n).getD 0 Exq.zero, (pushes l n).getD 1 Exq.zero]
def pushes : List Exq → Bool → List Exq
  | [], _ => []
  | x :: l, n => push x n :: pushes l n
end
theorem pushes_eq {n : Bool} : ∀ l, pushes l n = l.map fun x => push x n
  | [] => rfl
  | x :: l => by simp only [pushes, List.map_cons, pushes_eq l]
def kp (x : Exq) (n : Bool) (j : Nat) : Exq := (x.kids.map fun y => push y n).getD j Exq.zero
theorem kp_at {x : Exq} {n : Bool} {j : Nat} (hj : j < x.kids.length) : kp x n j = push x.kids[j] n := by simp [kp, hj]
theorem push_eq (x : Exq) (n : Bool) : push x n = if x.kind = 1 ∨ x.kind = 2 then (if n then neg (.mk x.kind x.val []) else .mk x.kind x.val [])
    else if x.kind = 3 then kp x (!n) 0
    else if x.kind = 6 then .mk 6 0 [kp x n 0]
    else if x.kind = 9 ∨ x.kind = 10 then (if decide (x.kind = 9) != n then .mk 7 0 [tru, kp x n 0] else .mk 8 0 [neg tru, kp x n 0])
    else .mk (if n then dual x.kind else x.kind) 0 [kp x n 0, kp x n 1] := by
  cases x with
  | mk k v l => simp only [push, pushes_eq]; rfl
noncomputable def nfR (x : Exq) : Exq := if Ok x ∧ Ok (push x false) then push x false else Exq.zero
noncomputable def fx (l : List Exq) (x : Exq) : Int := match l.findIdx? (fun y => decide (y = x)) with | some i => (i : Int) | .none => -1
theorem fx_at {xs : List Exq} {st : Exq} {i : Nat} (hi : i < xs.length) (he : xs[i] = st) (hn : ∀ (j : Nat) (hj : j < xs.length), j < i → xs[j] ≠ st) : fx xs st = i := by
  have : xs.findIdx? (fun y => decide (y = st)) = some i := by
    rw [List.findIdx?_eq_some_iff_getElem]
    exact ⟨hi, by simpa using he, fun j hj => by simpa using hn j (by omega) hj⟩
  rw [fx, this]
theorem fx_not {xs : List Exq} {st : Exq} (h : st ∉ xs) : fx xs st = -1 := by
  have : xs.findIdx? (fun y => decide (y = st)) = .none := by
    rw [List.findIdx?_eq_none_iff]
    intro y hy
    simp only [decide_eq_false_iff_not]
    rintro rfl
    exact h hy
  rw [fx, this]
theorem fx_mem {xs : List Exq} {st : Exq} (h : st ∈ xs) : ∃ (i : Nat) (hi : i < xs.length), fx xs st = i ∧ xs[i] = st := by
  obtain ⟨i, hi⟩ : ∃ i, xs.findIdx? (fun y => decide (y = st)) = some i := by
    rcases hf : xs.findIdx? (fun y => decide (y = st)) with _ | i
    · rw [List.findIdx?_eq_none_iff] at hf
      have := hf st h
      simp at this
    · exact ⟨i, rfl⟩
  have h2 := hi
  rw [List.findIdx?_eq_some_iff_getElem] at h2
  obtain ⟨h3, h4, _⟩ := h2
  exact ⟨i, h3, by rw [fx, hi], by simpa using h4⟩
theorem fx_neg {xs : List Exq} {st : Exq} : fx xs st < 0 ↔ st ∉ xs := by
  constructor
  · intro h hm
    obtain ⟨i, _, e, _⟩ := fx_mem hm
    omega
  · intro h
    rw [fx_not h]
    decide
noncomputable def ins (o : List Exq) (x : Exq) : List Exq := if x ∈ o then o else o ++ [x]
mutual
noncomputable def subs : Exq → List Exq → List Exq
  | .mk k v l, o => ins (subsL l o) (.mk k v l)
noncomputable def subsL : List Exq → List Exq → List Exq
  | [], o => o
  | x :: l, o => subsL l (subs x o)
end
theorem subsL_eq : ∀ (l : List Exq) (o : List Exq), subsL l o = l.foldl (fun o x => subs x o) o
  | [], _ => rfl
  | x :: l, o => by rw [subsL, subsL_eq l, List.foldl_cons]
theorem subs_eq (x : Exq) (o : List Exq) : subs x o = ins (x.kids.foldl (fun o x => subs x o) o) x := by
  cases x with
  | mk k v l => rw [subs, subsL_eq]; rfl
theorem ins_len {o : List Exq} {x : Exq} : (ins o x).length ≤ o.length + 1 := by unfold ins; split <;> simp
theorem subsL_len : ∀ (l : List Exq), (∀ x ∈ l, ∀ o, (subs x o).length ≤ o.length + x.nod) → ∀ o, (l.foldl (fun o x => subs x o) o).length ≤ o.length + Exq.nods l
  | [], _, o => by simp [Exq.nods]
  | x :: l, h, o => by
    have h1 := h x (by simp) o
    have h2 := subsL_len l (fun y hy => h y (by simp [hy])) (subs x o)
    simp only [List.foldl_cons, Exq.nods]
    omega
theorem subs_len : ∀ (x : Exq) (o : List Exq), (subs x o).length ≤ o.length + x.nod := by
  have key : ∀ (n : Nat) (x : Exq), x.nod ≤ n → ∀ o, (subs x o).length ≤ o.length + x.nod := by
    intro n
    induction n with
    | zero => intro x h; rw [Exq.nod_eq] at h; omega
    | succ n ih =>
      intro x hx o
      rw [Exq.nod_eq] at hx ⊢
      rw [subs_eq]
      have h1 := subsL_len x.kids (fun y hy => ih y (by
        obtain ⟨i, hi, rfl⟩ := List.mem_iff_getElem.1 hy
        have e1 := Exq.nods_take hi
        have e2 := Exq.nods_le x.kids (i + 1)
        omega)) o
      have h2 := ins_len (o := x.kids.foldl (fun o x => subs x o) o) (x := x)
      omega
  exact fun x o => key x.nod x (Nat.le_refl _) o
theorem subs_all {P : Exq → Prop} : ∀ (n : Nat) (x : Exq), (∀ y, P y → ∀ z ∈ y.kids, P z) → x.nod ≤ n → P x → ∀ (o : List Exq), (∀ y ∈ o, P y) → ∀ y ∈ subs x o, P y := by
  intro n
  induction n with
  | zero => intro x _ h; rw [Exq.nod_eq] at h; omega
  | succ n ih =>
    intro x hP hx hPx o ho
    rw [Exq.nod_eq] at hx
    rw [subs_eq]
    have hl : ∀ (l : List Exq), (∀ z ∈ l, P z ∧ z.nod ≤ n) → ∀ (o : List Exq), (∀ y ∈ o, P y) → ∀ y ∈ l.foldl (fun o x => subs x o) o, P y := by
      intro l
      induction l with
      | nil => intro _ o ho; exact ho
      | cons z l ihl =>
        intro hz o ho
        rw [List.foldl_cons]
        exact ihl (fun w hw => hz w (by simp [hw])) _ (ih z hP (hz z (by simp)).2 (hz z (by simp)).1 o ho)
    have h1 := hl x.kids (fun z hz => ⟨hP x hPx z hz, by
      obtain ⟨i, hi, rfl⟩ := List.mem_iff_getElem.1 hz
      have e1 := Exq.nods_take hi
      have e2 := Exq.nods_le x.kids (i + 1)
      omega⟩) o ho
    intro y hy
    unfold ins at hy
    split at hy
    · exact h1 y hy
    · rcases List.mem_append.1 hy with hy | hy
      · exact h1 y hy
      · simp at hy; subst hy; exact hPx
def bas (x : Exq) : Bool := decide (x.kind = 2 ∨ x.kind = 6 ∨ x.kind = 7 ∨ x.kind = 8)
noncomputable def basics (x : Exq) : List Exq := (subs (push x false) []).filter bas
def bOk (x : Exq) : Prop := (Ok x ∧ Ok (push x false)) ∧ (basics x).length ≤ 5
noncomputable instance {x : Exq} : Decidable (bOk x) := Classical.propDecidable _
noncomputable def basR (x : Exq) : List Exq := if bOk x then basics x else []
theorem Shp.kids6 {x : Exq} (h : ∃ n, n ≤ 6 ∧ Shp n x) : ∀ y ∈ x.kids, ∃ n, n ≤ 6 ∧ Shp n y := by
  obtain ⟨n, hn, hs⟩ := h
  cases n with
  | zero => exact hs.elim
  | succ n => exact fun y hy => ⟨n, by omega, hs.2 y hy⟩
theorem Shp.up {n m : Nat} {x : Exq} (h : Shp n x) (hm : n ≤ m) : Shp m x := by
  induction m with
  | zero => have : n = 0 := by omega
            subst this; exact h
  | succ m ih =>
    by_cases e : n = m + 1
    · subst e; exact h
    · exact (ih (by omega)).mono
theorem basics_ok {x : Exq} (h : bOk x) : ∀ y ∈ basics x, Shp 6 y ∧ bas y = true := by
  intro y hy
  obtain ⟨h1, h2⟩ := List.mem_filter.1 hy
  obtain ⟨n, hn, h3⟩ := subs_all (P := fun y => ∃ n, n ≤ 6 ∧ Shp n y) _ (push x false) (fun y hy => Shp.kids6 hy) (Nat.le_refl _) ⟨6, Nat.le_refl _, h.1.2.1⟩ [] (fun y hy => by simp at hy) y h1
  exact ⟨h3.up hn, h2⟩
end Fm
end Go.Proofs.YtglnelcmcimljaaGreat

namespace Go.Proofs.YtglnelcmcimljaaGreat
open Go
theorem c_l5Arity {h : Heap} {n : Int} : CallE Tryz.prog fn_spec_l5Arity [.int .i64 n] h (fun u h' => h' = h ∧ u = .int .i64 (Fm.arity n)) := by
  refine CallE.gen fun k hk => EN_spec_l5Arity rfl ?_
  by_cases c1 : n = 1
  · simp -implicitDefEqProofs (disch:=first|omega|(simp only[LnZ];omega))[wrap64, c1]
    exact RetK.keep (hk _ _ ⟨rfl, by simp [Fm.arity, c1]⟩)
  by_cases c2 : n = 2
  · simp -implicitDefEqProofs (disch:=first|omega|(simp only[LnZ];omega))[wrap64, c1, c2]
    exact RetK.keep (hk _ _ ⟨rfl, by simp [Fm.arity, c2]⟩)
  by_cases c3 : n = 3
  · simp -implicitDefEqProofs (disch:=first|omega|(simp only[LnZ];omega))[wrap64, c1, c2, c3]
    exact RetK.keep (hk _ _ ⟨rfl, by simp [Fm.arity, c3]⟩)
  by_cases c6 : n = 6
  · simp -implicitDefEqProofs (disch:=first|omega|(simp only[LnZ];omega))[wrap64, c1, c2, c3, c6]
    exact RetK.keep (hk _ _ ⟨rfl, by simp [Fm.arity, c6]⟩)
  by_cases c9 : n = 9
  · simp -implicitDefEqProofs (disch:=first|omega|(simp only[LnZ];omega))[wrap64, c1, c2, c3, c6, c9]
    exact RetK.keep (hk _ _ ⟨rfl, by simp [Fm.arity, c9]⟩)
  by_cases c10 : n = 10
  · simp -implicitDefEqProofs (disch:=first|omega|(simp only[LnZ];omega))[wrap64, c1, c2, c3, c6, c9, c10]
    exact RetK.keep (hk _ _ ⟨rfl, by simp [Fm.arity, c10]⟩)
  by_cases c4 : n = 4
  · simp -implicitDefEqProofs (disch:=first|omega|(simp only[LnZ];omega))[wrap64, c1, c2, c3, c6, c9, c10, c4]
    exact RetK.keep (hk _ _ ⟨rfl, by simp [Fm.arity, c4]⟩)
  by_cases c5 : n = 5
  · simp -implicitDefEqProofs (disch:=first|omega|(simp only[LnZ];omega))[wrap64, c1, c2, c3, c6, c9, c10, c4, c5]
    exact RetK.keep (hk _ _ ⟨rfl, by simp [Fm.arity, c5]⟩)
  by_cases c7 : n = 7
  · simp -implicitDefEqProofs (disch:=first|omega|(simp only[LnZ];omega))[wrap64, c1, c2, c3, c6, c9, c10, c4, c5, c7]
    exact RetK.keep (hk _ _ ⟨rfl, by simp [Fm.arity, c7]⟩)
  by_cases c8 : n = 8
  · simp -implicitDefEqProofs (disch:=first|omega|(simp only[LnZ];omega))[wrap64, c1, c2, c3, c6, c9, c10, c4, c5, c7, c8]
    exact RetK.keep (hk _ _ ⟨rfl, by simp [Fm.arity, c8]⟩)
  simp -implicitDefEqProofs (disch:=first|omega|(simp only[LnZ];omega))[wrap64, c1, c2, c3, c4, c5, c6, c7, c8, c9, c10]
  exact RetK.keep (hk _ _ ⟨rfl, by simp [Fm.arity, c1, c2, c3, c4, c5, c6, c7, c8, c9, c10]⟩)
theorem c_l5Shape : ∀ (n : Nat) {x : Exq} {h : Heap} {v : Value} {dv : Int}, dv = n → n ≤ 6 → Rep h v x → CallE Tryz.prog fn_spec_l5Shape [v, .int .i64 dv] h (fun u h' => h' = h ∧ u = .bool (decide (Fm.Shp n x))) := by
  intro n
  induction n with
  | zero =>
    intro x h v dv hd _ R
    have hd : dv = 0 := hd
    obtain ⟨w, rfl, k1, k2, R1⟩ := Rep_Exq.1 R
    refine CallE.gen fun k hk => EN_spec_l5Shape rfl ?_
    simp -implicitDefEqProofs (disch:=first|omega|(simp only[LnZ];omega))[wrap64, hd]
    exact RetK.keep (hk _ _ ⟨rfl, by rw [decide_eq_false (fun hh : Fm.Shp 0 x => hh)]⟩)
  | succ n ih =>
    intro x h v dv hd hd6 R
    obtain ⟨w, rfl, k1, k2, R1⟩ := Rep_Exq.1 R
    have hL := R1.lt
    obtain ⟨ln, hln⟩ : ∃ ln : Int, ln = x.kids.length := ⟨_, rfl⟩
    have hlen := R1.len
    rw [← hln] at hlen
    refine CallE.gen fun k hk => EN_spec_l5Shape rfl ?_
    have hno : ¬ Fm.Shp (n + 1) x → k (.bool false) h := fun hh => hk _ _ ⟨rfl, by rw [decide_eq_false hh]⟩
    simp -implicitDefEqProofs (disch:=first|omega|(simp only[LnZ];omega))[wrap64, hlen, show ¬ dv < 1 by omega]
    refine c_l5Arity.go ?_
    rintro _ h ⟨rfl, rfl⟩
    by_cases q1 : ln = Fm.arity x.kind
    case neg => simp -implicitDefEqProofs (disch:=first|omega|(simp only[LnZ];omega))[wrap64, q1]; exact RetK.keep (hno fun hh => q1 (by rw [hln]; exact hh.1.ar))
    by_cases q2 : x.val < 0
    · simp -implicitDefEqProofs (disch:=first|omega|(simp only[LnZ];omega))[wrap64, q1, q2]; exact RetK.keep (hno fun hh => by have := hh.1.lo; omega)
    by_cases q3 : 3 ≤ x.val
    · simp -implicitDefEqProofs (disch:=first|omega|(simp only[LnZ];omega))[wrap64, q1, q2, q3]; exact RetK.keep (hno fun hh => by have := hh.1.hi; omega)
    have hz : (x.kind = 2) ∨ (x.kind ≠ 2 ∧ x.val ≠ 0) ∨ (x.kind ≠ 2 ∧ x.val = 0) := by omega
    rcases hz with c1 | ⟨c1, c2⟩ | ⟨c1, c2⟩
    case inr.inl => simp -implicitDefEqProofs (disch:=first|omega|(simp only[LnZ];omega))[wrap64, q1, q2, q3, c1, c2]; exact RetK.keep (hno fun hh => c2 (hh.1.ze c1))
    · simp -implicitDefEqProofs (disch:=first|omega|(simp only[LnZ];omega))[wrap64, q1, q2, q3, c1]
      refine wp_count x.kids.length (fun i e h' => h' = h ∧ (∃ kd vl : Int, kd = x.kind ∧ vl = x.val ∧ e = [none, some (.int .i64 dv), some (.agg #[.int .i64 kd, .int .i64 vl, w]), none, some (.int .i64 i)]) ∧ ∀ y ∈ x.kids.take i, Fm.Shp n y) ⟨rfl, ⟨_, _, rfl, rfl, by simp [c1]⟩, by simp⟩ ?_
      rintro J i _ _ hJ hi ⟨rfl, ⟨kd, vl, hkd, hvl, rfl⟩, hall⟩
      simp -implicitDefEqProofs (disch:=first|omega|(simp only[LnZ];omega))[wrap64, R1.len]
      refine IteW.mk (fun hlt => ?_) (fun hge => ?_)
      · have hlx : i < x.kids.length := by omega
        obtain ⟨u, hu, Ru⟩ := R1.ld hlx
        change hload _ (some (elp 3 w i)) (some 3) = some u at hu
        simp -implicitDefEqProofs (disch:=first|omega|(simp only[LnZ];omega))[wrap64, R1.X (n := 3) rfl, hu]
        refine (ih (dv := dv - 1) (by omega) (by omega) Ru).go ?_
        rintro _ _ ⟨rfl, rfl⟩
        by_cases q4 : Fm.Shp n x.kids[i]
        case neg => simp -implicitDefEqProofs (disch:=first|omega|(simp only[LnZ];omega))[wrap64, q4]; exact RetK.keep (hno fun hh => q4 (hh.kid hlx))
        simp -implicitDefEqProofs (disch:=first|omega|(simp only[LnZ];omega))[wrap64, q4]
        refine hJ _ _ hlx ⟨rfl, ⟨kd, vl, hkd, hvl, by simp⟩, fun y hy => ?_⟩
        rw [List.take_add_one, List.getElem?_eq_getElem hlx] at hy
        rcases List.mem_append.1 hy with hy | hy
        · exact hall y hy
        · simp at hy; subst hy; exact q4
      · simp -implicitDefEqProofs (disch:=first|omega|(simp only[LnZ];omega))[wrap64]
        rw [List.take_of_length_le (by omega)] at hall
        refine RetK.keep (hk _ _ ⟨rfl, ?_⟩)
        rw [decide_eq_true (show Fm.Shp (n + 1) x from ⟨⟨by omega, by omega, by omega, by omega⟩, hall⟩)]
    · simp -implicitDefEqProofs (disch:=first|omega|(simp only[LnZ];omega))[wrap64, q1, q2, q3, c1, c2]
      refine wp_count x.kids.length (fun i e h' => h' = h ∧ (∃ kd vl : Int, kd = x.kind ∧ vl = x.val ∧ e = [none, some (.int .i64 dv), some (.agg #[.int .i64 kd, .int .i64 vl, w]), none, some (.int .i64 i)]) ∧ ∀ y ∈ x.kids.take i, Fm.Shp n y) ⟨rfl, ⟨_, _, rfl, rfl, by simp [c1, c2]⟩, by simp⟩ ?_
      rintro J i _ _ hJ hi ⟨rfl, ⟨kd, vl, hkd, hvl, rfl⟩, hall⟩
      simp -implicitDefEqProofs (disch:=first|omega|(simp only[LnZ];omega))[wrap64, R1.len]
      refine IteW.mk (fun hlt => ?_) (fun hge => ?_)
      · have hlx : i < x.kids.length := by omega
        obtain ⟨u, hu, Ru⟩ := R1.ld hlx
        change hload _ (some (elp 3 w i)) (some 3) = some u at hu
        simp -implicitDefEqProofs (disch:=first|omega|(simp only[LnZ];omega))[wrap64, R1.X (n := 3) rfl, hu]
        refine (ih (dv := dv - 1) (by omega) (by omega) Ru).go ?_
        rintro _ _ ⟨rfl, rfl⟩
        by_cases q4 : Fm.Shp n x.kids[i]
        case neg => simp -implicitDefEqProofs (disch:=first|omega|(simp only[LnZ];omega))[wrap64, q4]; exact RetK.keep (hno fun hh => q4 (hh.kid hlx))
        simp -implicitDefEqProofs (disch:=first|omega|(simp only[LnZ];omega))[wrap64, q4]
        refine hJ _ _ hlx ⟨rfl, ⟨kd, vl, hkd, hvl, by simp⟩, fun y hy => ?_⟩
        rw [List.take_add_one, List.getElem?_eq_getElem hlx] at hy
        rcases List.mem_append.1 hy with hy | hy
        · exact hall y hy
        · simp at hy; subst hy; exact q4
      · simp -implicitDefEqProofs (disch:=first|omega|(simp only[LnZ];omega))[wrap64]
        rw [List.take_of_length_le (by omega)] at hall
        refine RetK.keep (hk _ _ ⟨rfl, ?_⟩)
        rw [decide_eq_true (show Fm.Shp (n + 1) x from ⟨⟨by omega, by omega, by omega, by omega⟩, hall⟩)]
theorem c_l5Count : ∀ (n : Nat) {x : Exq} {h : Heap} {v : Value} {dv : Int}, dv = n → n ≤ 6 → Fm.Shp n x → Rep h v x → CallE Tryz.prog fn_spec_l5Count [v, .int .i64 dv] h (fun u h' => h' = h ∧ u = .int .i64 x.nod) := by
  intro n
  induction n with
  | zero => intro x h v dv hd _ hs; exact hs.elim
  | succ n ih =>
    intro x h v dv hd hd6 hs R
    obtain ⟨w, rfl, k1, k2, R1⟩ := Rep_Exq.1 R
    have hL := R1.lt
    have hbnd := hs.bnd
    have hpow : 2 ^ (n + 1) ≤ 2 ^ 6 := Nat.pow_le_pow_right (by decide) hd6
    have hnod := x.nod_eq
    refine CallE.gen fun k hk => EN_spec_l5Count rfl ?_
    simp -implicitDefEqProofs (disch:=first|omega|(simp only[LnZ];omega))[wrap64]
    refine wp_count x.kids.length (fun i e h' => h' = h ∧ e = [none, some (.int .i64 dv), some (.agg #[.int .i64 x.kind, .int .i64 x.val, w]), none, some (.int .i64 ((1 + Exq.nods (x.kids.take i) : Nat) : Int)), some (.int .i64 i)]) ⟨rfl, by simp [Exq.nods]⟩ ?_
    rintro J i _ _ hJ hi ⟨rfl, rfl⟩
    by_cases hlt : i < x.kids.length
    · obtain ⟨u, hu, Ru⟩ := R1.ld hlt
      change hload _ (some (elp 3 w i)) (some 3) = some u at hu
      have hn1 := Exq.nods_take hlt
      have hn2 := Exq.nods_le x.kids (i + 1)
      simp -implicitDefEqProofs (disch:=first|omega|(simp only[LnZ];omega))[wrap64, hlt, R1.len, R1.X (n := 3) rfl, hu, show 0 < dv by omega]
      refine (ih (dv := dv - 1) (by omega) (by omega) (hs.kid hlt) Ru).go ?_
      rintro _ _ ⟨rfl, rfl⟩
      simp -implicitDefEqProofs (disch:=first|omega|(simp only[LnZ];omega))[wrap64]
      refine hJ _ _ hlt ⟨rfl, ?_⟩
      simp [hn1]; omega
    · simp -implicitDefEqProofs (disch:=first|omega|(simp only[LnZ];omega))[wrap64, hlt, R1.len]
      rw [List.take_of_length_le (by omega)]
      refine RetK.keep (hk _ _ ⟨rfl, ?_⟩)
      rw [hnod]; push_cast; rfl
theorem c_spec_FormulaValid {h : Heap} {v : Value} {x : Exq} (R : Rep h v x) : CallE Tryz.prog fn_spec_FormulaValid [v] h (fun u h' => h' = h ∧ u = .bool (decide (Fm.Ok x))) := by
  have F := R.aExq
  refine CallE.gen fun k hk => EN_spec_FormulaValid rfl ?_
  simp -implicitDefEqProofs (disch:=first|omega|(simp only[LnZ];omega))[wrap64, F]
  refine (c_l5Shape 6 (dv := 6) rfl (by omega) R).go ?_
  rintro _ _ ⟨rfl, rfl⟩
  by_cases q1 : Fm.Shp 6 x
  case neg => simp -implicitDefEqProofs (disch:=first|omega|(simp only[LnZ];omega))[wrap64, q1]; exact RetK.keep (hk _ _ ⟨rfl, by rw [decide_eq_false (fun hh : Fm.Ok x => q1 hh.1)]⟩)
  simp -implicitDefEqProofs (disch:=first|omega|(simp only[LnZ];omega))[wrap64, q1, F]
  refine (c_l5Count 6 (dv := 6) rfl (by omega) q1 R).go ?_
  rintro _ _ ⟨rfl, rfl⟩
  simp -implicitDefEqProofs (disch:=first|omega|(simp only[LnZ];omega))[wrap64]
  refine RetK.keep (hk _ _ ⟨rfl, ?_⟩)
  congr 1
  rw [Bool.eq_iff_iff]
  simp [Fm.Ok, q1]
  omega
end Go.Proofs.YtglnelcmcimljaaGreat
