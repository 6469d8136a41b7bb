/-
  Expressions and systems in plain Lean: when they are valid, what they are worth, which variables they name.
-/
import Derived.Test.YthgimpheeemooaaGreatDF
namespace Go.Proofs.YthgimpheeemooaaGreat
open Go
set_option linter.all false
set_option linter.unusedVariables false
set_option linter.unusedSimpArgs false
set_option linter.defProp false
set_option maxRecDepth 1000000

theorem foldl_tk {α β : Type} {f : β → α → β} {b : β} {l : List α} {i : Nat} (hi : i < l.length) : (l.take (i + 1)).foldl f b = f ((l.take i).foldl f b) l[i] := by
  rw [List.take_add_one, List.getElem?_eq_getElem hi, List.foldl_append]; rfl

/-- values of the variables -/
def VOk (vs : List Int) : Prop := vs.length = 3 ∧ ∀ x ∈ vs, 0 ≤ x ∧ x ≤ 3
theorem VOk.len {vs : List Int} (h : VOk vs) : vs.length = 3 := h.1
theorem VOk.at {vs : List Int} (h : VOk vs) {i : Nat} (hi : i < vs.length) : 0 ≤ vs[i] ∧ vs[i] ≤ 3 := h.2 _ (List.getElem_mem hi)
noncomputable instance {vs : List Int} : Decidable (VOk vs) := Classical.propDecidable _

namespace Exq
def arity (k : Int) : Int := if k = 1 ∨ k = 2 then 0 else if k = 3 then 1 else if 4 ≤ k ∧ k ≤ 9 then 2 else -1
def most (k : Int) : Int := if k = 1 then 3 else if k = 2 then 2 else 0
/-- one node is well made -/
structure Nd (x : Exq) : Prop where
  ar : (x.kids.length : Int) = arity x.kind
  lo : 0 ≤ x.val
  hi : x.val ≤ most x.kind
/-- well made, so many levels -/
def Shp : Nat → Exq → Prop
  | 0, _ => False
  | n + 1, x => x.Nd ∧ ∀ y ∈ x.kids, Shp n y
mutual
def nod : Exq → Nat
  | .mk _ _ l => 1 + nods l
def nods : List Exq → Nat
  | [] => 0
  | x :: l => x.nod + nods l
end
theorem nod_eq (x : Exq) : x.nod = 1 + nods x.kids := by cases x; rfl
theorem nods_take : ∀ {l : List Exq} {i : Nat} (hi : i < l.length), nods (l.take (i + 1)) = nods (l.take i) + l[i].nod
  | x :: l, 0, _ => by simp [nods]
  | x :: l, i + 1, hi => by
    have := nods_take (l := l) (i := i) (by simpa using hi)
    simp only [List.take_succ_cons, nods, List.getElem_cons_succ, this]; omega
theorem nods_le : ∀ (l : List Exq) (i : Nat), nods (l.take i) ≤ nods l
  | [], i => by simp
  | x :: l, 0 => by simp [nods]
  | x :: l, i + 1 => by
    simp only [List.take_succ_cons, nods]
    have := nods_le l i
    omega
/-- valid -/
def Ok (x : Exq) : Prop := x.Shp 6 ∧ x.nod ≤ 15
noncomputable instance {x : Exq} : Decidable x.Ok := Classical.propDecidable _
def zero : Exq := .mk 0 0 []

theorem Nd.kind {x : Exq} (h : x.Nd) : 1 ≤ x.kind ∧ x.kind ≤ 9 := by
  have := h.ar
  unfold arity at this
  split at this <;> (try split at this) <;> (try split at this) <;> omega
theorem Shp.nd {n : Nat} {x : Exq} (h : x.Shp n) : x.Nd := by
  cases n with
  | zero => exact h.elim
  | succ n => exact h.1
theorem Shp.kid {n : Nat} {x : Exq} (h : x.Shp (n + 1)) {i : Nat} (hi : i < x.kids.length) : x.kids[i].Shp n := h.2 _ (List.getElem_mem hi)
theorem Shp.bnd : ∀ {n : Nat} {x : Exq}, x.Shp n → x.nod < 2 ^ n
  | 0, _, h => h.elim
  | n + 1, x, h => by
    have h1 := h.1.ar
    have h2 : x.kids.length ≤ 2 := by
      unfold arity at h1
      split at h1 <;> (try split at h1) <;> (try split at h1) <;> omega
    have h3 : nods x.kids + x.kids.length ≤ x.kids.length * 2 ^ n := by
      have key : ∀ l : List Exq, (∀ y ∈ l, Shp n y) → nods l + l.length ≤ l.length * 2 ^ n := by
        intro l
        induction l with
        | nil => intro _; simp [nods]
        | cons y l ih =>
          intro hl
          have g1 := Shp.bnd (hl y (by simp))
          have g2 := ih fun z hz => hl z (by simp [hz])
          simp only [nods, List.length_cons, Nat.add_mul]
          omega
      exact key _ h.2
    have h4 : x.kids.length * 2 ^ n ≤ 2 * 2 ^ n := Nat.mul_le_mul_right _ h2
    have h5 : 0 < 2 ^ n := Nat.pow_pos (by decide)
    rw [nod_eq, Nat.pow_succ]
    by_cases h6 : x.kids.length = 0
    · have : x.kids = [] := List.length_eq_zero_iff.1 h6
      rw [this]; simp only [nods]; omega
    · rcases (show x.kids.length = 1 ∨ x.kids.length = 2 by omega) with h7 | h7 <;> rw [h7] at h3 h4 <;> omega

/- WHAT IT IS WORTH -/
def tr (p : Prop) [Decidable p] : Int := if p then 1 else 0
def evk (vs : List Int) (k v a b : Int) : Int :=
  if k = 1 then v else if k = 2 then vs.getD v.toNat 0 else if k = 3 then tr (a = 0) else if k = 4 then tr (a ≠ 0 ∧ b ≠ 0) else if k = 5 then tr (a ≠ 0 ∨ b ≠ 0)
  else if k = 6 then tr (a = b) else if k = 7 then tr (a < b) else if k = 8 then (a + b).tmod 4 else (a - b + 4).tmod 4
mutual
def ev (vs : List Int) : Exq → Int
  | .mk k v l => evk vs k v ((evs vs l).getD 0 0) ((evs vs l).getD 1 0)
def evs (vs : List Int) : List Exq → List Int
  | [] => []
  | x :: l => x.ev vs :: evs vs l
end
theorem evs_eq {vs : List Int} : ∀ l, evs vs l = l.map (ev vs)
  | [] => rfl
  | x :: l => by simp only [evs, List.map_cons, evs_eq l]
def kev (x : Exq) (vs : List Int) (j : Nat) : Int := (x.kids.map (ev vs)).getD j 0
theorem ev_eq {vs : List Int} (x : Exq) : x.ev vs = evk vs x.kind x.val (x.kev vs 0) (x.kev vs 1) := by
  cases x with
  | mk k v l => simp only [ev, evs_eq]; rfl
theorem kev_at {vs : List Int} {x : Exq} {j : Nat} (hj : j < x.kids.length) : x.kev vs j = x.kids[j].ev vs := by
  simp [kev, hj]
theorem tr01 {p : Prop} [Decidable p] : 0 ≤ tr p ∧ tr p ≤ 1 := by unfold tr; split <;> omega
theorem ev_bnd {vs : List Int} (hv : VOk vs) : ∀ {n : Nat} {x : Exq}, x.Shp n → 0 ≤ x.ev vs ∧ x.ev vs ≤ 3
  | 0, _, h => h.elim
  | n + 1, x, h => by
    have hn := h.1
    rw [ev_eq]
    unfold evk
    have h1 := hn.lo
    have h2 := hn.hi
    have h3 := hn.ar
    have hk := hn.kind
    split
    · rename_i h4; rw [h4] at h2; simp [most] at h2; omega
    split
    · rename_i _ h4
      rw [h4] at h2; simp [most] at h2
      have h5 : x.val.toNat < vs.length := by rw [hv.len]; omega
      rw [List.getD_eq_getElem?_getD, List.getElem?_eq_getElem h5]
      exact hv.at h5
    split
    · have := tr01 (p := x.kev vs 0 = 0); omega
    have ha : (x.kids.length : Int) = 2 := by
      rw [h3]; unfold arity; rw [if_neg (by omega), if_neg (by assumption), if_pos (by omega)]
    have hl : x.kids.length = 2 := by omega
    have g0 := ev_bnd hv (h.kid (i := 0) (by omega))
    have g1 := ev_bnd hv (h.kid (i := 1) (by omega))
    rw [kev_at (by omega), kev_at (by omega)]
    split
    · have := tr01 (p := x.kids[0].ev vs ≠ 0 ∧ x.kids[1].ev vs ≠ 0); omega
    split
    · have := tr01 (p := x.kids[0].ev vs ≠ 0 ∨ x.kids[1].ev vs ≠ 0); omega
    split
    · have := tr01 (p := x.kids[0].ev vs = x.kids[1].ev vs); omega
    split
    · have := tr01 (p := x.kids[0].ev vs < x.kids[1].ev vs); omega
    split
    · rw [Int.tmod_eq_emod_of_nonneg (by omega)]; omega
    · rw [Int.tmod_eq_emod_of_nonneg (by omega)]; omega

/- WHICH VARIABLES IT NAMES -/
mutual
def mkv : Exq → List Bool → List Bool
  | .mk k v l, M => mkvs l (if k = 2 then M.set v.toNat true else M)
def mkvs : List Exq → List Bool → List Bool
  | [], M => M
  | x :: l, M => mkvs l (x.mkv M)
end
theorem mkvs_eq : ∀ (l : List Exq) (M : List Bool), mkvs l M = l.foldl (fun M x => x.mkv M) M
  | [], M => rfl
  | x :: l, M => by simp only [mkvs, List.foldl_cons, mkvs_eq l]
theorem mkv_eq (x : Exq) (M : List Bool) : x.mkv M = x.kids.foldl (fun M x => x.mkv M) (if x.kind = 2 then M.set x.val.toNat true else M) := by
  cases x with
  | mk k v l => simp only [mkv, mkvs_eq]; rfl
theorem fold_len {α : Type} {f : List Bool → α → List Bool} {n : Nat} : ∀ {l : List α} {M : List Bool}, (∀ x ∈ l, ∀ M : List Bool, M.length = n → (f M x).length = n) → M.length = n → (l.foldl f M).length = n
  | [], _, _, h => h
  | x :: l, M, hf, h => by
    rw [List.foldl_cons]
    exact fold_len (fun y hy => hf y (by simp [hy])) (hf x (by simp) M h)
theorem mkv_len {n : Nat} : ∀ (x : Exq) {M : List Bool}, M.length = n → (x.mkv M).length = n := by
  refine Exq.ind fun x ih M h => ?_
  rw [mkv_eq]
  refine fold_len (fun y hy M hM => ih y hy hM) ?_
  split <;> simp [h]
end Exq

/- SYSTEMS -/
structure Ed.Ok (e : Ed) (n : Int) : Prop where
  n1 : 1 ≤ n
  n4 : n ≤ 4
  f0 : 0 ≤ e.frm
  f1 : e.frm < n
  t0 : 0 ≤ e.to
  t1 : e.to < n
  gd : e.guard.Ok
  v0 : -1 ≤ e.var
  v1 : e.var ≤ 2
  vl : (0 ≤ e.var ∧ e.value.Ok) ∨ (e.var < 0 ∧ e.value = Exq.zero)
  s0 : -2 ≤ e.sync
  s1 : e.sync ≤ 2
noncomputable instance {e : Ed} {n : Int} : Decidable (e.Ok n) := Classical.propDecidable _
structure Pr.Ok (p : Pr) : Prop where
  n1 : 1 ≤ p.locs
  n4 : p.locs ≤ 4
  el : p.edges.length ≤ 6
  ed : ∀ e ∈ p.edges, e.Ok p.locs
noncomputable instance {p : Pr} : Decidable p.Ok := Classical.propDecidable _
structure Sy.Ok (s : Sy) : Prop where
  vs : VOk s.init
  p1 : 1 ≤ s.procs.length
  p3 : s.procs.length ≤ 3
  pr : ∀ p ∈ s.procs, p.Ok
noncomputable instance {s : Sy} : Decidable s.Ok := Classical.propDecidable _
theorem Sy.Ok.at {s : Sy} (h : s.Ok) {i : Nat} (hi : i < s.procs.length) : s.procs[i].Ok := h.pr _ (List.getElem_mem hi)
theorem Pr.Ok.at {p : Pr} (h : p.Ok) {i : Nat} (hi : i < p.edges.length) : p.edges[i].Ok p.locs := h.ed _ (List.getElem_mem hi)
/-- labels -/
structure LOk (l : List Exq) : Prop where
  len : l.length = 3
  ok : ∀ x ∈ l, x.Ok
noncomputable instance {l : List Exq} : Decidable (LOk l) := Classical.propDecidable _

/- WHICH VARIABLES MATTER -/
def relL (labels : List Exq) (M : List Bool) : List Bool := labels.foldl (fun M x => x.mkv M) M
def relG (s : Sy) (M : List Bool) : List Bool := s.procs.foldl (fun M p => p.edges.foldl (fun M e => e.guard.mkv M) M) M
def Ed.relv (M : List Bool) (e : Ed) : List Bool := if 0 ≤ e.var ∧ M.getD e.var.toNat false = true then e.value.mkv M else M
def relV (s : Sy) (M : List Bool) : List Bool := s.procs.foldl (fun M p => p.edges.foldl Ed.relv M) M
def Sy.rel (s : Sy) (labels : List Exq) : List Bool := relV s (relV s (relV s (relG s (relL labels [false, false, false]))))
theorem relL_len {labels : List Exq} {M : List Bool} {n : Nat} (h : M.length = n) : (relL labels M).length = n := Exq.fold_len (fun x _ _ h => x.mkv_len h) h
theorem relG_len {s : Sy} {M : List Bool} {n : Nat} (h : M.length = n) : (relG s M).length = n := Exq.fold_len (fun _ _ _ h => Exq.fold_len (fun _ _ _ h => Exq.mkv_len _ h) h) h
theorem Ed.relv_len {e : Ed} {M : List Bool} {n : Nat} (h : M.length = n) : (e.relv M).length = n := by
  unfold Ed.relv
  split
  · exact Exq.mkv_len _ h
  · exact h
theorem relV_len {s : Sy} {M : List Bool} {n : Nat} (h : M.length = n) : (relV s M).length = n := Exq.fold_len (fun _ _ _ h => Exq.fold_len (fun e _ _ h => e.relv_len h) h) h
theorem Sy.rel_len {s : Sy} {labels : List Exq} : (s.rel labels).length = 3 := relV_len (relV_len (relV_len (relG_len (relL_len rfl))))

end Go.Proofs.YthgimpheeemooaaGreat
