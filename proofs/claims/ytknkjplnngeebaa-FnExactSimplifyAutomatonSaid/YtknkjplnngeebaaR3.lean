/-
  Merging of states that simulate each other, by the program.
-/
import Derived.Test.YtknkjplnngeebaaP6
import Derived.Test.YtknkjplnngeebaaQ9
import Derived.Test.YtknkjplnngeebaaL6
import Derived.Test.YtknkjplnngeebaaRS
import Derived.Test.YtknkjplnngeebaaIB
namespace Go.Proofs.Ytknkjplnngeebaa
open Go
set_option linter.all false
set_option linter.unusedVariables false
set_option linter.unusedSimpArgs false
set_option linter.defProp false
set_option maxRecDepth 1000000

def zl (l : List Nat) : List Int := l.map fun (x : Nat) => (x : Int)
@[simp] theorem zl_len {l : List Nat} : (zl l).length = l.length := by simp [zl]
theorem zl_get {l : List Nat} {i : Nat} (hi : i < l.length) : (zl l)[i]'(by simpa using hi) = (l[i] : Int) := by simp [zl]
theorem zl_append {l l' : List Nat} : zl (l ++ l') = zl l ++ zl l' := by simp [zl]

theorem c_merge_1 {h : Heap} {b3 : Nat} {vb : Value} {B : List (BitVec 64)} (hb : hload h (some (.pointer (some ⟨b3, 0, none⟩))) none = some vb) (Rb : Rep h vb B) (hB : B.length ≤ 64) {i m : Nat} (hi : i < B.length) (hm : m < B.length) :
    CallE Try.prog fn_impl_Automaton_merge_1 [.int .i64 i, .int .i64 m, .pointer (some ⟨b3, 0, none⟩)] h (fun u h' => h.le h' ∧ u = .bool (eqv (bitR B) i m)) := by
  refine CallE.gen fun k hk => EN_impl_Automaton_merge_1 rfl ?_
  have e1 := bitR_get (B := B) (i := i) (j := m) hi
  have e2 := bitR_get (B := B) (i := m) (j := i) hm
  have hik : i < 64 := by omega
  have hmm : m < 64 := by omega
  cases h1 : B[i].getLsbD m with
  | false =>
    simp -implicitDefEqProofs (disch := first | omega | (simp only [List.length_set, List.length_replicate, List.length_append, List.length_map, List.length_take, List.length_cons, List.length_nil]; omega)) [wrap64, -BitVec.getLsbD_eq_getElem, hb, Rb.U, u64_bit, h1]
    exact RetK.keep (hk _ _ ⟨Heap.le.refl _, by simp only [eqv]; rw [e1, h1]; rfl⟩)
  | true =>
    cases h2 : B[m].getLsbD i with
    | false =>
      simp -implicitDefEqProofs (disch := first | omega | (simp only [List.length_set, List.length_replicate, List.length_append, List.length_map, List.length_take, List.length_cons, List.length_nil]; omega)) [wrap64, -BitVec.getLsbD_eq_getElem, hb, Rb.U, u64_bit, h1, h2]
      exact RetK.keep (hk _ _ ⟨Heap.le.refl _, by simp only [eqv]; rw [e1, e2, h1, h2]; rfl⟩)
    | true =>
      simp -implicitDefEqProofs (disch := first | omega | (simp only [List.length_set, List.length_replicate, List.length_append, List.length_map, List.length_take, List.length_cons, List.length_nil]; omega)) [wrap64, -BitVec.getLsbD_eq_getElem, hb, Rb.U, u64_bit, h1, h2]
      exact RetK.keep (hk _ _ ⟨Heap.le.refl _, by simp only [eqv]; rw [e1, e2, h1, h2]; rfl⟩)

theorem c_grouped {h : Heap} {fv : Value} {n : Nat} {f : FuncId} {c1 c2 : List Value} (hf : fnOf fv = some (f, c1, c2)) (e : Nat → Nat → Bool) (hn : n ≤ 1048576)
    (hp : ∀ h1, h.le h1 → ∀ i k, i < n → k < i → CallE Try.prog f (c1 ++ (.int .i64 i :: .int .i64 k :: c2)) h1 (fun v h' => h1.le h' ∧ v = .bool (e i k))) :
    CallE Try.prog fn_impl_grouped [.int .i64 n, fv] h (fun u h' => HS h [ow u (zl (grpS e n).1)] h') := by
  refine CallE.gen fun k hk => EN_impl_grouped rfl ?_
  simp -implicitDefEqProofs (disch := first | omega | (simp only [List.length_set, List.length_replicate, List.length_append, List.length_map, List.length_take, List.length_cons, List.length_nil]; omega)) [wrap64]
  refine HS.init.mks (α := Int) (z := 0) rfl rfl (own_zero (by decide) (by decide)) (Nat.le_refl _) (by omega) (by omega) fun o h1 H => ?_
  simp -implicitDefEqProofs (disch := first | omega | (simp only [List.length_set, List.length_replicate, List.length_append, List.length_map, List.length_take, List.length_cons, List.length_nil]; omega)) [wrap64, H.rep.len]
  refine wp_count n (fun i e' h' => e' = [none, some fv, none, some o, some (.int .i64 (grpS e i).2), none, none, some (.int .i64 n), some (.int .i64 i), none, none] ∧ ∃ O : List Int, HS h [ow o O] h' ∧ O.length = n ∧ O.take i = zl (grpS e i).1) ⟨by simp [grpS], _, H, by simp, by simp [grpS, zl]⟩ ?_
  clear H
  rintro J i _ h2 hJ hi ⟨rfl, O, H, hOl, hO⟩
  have hgl := grpS_len (e := e) i
  have hgc := grpS_le (e := e) i
  simp -implicitDefEqProofs (disch := first | omega | (simp only [List.length_set, List.length_replicate, List.length_append, List.length_map, List.length_take, List.length_cons, List.length_nil]; omega)) [wrap64]
  refine IteW.mk (fun hlt => ?_) (fun hge => ?_)
  · have hin : i < n := by omega
    simp -implicitDefEqProofs (disch := first | omega | (simp only [List.length_set, List.length_replicate, List.length_append, List.length_map, List.length_take, List.length_cons, List.length_nil]; omega)) [wrap64, H.rep.I]
    refine H.storeF ((grpS e i).2 : Int) (i := i) (by omega) rfl rfl ⟨by omega, by omega⟩ rfl fun h3 H => ?_
    simp -implicitDefEqProofs (disch := first | omega | (simp only [List.length_set, List.length_replicate, List.length_append, List.length_map, List.length_take, List.length_cons, List.length_nil]; omega)) [wrap64]
    refine wp_count i (fun k e' h' => e' = [none, some fv, none, some o, some (.int .i64 (grpS e i).2), some (.int .i64 i), none, some (.int .i64 n), some (.int .i64 i), some (.int .i64 i), some (.int .i64 k)] ∧ HS h [ow o (O.set i ((grpS e i).2 : Int))] h' ∧ ∀ j, j < k → e i j = false) ⟨by simp, H, fun j hj => absurd hj (Nat.not_lt_zero j)⟩ ?_
    clear H
    rintro J2 k _ h4 hJ2 hk2 ⟨rfl, H, hno⟩
    simp -implicitDefEqProofs (disch := first | omega | (simp only [List.length_set, List.length_replicate, List.length_append, List.length_map, List.length_take, List.length_cons, List.length_nil]; omega)) [wrap64]
    refine IteW.mk (fun hlt2 => ?_) (fun hge2 => ?_)
    · have hki : k < i := by omega
      simp -implicitDefEqProofs (disch := first | omega | (simp only [List.length_set, List.length_replicate, List.length_append, List.length_map, List.length_take, List.length_cons, List.length_nil]; omega)) [wrap64, hf]
      refine (hp h4 H.base i k hin hki).go ?_
      rintro _ h5 ⟨hl, rfl⟩
      have H := H.le hl
      cases hek : e i k with
      | false =>
        simp -implicitDefEqProofs (disch := first | omega | (simp only [List.length_set, List.length_replicate, List.length_append, List.length_map, List.length_take, List.length_cons, List.length_nil]; omega)) [wrap64]
        refine hJ2 _ _ hki ⟨by simp, H, fun j hj => ?_⟩
        by_cases ej : j = k
        · subst ej; exact hek
        · exact hno j (by omega)
      | true =>
        have hfind := find_range (p := fun k => e i k) hki hek hno
        have hgo := grpS_old hfind
        obtain ⟨x, hx⟩ : ∃ x, x = (grpS e i).1[k]'(by omega) := ⟨_, rfl⟩
        have hxl : x < (grpS e i).2 := hx ▸ grpS_lt i _ (List.getElem_mem (by omega))
        have hOk : (O.set i ((grpS e i).2 : Int))[k]'(by simp; omega) = (x : Int) := by
          rw [List.getElem_set_ne (by omega)]
          have h6 : (O.take i)[k]? = (zl (grpS e i).1)[k]? := by rw [hO]
          rw [List.getElem?_take_of_lt hki, List.getElem?_eq_getElem (by omega), List.getElem?_eq_getElem (by simp; omega), zl_get (by omega), ← hx] at h6
          simpa using h6
        simp -implicitDefEqProofs (disch := first | omega | (simp only [List.length_set, List.length_replicate, List.length_append, List.length_map, List.length_take, List.length_cons, List.length_nil]; omega)) [wrap64, H.rep.I, hOk]
        refine H.storeF (x : Int) (i := i) (by simp; omega) rfl rfl ⟨by omega, by omega⟩ rfl fun h6 H => ?_
        have hne : ¬ ((x : Int) = (grpS e i).2) := by omega
        simp -implicitDefEqProofs (disch := first | omega | (simp only [List.length_set, List.length_replicate, List.length_append, List.length_map, List.length_take, List.length_cons, List.length_nil]; omega)) [wrap64, H.rep.I, hne]
        refine hJ _ _ hin ⟨by rw [hgo]; simp, _, H, by simpa using hOl, ?_⟩
        rw [hgo, zl_append, ← hO]
        rw [List.set_set, List.take_set, List.take_add_one, List.getElem?_eq_getElem (by omega), List.getD_eq_getElem?_getD, List.getElem?_eq_getElem (by omega), ← hx]
        rw [List.set_append_right _ _ (by simp; omega)]
        simp [zl, Nat.min_eq_left (by omega : i ≤ O.length)]
    · have hki : k = i := by omega
      subst hki
      have hgn := grpS_new (find_none (p := fun j => e k j) hno)
      simp -implicitDefEqProofs (disch := first | omega | (simp only [List.length_set, List.length_replicate, List.length_append, List.length_map, List.length_take, List.length_cons, List.length_nil]; omega)) [wrap64, H.rep.I]
      refine hJ _ _ hin ⟨by rw [hgn]; simp, _, H, by simpa using hOl, ?_⟩
      rw [hgn, zl_append, ← hO]
      rw [List.take_set, List.take_add_one, List.getElem?_eq_getElem (by omega)]
      rw [List.set_append_right _ _ (by simp; omega)]
      simp [zl, Nat.min_eq_left (by omega : k ≤ O.length)]
  have hin : i = n := by omega
  subst hin
  simp -implicitDefEqProofs (disch := first | omega | (simp only [List.length_set, List.length_replicate, List.length_append, List.length_map, List.length_take, List.length_cons, List.length_nil]; omega)) [wrap64]
  rw [List.take_of_length_le (by omega)] at hO
  rw [hO] at H
  exact RetK.keep (hk _ _ H)

theorem c_picked {h : Heap} {l s : Value} {L S : List Int} (Rl : Rep h l L) (Rs : Rep h s S) (hS : ∀ x ∈ S, 0 ≤ x ∧ x < L.length) (hSl : S.length ≤ 1048576) : CallE Try.prog fn_impl_picked [l, s] h (fun u h' => HS h [ow u (S.map fun x => L.getD x.toNat 0)] h') := by
  have hll := Rl.lt
  refine CallE.gen fun k hk => EN_impl_picked rfl ?_
  simp -implicitDefEqProofs (disch := first | omega | (simp only [List.length_set, List.length_replicate, List.length_append, List.length_map, List.length_take, List.length_cons, List.length_nil]; omega)) [wrap64, Rs.len]
  refine HS.init.mks (α := Int) (z := 0) rfl rfl (own_zero (by decide) (by decide)) (Nat.le_refl _) (by omega) (by omega) fun o h1 H => ?_
  simp -implicitDefEqProofs (disch := first | omega | (simp only [List.length_set, List.length_replicate, List.length_append, List.length_map, List.length_take, List.length_cons, List.length_nil]; omega)) [wrap64, (Rs.on H).len]
  refine wp_count S.length (fun i e h' => e = [some l, none, none, some o, none, none, some s, some (.int .i64 S.length), some (.int .i64 i)] ∧ ∃ O : List Int, HS h [ow o O] h' ∧ O.length = S.length ∧ O.take i = (S.take i).map fun x => L.getD x.toNat 0) ⟨by simp, _, H, by simp, by simp⟩ ?_
  clear H
  rintro J i _ h2 hJ hi ⟨rfl, O, H, hOl, hO⟩
  simp -implicitDefEqProofs (disch := first | omega | (simp only [List.length_set, List.length_replicate, List.length_append, List.length_map, List.length_take, List.length_cons, List.length_nil]; omega)) [wrap64]
  refine IteW.mk (fun hlt => ?_) (fun hge => ?_)
  · have hix : i < S.length := by omega
    have hx := hS _ (List.getElem_mem hix)
    obtain ⟨q, hq⟩ : ∃ q : Nat, S[i] = q := ⟨S[i].toNat, by omega⟩
    have hqn : q < L.length := by omega
    have hqo := Rl.okI hqn
    simp -implicitDefEqProofs (disch := first | omega | (simp only [List.length_set, List.length_replicate, List.length_append, List.length_map, List.length_take, List.length_cons, List.length_nil]; omega)) [wrap64, (Rs.on H).I, hq, (Rl.on H).I, H.rep.I]
    refine H.storeF L[q] (i := i) (by omega) rfl rfl hqo rfl fun h3 H => ?_
    simp -implicitDefEqProofs (disch := first | omega | (simp only [List.length_set, List.length_replicate, List.length_append, List.length_map, List.length_take, List.length_cons, List.length_nil]; omega)) [wrap64]
    refine hJ _ _ hix ⟨rfl, _, H, by simpa using hOl, ?_⟩
    rw [map_take_succ hix, ← hO, hq]
    rw [List.take_set, List.take_add_one, List.getElem?_eq_getElem (by omega), List.set_append_right _ _ (by simp; omega)]
    simp [Nat.min_eq_left (by omega : i ≤ O.length), hqn]
  simp -implicitDefEqProofs (disch := first | omega | (simp only [List.length_set, List.length_replicate, List.length_append, List.length_map, List.length_take, List.length_cons, List.length_nil]; omega)) [wrap64]
  rw [List.take_of_length_le (by omega), List.take_of_length_le (by omega)] at hO
  rw [hO] at H
  exact RetK.keep (hk _ _ H)

theorem keyEq_Tr : ∀ a b : Tr, keyEq (.many [.i, .i, .i, .i]) a.v b.v = some (decide (a = b)) := by
  intro a b
  simp only [keyEq, Tr.v, eqL, eqB]
  simp only [and_self, if_true]
  congr 1
  rw [Bool.eq_iff_iff]
  cases a; cases b
  simp [and_assoc]
end Go.Proofs.Ytknkjplnngeebaa
