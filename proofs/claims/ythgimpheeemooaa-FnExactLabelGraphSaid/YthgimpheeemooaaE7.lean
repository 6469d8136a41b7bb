/-
  Valid graphs; the letters of states: by the program and by the reference.
-/
import Derived.Test.YthgimpheeemooaaE6
import Derived.Test.YthgimpheeemooaaPF
import Derived.Test.YthgimpheeemooaaPG
import Derived.Test.YthgimpheeemooaaPJ
namespace Go.Proofs.Ythgimpheeemooaa
open Go
set_option linter.all false
set_option linter.unusedVariables false
set_option linter.unusedSimpArgs false
set_option linter.defProp false
set_option maxRecDepth 1000000

/-- the front of a list that is only read -/
theorem Rep.cut {α : Type} [Ty α] {h : Heap} {v : Value} {l : List α} (R : Rep h v l) {n esz : Nat} {k : IntKind} (hn : n ≤ l.length) : ∃ v', sliceVV esz v none (some (some (.int k n))) none = some v' ∧ Rep h v' (l.take n) := by
  obtain ⟨p, cap, rfl, h1, h2, h3⟩ := Rep_list.1 R
  have hl : (l.take n).length = n := by simp; omega
  have hc : n ≤ cap := by omega
  cases n with
  | zero =>
    cases p with
    | none =>
      refine ⟨.slice none 0 cap, ?_, Rep_list.2 ⟨none, cap, by simp, by simp, trivial, fun i hi => by simp at hi⟩⟩
      simp [sliceVV, bndV]
    | some a =>
      by_cases hz : cap = 0
      · refine ⟨.slice (some a) 0 cap, ?_, Rep_list.2 ⟨some a, cap, by simp, by simp, trivial, fun i hi => by simp at hi⟩⟩
        simp [sliceVV, bndV, hz]
      · refine ⟨.slice (some (a.add 0)) 0 cap, ?_, Rep_list.2 ⟨some (a.add 0), cap, by simp, by simp, trivial, fun i hi => by simp at hi⟩⟩
        simp [sliceVV, bndV, hz]
  | succ n =>
    obtain ⟨b, off, vs, rfl, _⟩ := h3 0 (by omega)
    refine ⟨.slice (some ⟨b, off, none⟩) (n + 1) cap, ?_, Rep_list.2 ⟨_, cap, by rw [hl], by rw [hl]; omega, trivial, fun i hi => ?_⟩⟩
    · simp [sliceVV, bndV, add_none]
      rw [if_pos (by omega)]
    · rw [hl] at hi
      obtain ⟨b', off', vs, e1, e2, e3⟩ := h3 i (by omega)
      exact ⟨b', off', vs, e1, e2, by simpa using e3⟩

theorem c_Index_int {h : Heap} {a : Value} {x : List Int} (Ra : Rep h a x) {n : Int} : CallE Try.prog fn_slices_Index_S_int_int [a, .int .i64 n] h (fun v h' => h' = h ∧ ∃ r : Int, v = .int .i64 r ∧ (0 ≤ r ↔ n ∈ x)) := by
  refine CallE.gen fun k hk => EN_slices_Index_S_int_int rfl ?_
  have hL := Ra.lt
  simp -implicitDefEqProofs (disch := first | omega | (simp only [List.length_set, List.length_replicate, List.length_append, List.length_map, List.length_take, List.length_cons, List.length_nil]; omega)) [wrap64, Ra.len]
  refine wp_count x.length (fun i e h' => e = [some a, some (.int .i64 n), none, none, some (.int .i64 x.length), some (.int .i64 i)] ∧ h' = h ∧ ∀ (j : Nat) (hj : j < x.length), j < i → x[j] ≠ n) ⟨rfl, rfl, fun j _ hj => absurd hj (Nat.not_lt_zero j)⟩ ?_
  rintro J i _ h1 hJ hi ⟨rfl, rfl, hn⟩
  simp -implicitDefEqProofs (disch := first | omega | (simp only [List.length_set, List.length_replicate, List.length_append, List.length_map, List.length_take, List.length_cons, List.length_nil]; omega)) [wrap64]
  refine IteW.mk (fun hlt => ?_) (fun hge => ?_)
  · have hlx : i < x.length := by omega
    simp -implicitDefEqProofs (disch := first | omega | (simp only [List.length_set, List.length_replicate, List.length_append, List.length_map, List.length_take, List.length_cons, List.length_nil]; omega)) [wrap64, Ra.I]
    refine IteW.mk (fun hq => ?_) (fun hq => ?_)
    · simp -implicitDefEqProofs (disch := first | omega | (simp only [List.length_set, List.length_replicate, List.length_append, List.length_map, List.length_take, List.length_cons, List.length_nil]; omega)) [wrap64]
      exact RetK.keep (hk _ _ ⟨rfl, i, rfl, by simp only [Int.natCast_nonneg, true_iff]; rw [hq]; exact List.getElem_mem hlx⟩)
    · simp -implicitDefEqProofs (disch := first | omega | (simp only [List.length_set, List.length_replicate, List.length_append, List.length_map, List.length_take, List.length_cons, List.length_nil]; omega)) [wrap64]
      refine hJ _ _ hlx ⟨rfl, rfl, fun j hj hji => ?_⟩
      by_cases hji2 : j = i
      · subst hji2; exact fun e => hq e.symm
      · exact hn j hj (by omega)
  · simp -implicitDefEqProofs (disch := first | omega | (simp only [List.length_set, List.length_replicate, List.length_append, List.length_map, List.length_take, List.length_cons, List.length_nil]; omega)) [wrap64]
    refine RetK.keep (hk _ _ ⟨rfl, -1, rfl, ?_⟩)
    simp only [show ¬ (0 : Int) ≤ -1 by decide, false_iff]
    intro hm
    obtain ⟨j, hj, h1⟩ := List.mem_iff_getElem.1 hm
    exact hn j hj (by omega) h1

theorem c_Contains_int {h : Heap} {a : Value} {x : List Int} (Ra : Rep h a x) {n : Int} : CallE Try.prog fn_slices_Contains_S_int_int [a, .int .i64 n] h (fun v h' => h' = h ∧ v = .bool (decide (n ∈ x))) := by
  refine CallE.gen fun k hk => EN_slices_Contains_S_int_int rfl ?_
  simp -implicitDefEqProofs (disch := first | omega | (simp only [List.length_set, List.length_replicate, List.length_append, List.length_map, List.length_take, List.length_cons, List.length_nil]; omega)) [wrap64]
  refine (c_Index_int Ra).go ?_
  rintro _ h1 ⟨rfl, r, rfl, hr⟩
  simp -implicitDefEqProofs (disch := first | omega | (simp only [List.length_set, List.length_replicate, List.length_append, List.length_map, List.length_take, List.length_cons, List.length_nil]; omega)) [wrap64]
  exact RetK.keep (hk _ _ ⟨rfl, by congr 1; rw [Bool.eq_iff_iff]; simp [hr]⟩)

theorem c_l4In {h : Heap} {a : Value} {x : List Int} (Ra : Rep h a x) {n : Int} : CallE Try.prog fn_spec_l4In [a, .int .i64 n] h (fun v h' => h' = h ∧ v = .bool (decide (n ∈ x))) := by
  refine CallE.gen fun k hk => EN_spec_l4In rfl ?_
  have hL := Ra.lt
  simp -implicitDefEqProofs (disch := first | omega | (simp only [List.length_set, List.length_replicate, List.length_append, List.length_map, List.length_take, List.length_cons, List.length_nil]; omega)) [wrap64]
  refine wp_count x.length (fun i e h' => e = [some a, some (.int .i64 n), none, some (.int .i64 i)] ∧ h' = h ∧ ∀ (j : Nat) (hj : j < x.length), j < i → x[j] ≠ n) ⟨rfl, rfl, fun j _ hj => absurd hj (Nat.not_lt_zero j)⟩ ?_
  rintro J i _ h1 hJ hi ⟨rfl, rfl, hn⟩
  simp -implicitDefEqProofs (disch := first | omega | (simp only [List.length_set, List.length_replicate, List.length_append, List.length_map, List.length_take, List.length_cons, List.length_nil]; omega)) [wrap64, Ra.len]
  refine IteW.mk (fun hlt => ?_) (fun hge => ?_)
  · have hlx : i < x.length := by omega
    simp -implicitDefEqProofs (disch := first | omega | (simp only [List.length_set, List.length_replicate, List.length_append, List.length_map, List.length_take, List.length_cons, List.length_nil]; omega)) [wrap64, Ra.I]
    refine IteW.mk (fun hq => ?_) (fun hq => ?_)
    · simp -implicitDefEqProofs (disch := first | omega | (simp only [List.length_set, List.length_replicate, List.length_append, List.length_map, List.length_take, List.length_cons, List.length_nil]; omega)) [wrap64]
      exact RetK.keep (hk _ _ ⟨rfl, by congr 1; rw [eq_comm, decide_eq_true_iff, ← hq]; exact List.getElem_mem hlx⟩)
    · simp -implicitDefEqProofs (disch := first | omega | (simp only [List.length_set, List.length_replicate, List.length_append, List.length_map, List.length_take, List.length_cons, List.length_nil]; omega)) [wrap64]
      refine hJ _ _ hlx ⟨rfl, rfl, fun j hj hji => ?_⟩
      by_cases hji2 : j = i
      · subst hji2; exact hq
      · exact hn j hj (by omega)
  · simp -implicitDefEqProofs (disch := first | omega | (simp only [List.length_set, List.length_replicate, List.length_append, List.length_map, List.length_take, List.length_cons, List.length_nil]; omega)) [wrap64]
    refine RetK.keep (hk _ _ ⟨rfl, ?_⟩)
    congr 1
    rw [eq_comm, decide_eq_false_iff_not]
    intro hm
    obtain ⟨j, hj, h1⟩ := List.mem_iff_getElem.1 hm
    exact hn j hj (by omega) h1


/-- indices, none twice -/
def Dst (l : List Int) (n : Nat) : Prop := ∀ (i : Nat) (hi : i < l.length), 0 ≤ l[i] ∧ l[i] < n ∧ l[i] ∉ l.take i
noncomputable instance {l : List Int} {n : Nat} : Decidable (Dst l n) := Classical.propDecidable _
theorem Dst.le {l : List Int} {n : Nat} (h : Dst l n) : l.length ≤ n := by
  have h1 : (l.map Int.toNat).Nodup := by
    rw [List.nodup_iff_pairwise_ne, List.pairwise_iff_getElem]
    intro i j hi hj hij he
    simp only [List.length_map] at hi hj
    simp only [List.getElem_map] at he
    have a := h i hi
    have b := h j hj
    refine b.2.2 ?_
    have e2 : l[i] = l[j] := by omega
    rw [← e2]
    exact List.mem_iff_getElem.2 ⟨i, by simp; omega, by simp⟩
  have h2 : (l.map Int.toNat) ⊆ List.range n := by
    intro x hx
    obtain ⟨y, hy, rfl⟩ := List.mem_map.1 hx
    obtain ⟨i, hi, rfl⟩ := List.mem_iff_getElem.1 hy
    have := h i hi
    rw [List.mem_range]; omega
  simpa using List.Nodup.length_le_of_subset h1 h2
structure Gr.Ok (g : Gr) : Prop where
  n1 : 1 ≤ g.states.length
  n60 : g.states.length ≤ 60
  nl : g.next.length = g.states.length
  vs : ∀ st ∈ g.states, VOk st.vals
  nx : ∀ l ∈ g.next, l ≠ [] ∧ Dst l g.states.length
noncomputable instance {g : Gr} : Decidable g.Ok := Classical.propDecidable _

theorem c_distinct {h : Heap} {v : Value} {l : List Int} {n : Nat} (R : Rep h v l) (hn : 1 ≤ n) (hn2 : n ≤ 60) : CallE Try.prog fn_impl_distinct [v, .int .i64 n] h (fun u h' => h' = h ∧ u = .bool (decide (Dst l n))) := by
  have hL := R.lt
  refine CallE.gen fun k hk => EN_impl_distinct rfl ?_
  simp -implicitDefEqProofs (disch := first | omega | (simp only [List.length_set, List.length_replicate, List.length_append, List.length_map, List.length_take, List.length_cons, List.length_nil]; omega)) [wrap64, R.len]
  refine wp_count l.length (fun i e h' => e = [some v, some (.int .i64 n), none, none, none, some v, some (.int .i64 l.length), some (.int .i64 i)] ∧ h' = h ∧ ∀ (j : Nat) (hj : j < l.length), j < i → 0 ≤ l[j] ∧ l[j] < n ∧ l[j] ∉ l.take j) ⟨by simp, rfl, fun j _ hj => absurd hj (Nat.not_lt_zero j)⟩ ?_
  rintro J i _ h1 hJ hi ⟨rfl, rfl, hall⟩
  have hno : ¬ Dst l n → k (.bool false) h1 := fun hh => hk _ _ ⟨rfl, by rw [decide_eq_false hh]⟩
  simp -implicitDefEqProofs (disch := first | omega | (simp only [List.length_set, List.length_replicate, List.length_append, List.length_map, List.length_take, List.length_cons, List.length_nil]; omega)) [wrap64]
  refine IteW.mk (fun hlt => ?_) (fun hge => ?_)
  · have hlx : i < l.length := by omega
    simp -implicitDefEqProofs (disch := first | omega | (simp only [List.length_set, List.length_replicate, List.length_append, List.length_map, List.length_take, List.length_cons, List.length_nil]; omega)) [wrap64, R.I]
    refine c_in.go ?_
    rintro _ h1 ⟨rfl, rfl⟩
    by_cases q1 : 0 ≤ l[i] ∧ l[i] ≤ (n : Int) - 1
    case neg => simp -implicitDefEqProofs (disch := first | omega | (simp only [List.length_set, List.length_replicate, List.length_append, List.length_map, List.length_take, List.length_cons, List.length_nil]; omega)) [wrap64, q1]; exact RetK.keep (hno fun hh => q1 ⟨(hh i hlx).1, by have := (hh i hlx).2.1; omega⟩)
    obtain ⟨v', e1, R'⟩ := R.cut (n := i) (esz := 1) (k := .i64) (by omega)
    simp -implicitDefEqProofs (disch := first | omega | (simp only [List.length_set, List.length_replicate, List.length_append, List.length_map, List.length_take, List.length_cons, List.length_nil]; omega)) [wrap64, q1, e1]
    refine (c_Contains_int R').go ?_
    rintro _ h1 ⟨rfl, rfl⟩
    by_cases q2 : l[i] ∈ l.take i
    · simp -implicitDefEqProofs (disch := first | omega | (simp only [List.length_set, List.length_replicate, List.length_append, List.length_map, List.length_take, List.length_cons, List.length_nil]; omega)) [wrap64, q2]; exact RetK.keep (hno fun hh => (hh i hlx).2.2 q2)
    simp -implicitDefEqProofs (disch := first | omega | (simp only [List.length_set, List.length_replicate, List.length_append, List.length_map, List.length_take, List.length_cons, List.length_nil]; omega)) [wrap64, q2]
    refine hJ _ _ hlx ⟨by simp, rfl, fun j hj hji => ?_⟩
    by_cases hji2 : j = i
    · subst hji2; exact ⟨q1.1, by omega, q2⟩
    · exact hall j hj (by omega)
  · simp -implicitDefEqProofs (disch := first | omega | (simp only [List.length_set, List.length_replicate, List.length_append, List.length_map, List.length_take, List.length_cons, List.length_nil]; omega)) [wrap64]
    exact RetK.keep (hk _ _ ⟨rfl, by rw [decide_eq_true (show Dst l n from fun i hi => hall i hi (by omega))]⟩)

theorem c_GraphValid_1 {h : Heap} {v : Value} {st : Sta} (R : Rep h v st) : CallE Try.prog fn_impl_GraphValid_1 [v] h (fun u h' => h.le h' ∧ u = .bool (!decide (VOk st.vals))) := by
  obtain ⟨v1, v2, rfl, R1, R2⟩ := Rep_Sta.1 R
  refine CallE.gen fun k hk => EN_impl_GraphValid_1 rfl ?_
  simp -implicitDefEqProofs (disch := first | omega | (simp only [List.length_set, List.length_replicate, List.length_append, List.length_map, List.length_take, List.length_cons, List.length_nil]; omega)) [wrap64]
  refine (c_valsOk R2).go ?_
  rintro _ h1 ⟨l1, rfl⟩
  simp -implicitDefEqProofs (disch := first | omega | (simp only [List.length_set, List.length_replicate, List.length_append, List.length_map, List.length_take, List.length_cons, List.length_nil]; omega)) [wrap64]
  exact RetK.keep (hk _ _ ⟨l1, rfl⟩)
theorem c_GraphValid_2 {h : Heap} {v : Value} {l : List Int} {b n : Nat} (R : Rep h v l) (hn : 1 ≤ n) (hn2 : n ≤ 60) (hb : hload h (some (.pointer (some ⟨b, 0, none⟩))) none = some (.int .i64 n)) :
    CallE Try.prog fn_impl_GraphValid_2 [v, .pointer (some ⟨b, 0, none⟩)] h (fun u h' => h.le h' ∧ u = .bool (!decide (l ≠ [] ∧ Dst l n))) := by
  refine CallE.gen fun k hk => EN_impl_GraphValid_2 rfl ?_
  obtain ⟨ln, hln⟩ : ∃ ln : Int, ln = l.length := ⟨_, rfl⟩
  have hlen := R.len
  rw [← hln] at hlen
  by_cases q : ln = 0
  · simp -implicitDefEqProofs (disch := first | omega | (simp only [List.length_set, List.length_replicate, List.length_append, List.length_map, List.length_take, List.length_cons, List.length_nil]; omega)) [wrap64, hlen, q]
    have : l = [] := List.length_eq_zero_iff.1 (by omega)
    exact RetK.keep (hk _ _ ⟨Heap.le.refl _, by simp [this]⟩)
  simp -implicitDefEqProofs (disch := first | omega | (simp only [List.length_set, List.length_replicate, List.length_append, List.length_map, List.length_take, List.length_cons, List.length_nil]; omega)) [wrap64, hlen, q, hb]
  refine (c_distinct R hn hn2).go ?_
  rintro _ h ⟨rfl, rfl⟩
  simp -implicitDefEqProofs (disch := first | omega | (simp only [List.length_set, List.length_replicate, List.length_append, List.length_map, List.length_take, List.length_cons, List.length_nil]; omega)) [wrap64]
  have : l ≠ [] := by rintro rfl; exact q (by simpa using hln)
  exact RetK.keep (hk _ _ ⟨Heap.le.refl _, by simp [this]⟩)
theorem c_GraphValid {h : Heap} {v : Value} {g : Gr} (R : Rep h v g) : CallE Try.prog fn_impl_GraphValid [v] h (fun u h' => h.le h' ∧ u = .bool (decide g.Ok)) := by
  obtain ⟨v1, v2, rfl, R1, R2⟩ := Rep_Gr.1 R
  have hL1 := R1.lt
  have hL2 := R2.lt
  refine CallE.gen fun k hk => EN_impl_GraphValid rfl ?_
  have hno : ∀ {h'}, h.le h' → ¬ g.Ok → k (.bool false) h' := fun hl hh => hk _ _ ⟨hl, by rw [decide_eq_false hh]⟩
  simp -implicitDefEqProofs (disch := first | omega | (simp only [List.length_set, List.length_replicate, List.length_append, List.length_map, List.length_take, List.length_cons, List.length_nil]; omega)) [wrap64, R1.len]
  refine HS.init.alloc rfl fun b h1 H => ?_
  simp only [cells_int] at H
  simp -implicitDefEqProofs (disch := first | omega | (simp only [List.length_set, List.length_replicate, List.length_append, List.length_map, List.length_take, List.length_cons, List.length_nil]; omega)) [wrap64]
  refine HS.bxst (o := 0) (sz := 1) (u := .int .i64 g.states.length) H rfl rfl rfl rfl (by simp) fun h2 H => ?_
  have H : HS h [bx b [.int .i64 g.states.length]] h2 := H
  have hb := H.bxld0
  simp -implicitDefEqProofs (disch := first | omega | (simp only [List.length_set, List.length_replicate, List.length_append, List.length_map, List.length_take, List.length_cons, List.length_nil]; omega)) [wrap64, hb]
  refine c_in.go ?_
  rintro _ h2 ⟨rfl, rfl⟩
  by_cases q1 : (1 : Int) ≤ g.states.length ∧ (g.states.length : Int) ≤ 60
  case neg => simp -implicitDefEqProofs (disch := first | omega | (simp only [List.length_set, List.length_replicate, List.length_append, List.length_map, List.length_take, List.length_cons, List.length_nil]; omega)) [wrap64, q1]; exact RetK.keep (hno H.base fun hh => q1 ⟨by have := hh.n1; omega, by have := hh.n60; omega⟩)
  by_cases q2 : (g.next.length : Int) = g.states.length
  case neg => simp -implicitDefEqProofs (disch := first | omega | (simp only [List.length_set, List.length_replicate, List.length_append, List.length_map, List.length_take, List.length_cons, List.length_nil]; omega)) [wrap64, q1, q2, (R2.on H).len, hb]; exact RetK.keep (hno H.base fun hh => q2 (by rw [hh.nl]))
  simp -implicitDefEqProofs (disch := first | omega | (simp only [List.length_set, List.length_replicate, List.length_append, List.length_map, List.length_take, List.length_cons, List.length_nil]; omega)) [wrap64, q1, q2, (R2.on H).len, hb]
  refine (c_ContainsFunc_impl_State (R1.on H) (c1 := []) (c2 := []) (f := fn_impl_GraphValid_1) rfl (fun st => !decide (VOk st.vals)) ?_).go ?_
  · intro h3 hl j hj u Ru
    exact c_GraphValid_1 Ru
  rintro _ h3 ⟨l3, rfl⟩
  have l3' := H.base.trans l3
  by_cases q3 : ∀ st ∈ g.states, VOk st.vals
  case neg =>
    have hf : g.states.any (fun st => !decide (VOk st.vals)) = true := by
      rw [List.any_eq_true]
      obtain ⟨x, hx⟩ := Classical.not_forall.1 q3
      obtain ⟨h4, h5⟩ := Classical.not_imp.1 hx
      exact ⟨x, h4, by simpa using h5⟩
    simp -implicitDefEqProofs (disch := first | omega | (simp only [List.length_set, List.length_replicate, List.length_append, List.length_map, List.length_take, List.length_cons, List.length_nil]; omega)) [wrap64, hf]
    exact RetK.keep (hno l3' fun hh => q3 hh.vs)
  have hf : g.states.any (fun st => !decide (VOk st.vals)) = false := by
    rw [List.any_eq_false]
    intro x hx
    simpa using q3 x hx
  simp -implicitDefEqProofs (disch := first | omega | (simp only [List.length_set, List.length_replicate, List.length_append, List.length_map, List.length_take, List.length_cons, List.length_nil]; omega)) [wrap64, hf]
  refine (c_ContainsFunc_S_int (R2.le l3') (c1 := []) (c2 := [.pointer (some ⟨b, 0, none⟩)]) (f := fn_impl_GraphValid_2) rfl (fun l => !decide (l ≠ [] ∧ Dst l g.states.length)) ?_).go ?_
  · intro h4 hl j hj u Ru
    exact c_GraphValid_2 Ru (by omega) (by omega) (hload_le (l3.trans hl) hb)
  rintro _ h4 ⟨l4, rfl⟩
  simp -implicitDefEqProofs (disch := first | omega | (simp only [List.length_set, List.length_replicate, List.length_append, List.length_map, List.length_take, List.length_cons, List.length_nil]; omega)) [wrap64]
  refine RetK.keep (hk _ _ ⟨l3'.trans l4, ?_⟩)
  congr 1
  rw [Bool.eq_iff_iff, Bool.not_eq_true', List.any_eq_false, decide_eq_true_iff]
  exact ⟨fun hh => ⟨by omega, by omega, by omega, q3, fun l hl => by simpa using hh l hl⟩, fun hh l hl => by simpa using hh.nx l hl⟩

theorem c_spec_GraphValid {h : Heap} {v : Value} {g : Gr} (R : Rep h v g) : CallE Try.prog fn_spec_GraphValid [v] h (fun u h' => h' = h ∧ u = .bool (decide g.Ok)) := by
  obtain ⟨v1, v2, rfl, R1, R2⟩ := Rep_Gr.1 R
  have hL1 := R1.lt
  have hL2 := R2.lt
  refine CallE.gen fun k hk => EN_spec_GraphValid rfl ?_
  have hno : ¬ g.Ok → k (.bool false) h := fun hh => hk _ _ ⟨rfl, by rw [decide_eq_false hh]⟩
  by_cases q1 : (g.states.length : Int) < 1
  · simp -implicitDefEqProofs (disch := first | omega | (simp only [List.length_set, List.length_replicate, List.length_append, List.length_map, List.length_take, List.length_cons, List.length_nil]; omega)) [wrap64, R1.len, q1]; exact RetK.keep (hno fun hh => by have := hh.n1; omega)
  by_cases q2 : (60 : Int) < g.states.length
  · simp -implicitDefEqProofs (disch := first | omega | (simp only [List.length_set, List.length_replicate, List.length_append, List.length_map, List.length_take, List.length_cons, List.length_nil]; omega)) [wrap64, R1.len, q1, q2]; exact RetK.keep (hno fun hh => by have := hh.n60; omega)
  by_cases q3 : (g.next.length : Int) = g.states.length
  case neg => simp -implicitDefEqProofs (disch := first | omega | (simp only [List.length_set, List.length_replicate, List.length_append, List.length_map, List.length_take, List.length_cons, List.length_nil]; omega)) [wrap64, R1.len, R2.len, q1, q2, q3]; exact RetK.keep (hno fun hh => q3 (by rw [hh.nl]))
  simp -implicitDefEqProofs (disch := first | omega | (simp only [List.length_set, List.length_replicate, List.length_append, List.length_map, List.length_take, List.length_cons, List.length_nil]; omega)) [wrap64, R1.len, R2.len, q1, q2, q3]
  refine wp_count g.next.length (fun i e h' => e = [none, some (.agg #[v1, v2]), none, some (.int .i64 i), none] ∧ h' = h ∧ ∀ (j : Nat) (hj : j < g.next.length), j < i → (g.next[j] ≠ [] ∧ Dst g.next[j] g.states.length) ∧ VOk (g.states[j]'(by omega)).vals) ⟨by simp, rfl, fun j _ hj => absurd hj (Nat.not_lt_zero j)⟩ ?_
  rintro J i _ h1 hJ hi ⟨rfl, rfl, hall⟩
  simp -implicitDefEqProofs (disch := first | omega | (simp only [List.length_set, List.length_replicate, List.length_append, List.length_map, List.length_take, List.length_cons, List.length_nil]; omega)) [wrap64, R2.len]
  refine IteW.mk (fun hlt => ?_) (fun hge => ?_)
  · have hlx : i < g.next.length := by omega
    have hlx2 : i < g.states.length := by omega
    obtain ⟨u, hu, Ru⟩ := R2.ldL hlx
    have hul := Ru.lt
    obtain ⟨t, ht, Rt⟩ := R1.ld hlx2
    change hload _ (some (elp 2 v1 i)) (some 2) = some t at ht
    obtain ⟨t1, t2, rfl, Rt1, Rt2⟩ := Rep_Sta.1 Rt
    have hP := hld_parts ht
    obtain ⟨x, hx⟩ : ∃ x, x = g.next[i] := ⟨_, rfl⟩
    rw [← hx] at Ru hul
    have hmem : x ∈ g.next := hx ▸ List.getElem_mem hlx
    by_cases a1 : (x.length : Int) < 1
    · simp -implicitDefEqProofs (disch := first | omega | (simp only [List.length_set, List.length_replicate, List.length_append, List.length_map, List.length_take, List.length_cons, List.length_nil]; omega)) [wrap64, R2.X (n := 1) rfl, hu, Ru.len, a1]
      exact RetK.keep (hno fun hh => (hh.nx x hmem).1 (List.length_eq_zero_iff.1 (by omega)))
    by_cases a2 : (g.states.length : Int) < x.length
    · simp -implicitDefEqProofs (disch := first | omega | (simp only [List.length_set, List.length_replicate, List.length_append, List.length_map, List.length_take, List.length_cons, List.length_nil]; omega)) [wrap64, R2.X (n := 1) rfl, hu, Ru.len, R1.len, a1, a2]
      exact RetK.keep (hno fun hh => by have := (hh.nx x hmem).2.le; omega)
    simp -implicitDefEqProofs (disch := first | omega | (simp only [List.length_set, List.length_replicate, List.length_append, List.length_map, List.length_take, List.length_cons, List.length_nil]; omega)) [wrap64, R2.X (n := 1) rfl, R1.X (n := 2) rfl, hu, Ru.len, R1.len, a1, a2, hP.1, hP.2.2.1]
    refine (c_l1Vals Rt2).go ?_
    rintro _ h1 ⟨rfl, rfl⟩
    by_cases a3 : VOk g.states[i].vals
    case neg => simp -implicitDefEqProofs (disch := first | omega | (simp only [List.length_set, List.length_replicate, List.length_append, List.length_map, List.length_take, List.length_cons, List.length_nil]; omega)) [wrap64, a3]; exact RetK.keep (hno fun hh => a3 (hh.vs _ (List.getElem_mem hlx2)))
    simp -implicitDefEqProofs (disch := first | omega | (simp only [List.length_set, List.length_replicate, List.length_append, List.length_map, List.length_take, List.length_cons, List.length_nil]; omega)) [wrap64, a3]
    refine wp_count x.length (fun m e h' => e = [none, some (.agg #[v1, v2]), none, some (.int .i64 i), some (.int .i64 m)] ∧ h' = h1 ∧ ∀ (j : Nat) (hj : j < x.length), j < m → 0 ≤ x[j] ∧ x[j] < g.states.length ∧ x[j] ∉ x.take j) ⟨by simp, rfl, fun j _ hj => absurd hj (Nat.not_lt_zero j)⟩ ?_
    rintro J2 m _ h2 hJ2 hm ⟨rfl, rfl, hin⟩
    simp -implicitDefEqProofs (disch := first | omega | (simp only [List.length_set, List.length_replicate, List.length_append, List.length_map, List.length_take, List.length_cons, List.length_nil]; omega)) [wrap64, R2.X (n := 1) rfl, hu, Ru.len]
    refine IteW.mk (fun hlt2 => ?_) (fun hge2 => ?_)
    · have hmx : m < x.length := by omega
      have hbad : ¬ (0 ≤ x[m] ∧ x[m] < g.states.length ∧ x[m] ∉ x.take m) → k (.bool false) h2 := fun hh => hno fun ho => hh ((ho.nx x hmem).2 m hmx)
      by_cases b1 : x[m] < 0
      · simp -implicitDefEqProofs (disch := first | omega | (simp only [List.length_set, List.length_replicate, List.length_append, List.length_map, List.length_take, List.length_cons, List.length_nil]; omega)) [wrap64, R2.X (n := 1) rfl, hu, Ru.I, b1]; exact RetK.keep (hbad fun hh => by omega)
      by_cases b2 : (g.states.length : Int) ≤ x[m]
      · simp -implicitDefEqProofs (disch := first | omega | (simp only [List.length_set, List.length_replicate, List.length_append, List.length_map, List.length_take, List.length_cons, List.length_nil]; omega)) [wrap64, R2.X (n := 1) rfl, hu, Ru.I, R1.len, b1, b2]; exact RetK.keep (hbad fun hh => by omega)
      obtain ⟨v', e1, R'⟩ := Ru.cut (n := m) (esz := 1) (k := .i64) (by omega)
      simp -implicitDefEqProofs (disch := first | omega | (simp only [List.length_set, List.length_replicate, List.length_append, List.length_map, List.length_take, List.length_cons, List.length_nil]; omega)) [wrap64, R2.X (n := 1) rfl, hu, Ru.I, R1.len, b1, b2, e1]
      refine (c_l4In R').go ?_
      rintro _ h2 ⟨rfl, rfl⟩
      by_cases b3 : x[m] ∈ x.take m
      · simp -implicitDefEqProofs (disch := first | omega | (simp only [List.length_set, List.length_replicate, List.length_append, List.length_map, List.length_take, List.length_cons, List.length_nil]; omega)) [wrap64, b3]; exact RetK.keep (hbad fun hh => hh.2.2 b3)
      simp -implicitDefEqProofs (disch := first | omega | (simp only [List.length_set, List.length_replicate, List.length_append, List.length_map, List.length_take, List.length_cons, List.length_nil]; omega)) [wrap64, b3]
      refine hJ2 _ _ hmx ⟨by simp, rfl, fun j hj hji => ?_⟩
      by_cases hji2 : j = m
      · subst hji2; exact ⟨by omega, by omega, b3⟩
      · exact hin j hj (by omega)
    simp -implicitDefEqProofs (disch := first | omega | (simp only [List.length_set, List.length_replicate, List.length_append, List.length_map, List.length_take, List.length_cons, List.length_nil]; omega)) [wrap64]
    refine hJ _ _ hlx ⟨by simp, rfl, fun j hj hji => ?_⟩
    by_cases hji2 : j = i
    · subst hji2
      rw [← hx]
      exact ⟨⟨fun e => a1 (by rw [e]; decide), fun j hj => hin j hj (by omega)⟩, a3⟩
    · exact hall j hj (by omega)
  · simp -implicitDefEqProofs (disch := first | omega | (simp only [List.length_set, List.length_replicate, List.length_append, List.length_map, List.length_take, List.length_cons, List.length_nil]; omega)) [wrap64]
    refine RetK.keep (hk _ _ ⟨rfl, ?_⟩)
    rw [decide_eq_true (show g.Ok from ⟨by omega, by omega, by omega, fun st hst => ?_, fun l hl => ?_⟩)]
    · obtain ⟨j, hj, rfl⟩ := List.mem_iff_getElem.1 hst
      exact (hall j (by omega) (by omega)).2
    · obtain ⟨j, hj, rfl⟩ := List.mem_iff_getElem.1 hl
      exact (hall j hj (by omega)).1

/- LETTERS -/
def ltrN (vs : List Int) (L : List Exq) : Nat → Int
  | 0 => 0
  | i + 1 => if (L.getD i Exq.zero).ev vs ≠ 0 then orI .i64 (ltrN vs L i) (shlI .i64 1 i) else ltrN vs L i
def ltr (vs : List Int) (L : List Exq) : Int := ltrN vs L 3
theorem ltr_bnd {vs : List Int} {L : List Exq} : 0 ≤ ltr vs L ∧ ltr vs L ≤ 7 := by
  unfold ltr
  simp only [ltrN]
  split <;> split <;> split <;> decide

theorem c_letter {h : Heap} {v w : Value} {vs : List Int} {L : List Exq} (hv : VOk vs) (hL : LOk L) (Rv : Rep h v vs) (RL : Rep h w L) : CallE Try.prog fn_impl_letter [v, w] h (fun u h' => h' = h ∧ u = .int .i64 (ltr vs L)) := by
  have hl := hL.len
  refine CallE.gen fun k hk => EN_impl_letter rfl ?_
  simp -implicitDefEqProofs (disch := first | omega | (simp only [List.length_set, List.length_replicate, List.length_append, List.length_map, List.length_take, List.length_cons, List.length_nil]; omega)) [wrap64, RL.len]
  refine wp_count 3 (fun i e h' => e = [some v, none, none, some (.int .i64 (ltrN vs L i)), none, none, some w, some (.int .i64 L.length), some (.int .i64 i)] ∧ h' = h) ⟨by simp [ltrN], rfl⟩ ?_
  rintro J i _ h1 hJ hi ⟨rfl, rfl⟩
  by_cases hlt : i < L.length
  · obtain ⟨u, hu, Ru⟩ := RL.ld hlt
    change hload _ (some (elp 3 w i)) (some 3) = some u at hu
    simp -implicitDefEqProofs (disch := first | omega | (simp only [List.length_set, List.length_replicate, List.length_append, List.length_map, List.length_take, List.length_cons, List.length_nil]; omega)) [wrap64, hlt, RL.X (n := 3) rfl, hu, Ru.aExq]
    refine (c_eval _ hv (hL.ok _ (List.getElem_mem hlt)).1 Ru Rv).go ?_
    rintro _ h1 ⟨rfl, rfl⟩
    have hg : L.getD i Exq.zero = L[i] := by simp [hlt]
    by_cases e : L[i].ev vs = 0
    · simp -implicitDefEqProofs (disch := first | omega | (simp only [List.length_set, List.length_replicate, List.length_append, List.length_map, List.length_take, List.length_cons, List.length_nil]; omega)) [wrap64, e]
      exact hJ _ _ (by omega) ⟨by simp [ltrN, hlt, e], rfl⟩
    · simp -implicitDefEqProofs (disch := first | omega | (simp only [List.length_set, List.length_replicate, List.length_append, List.length_map, List.length_take, List.length_cons, List.length_nil]; omega)) [wrap64, e]
      exact hJ _ _ (by omega) ⟨by simp [ltrN, hlt, e], rfl⟩
  · simp -implicitDefEqProofs (disch := first | omega | (simp only [List.length_set, List.length_replicate, List.length_append, List.length_map, List.length_take, List.length_cons, List.length_nil]; omega)) [wrap64, hlt]
    have : i = 3 := by omega
    subst this
    exact RetK.keep (hk _ _ ⟨rfl, rfl⟩)
theorem c_l8Letter {h : Heap} {v w : Value} {st : Sta} {L : List Exq} (hv : VOk st.vals) (hL : LOk L) (Rv : Rep h v st) (RL : Rep h w L) : CallE Try.prog fn_spec_l8Letter [v, w] h (fun u h' => h' = h ∧ u = .int .i64 (ltr st.vals L)) := by
  have hl := hL.len
  obtain ⟨v1, v2, rfl, R1, R2⟩ := Rep_Sta.1 Rv
  refine CallE.gen fun k hk => EN_spec_l8Letter rfl ?_
  simp -implicitDefEqProofs (disch := first | omega | (simp only [List.length_set, List.length_replicate, List.length_append, List.length_map, List.length_take, List.length_cons, List.length_nil]; omega)) [wrap64]
  refine wp_count 3 (fun i e h' => e = [none, some w, some (.agg #[v1, v2]), none, some (.int .i64 (ltrN st.vals L i)), some (.int .i64 i)] ∧ h' = h) ⟨by simp [ltrN], rfl⟩ ?_
  rintro J i _ h1 hJ hi ⟨rfl, rfl⟩
  by_cases hlt : i < L.length
  · obtain ⟨u, hu, Ru⟩ := RL.ld hlt
    change hload _ (some (elp 3 w i)) (some 3) = some u at hu
    simp -implicitDefEqProofs (disch := first | omega | (simp only [List.length_set, List.length_replicate, List.length_append, List.length_map, List.length_take, List.length_cons, List.length_nil]; omega)) [wrap64, hlt, RL.len, RL.X (n := 3) rfl, hu, Ru.aExq]
    refine (c_l1Eval _ hv (hL.ok _ (List.getElem_mem hlt)).1 Ru R2).go ?_
    rintro _ h1 ⟨rfl, rfl⟩
    have hw : IntKind.u64.wrap (i : Int) = i := u64_wrap (by omega)
    by_cases e : L[i].ev st.vals = 0
    · simp -implicitDefEqProofs (disch := first | omega | (simp only [List.length_set, List.length_replicate, List.length_append, List.length_map, List.length_take, List.length_cons, List.length_nil]; omega)) [wrap64, e]
      exact hJ _ _ (by omega) ⟨by simp [ltrN, hlt, e], rfl⟩
    · simp -implicitDefEqProofs (disch := first | omega | (simp only [List.length_set, List.length_replicate, List.length_append, List.length_map, List.length_take, List.length_cons, List.length_nil]; omega)) [wrap64, e, hw]
      exact hJ _ _ (by omega) ⟨by simp [ltrN, hlt, e], rfl⟩
  · simp -implicitDefEqProofs (disch := first | omega | (simp only [List.length_set, List.length_replicate, List.length_append, List.length_map, List.length_take, List.length_cons, List.length_nil]; omega)) [wrap64, hlt, RL.len]
    have : i = 3 := by omega
    subst this
    exact RetK.keep (hk _ _ ⟨rfl, rfl⟩)

def lbl (g : Gr) (L : List Exq) : List Int := g.states.map fun st => ltr st.vals L
theorem c_label {h : Heap} {v w : Value} {g : Gr} {L : List Exq} (hg : g.Ok) (hL : LOk L) (Rg : Rep h v g) (RL : Rep h w L) : CallE Try.prog fn_impl_Graph_label [v, w] h (fun u h' => HS h [ow u (lbl g L)] h') := by
  obtain ⟨v1, v2, rfl, R1, R2⟩ := Rep_Gr.1 Rg
  have hn := hg.n60
  refine CallE.gen fun k hk => EN_impl_Graph_label rfl ?_
  simp -implicitDefEqProofs (disch := first | omega | (simp only [List.length_set, List.length_replicate, List.length_append, List.length_map, List.length_take, List.length_cons, List.length_nil]; omega)) [wrap64, R1.len]
  refine HS.init.mks (α := Int) (z := (0 : Int)) rfl rfl (own_zero (by decide) (by decide)) (Nat.le_refl _) (by omega) (by omega) fun o h1 H => ?_
  simp -implicitDefEqProofs (disch := first | omega | (simp only [List.length_set, List.length_replicate, List.length_append, List.length_map, List.length_take, List.length_cons, List.length_nil]; omega)) [wrap64, (R1.on H).len]
  refine wp_count g.states.length (fun i e h' => e = [none, some w, none, none, some o, none, none, some v1, some (.int .i64 g.states.length), some (.int .i64 i)] ∧ ∃ y, HS h [ow o y] h' ∧ y.length = g.states.length ∧ y.take i = (lbl g L).take i) ⟨by simp, _, H, by simp, by simp⟩ ?_
  clear H
  rintro J i _ h2 hJ hi ⟨rfl, y, H, hl, hy⟩
  simp -implicitDefEqProofs (disch := first | omega | (simp only [List.length_set, List.length_replicate, List.length_append, List.length_map, List.length_take, List.length_cons, List.length_nil]; omega)) [wrap64]
  refine IteW.mk (fun hlt => ?_) (fun hge => ?_)
  · have hlx : i < g.states.length := by omega
    obtain ⟨t, ht, Rt⟩ := (R1.on H).ld hlx
    change hload _ (some (elp 2 v1 i)) (some 2) = some t at ht
    obtain ⟨t1, t2, rfl, Rt1, Rt2⟩ := Rep_Sta.1 Rt
    have hc1 := Rt1.one
    have hc2 := Rt2.one
    simp -implicitDefEqProofs (disch := first | omega | (simp only [List.length_set, List.length_replicate, List.length_append, List.length_map, List.length_take, List.length_cons, List.length_nil]; omega)) [wrap64, R1.X (n := 2) rfl, ht, setC, hc1, hc2]
    refine (c_letter (hg.vs _ (List.getElem_mem hlx)) hL Rt2 (RL.on H)).go ?_
    rintro _ h2 ⟨rfl, rfl⟩
    have hb := ltr_bnd (vs := g.states[i].vals) (L := L)
    simp -implicitDefEqProofs (disch := first | omega | (simp only [List.length_set, List.length_replicate, List.length_append, List.length_map, List.length_take, List.length_cons, List.length_nil]; omega)) [wrap64, H.rep.I]
    refine H.storeF (ltr g.states[i].vals L) (i := i) (by omega) rfl rfl ⟨by omega, by omega⟩ rfl fun h3 H => ?_
    simp -implicitDefEqProofs (disch := first | omega | (simp only [List.length_set, List.length_replicate, List.length_append, List.length_map, List.length_take, List.length_cons, List.length_nil]; omega)) [wrap64]
    refine hJ _ _ hlx ⟨by simp, _, H, by simp [hl], ?_⟩
    have := take_set_succ (x := lbl g L) hy (by simpa [lbl] using hlx) (by simpa [lbl] using hl)
    simpa [lbl] using this
  · simp -implicitDefEqProofs (disch := first | omega | (simp only [List.length_set, List.length_replicate, List.length_append, List.length_map, List.length_take, List.length_cons, List.length_nil]; omega)) [wrap64]
    have he : y = lbl g L := eq_of_take hy (by simpa [lbl] using by omega) (by simpa [lbl] using hl)
    exact RetK.keep (hk _ _ (he ▸ H))
theorem c_l8Letters {h : Heap} {v w : Value} {g : Gr} {L : List Exq} (hg : g.Ok) (hL : LOk L) (Rg : Rep h v g) (RL : Rep h w L) : CallE Try.prog fn_spec_l8Letters [v, w] h (fun u h' => HS h [ow u (lbl g L)] h') := by
  obtain ⟨v1, v2, rfl, R1, R2⟩ := Rep_Gr.1 Rg
  have hn := hg.n60
  refine CallE.gen fun k hk => EN_spec_l8Letters rfl ?_
  simp -implicitDefEqProofs (disch := first | omega | (simp only [List.length_set, List.length_replicate, List.length_append, List.length_map, List.length_take, List.length_cons, List.length_nil]; omega)) [wrap64]
  refine HS.init.bls0 Int fun o h1 H => ?_
  simp -implicitDefEqProofs (disch := first | omega | (simp only [List.length_set, List.length_replicate, List.length_append, List.length_map, List.length_take, List.length_cons, List.length_nil]; omega)) [wrap64]
  refine wp_count g.states.length (fun i e h' => ∃ o, e = [none, some w, some (.agg #[v1, v2]), none, some o, some (.int .i64 i)] ∧ HS h [ow o ((lbl g L).take i)] h') ⟨o, by simp, by simpa using H⟩ ?_
  clear H
  rintro J i _ h2 hJ hi ⟨o, rfl, H⟩
  simp -implicitDefEqProofs (disch := first | omega | (simp only [List.length_set, List.length_replicate, List.length_append, List.length_map, List.length_take, List.length_cons, List.length_nil]; omega)) [wrap64, (R1.on H).len]
  refine IteW.mk (fun hlt => ?_) (fun hge => ?_)
  · have hlx : i < g.states.length := by omega
    obtain ⟨t, ht, Rt⟩ := (R1.on H).ld hlx
    change hload _ (some (elp 2 v1 i)) (some 2) = some t at ht
    simp -implicitDefEqProofs (disch := first | omega | (simp only [List.length_set, List.length_replicate, List.length_append, List.length_map, List.length_take, List.length_cons, List.length_nil]; omega)) [wrap64, R1.X (n := 2) rfl, ht]
    refine (c_l8Letter (hg.vs _ (List.getElem_mem hlx)) hL Rt (RL.on H)).go ?_
    rintro _ h2 ⟨rfl, rfl⟩
    have hb := ltr_bnd (vs := g.states[i].vals) (L := L)
    have htl : ((lbl g L).take i).length = i := by simp [lbl]; omega
    simp -implicitDefEqProofs (disch := first | omega | (simp only [List.length_set, List.length_replicate, List.length_append, List.length_map, List.length_take, List.length_cons, List.length_nil]; omega)) [wrap64]
    refine H.app1 (ltr g.states[i].vals L) rfl rfl rfl ⟨by omega, by omega⟩ rfl rfl (by omega) (by omega) fun o' h3 H => ?_
    simp -implicitDefEqProofs (disch := first | omega | (simp only [List.length_set, List.length_replicate, List.length_append, List.length_map, List.length_take, List.length_cons, List.length_nil]; omega)) [wrap64]
    refine hJ _ _ hlx ⟨o', by simp, ?_⟩
    have : (lbl g L).take (i + 1) = (lbl g L).take i ++ [ltr g.states[i].vals L] := by
      rw [List.take_add_one, List.getElem?_eq_getElem (by simpa [lbl] using hlx)]
      simp [lbl]
    rw [this]; exact H
  · simp -implicitDefEqProofs (disch := first | omega | (simp only [List.length_set, List.length_replicate, List.length_append, List.length_map, List.length_take, List.length_cons, List.length_nil]; omega)) [wrap64]
    rw [List.take_of_length_le (by simp [lbl]; omega)] at H
    exact RetK.keep (hk _ _ H)

noncomputable def lblR (g : Gr) (L : List Exq) : List Int := if g.Ok ∧ LOk L then lbl g L else []
theorem c_spec_LabelGraph {h : Heap} {v w : Value} {g : Gr} {L : List Exq} (R : Rep h v g) (RL : Rep h w L) : CallE Try.prog fn_spec_LabelGraph [v, w] h (R2 (decide (g.Ok ∧ LOk L)) (lblR g L) h) := by
  have F := R.aGr
  refine CallE.gen fun k hk => EN_spec_LabelGraph rfl ?_
  simp -implicitDefEqProofs (disch := first | omega | (simp only [List.length_set, List.length_replicate, List.length_append, List.length_map, List.length_take, List.length_cons, List.length_nil]; omega)) [wrap64, F]
  refine (c_spec_GraphValid R).go ?_
  rintro _ h ⟨rfl, rfl⟩
  by_cases hs : g.Ok
  case neg =>
    have hn : ¬ (g.Ok ∧ LOk L) := fun hh => hs hh.1
    simp -implicitDefEqProofs (disch := first | omega | (simp only [List.length_set, List.length_replicate, List.length_append, List.length_map, List.length_take, List.length_cons, List.length_nil]; omega)) [wrap64, hs]
    refine HS.init.bls0 Int fun o h1 H => ?_
    simp -implicitDefEqProofs (disch := first | omega | (simp only [List.length_set, List.length_replicate, List.length_append, List.length_map, List.length_take, List.length_cons, List.length_nil]; omega)) [wrap64]
    exact RetK.keep (hk _ _ ⟨_, by rw [decide_eq_false hn], by rw [lblR, if_neg hn]; exact H⟩)
  simp -implicitDefEqProofs (disch := first | omega | (simp only [List.length_set, List.length_replicate, List.length_append, List.length_map, List.length_take, List.length_cons, List.length_nil]; omega)) [wrap64, hs]
  refine (c_spec_LabelsValid RL).go ?_
  rintro _ h ⟨rfl, rfl⟩
  by_cases hL : LOk L
  case neg =>
    have hn : ¬ (g.Ok ∧ LOk L) := fun hh => hL hh.2
    simp -implicitDefEqProofs (disch := first | omega | (simp only [List.length_set, List.length_replicate, List.length_append, List.length_map, List.length_take, List.length_cons, List.length_nil]; omega)) [wrap64, hL]
    refine HS.init.bls0 Int fun o h1 H => ?_
    simp -implicitDefEqProofs (disch := first | omega | (simp only [List.length_set, List.length_replicate, List.length_append, List.length_map, List.length_take, List.length_cons, List.length_nil]; omega)) [wrap64]
    exact RetK.keep (hk _ _ ⟨_, by rw [decide_eq_false hn], by rw [lblR, if_neg hn]; exact H⟩)
  simp -implicitDefEqProofs (disch := first | omega | (simp only [List.length_set, List.length_replicate, List.length_append, List.length_map, List.length_take, List.length_cons, List.length_nil]; omega)) [wrap64, hL, F]
  refine (c_l8Letters hs hL R RL).go ?_
  intro u h3 H
  simp -implicitDefEqProofs (disch := first | omega | (simp only [List.length_set, List.length_replicate, List.length_append, List.length_map, List.length_take, List.length_cons, List.length_nil]; omega)) [wrap64]
  exact RetK.keep (hk _ _ ⟨_, by rw [decide_eq_true ⟨hs, hL⟩], by rw [lblR, if_pos ⟨hs, hL⟩]; exact H⟩)
theorem c_LabelGraph {h : Heap} {v w : Value} {g : Gr} {L : List Exq} (R : Rep h v g) (RL : Rep h w L) : CallE Try.prog fn_impl_LabelGraph [v, w] h (R2 (decide (g.Ok ∧ LOk L)) (lblR g L) h) := by
  have F := R.aGr
  refine CallE.gen fun k hk => EN_impl_LabelGraph rfl ?_
  have hno : ¬ (g.Ok ∧ LOk L) → ∀ h', h.le h' → k (.tuple #[.slice none 0 0, .bool false]) h' := fun hn h' hl => hk _ _ ⟨_, by rw [decide_eq_false hn], by rw [lblR, if_neg hn]; exact HS.nil_ow (Γ := []) hl⟩
  simp -implicitDefEqProofs (disch := first | omega | (simp only [List.length_set, List.length_replicate, List.length_append, List.length_map, List.length_take, List.length_cons, List.length_nil]; omega)) [wrap64, F]
  refine (c_GraphValid R).go ?_
  rintro _ h1 ⟨l1, rfl⟩
  by_cases hs : g.Ok
  case neg =>
    simp -implicitDefEqProofs (disch := first | omega | (simp only [List.length_set, List.length_replicate, List.length_append, List.length_map, List.length_take, List.length_cons, List.length_nil]; omega)) [wrap64, hs]
    exact RetK.keep (hno (fun hh => hs hh.1) _ l1)
  simp -implicitDefEqProofs (disch := first | omega | (simp only [List.length_set, List.length_replicate, List.length_append, List.length_map, List.length_take, List.length_cons, List.length_nil]; omega)) [wrap64, hs]
  refine (c_LabelsValid (RL.le l1)).go ?_
  rintro _ h2 ⟨l2, rfl⟩
  have l2 := l1.trans l2
  by_cases hL : LOk L
  case neg =>
    simp -implicitDefEqProofs (disch := first | omega | (simp only [List.length_set, List.length_replicate, List.length_append, List.length_map, List.length_take, List.length_cons, List.length_nil]; omega)) [wrap64, hL]
    exact RetK.keep (hno (fun hh => hL hh.2) _ l2)
  simp -implicitDefEqProofs (disch := first | omega | (simp only [List.length_set, List.length_replicate, List.length_append, List.length_map, List.length_take, List.length_cons, List.length_nil]; omega)) [wrap64, hL, F]
  refine (c_label hs hL (R.le l2) (RL.le l2)).go ?_
  intro u h3 H
  simp -implicitDefEqProofs (disch := first | omega | (simp only [List.length_set, List.length_replicate, List.length_append, List.length_map, List.length_take, List.length_cons, List.length_nil]; omega)) [wrap64]
  exact RetK.keep (hk _ _ ⟨_, by rw [decide_eq_true ⟨hs, hL⟩], by rw [lblR, if_pos ⟨hs, hL⟩]; exact HS.app (Γ := []) H l2⟩)

theorem bnd_LabelGraph {a0 : Gr} {a1 : List Exq} : Mk.cnt (lblR a0 a1) ≤ 4194304 := by
  rw [cnt_ints, lblR]
  split
  · rename_i h; have := h.1.n60; simp [lbl]; omega
  · simp
end Go.Proofs.Ythgimpheeemooaa
