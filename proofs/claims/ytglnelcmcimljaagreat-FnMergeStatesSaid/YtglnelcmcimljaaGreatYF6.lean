/-
  Texts of this proof, one behind the other.
-/
import Derived.Test.YtglnelcmcimljaaGreatYF5
set_option linter.all false
set_option linter.unusedVariables false
set_option linter.unusedSimpArgs false
set_option linter.defProp false
set_option maxRecDepth 1000000
namespace Go.Proofs.YtglnelcmcimljaaGreat
open Go
theorem kidx_all {K : Nat → Bool} : ∀ {n : Nat}, kidx K n = n → ∀ q, q < n → K q = true ∧ kidx K q = q
  | 0, _, q, hq => absurd hq (Nat.not_lt_zero q)
  | n + 1, h, q, hq => by
    rw [kidx_succ] at h
    have hl := kidx_le (K := K) (q := n)
    have hk : K n = true := by
      cases hk : K n with
      | true => rfl
      | false => rw [hk] at h; simp at h; omega
    rw [hk] at h
    simp only [if_true] at h
    have h1 : kidx K n = n := by omega
    by_cases e : q = n
    · subst e; exact ⟨hk, h1⟩
    · exact kidx_all h1 q (by omega)
theorem map_range_getD {l : List Bool} : ((List.range l.length).map fun q => l.getD q false) = l := by
  apply List.ext_getElem (by simp)
  intro i h1 h2
  simp [h2]
theorem Aut.ext3 {a b : Aut} (h1 : a.init = b.init) (h2 : a.acc = b.acc) (h3 : a.edges = b.edges) : a = b := by
  cases a; cases b; simp_all
theorem Aut.keep_full {a : Aut} (ha : a.Ok) {K : Nat → Bool} (h : kidx K a.acc.length = a.acc.length) : a.keep K = a := by
  have hn := ha.n
  have hall := kidx_all h
  unfold Aut.keep
  rw [if_neg (by omega)]
  refine Aut.ext3 ?_ ?_ ?_
  · show (a.init.filter _).map _ = _
    rw [List.filter_eq_self.2]
    · conv => rhs; rw [← List.map_id a.init]
      apply List.map_congr_left
      intro q hq
      have := incr_mem ha.i q hq
      have h1 := (hall q.toNat (by omega)).2
      simp only [kout, h1, id]
      omega
    · intro q hq
      have := incr_mem ha.i q hq
      exact (hall q.toNat (by omega)).1
  · show ((List.range a.acc.length).filter K).map _ = _
    rw [List.filter_eq_self.2]
    · exact map_range_getD
    · intro q hq
      exact (hall q (by simpa using hq)).1
  · show (a.edges.filter _).map _ = _
    rw [List.filter_eq_self.2]
    · conv => rhs; rw [← List.map_id a.edges]
      apply List.map_congr_left
      intro e he
      have hx := ha.2.2.2 e he
      unfold Tr.Ok at hx
      have h1 := (hall e.frm.toNat (by omega)).2
      have h2 := (hall e.to.toNat (by omega)).2
      have e1 : ((e.frm.toNat : Nat) : Int) = e.frm := by omega
      have e2 : ((e.to.toNat : Nat) : Int) = e.to := by omega
      simp only [Tr.ren, kout, h1, h2, id, e1, e2]
    · intro e he
      have hx := ha.2.2.2 e he
      unfold Tr.Ok at hx
      rw [(hall e.frm.toNat (by omega)).1, (hall e.to.toNat (by omega)).1]; rfl
theorem Aut.trim_len {a : Aut} (ha : a.Ok) : a.trim.acc.length ≤ a.acc.length ∧ (a.trim.acc.length = a.acc.length → a.trim = a ∨ (a.acc.length = 1 ∧ a.trim = ⟨[], [false], []⟩)) := by
  have hn := ha.n
  have hl := kidx_le (K := a.tkeep) (q := a.acc.length)
  by_cases h0 : kidx a.tkeep a.acc.length = 0
  · have ht : a.trim = ⟨[], [false], []⟩ := by unfold Aut.trim Aut.keep; rw [if_pos h0]
    rw [ht]
    exact ⟨hn.1, fun h => .inr ⟨h.symm, rfl⟩⟩
  · have hk : a.trim.acc.length = kidx a.tkeep a.acc.length := Aut.keep_len h0
    rw [hk]
    exact ⟨hl, fun h => .inl (Aut.keep_full ha h)⟩
theorem grpS_full {e : Nat → Nat → Bool} : ∀ {n : Nat}, (grpS e n).2 = n → (grpS e n).1 = List.range n ∧ ∀ i, i < n → (List.range i).find? (fun k => e i k) = none
  | 0, _ => ⟨rfl, fun i hi => absurd hi (Nat.not_lt_zero i)⟩
  | n + 1, h => by
    have hl := grpS_le (e := e) n
    cases hf : (List.range n).find? (fun k => e n k) with
    | some k =>
      rw [grpS_old hf] at h
      have h : (grpS e n).2 = n + 1 := h
      omega
    | none =>
      rw [grpS_new hf] at h ⊢
      have h : (grpS e n).2 + 1 = n + 1 := h
      have h1 : (grpS e n).2 = n := by omega
      obtain ⟨h2, h3⟩ := grpS_full h1
      refine ⟨by show (grpS e n).1 ++ [(grpS e n).2] = _; rw [h2, h1, List.range_succ], fun i hi => ?_⟩
      by_cases ei : i = n
      · subst ei; exact hf
      · exact h3 i (by omega)
theorem accG_full {a : Aut} {e : Nat → Nat → Bool} : ∀ {n : Nat}, (∀ i, i < n → (List.range i).find? (fun k => e i k) = none) → accG a e n = (List.range n).map fun q => a.acc.getD q false
  | 0, _ => rfl
  | n + 1, h => by
    have ih := accG_full (a := a) (e := e) (n := n) fun i hi => h i (by omega)
    simp only [accG, h n (by omega)]
    rw [ih, List.range_succ, List.map_append]
    rfl
theorem gnm_full {e : Nat → Nat → Bool} {n : Nat} (h : (grpS e n).1 = List.range n) {x : Int} (h0 : 0 ≤ x) (h1 : x < n) : gnm e n x = x := by
  unfold gnm
  rw [h]
  simp [show x.toNat < n by omega]
  omega
theorem memL_self {n : Nat} {l : List Int} (h : incr n (-1) l) {K : Nat → Bool} (hK : ∀ q, q < n → (K q = true ↔ (q : Int) ∈ l)) : memL K n = l := by
  refine incr_ext (memL_incr (Nat.le_refl _)) h fun x => ?_
  rw [memL_mem]
  constructor
  · rintro ⟨q, rfl, h1, h2⟩; exact (hK q h1).1 h2
  · intro hx
    have := incr_mem h x hx
    refine ⟨x.toNat, by omega, by omega, (hK _ (by omega)).2 ?_⟩
    rwa [Int.toNat_of_nonneg (by omega)]
theorem Aut.mergeE_full {a : Aut} (ha : a.Ok) {e : Nat → Nat → Bool} (h : (grpS e a.acc.length).2 = a.acc.length) : a.mergeE e = ⟨a.init, a.acc, ded a.edges⟩ := by
  obtain ⟨h1, h2⟩ := grpS_full h
  have hg : ∀ x : Int, 0 ≤ x → x < a.acc.length → gnm e a.acc.length x = x := fun x => gnm_full h1
  refine Aut.ext3 ?_ ?_ ?_
  · show memL _ (grpS e a.acc.length).2 = _
    rw [h]
    refine memL_self ha.i fun q hq => ?_
    simp only [List.any_eq_true, decide_eq_true_eq]
    constructor
    · rintro ⟨p, hp, h3⟩
      have := incr_mem ha.i p hp
      rw [hg p (by omega) (by omega)] at h3
      rw [← h3]; exact hp
    · intro hm
      exact ⟨q, hm, hg q (by omega) (by omega)⟩
  · show accG a e a.acc.length = _
    rw [accG_full h2, map_range_getD]
  · show ded (a.edges.map _) = ded a.edges
    congr 1
    conv => rhs; rw [← List.map_id a.edges]
    apply List.map_congr_left
    intro t ht
    have hx := ha.2.2.2 t ht
    unfold Tr.Ok at hx
    simp only [Tr.ren, hg t.frm hx.1 hx.2.1, hg t.to hx.2.2.1 hx.2.2.2.1, id]
theorem Aut.mrg_len {a : Aut} (ha : a.Ok) : a.mrg.acc.length ≤ a.acc.length ∧ (a.mrg.acc.length = a.acc.length → a.mrg = ⟨a.init, a.acc, ded a.edges⟩) := by
  have h1 : ∀ e, (a.mergeE e).acc.length = (grpS e a.acc.length).2 := fun e => accG_len a.acc.length
  unfold Aut.mrg
  rw [h1]
  exact ⟨grpS_le _, fun h => Aut.mergeE_full ha h⟩
theorem ded_same {l : List Tr} (h : l.length ≤ (ded l).length) : ded l = l := by
  have key : ∀ (l o : List Tr), (l.foldl (fun o f => if f ∈ o then o else o ++ [f]) o).length ≤ o.length + l.length ∧ (o.length + l.length ≤ (l.foldl (fun o f => if f ∈ o then o else o ++ [f]) o).length → l.foldl (fun o f => if f ∈ o then o else o ++ [f]) o = o ++ l) := by
    intro l
    induction l with
    | nil => simp
    | cons y l ih =>
      intro o
      rw [List.foldl_cons]
      by_cases hy : y ∈ o
      · rw [if_pos hy]
        obtain ⟨i1, i2⟩ := ih o
        refine ⟨by simp; omega, fun h => ?_⟩
        simp at h; omega
      · rw [if_neg hy]
        obtain ⟨i1, i2⟩ := ih (o ++ [y])
        simp only [List.length_append, List.length_cons, List.length_nil] at i1 i2
        refine ⟨by simp; omega, fun h => ?_⟩
        rw [i2 (by simp at h; omega)]
        simp
  have := (key l []).2 (by simpa [ded] using h)
  simpa [ded] using this
noncomputable def Aut.rnd (a : Aut) : Aut := a.trim.mrg
def Aut.mea (a : Aut) : Nat := a.acc.length * 4096 + a.acc.count true + a.init.length + a.edges.length
theorem Aut.trim_ok {a : Aut} (ha : a.Ok) : a.trim.Ok := Aut.keep_ok ha _
theorem Aut.rnd_ok {a : Aut} (ha : a.Ok) : a.rnd.Ok := Aut.mrg_ok (Aut.trim_ok ha)
theorem Aut.rnd_less {a : Aut} (ha : a.Ok) (hne : a.rnd ≠ a) : a.rnd.mea < a.mea := by
  have ht := Aut.trim_ok ha
  have hr := Aut.rnd_ok ha
  obtain ⟨t1, t2⟩ := Aut.trim_len ha
  obtain ⟨m1, m2⟩ := Aut.mrg_len ht
  have m1 : a.rnd.acc.length ≤ a.trim.acc.length := m1
  have b1 := hr.il
  have b2 := hr.e
  have b3 := List.count_le_length (a := true) (l := a.rnd.acc)
  have b4 := hr.n
  by_cases hlt : a.rnd.acc.length < a.acc.length
  · unfold Aut.mea
    omega
  · have e1 : a.trim.acc.length = a.acc.length := by omega
    have hm : a.rnd = ⟨a.trim.init, a.trim.acc, ded a.trim.edges⟩ := m2 (by show a.rnd.acc.length = _; omega)
    rcases t2 e1 with h | ⟨h1, h⟩
    · rw [h] at hm
      have hd := ded_len (l := a.edges)
      have hdl : (ded a.edges).length < a.edges.length := by
        rcases Nat.lt_or_ge (ded a.edges).length a.edges.length with h3 | h3
        · exact h3
        · exact absurd (by rw [hm, ded_same h3]) hne
      rw [hm]
      unfold Aut.mea
      show a.acc.length * 4096 + a.acc.count true + a.init.length + (ded a.edges).length < _
      omega
    · rw [h] at hm
      have hm : a.rnd = ⟨[], [false], []⟩ := hm
      rw [hm]
      have h3 : Aut.mea ⟨[], [false], []⟩ = 4096 := by rfl
      rw [h3]
      unfold Aut.mea
      rw [h1]
      have : a.acc.count true + a.init.length + a.edges.length ≠ 0 := by
        intro h4
        have g1 : a.init = [] := List.eq_nil_of_length_eq_zero (by omega)
        have g2 : a.edges = [] := List.eq_nil_of_length_eq_zero (by omega)
        have g3 : a.acc = [false] := by
          match hq : a.acc, h1 with
          | [x], _ =>
            rw [hq] at h4
            cases x with
            | false => rfl
            | true => simp at h4
        exact hne (by rw [hm]; exact (Aut.ext3 g1 g3 g2).symm)
      omega
inductive SmpR : Aut → Aut → Prop
  | stop {a : Aut} (h : a.rnd = a) : SmpR a a
  | more {a r : Aut} (h : a.rnd ≠ a) (hr : SmpR a.rnd r) : SmpR a r
theorem SmpR.fn {a r s : Aut} (h : SmpR a r) : SmpR a s → r = s := by
  induction h with
  | stop h =>
    intro h'
    cases h' with
    | stop _ => rfl
    | more h2 _ => exact absurd h h2
  | more h _ ih =>
    intro h'
    cases h' with
    | stop h2 => exact absurd h2 h
    | more _ h3 => exact ih h3
theorem SmpR.ex : ∀ (m : Nat) (a : Aut), a.mea ≤ m → a.Ok → ∃ r, SmpR a r ∧ r.Ok
  | 0, a, hm, ha => by
    have := ha.n
    unfold Aut.mea at hm
    omega
  | m + 1, a, hm, ha => by
    by_cases h : a.rnd = a
    · exact ⟨a, .stop h, ha⟩
    · have := Aut.rnd_less ha h
      obtain ⟨r, h1, h2⟩ := SmpR.ex m a.rnd (by omega) (Aut.rnd_ok ha)
      exact ⟨r, .more h h1, h2⟩
end Go.Proofs.YtglnelcmcimljaaGreat

namespace Go.Proofs.YtglnelcmcimljaaGreat
open Go
end Go.Proofs.YtglnelcmcimljaaGreat

namespace Go.Proofs.YtglnelcmcimljaaGreat
open Go
def H_impl_Accepts : Hint := ⟨[(0, false), (1, false), (2, true), (3, true), (4, false), (5, false)], []⟩
def K13_1 : Pl := .m 4 8 <|
 .st (.act none (.px (some 5) (.mv (.c (.bool true))))) .done
@[simp] def W13_1 := Pl.w K13_1.eq_1
def K13_2 : C := .seq (.pl <| .e 6 3 <|
 .st (.act none (.pget (some 6) none 2 0 (some 3))) <|
 .st (.act none (.pget (some 7) none 3 0 (some 2))) <|
 .st (.act none (.ex (some 8) (.call fn_impl_Automaton_accepts [.v 6, .v 7]))) K13_1) (.ret)
@[simp] def W13_2 := C.w K13_2.eq_1
def K13_3 : C := .seq (.pl <| .e 6 0 <|
 .x 4 (.mv (.c (.bool false))) <|
 .st (.act none (.px (some 5) (.mv (.c (.bool false))))) .done) (.ret)
@[simp] def W13_3 := C.w K13_3.eq_1
def K13_4 : C := .cond 6 (.v 13) K13_3 (.skip)
@[simp] def W13_4 := C.w K13_4.eq_1
def K13_5 : Pl := .n 9 (.px (some 12) (.un .not (.v 11))) <|
 .st (.act none (.px (some 13) (.pick (.v 9) (.c (.bool true)) (.v 12)))) .done
@[simp] def W13_5 := Pl.w K13_5.eq_1
def K13_6 : Pl := .x 8 (.un .not (.v 7)) <|
 .m 9 8 <|
 .n 9 (.pget (some 10) none 3 0 (some 2)) <|
 .st (.act (some (.v 9, false)) (.ex (some 11) (.call fn_impl_LassoValid [.v 10]))) K13_5
@[simp] def W13_6 := Pl.w K13_6.eq_1
def K13_7 : C := .seq (.seq (.pl <| .e 6 8 <|
 .st (.act none (.pget (some 6) none 2 0 (some 3))) <|
 .st (.act none (.ex (some 7) (.call fn_impl_AutomatonValid [.v 6]))) K13_6) K13_4) K13_2
@[simp] def W13_7 := C.w K13_7.eq_1
def B_impl_Accepts : C := .seq (.pl <| .e 6 0 <|
 .st (.act none (.pnew 2 (.v 0) [])) <|
 .st (.act none (.pnew 3 (.v 1) [])) <|
 .x 4 (.mv (.c (.bool false))) <|
 .st (.act none (.px (some 5) (.mv (.c (.bool false))))) .done) K13_7
@[simp] def WB_impl_Accepts := C.w B_impl_Accepts.eq_1
def R_impl_Accepts : FIR := ⟨B_impl_Accepts, 6, [(4, none), (5, none)]⟩
theorem IR_impl_Accepts : cfun Tryz.prog H_impl_Accepts Tryz.f13 = some R_impl_Accepts := by kernel_rfl
theorem EN_impl_Accepts : ENT Tryz.prog B_impl_Accepts [(4, none), (5, none)] 2 6 fn_impl_Accepts := fun hargs hw => enter Tryz.func13 rfl IR_impl_Accepts hargs hw
def H_impl_AutomatonValid : Hint := ⟨[(0, false), (1, true), (2, false), (3, false), (4, false), (6, false), (11, false), (12, false), (13, false)], [[0, 2, 5]]⟩
def K19_1 : Pl := .y 17 (.px (some 22) (.un .not (.v 21))) <|
 .x 23 (.pick (.v 17) (.v 22) (.c (.bool false))) <|
 .m 2 23 .done
@[simp] def W19_1 := Pl.w K19_1.eq_1
def K19_2 : Pl := .m 11 10 <|
 .y 11 (.als 12 none 1) <|
 .y 11 (.pget (some 13) (some 12) 1 2 none) <|
 .y 11 (.px (some 14) (.lenV (.v 13))) <|
 .y 11 (.px (some 15) (.bin .leq (.v 14) (.c (.int .i64 2048)))) <|
 .x 16 (.pick (.v 11) (.v 15) (.c (.bool false))) <|
 .m 17 16 <|
 .y 17 (.als 18 none 1) <|
 .y 17 (.pget (some 19) (some 18) 1 2 none) <|
 .y 17 (.px (some 20) (.mkf (.func fn_impl_AutomatonValid_1) [] [.v 3])) <|
 .st (.act (some (.v 17, true)) (.ex (some 21) (.call fn_slices_ContainsFunc_S_impl_Transition_impl_Transition [.v 19, .v 20]))) K19_1
@[simp] def W19_2 := Pl.w K19_2.eq_1
def K19_3 : C := .seq (.pl <| .e 9 15 <|
 .l 9 3 <|
 .st (.act none (.ex (some 10) (.call fn_impl_in [.v 9, .c (.int .i64 1), .c (.int .i64 64)]))) K19_2) (.ret)
@[simp] def W19_3 := C.w K19_3.eq_1
def K19_4 : C := .pl <| .e 9 1 <|
 .x 9 (.bin .add (.v 8) (.c (.int .i64 1))) <|
 .m 8 9 .done
@[simp] def W19_4 := C.w K19_4.eq_1
def K19_5 : C := .pl <| .e 9 1 <|
 .m 9 5 <|
 .m 4 9 .done
@[simp] def W19_5 := C.w K19_5.eq_1
def K19_6 : C := .seq (.pl <| .e 9 0 <|
 .st (.act none (.px (some 2) (.mv (.c (.bool false))))) .done) (.ret)
@[simp] def W19_6 := C.w K19_6.eq_1
def K19_7 : C := .cond 9 (.v 15) K19_6 (.skip)
@[simp] def W19_7 := C.w K19_7.eq_1
def K19_8 : Pl := .st (.act none (.px (some 15) (.un .not (.v 14)))) .done
@[simp] def W19_8 := Pl.w K19_8.eq_1
def K19_9 : C := .seq (.seq (.pl <| .e 9 7 <|
 .m 9 5 <|
 .m 10 4 <|
 .x 11 (.bin .add (.v 10) (.c (.int .i64 1))) <|
 .l 12 3 <|
 .x 13 (.bin .sub (.v 12) (.c (.int .i64 1))) <|
 .st (.act none (.ex (some 14) (.call fn_impl_in [.v 9, .v 11, .v 13]))) K19_8) K19_7) K19_5
@[simp] def W19_9 := C.w K19_9.eq_1
def K19_10 : C := .seq (.block 1 (.seq (.pl <| .e 9 2 <|
 .x 9 (.ia 1 (.v 6) (.v 8)) <|
 .l 10 9 <|
 .m 5 10 .done) K19_9)) K19_4
@[simp] def W19_10 := C.w K19_10.eq_1
def K19_11 : C := .seq (.cond 9 (.v 9) (.skip) (.exit 0)) K19_10
@[simp] def W19_11 := C.w K19_11.eq_1
def K19_12 : C := .seq (.pl <| .e 9 1 <|
 .st (.act none (.px (some 9) (.bin .lss (.v 8) (.v 7)))) .done) K19_11
@[simp] def W19_12 := C.w K19_12.eq_1
def K19_13 : C := .block 0 (.loop 9 [0, 2, 5] K19_12)
@[simp] def W19_13 := C.w K19_13.eq_1
def K19_14 : C := .seq (.seq (.pl <| .e 9 1 <|
 .a 9 1 <|
 .g 6 9 1 0 <|
 .x 7 (.lenV (.v 6)) <|
 .st (.act none (.px (some 8) (.mv (.c (.int .i64 0))))) .done) K19_13) K19_3
@[simp] def W19_14 := C.w K19_14.eq_1
def K19_15 : C := .seq (.pl <| .e 9 0 <|
 .st (.act none (.px (some 4) (.mv (.c (.int .i64 (-1)))))) .done) K19_14
@[simp] def W19_15 := C.w K19_15.eq_1
def K19_16 : Pl := .st (.act none (.ex none (.store 1 (.v 3) (.v 11)))) .done
@[simp] def W19_16 := Pl.w K19_16.eq_1
def K19_17 : C := .seq (.pl <| .e 9 3 <|
 .a 9 1 <|
 .g 10 9 1 1 <|
 .x 11 (.lenV (.v 10)) <|
 .st (.act none (.ex (some 3) (.alloc (.c (.int .i64 0))))) K19_16) K19_15
@[simp] def W19_17 := C.w K19_17.eq_1
def B_impl_AutomatonValid : C := .seq (.pl <| .e 9 0 <|
 .st (.act none (.pnew 1 (.v 0) [])) <|
 .st (.act none (.px (some 2) (.mv (.c (.bool false))))) .done) K19_17
@[simp] def WB_impl_AutomatonValid := C.w B_impl_AutomatonValid.eq_1
def R_impl_AutomatonValid : FIR := ⟨B_impl_AutomatonValid, 9, [(2, none)]⟩
theorem IR_impl_AutomatonValid : cfun Tryz.prog H_impl_AutomatonValid Tryz.f19 = some R_impl_AutomatonValid := by kernel_rfl
theorem EN_impl_AutomatonValid : ENT Tryz.prog B_impl_AutomatonValid [(2, none)] 1 9 fn_impl_AutomatonValid := fun hargs hw => enter Tryz.func19 rfl IR_impl_AutomatonValid hargs hw
def H_impl_AutomatonValid_1 : Hint := ⟨[(0, false), (1, false), (2, true), (3, false)], []⟩
def K52_1 : Pl := .n 18 (.px (some 22) (.un .not (.v 21))) <|
 .x 23 (.pick (.v 18) (.c (.bool true)) (.v 22)) <|
 .m 24 23 <|
 .n 24 (.als 25 none 2) <|
 .n 24 (.pget (some 26) (some 25) 2 2 none) <|
 .n 24 (.px (some 27) (.bin .lss (.v 26) (.c (.int .i64 0)))) <|
 .x 28 (.pick (.v 24) (.c (.bool true)) (.v 27)) <|
 .m 29 28 <|
 .n 29 (.als 30 none 2) <|
 .n 29 (.pget (some 31) (some 30) 2 2 none) <|
 .n 29 (.als 32 none 2) <|
 .n 29 (.pget (some 33) (some 32) 2 1 none) <|
 .n 29 (.px (some 34) (.bin .andNot (.v 31) (.v 33))) <|
 .n 29 (.px (some 35) (.bin .neq (.v 34) (.c (.int .i64 0)))) <|
 .x 36 (.pick (.v 29) (.c (.bool true)) (.v 35)) <|
 .m 3 36 .done
@[simp] def W52_1 := Pl.w K52_1.eq_1
def K52_2 : Pl := .n 10 (.px (some 16) (.un .not (.v 15))) <|
 .x 17 (.pick (.v 10) (.c (.bool true)) (.v 16)) <|
 .m 18 17 <|
 .n 18 (.als 19 none 2) <|
 .n 18 (.pget (some 20) (some 19) 2 1 none) <|
 .st (.act (some (.v 18, false)) (.ex (some 21) (.call fn_impl_in [.v 20, .c (.int .i64 0), .c (.int .i64 7)]))) K52_1
@[simp] def W52_2 := Pl.w K52_2.eq_1
def K52_3 : Pl := .x 9 (.un .not (.v 8)) <|
 .m 10 9 <|
 .n 10 (.als 11 none 2) <|
 .n 10 (.pget (some 12) (some 11) 2 3 none) <|
 .n 10 (.ld (some 13) (.v 1) none) <|
 .n 10 (.px (some 14) (.bin .sub (.v 13) (.c (.int .i64 1)))) <|
 .st (.act (some (.v 10, false)) (.ex (some 15) (.call fn_impl_in [.v 12, .c (.int .i64 0), .v 14]))) K52_2
@[simp] def W52_3 := Pl.w K52_3.eq_1
def K52_4 : C := .seq (.pl <| .e 4 33 <|
 .a 4 2 <|
 .g 5 4 2 0 <|
 .l 6 1 <|
 .x 7 (.bin .sub (.v 6) (.c (.int .i64 1))) <|
 .st (.act none (.ex (some 8) (.call fn_impl_in [.v 5, .c (.int .i64 0), .v 7]))) K52_3) (.ret)
@[simp] def W52_4 := C.w K52_4.eq_1
def B_impl_AutomatonValid_1 : C := .seq (.pl <| .e 4 0 <|
 .st (.act none (.pnew 2 (.v 0) [])) <|
 .st (.act none (.px (some 3) (.mv (.c (.bool false))))) .done) K52_4
@[simp] def WB_impl_AutomatonValid_1 := C.w B_impl_AutomatonValid_1.eq_1
def R_impl_AutomatonValid_1 : FIR := ⟨B_impl_AutomatonValid_1, 4, [(3, none)]⟩
theorem IR_impl_AutomatonValid_1 : cfun Tryz.prog H_impl_AutomatonValid_1 Tryz.f52 = some R_impl_AutomatonValid_1 := by kernel_rfl
theorem EN_impl_AutomatonValid_1 : ENT Tryz.prog B_impl_AutomatonValid_1 [(3, none)] 2 4 fn_impl_AutomatonValid_1 := fun hargs hw => enter Tryz.func52 rfl IR_impl_AutomatonValid_1 hargs hw
def H_impl_Automaton_accepts : Hint := ⟨[(0, false), (1, false), (2, true), (3, true), (4, false), (5, false), (6, false), (7, false), (8, false), (9, false), (11, true), (12, false), (13, false), (14, false), (25, false), (26, false), (27, false), (33, false), (34, false), (35, false), (76, false), (77, false), (78, false)], [[0, 1, 4, 5, 8, 9, 10, 11, 12, 13, 17, 18, 19, 20, 21, 22], [0, 1, 4, 5, 10, 11, 12, 13, 20, 21, 22], [0, 1, 3, 4, 5, 7, 8, 9, 10, 12, 13, 14, 15, 16, 17, 18, 19]]⟩
def K41_1 : C := .seq (.pl <| .e 23 0 <|
 .st (.act none (.px (some 4) (.mv (.c (.bool false))))) .done) (.ret)
@[simp] def W41_1 := C.w K41_1.eq_1
def K41_2 : C := .pl <| .e 23 1 <|
 .x 23 (.bin .add (.v 22) (.c (.int .i64 1))) <|
 .m 22 23 .done
@[simp] def W41_2 := C.w K41_2.eq_1
def K41_3 : C := .seq (.pl <| .e 23 0 <|
 .st (.act none (.px (some 4) (.mv (.c (.bool true))))) .done) (.ret)
@[simp] def W41_3 := C.w K41_3.eq_1
def K41_4 : C := .cond 23 (.v 38) K41_3 (.skip)
@[simp] def W41_4 := C.w K41_4.eq_1
def K41_5 : C := .seq (.pl <| .e 23 16 <|
 .m 23 13 <|
 .m 24 23 <|
 .y 24 (.px (some 25) (.mv (.v 11))) <|
 .y 24 (.px (some 26) (.mv (.v 12))) <|
 .y 24 (.px (some 27) (.ia 1 (.v 25) (.v 26))) <|
 .y 24 (.ld (some 28) (.v 27) none) <|
 .x 29 (.pick (.v 24) (.v 28) (.c (.bool false))) <|
 .m 30 29 <|
 .y 30 (.als 31 none 2) <|
 .y 30 (.pget (some 32) (some 31) 2 1 none) <|
 .y 30 (.px (some 33) (.mv (.v 12))) <|
 .y 30 (.px (some 34) (.mv (.v 6))) <|
 .y 30 (.px (some 35) (.bin .rem (.v 33) (.v 34))) <|
 .y 30 (.px (some 36) (.ia 1 (.v 32) (.v 35))) <|
 .y 30 (.ld (some 37) (.v 36) none) <|
 .st (.act none (.px (some 38) (.pick (.v 30) (.v 37) (.c (.bool false))))) .done) K41_4
@[simp] def W41_5 := C.w K41_5.eq_1
def K41_6 : C := .seq (.block 5 (.seq (.pl <| .e 23 3 <|
 .m 23 22 <|
 .x 24 (.ia 1 (.v 20) (.v 22)) <|
 .l 25 24 <|
 .m 12 23 <|
 .m 13 25 .done) K41_5)) K41_2
@[simp] def W41_6 := C.w K41_6.eq_1
def K41_7 : C := .seq (.cond 23 (.v 23) (.skip) (.exit 4)) K41_6
@[simp] def W41_7 := C.w K41_7.eq_1
def K41_8 : C := .seq (.pl <| .e 23 1 <|
 .st (.act none (.px (some 23) (.bin .lss (.v 22) (.v 21)))) .done) K41_7
@[simp] def W41_8 := C.w K41_8.eq_1
def K41_9 : C := .block 4 (.loop 23 [0, 1, 3, 4, 5, 7, 8, 9, 10, 12, 13, 14, 15, 16, 17, 18, 19] K41_8)
@[simp] def W41_9 := C.w K41_9.eq_1
def K41_10 : Pl := .x 21 (.lenV (.v 20)) <|
 .st (.act none (.px (some 22) (.mv (.c (.int .i64 0))))) .done
@[simp] def W41_10 := Pl.w K41_10.eq_1
def K41_11 : C := .seq (.seq (.pl <| .e 23 3 <|
 .m 23 7 <|
 .a 24 2 <|
 .g 25 24 2 0 <|
 .st (.act none (.ex (some 20) (.call fn_impl_reachable [.v 23, .v 25]))) K41_10) K41_9) K41_1
@[simp] def W41_11 := C.w K41_11.eq_1
def K41_12 : Pl := .m 11 24 .done
@[simp] def W41_12 := Pl.w K41_12.eq_1
def K41_13 : C := .seq (.pl <| .e 23 2 <|
 .m 23 7 <|
 .st (.act none (.ex (some 24) (.call fn_impl_cyclic [.v 23]))) K41_12) K41_11
@[simp] def W41_13 := C.w K41_13.eq_1
def K41_14 : C := .pl <| .e 23 1 <|
 .x 23 (.bin .add (.v 16) (.c (.int .i64 1))) <|
 .m 16 23 .done
@[simp] def W41_14 := C.w K41_14.eq_1
def K41_15 : C := .pl <| .e 23 1 <|
 .x 23 (.bin .add (.v 19) (.c (.int .i64 1))) <|
 .m 19 23 .done
@[simp] def W41_15 := C.w K41_15.eq_1
def K41_16 : Pl := .x 49 (.ia 1 (.v 23) (.v 29)) <|
 .st (.act none (.ex none (.store 1 (.v 49) (.v 48)))) .done
@[simp] def W41_16 := Pl.w K41_16.eq_1
def K41_17 : Pl := .st (.re 38 (.v 37) none none) <|
 .x 43 (.bin .mul (.v 41) (.v 42)) <|
 .x 46 (.bin .add (.v 43) (.v 45)) <|
 .st (.act none (.psl 47 [.int .i64 0] [(0, 1, .v 46)])) <|
 .st (.act none (.ex (some 48) (.app 8 1 [.int .i64 0] (.o (.v 38)) (.p 1 47)))) K41_16
@[simp] def W41_17 := Pl.w K41_17.eq_1
def K41_18 : C := .pl <| .e 23 27 <|
 .m 23 7 <|
 .m 24 8 <|
 .m 25 6 <|
 .x 26 (.bin .mul (.v 24) (.v 25)) <|
 .a 27 10 <|
 .g 28 27 10 0 <|
 .x 29 (.bin .add (.v 26) (.v 28)) <|
 .m 30 7 <|
 .m 31 8 <|
 .m 32 6 <|
 .x 33 (.bin .mul (.v 31) (.v 32)) <|
 .a 34 10 <|
 .g 35 34 10 0 <|
 .x 36 (.bin .add (.v 33) (.v 35)) <|
 .x 37 (.ia 1 (.v 30) (.v 36)) <|
 .l 38 37 <|
 .st (.act none (.pget (some 39) none 3 0 (some 2))) <|
 .m 40 8 <|
 .m 42 6 <|
 .a 44 10 <|
 .g 45 44 10 3 <|
 .st (.act none (.ex (some 41) (.call fn_impl_Lasso_next [.v 39, .v 40]))) K41_17
@[simp] def W41_18 := C.w K41_18.eq_1
def K41_19 : C := .cond 23 (.v 25) K41_18 (.skip)
@[simp] def W41_19 := C.w K41_19.eq_1
def K41_20 : C := .seq (.pl <| .e 23 3 <|
 .st (.act none (.pget (some 23) none 10 0 (some 4))) <|
 .m 24 9 <|
 .st (.act none (.ex (some 25) (.call fn_impl_Transition_takes [.v 23, .v 24]))) .done) K41_19
@[simp] def W41_20 := C.w K41_20.eq_1
def K41_21 : C := .seq (.block 3 (.seq (.pl <| .e 23 2 <|
 .x 23 (.ia 4 (.v 17) (.v 19)) <|
 .st (.act none (.ld (some 24) (.v 23) (some 4))) <|
 .st (.act none (.pnew 10 (.c (.agg #[.int .i64 0, .int .i64 0, .int .i64 0, .int .i64 0])) [])) <|
 .st (.act none (.pset none 10 0 4 (.v 24))) .done) K41_20)) K41_15
@[simp] def W41_21 := C.w K41_21.eq_1
def K41_22 : C := .seq (.cond 23 (.v 23) (.skip) (.exit 2)) K41_21
@[simp] def W41_22 := C.w K41_22.eq_1
def K41_23 : C := .seq (.pl <| .e 23 1 <|
 .st (.act none (.px (some 23) (.bin .lss (.v 19) (.v 18)))) .done) K41_22
@[simp] def W41_23 := C.w K41_23.eq_1
def K41_24 : C := .block 2 (.loop 23 [0, 1, 4, 5, 10, 11, 12, 13, 20, 21, 22] K41_23)
@[simp] def W41_24 := C.w K41_24.eq_1
def K41_25 : C := .seq (.pl <| .e 23 1 <|
 .a 23 2 <|
 .g 17 23 2 2 <|
 .x 18 (.lenV (.v 17)) <|
 .st (.act none (.px (some 19) (.mv (.c (.int .i64 0))))) .done) K41_24
@[simp] def W41_25 := C.w K41_25.eq_1
def K41_26 : C := .seq (.block 1 (.seq (.pl <| .e 23 3 <|
 .m 23 16 <|
 .x 24 (.ia 1 (.v 14) (.v 16)) <|
 .l 25 24 <|
 .m 8 23 <|
 .m 9 25 .done) K41_25)) K41_14
@[simp] def W41_26 := C.w K41_26.eq_1
def K41_27 : C := .seq (.cond 23 (.v 23) (.skip) (.exit 0)) K41_26
@[simp] def W41_27 := C.w K41_27.eq_1
def K41_28 : C := .seq (.pl <| .e 23 1 <|
 .st (.act none (.px (some 23) (.bin .lss (.v 16) (.v 15)))) .done) K41_27
@[simp] def W41_28 := C.w K41_28.eq_1
def K41_29 : C := .block 0 (.loop 23 [0, 1, 4, 5, 8, 9, 10, 11, 12, 13, 17, 18, 19, 20, 21, 22] K41_28)
@[simp] def W41_29 := C.w K41_29.eq_1
def K41_30 : C := .seq (.seq (.pl <| .e 23 0 <|
 .m 14 5 <|
 .x 15 (.lenV (.v 14)) <|
 .st (.act none (.px (some 16) (.mv (.c (.int .i64 0))))) .done) K41_29) K41_13
@[simp] def W41_30 := C.w K41_30.eq_1
def K41_31 : Pl := .m 7 27 .done
@[simp] def W41_31 := Pl.w K41_31.eq_1
def K41_32 : C := .seq (.pl <| .e 23 5 <|
 .m 23 5 <|
 .x 24 (.lenV (.v 23)) <|
 .m 25 6 <|
 .x 26 (.bin .mul (.v 24) (.v 25)) <|
 .st (.act none (.ex (some 27) (.mks 24 1 [.slice none 0 0] (.v 26) (.v 26)))) K41_31) K41_30
@[simp] def W41_32 := C.w K41_32.eq_1
def K41_33 : Pl := .m 5 24 <|
 .m 6 27 .done
@[simp] def W41_33 := Pl.w K41_33.eq_1
def K41_34 : C := .seq (.pl <| .e 23 5 <|
 .st (.act none (.pget (some 23) none 3 0 (some 2))) <|
 .a 25 2 <|
 .g 26 25 2 1 <|
 .x 27 (.lenV (.v 26)) <|
 .st (.act none (.ex (some 24) (.call fn_impl_Lasso_all [.v 23]))) K41_33) K41_32
@[simp] def W41_34 := C.w K41_34.eq_1
def B_impl_Automaton_accepts : C := .seq (.pl <| .e 23 0 <|
 .st (.act none (.pnew 2 (.v 0) [])) <|
 .st (.act none (.pnew 3 (.v 1) [])) <|
 .st (.act none (.px (some 4) (.mv (.c (.bool false))))) .done) K41_34
@[simp] def WB_impl_Automaton_accepts := C.w B_impl_Automaton_accepts.eq_1
def R_impl_Automaton_accepts : FIR := ⟨B_impl_Automaton_accepts, 23, [(4, none)]⟩
theorem IR_impl_Automaton_accepts : cfun Tryz.prog H_impl_Automaton_accepts Tryz.f41 = some R_impl_Automaton_accepts := by kernel_rfl
theorem EN_impl_Automaton_accepts : ENT Tryz.prog B_impl_Automaton_accepts [(4, none)] 2 23 fn_impl_Automaton_accepts := fun hargs hw => enter Tryz.func41 rfl IR_impl_Automaton_accepts hargs hw
def H_impl_LassoValid : Hint := ⟨[(0, false), (1, true), (2, false)], []⟩
def K40_1 : Pl := .x 22 (.pick (.v 17) (.v 21) (.c (.bool false))) <|
 .m 2 22 .done
@[simp] def W40_1 := Pl.w K40_1.eq_1
def K40_2 : Pl := .x 10 (.pick (.v 6) (.v 9) (.c (.bool false))) <|
 .m 11 10 <|
 .y 11 (.als 12 none 1) <|
 .y 11 (.pget (some 13) (some 12) 1 0 none) <|
 .y 11 (.px (some 14) (.lenV (.v 13))) <|
 .y 11 (.px (some 15) (.bin .leq (.v 14) (.c (.int .i64 80)))) <|
 .x 16 (.pick (.v 11) (.v 15) (.c (.bool false))) <|
 .m 17 16 <|
 .y 17 (.als 18 none 1) <|
 .y 17 (.pget (some 19) (some 18) 1 1 none) <|
 .y 17 (.px (some 20) (.lenV (.v 19))) <|
 .st (.act (some (.v 17, true)) (.ex (some 21) (.call fn_impl_in [.v 20, .c (.int .i64 1), .c (.int .i64 80)]))) K40_1
@[simp] def W40_2 := Pl.w K40_2.eq_1
def K40_3 : Pl := .m 6 5 <|
 .y 6 (.als 7 none 1) <|
 .y 6 (.pget (some 8) (some 7) 1 1 none) <|
 .st (.act (some (.v 6, true)) (.ex (some 9) (.call fn_impl_letters [.v 8]))) K40_2
@[simp] def W40_3 := Pl.w K40_3.eq_1
def K40_4 : C := .seq (.pl <| .e 3 20 <|
 .a 3 1 <|
 .g 4 3 1 0 <|
 .st (.act none (.ex (some 5) (.call fn_impl_letters [.v 4]))) K40_3) (.ret)
@[simp] def W40_4 := C.w K40_4.eq_1
def B_impl_LassoValid : C := .seq (.pl <| .e 3 0 <|
 .st (.act none (.pnew 1 (.v 0) [])) <|
 .st (.act none (.px (some 2) (.mv (.c (.bool false))))) .done) K40_4
@[simp] def WB_impl_LassoValid := C.w B_impl_LassoValid.eq_1
def R_impl_LassoValid : FIR := ⟨B_impl_LassoValid, 3, [(2, none)]⟩
theorem IR_impl_LassoValid : cfun Tryz.prog H_impl_LassoValid Tryz.f40 = some R_impl_LassoValid := by kernel_rfl
theorem EN_impl_LassoValid : ENT Tryz.prog B_impl_LassoValid [(2, none)] 1 3 fn_impl_LassoValid := fun hargs hw => enter Tryz.func40 rfl IR_impl_LassoValid hargs hw
def H_impl_Lasso_all : Hint := ⟨[(0, false), (1, true), (2, false)], []⟩
def K80_1 : Pl := .m 2 8 .done
@[simp] def W80_1 := Pl.w K80_1.eq_1
def K80_2 : Pl := .st (.act none (.ex (some 8) (.call fn_slices_Concat_S_int_int [.v 7]))) K80_1
@[simp] def W80_2 := Pl.w K80_2.eq_1
def K80_3 : C := .seq (.pl <| .e 3 6 <|
 .a 3 1 <|
 .g 4 3 1 0 <|
 .a 5 1 <|
 .g 6 5 1 1 <|
 .st (.act none (.ex (some 7) (.bls 1 2 [.slice none 0 0] [(0, 1, .v 4), (1, 1, .v 6)]))) K80_2) (.ret)
@[simp] def W80_3 := C.w K80_3.eq_1
def B_impl_Lasso_all : C := .seq (.pl <| .e 3 0 <|
 .st (.act none (.pnew 1 (.v 0) [])) <|
 .st (.act none (.px (some 2) (.mv (.c (.slice none 0 0))))) .done) K80_3
@[simp] def WB_impl_Lasso_all := C.w B_impl_Lasso_all.eq_1
def R_impl_Lasso_all : FIR := ⟨B_impl_Lasso_all, 3, [(2, none)]⟩
theorem IR_impl_Lasso_all : cfun Tryz.prog H_impl_Lasso_all Tryz.f80 = some R_impl_Lasso_all := by kernel_rfl
theorem EN_impl_Lasso_all : ENT Tryz.prog B_impl_Lasso_all [(2, none)] 1 3 fn_impl_Lasso_all := fun hargs hw => enter Tryz.func80 rfl IR_impl_Lasso_all hargs hw
def H_impl_Lasso_next : Hint := ⟨[(0, false), (1, false), (2, true), (4, false)], []⟩
def K82_1 : C := .seq (.pl <| .e 4 2 <|
 .m 4 1 <|
 .x 5 (.bin .add (.v 4) (.c (.int .i64 1))) <|
 .m 3 5 .done) (.ret)
@[simp] def W82_1 := C.w K82_1.eq_1
def K82_2 : C := .seq (.pl <| .e 4 3 <|
 .a 4 2 <|
 .g 5 4 2 0 <|
 .x 6 (.lenV (.v 5)) <|
 .m 3 6 .done) (.ret)
@[simp] def W82_2 := C.w K82_2.eq_1
def K82_3 : C := .cond 4 (.v 13) K82_2 (.skip)
@[simp] def W82_3 := C.w K82_3.eq_1
def K82_4 : C := .seq (.seq (.pl <| .e 4 10 <|
 .m 4 1 <|
 .x 5 (.bin .add (.v 4) (.c (.int .i64 1))) <|
 .a 6 2 <|
 .g 7 6 2 0 <|
 .x 8 (.lenV (.v 7)) <|
 .a 9 2 <|
 .g 10 9 2 1 <|
 .x 11 (.lenV (.v 10)) <|
 .x 12 (.bin .add (.v 8) (.v 11)) <|
 .st (.act none (.px (some 13) (.bin .eql (.v 5) (.v 12)))) .done) K82_3) K82_1
@[simp] def W82_4 := C.w K82_4.eq_1
def B_impl_Lasso_next : C := .seq (.pl <| .e 4 0 <|
 .st (.act none (.pnew 2 (.v 0) [])) <|
 .st (.act none (.px (some 3) (.mv (.c (.int .i64 0))))) .done) K82_4
@[simp] def WB_impl_Lasso_next := C.w B_impl_Lasso_next.eq_1
def R_impl_Lasso_next : FIR := ⟨B_impl_Lasso_next, 4, [(3, none)]⟩
theorem IR_impl_Lasso_next : cfun Tryz.prog H_impl_Lasso_next Tryz.f82 = some R_impl_Lasso_next := by kernel_rfl
theorem EN_impl_Lasso_next : ENT Tryz.prog B_impl_Lasso_next [(3, none)] 2 4 fn_impl_Lasso_next := fun hargs hw => enter Tryz.func82 rfl IR_impl_Lasso_next hargs hw
def H_impl_Transition_takes : Hint := ⟨[(0, false), (1, false), (2, true), (4, false)], []⟩
def K81_1 : C := .seq (.pl <| .e 4 7 <|
 .m 4 1 <|
 .a 5 2 <|
 .g 6 5 2 1 <|
 .x 7 (.bin .and (.v 4) (.v 6)) <|
 .a 8 2 <|
 .g 9 8 2 2 <|
 .x 10 (.bin .eql (.v 7) (.v 9)) <|
 .m 3 10 .done) (.ret)
@[simp] def W81_1 := C.w K81_1.eq_1
def B_impl_Transition_takes : C := .seq (.pl <| .e 4 0 <|
 .st (.act none (.pnew 2 (.v 0) [])) <|
 .st (.act none (.px (some 3) (.mv (.c (.bool false))))) .done) K81_1
@[simp] def WB_impl_Transition_takes := C.w B_impl_Transition_takes.eq_1
def R_impl_Transition_takes : FIR := ⟨B_impl_Transition_takes, 4, [(3, none)]⟩
theorem IR_impl_Transition_takes : cfun Tryz.prog H_impl_Transition_takes Tryz.f81 = some R_impl_Transition_takes := by kernel_rfl
theorem EN_impl_Transition_takes : ENT Tryz.prog B_impl_Transition_takes [(3, none)] 2 4 fn_impl_Transition_takes := fun hargs hw => enter Tryz.func81 rfl IR_impl_Transition_takes hargs hw
def H_impl_clone_int : Hint := ⟨[(0, false), (2, false)], []⟩
def K78_1 : Pl := .m 1 4 .done
@[simp] def W78_1 := Pl.w K78_1.eq_1
def K78_2 : Pl := .st (.act none (.ex (some 4) (.call fn_slices_Clip_S_int_int [.v 3]))) K78_1
@[simp] def W78_2 := Pl.w K78_2.eq_1
def K78_3 : C := .seq (.pl <| .e 2 3 <|
 .m 2 0 <|
 .st (.act none (.ex (some 3) (.call fn_slices_Clone_S_int_int [.v 2]))) K78_2) (.ret)
@[simp] def W78_3 := C.w K78_3.eq_1
def B_impl_clone_int : C := .seq (.pl <| .e 2 0 <|
 .st (.act none (.px (some 1) (.mv (.c (.slice none 0 0))))) .done) K78_3
@[simp] def WB_impl_clone_int := C.w B_impl_clone_int.eq_1
def R_impl_clone_int : FIR := ⟨B_impl_clone_int, 2, [(1, none)]⟩
theorem IR_impl_clone_int : cfun Tryz.prog H_impl_clone_int Tryz.f78 = some R_impl_clone_int := by kernel_rfl
theorem EN_impl_clone_int : ENT Tryz.prog B_impl_clone_int [(1, none)] 1 2 fn_impl_clone_int := fun hargs hw => enter Tryz.func78 rfl IR_impl_clone_int hargs hw
def H_impl_components : Hint := ⟨[(0, false), (1, false), (2, false), (3, false), (4, false), (5, false), (6, false), (7, false), (8, false), (9, false), (10, false), (11, false), (12, false), (13, false), (14, false), (15, false), (17, false), (27, false), (28, false), (36, false), (37, false), (50, false), (51, false), (52, false)], [[0, 2, 7, 8, 9, 10, 11, 12, 13, 14, 15, 16, 19, 20, 21, 22, 23], [0, 1, 2, 3, 5, 7, 8, 9, 10, 12, 13, 14, 15, 16, 17, 18, 21, 22, 23], [0, 1, 2, 3, 4, 5, 7, 8, 9, 10, 11, 12, 14, 15, 16, 17, 18, 19, 20]]⟩
def K117_1 : C := .seq (.pl <| .e 24 1 <|
 .l 24 6 <|
 .m 2 24 .done) (.ret)
@[simp] def W117_1 := C.w K117_1.eq_1
def K117_2 : C := .pl <| .e 24 1 <|
 .x 24 (.bin .add (.v 23) (.c (.int .i64 1))) <|
 .m 23 24 .done
@[simp] def W117_2 := C.w K117_2.eq_1
def K117_3 : Pl := .x 29 (.ia 1 (.v 24) (.v 25)) <|
 .st (.act none (.ex none (.store 1 (.v 29) (.v 28)))) .done
@[simp] def W117_3 := Pl.w K117_3.eq_1
def K117_4 : C := .pl <| .e 24 6 <|
 .l 24 6 <|
 .m 25 14 <|
 .m 26 13 <|
 .m 27 15 <|
 .st (.act none (.ex (some 28) (.mget (.one .i) (.int .i64 0) false (.v 26) (.v 27)))) K117_3
@[simp] def W117_4 := C.w K117_4.eq_1
def K117_5 : Pl := .st (.act none (.ex none (.mput (.one .i) (.v 24) (.v 25) (.v 27)))) .done
@[simp] def W117_5 := Pl.w K117_5.eq_1
def K117_6 : C := .pl <| .e 24 4 <|
 .m 24 13 <|
 .m 25 15 <|
 .m 26 13 <|
 .st (.act none (.ex (some 27) (.mlen (.v 26)))) K117_5
@[simp] def W117_6 := C.w K117_6.eq_1
def K117_7 : C := .cond 24 (.v 25) K117_6 (.skip)
@[simp] def W117_7 := C.w K117_7.eq_1
def K117_8 : C := .seq (.pl <| .e 24 2 <|
 .m 24 16 <|
 .st (.act none (.px (some 25) (.un .not (.v 24)))) .done) K117_7
@[simp] def W117_8 := C.w K117_8.eq_1
def K117_9 : Pl := .m 27 26 <|
 .x 28 (.extract 0 (.v 27)) <|
 .x 29 (.extract 1 (.v 27)) <|
 .m 30 28 <|
 .m 16 29 .done
@[simp] def W117_9 := Pl.w K117_9.eq_1
def K117_10 : C := .seq (.seq (.pl <| .e 24 7 <|
 .m 24 13 <|
 .m 25 15 <|
 .st (.act none (.ex (some 26) (.mget (.one .i) (.int .i64 0) true (.v 24) (.v 25)))) K117_9) K117_8) K117_4
@[simp] def W117_10 := C.w K117_10.eq_1
def K117_11 : C := .seq (.block 5 (.seq (.pl <| .e 24 3 <|
 .m 24 23 <|
 .x 25 (.ia 1 (.v 21) (.v 23)) <|
 .l 26 25 <|
 .m 14 24 <|
 .m 15 26 .done) K117_10)) K117_2
@[simp] def W117_11 := C.w K117_11.eq_1
def K117_12 : C := .seq (.cond 24 (.v 24) (.skip) (.exit 4)) K117_11
@[simp] def W117_12 := C.w K117_12.eq_1
def K117_13 : C := .seq (.pl <| .e 24 1 <|
 .st (.act none (.px (some 24) (.bin .lss (.v 23) (.v 22)))) .done) K117_12
@[simp] def W117_13 := C.w K117_13.eq_1
def K117_14 : C := .block 4 (.loop 24 [0, 1, 2, 3, 4, 5, 7, 8, 9, 10, 11, 12, 14, 15, 16, 17, 18, 19, 20] K117_13)
@[simp] def W117_14 := C.w K117_14.eq_1
def K117_15 : C := .seq (.seq (.pl <| .e 24 0 <|
 .l 21 6 <|
 .x 22 (.lenV (.v 21)) <|
 .st (.act none (.px (some 23) (.mv (.c (.int .i64 0))))) .done) K117_14) K117_1
@[simp] def W117_15 := C.w K117_15.eq_1
def K117_16 : Pl := .m 13 24 .done
@[simp] def W117_16 := Pl.w K117_16.eq_1
def K117_17 : C := .seq (.pl <| .e 24 1 <|
 .st (.act none (.ex (some 24) (.mkm))) K117_16) K117_15
@[simp] def W117_17 := C.w K117_17.eq_1
def K117_18 : C := .pl <| .e 24 1 <|
 .x 24 (.bin .add (.v 20) (.c (.int .i64 1))) <|
 .m 20 24 .done
@[simp] def W117_18 := C.w K117_18.eq_1
def K117_19 : C := .pl <| .e 24 3 <|
 .l 24 11 <|
 .m 25 12 <|
 .st (.act none (.ex (some 26) (.callv (.v 24) [.v 25]))) .done
@[simp] def W117_19 := C.w K117_19.eq_1
def K117_20 : C := .cond 24 (.v 28) K117_19 (.skip)
@[simp] def W117_20 := C.w K117_20.eq_1
def K117_21 : C := .seq (.pl <| .e 24 5 <|
 .l 24 4 <|
 .m 25 12 <|
 .x 26 (.ia 1 (.v 24) (.v 25)) <|
 .l 27 26 <|
 .st (.act none (.px (some 28) (.bin .eql (.v 27) (.c (.int .i64 0))))) .done) K117_20
@[simp] def W117_21 := C.w K117_21.eq_1
def K117_22 : C := .seq (.block 3 (.seq (.pl <| .e 24 1 <|
 .m 24 20 <|
 .m 12 24 .done) K117_21)) K117_18
@[simp] def W117_22 := C.w K117_22.eq_1
def K117_23 : C := .seq (.cond 24 (.v 24) (.skip) (.exit 2)) K117_22
@[simp] def W117_23 := C.w K117_23.eq_1
def K117_24 : C := .seq (.pl <| .e 24 1 <|
 .st (.act none (.px (some 24) (.bin .lss (.v 20) (.v 19)))) .done) K117_23
@[simp] def W117_24 := C.w K117_24.eq_1
def K117_25 : C := .block 2 (.loop 24 [0, 1, 2, 3, 5, 7, 8, 9, 10, 12, 13, 14, 15, 16, 17, 18, 21, 22, 23] K117_24)
@[simp] def W117_25 := C.w K117_25.eq_1
def K117_26 : C := .seq (.seq (.pl <| .e 24 0 <|
 .m 19 3 <|
 .st (.act none (.px (some 20) (.mv (.c (.int .i64 0))))) .done) K117_25) K117_17
@[simp] def W117_26 := C.w K117_26.eq_1
def K117_27 : C := .seq (.pl <| .e 24 1 <|
 .x 24 (.mkf (.func fn_impl_components_1) [] [.v 9, .v 4, .v 5, .v 8, .v 1, .v 11, .v 6, .v 10]) <|
 .st (.act none (.ex none (.store 1 (.v 11) (.v 24)))) .done) K117_26
@[simp] def W117_27 := C.w K117_27.eq_1
def K117_28 : C := .seq (.pl <| .e 24 0 <|
 .st (.act none (.ex (some 11) (.alloc (.c (.nilFunc))))) .done) K117_27
@[simp] def W117_28 := C.w K117_28.eq_1
def K117_29 : Pl := .st (.act none (.ex none (.store 1 (.v 10) (.c (.int .i64 0))))) .done
@[simp] def W117_29 := Pl.w K117_29.eq_1
def K117_30 : Pl := .st (.act none (.ex none (.store 1 (.v 9) (.c (.int .i64 0))))) K117_29
@[simp] def W117_30 := Pl.w K117_30.eq_1
def K117_31 : Pl := .st (.act none (.ex (some 10) (.alloc (.c (.int .i64 0))))) K117_30
@[simp] def W117_31 := Pl.w K117_31.eq_1
def K117_32 : C := .seq (.pl <| .e 24 0 <|
 .st (.act none (.ex (some 9) (.alloc (.c (.int .i64 0))))) K117_31) K117_28
@[simp] def W117_32 := C.w K117_32.eq_1
def K117_33 : C := .seq (.pl <| .e 24 0 <|
 .st (.act none (.ex (some 8) (.alloc (.c (.slice none 0 0))))) .done) K117_32
@[simp] def W117_33 := C.w K117_33.eq_1
def K117_34 : C := .pl <| .e 24 1 <|
 .x 24 (.bin .add (.v 18) (.c (.int .i64 1))) <|
 .m 18 24 .done
@[simp] def W117_34 := C.w K117_34.eq_1
def K117_35 : C := .pl <| .e 24 3 <|
 .l 24 6 <|
 .m 25 7 <|
 .x 26 (.ia 1 (.v 24) (.v 25)) <|
 .st (.act none (.ex none (.store 1 (.v 26) (.c (.int .i64 (-1)))))) .done
@[simp] def W117_35 := C.w K117_35.eq_1
def K117_36 : C := .seq (.block 1 (.seq (.pl <| .e 24 1 <|
 .m 24 18 <|
 .m 7 24 .done) K117_35)) K117_34
@[simp] def W117_36 := C.w K117_36.eq_1
def K117_37 : C := .seq (.cond 24 (.v 24) (.skip) (.exit 0)) K117_36
@[simp] def W117_37 := C.w K117_37.eq_1
def K117_38 : C := .seq (.pl <| .e 24 1 <|
 .st (.act none (.px (some 24) (.bin .lss (.v 18) (.v 17)))) .done) K117_37
@[simp] def W117_38 := C.w K117_38.eq_1
def K117_39 : C := .block 0 (.loop 24 [0, 2, 7, 8, 9, 10, 11, 12, 13, 14, 15, 16, 19, 20, 21, 22, 23] K117_38)
@[simp] def W117_39 := C.w K117_39.eq_1
def K117_40 : C := .seq (.seq (.pl <| .e 24 1 <|
 .l 24 6 <|
 .x 17 (.lenV (.v 24)) <|
 .st (.act none (.px (some 18) (.mv (.c (.int .i64 0))))) .done) K117_39) K117_33
@[simp] def W117_40 := C.w K117_40.eq_1
def K117_41 : Pl := .st (.act none (.ex none (.store 1 (.v 6) (.v 29)))) .done
@[simp] def W117_41 := Pl.w K117_41.eq_1
def K117_42 : Pl := .st (.act none (.ex none (.store 1 (.v 5) (.v 27)))) K117_41
@[simp] def W117_42 := Pl.w K117_42.eq_1
def K117_43 : Pl := .st (.act none (.ex none (.store 1 (.v 4) (.v 25)))) K117_42
@[simp] def W117_43 := Pl.w K117_43.eq_1
def K117_44 : Pl := .st (.act none (.ex (some 6) (.alloc (.c (.slice none 0 0))))) K117_43
@[simp] def W117_44 := Pl.w K117_44.eq_1
def K117_45 : Pl := .st (.act none (.ex (some 5) (.alloc (.c (.slice none 0 0))))) K117_44
@[simp] def W117_45 := Pl.w K117_45.eq_1
def K117_46 : Pl := .st (.act none (.ex (some 4) (.alloc (.c (.slice none 0 0))))) K117_45
@[simp] def W117_46 := Pl.w K117_46.eq_1
def K117_47 : Pl := .m 28 3 <|
 .st (.act none (.ex (some 29) (.mks 8 1 [.int .i64 0] (.v 28) (.v 28)))) K117_46
@[simp] def W117_47 := Pl.w K117_47.eq_1
def K117_48 : Pl := .m 26 3 <|
 .st (.act none (.ex (some 27) (.mks 8 1 [.int .i64 0] (.v 26) (.v 26)))) K117_47
@[simp] def W117_48 := Pl.w K117_48.eq_1
def K117_49 : C := .seq (.pl <| .e 24 6 <|
 .m 24 3 <|
 .st (.act none (.ex (some 25) (.mks 8 1 [.int .i64 0] (.v 24) (.v 24)))) K117_48) K117_40
@[simp] def W117_49 := C.w K117_49.eq_1
def K117_50 : C := .seq (.pl <| .e 24 2 <|
 .l 24 1 <|
 .x 25 (.lenV (.v 24)) <|
 .m 3 25 .done) K117_49
@[simp] def W117_50 := C.w K117_50.eq_1
def K117_51 : Pl := .st (.act none (.px (some 2) (.mv (.c (.slice none 0 0))))) .done
@[simp] def W117_51 := Pl.w K117_51.eq_1
def B_impl_components : C := .seq (.pl <| .e 24 0 <|
 .st (.act none (.ex (some 1) (.alloc (.v 0)))) K117_51) K117_50
@[simp] def WB_impl_components := C.w B_impl_components.eq_1
def R_impl_components : FIR := ⟨B_impl_components, 24, [(2, none)]⟩
theorem IR_impl_components : cfun Tryz.prog H_impl_components Tryz.f117 = some R_impl_components := by kernel_rfl
theorem EN_impl_components : ENT Tryz.prog B_impl_components [(2, none)] 1 24 fn_impl_components := fun hargs hw => enter Tryz.func117 rfl IR_impl_components hargs hw
def H_impl_components_1 : Hint := ⟨[(0, false), (1, false), (2, false), (3, false), (4, false), (5, false), (6, false), (7, false), (8, false), (11, false), (12, false), (30, false), (31, false), (32, false)], [[1, 5, 9, 10], [1, 2, 3, 5, 6, 9, 11, 12, 13]]⟩
def K143_1 : C := .pl <| .e 14 2 <|
 .l 14 8 <|
 .x 15 (.bin .add (.v 14) (.c (.int .i64 1))) <|
 .st (.act none (.ex none (.store 1 (.v 8) (.v 15)))) .done
@[simp] def W143_1 := C.w K143_1.eq_1
def K143_2 : C := .pl <| .e 14 4 <|
 .l 14 7 <|
 .m 15 10 <|
 .l 16 8 <|
 .x 17 (.ia 1 (.v 14) (.v 15)) <|
 .st (.act none (.ex none (.store 1 (.v 17) (.v 16)))) .done
@[simp] def W143_2 := C.w K143_2.eq_1
def K143_3 : C := .seq (.pl <| .e 14 5 <|
 .l 14 4 <|
 .l 15 4 <|
 .x 16 (.lenV (.v 15)) <|
 .x 17 (.bin .sub (.v 16) (.c (.int .i64 1))) <|
 .x 18 (.sliceV 1 (.v 14) none (some (.v 17)) none) <|
 .st (.act none (.ex none (.store 1 (.v 4) (.v 18)))) .done) K143_2
@[simp] def W143_3 := C.w K143_3.eq_1
def K143_4 : C := .block 4 (.seq (.pl <| .e 14 6 <|
 .l 14 4 <|
 .l 15 4 <|
 .x 16 (.lenV (.v 15)) <|
 .x 17 (.bin .sub (.v 16) (.c (.int .i64 1))) <|
 .x 18 (.ia 1 (.v 14) (.v 17)) <|
 .l 19 18 <|
 .m 10 19 .done) K143_3)
@[simp] def W143_4 := C.w K143_4.eq_1
def K143_5 : C := .cond 14 (.v 16) (.skip) (.exit 3)
@[simp] def W143_5 := C.w K143_5.eq_1
def K143_6 : C := .seq (.seq (.pl <| .e 14 3 <|
 .m 14 10 <|
 .m 15 0 <|
 .st (.act none (.px (some 16) (.bin .neq (.v 14) (.v 15)))) .done) K143_5) K143_4
@[simp] def W143_6 := C.w K143_6.eq_1
def K143_7 : C := .block 3 (.loop 14 [1, 2, 3, 5, 6, 9, 11, 12, 13] K143_6)
@[simp] def W143_7 := C.w K143_7.eq_1
def K143_8 : C := .seq (.seq (.pl <| .e 14 0 <|
 .st (.act none (.px (some 10) (.mv (.c (.int .i64 (-1)))))) .done) K143_7) K143_1
@[simp] def W143_8 := C.w K143_8.eq_1
def K143_9 : C := .cond 14 (.v 22) K143_8 (.skip)
@[simp] def W143_9 := C.w K143_9.eq_1
def K143_10 : C := .seq (.pl <| .e 14 9 <|
 .l 14 3 <|
 .m 15 0 <|
 .x 16 (.ia 1 (.v 14) (.v 15)) <|
 .l 17 16 <|
 .l 18 2 <|
 .m 19 0 <|
 .x 20 (.ia 1 (.v 18) (.v 19)) <|
 .l 21 20 <|
 .st (.act none (.px (some 22) (.bin .eql (.v 17) (.v 21)))) .done) K143_9
@[simp] def W143_10 := C.w K143_10.eq_1
def K143_11 : C := .pl <| .e 14 1 <|
 .x 14 (.bin .add (.v 13) (.c (.int .i64 1))) <|
 .m 13 14 .done
@[simp] def W143_11 := C.w K143_11.eq_1
def K143_12 : C := .pl <| .e 14 12 <|
 .l 14 3 <|
 .m 15 0 <|
 .l 16 3 <|
 .m 17 0 <|
 .x 18 (.ia 1 (.v 16) (.v 17)) <|
 .l 19 18 <|
 .l 20 3 <|
 .m 21 9 <|
 .x 22 (.ia 1 (.v 20) (.v 21)) <|
 .l 23 22 <|
 .x 24 (.minI (.v 19) (.v 23)) <|
 .x 25 (.ia 1 (.v 14) (.v 15)) <|
 .st (.act none (.ex none (.store 1 (.v 25) (.v 24)))) .done
@[simp] def W143_12 := C.w K143_12.eq_1
def K143_13 : C := .seq (.pl <| .e 14 3 <|
 .l 14 6 <|
 .m 15 9 <|
 .st (.act none (.ex (some 16) (.callv (.v 14) [.v 15]))) .done) K143_12
@[simp] def W143_13 := C.w K143_13.eq_1
def K143_14 : C := .pl <| .e 14 12 <|
 .l 14 3 <|
 .m 15 0 <|
 .l 16 3 <|
 .m 17 0 <|
 .x 18 (.ia 1 (.v 16) (.v 17)) <|
 .l 19 18 <|
 .l 20 2 <|
 .m 21 9 <|
 .x 22 (.ia 1 (.v 20) (.v 21)) <|
 .l 23 22 <|
 .x 24 (.minI (.v 19) (.v 23)) <|
 .x 25 (.ia 1 (.v 14) (.v 15)) <|
 .st (.act none (.ex none (.store 1 (.v 25) (.v 24)))) .done
@[simp] def W143_14 := C.w K143_14.eq_1
def K143_15 : C := .cond 14 (.v 19) K143_14 (.skip)
@[simp] def W143_15 := C.w K143_15.eq_1
def K143_16 : C := .seq (.pl <| .e 14 6 <|
 .l 14 7 <|
 .m 15 9 <|
 .x 16 (.ia 1 (.v 14) (.v 15)) <|
 .l 17 16 <|
 .x 18 (.bin .lss (.v 17) (.c (.int .i64 0))) <|
 .m 19 18 .done) K143_15
@[simp] def W143_16 := C.w K143_16.eq_1
def K143_17 : C := .cond 14 (.v 19) K143_13 K143_16
@[simp] def W143_17 := C.w K143_17.eq_1
def K143_18 : C := .block 2 (.seq (.pl <| .e 14 6 <|
 .l 14 2 <|
 .m 15 9 <|
 .x 16 (.ia 1 (.v 14) (.v 15)) <|
 .l 17 16 <|
 .x 18 (.bin .eql (.v 17) (.c (.int .i64 0))) <|
 .m 19 18 .done) K143_17)
@[simp] def W143_18 := C.w K143_18.eq_1
def K143_19 : C := .seq (.block 1 (.seq (.pl <| .e 14 2 <|
 .x 14 (.ia 1 (.v 11) (.v 13)) <|
 .l 15 14 <|
 .m 9 15 .done) K143_18)) K143_11
@[simp] def W143_19 := C.w K143_19.eq_1
def K143_20 : C := .seq (.cond 14 (.v 14) (.skip) (.exit 0)) K143_19
@[simp] def W143_20 := C.w K143_20.eq_1
def K143_21 : C := .seq (.pl <| .e 14 1 <|
 .st (.act none (.px (some 14) (.bin .lss (.v 13) (.v 12)))) .done) K143_20
@[simp] def W143_21 := C.w K143_21.eq_1
def K143_22 : C := .block 0 (.loop 14 [1, 5, 9, 10] K143_21)
@[simp] def W143_22 := C.w K143_22.eq_1
def K143_23 : C := .seq (.seq (.pl <| .e 14 3 <|
 .l 14 5 <|
 .m 15 0 <|
 .x 16 (.ia 1 (.v 14) (.v 15)) <|
 .l 11 16 <|
 .x 12 (.lenV (.v 11)) <|
 .st (.act none (.px (some 13) (.mv (.c (.int .i64 0))))) .done) K143_22) K143_10
@[simp] def W143_23 := C.w K143_23.eq_1
def K143_24 : Pl := .st (.act none (.ex none (.store 1 (.v 4) (.v 17)))) .done
@[simp] def W143_24 := Pl.w K143_24.eq_1
def K143_25 : C := .seq (.pl <| .e 14 4 <|
 .l 14 4 <|
 .m 15 0 <|
 .st (.act none (.psl 16 [.int .i64 0] [(0, 1, .v 15)])) <|
 .st (.act none (.ex (some 17) (.app 8 1 [.int .i64 0] (.o (.v 14)) (.p 1 16)))) K143_24) K143_23
@[simp] def W143_25 := C.w K143_25.eq_1
def K143_26 : Pl := .st (.re 16 (.v 3) none none) <|
 .st (.re 19 (.v 1) none none) <|
 .x 21 (.ia 1 (.v 16) (.v 17)) <|
 .st (.act none (.ex none (.store 1 (.v 21) (.v 19)))) .done
@[simp] def W143_26 := Pl.w K143_26.eq_1
def K143_27 : C := .seq (.pl <| .e 14 8 <|
 .l 14 2 <|
 .m 15 0 <|
 .l 16 3 <|
 .m 17 0 <|
 .l 18 1 <|
 .l 19 1 <|
 .x 20 (.ia 1 (.v 14) (.v 15)) <|
 .st (.act none (.ex none (.store 1 (.v 20) (.v 18)))) K143_26) K143_25
@[simp] def W143_27 := C.w K143_27.eq_1
def B_impl_components_1 : C := .seq (.pl <| .e 14 2 <|
 .l 14 1 <|
 .x 15 (.bin .add (.v 14) (.c (.int .i64 1))) <|
 .st (.act none (.ex none (.store 1 (.v 1) (.v 15)))) .done) K143_27
@[simp] def WB_impl_components_1 := C.w B_impl_components_1.eq_1
def R_impl_components_1 : FIR := ⟨B_impl_components_1, 14, []⟩
theorem IR_impl_components_1 : cfun Tryz.prog H_impl_components_1 Tryz.f143 = some R_impl_components_1 := by kernel_rfl
theorem EN_impl_components_1 : ENT Tryz.prog B_impl_components_1 [] 9 14 fn_impl_components_1 := fun hargs hw => enter Tryz.func143 rfl IR_impl_components_1 hargs hw
def H_impl_cyclic : Hint := ⟨[(0, false), (2, false), (3, false), (4, false), (6, false), (7, false), (8, false), (14, false), (15, false), (16, false), (31, false), (32, false)], [[1, 4, 5, 6, 10, 11], [1, 4, 6, 7, 8, 9]]⟩
def K73_1 : C := .seq (.pl <| .e 12 1 <|
 .m 12 5 <|
 .m 1 12 .done) (.ret)
@[simp] def W73_1 := C.w K73_1.eq_1
def K73_2 : C := .pl <| .e 12 1 <|
 .x 12 (.bin .add (.v 11) (.c (.int .i64 1))) <|
 .m 11 12 .done
@[simp] def W73_2 := C.w K73_2.eq_1
def K73_3 : Pl := .x 29 (.pick (.v 22) (.c (.bool true)) (.v 28)) <|
 .x 30 (.ia 1 (.v 12) (.v 13)) <|
 .st (.act none (.ex none (.store 1 (.v 30) (.v 29)))) .done
@[simp] def W73_3 := Pl.w K73_3.eq_1
def K73_4 : C := .pl <| .e 12 19 <|
 .m 12 5 <|
 .m 13 6 <|
 .m 14 3 <|
 .m 15 2 <|
 .m 16 6 <|
 .x 17 (.ia 1 (.v 15) (.v 16)) <|
 .l 18 17 <|
 .x 19 (.ia 1 (.v 14) (.v 18)) <|
 .l 20 19 <|
 .x 21 (.bin .gtr (.v 20) (.c (.int .i64 1))) <|
 .m 22 21 <|
 .n 22 (.px (some 23) (.mv (.v 0))) <|
 .n 22 (.px (some 24) (.mv (.v 6))) <|
 .n 22 (.px (some 25) (.ia 1 (.v 23) (.v 24))) <|
 .n 22 (.ld (some 26) (.v 25) none) <|
 .n 22 (.px (some 27) (.mv (.v 6))) <|
 .st (.act (some (.v 22, false)) (.ex (some 28) (.call fn_slices_Contains_S_int_int [.v 26, .v 27]))) K73_3
@[simp] def W73_4 := C.w K73_4.eq_1
def K73_5 : C := .seq (.block 3 (.seq (.pl <| .e 12 1 <|
 .m 12 11 <|
 .m 6 12 .done) K73_4)) K73_2
@[simp] def W73_5 := C.w K73_5.eq_1
def K73_6 : C := .seq (.cond 12 (.v 12) (.skip) (.exit 2)) K73_5
@[simp] def W73_6 := C.w K73_6.eq_1
def K73_7 : C := .seq (.pl <| .e 12 1 <|
 .st (.act none (.px (some 12) (.bin .lss (.v 11) (.v 10)))) .done) K73_6
@[simp] def W73_7 := C.w K73_7.eq_1
def K73_8 : C := .block 2 (.loop 12 [1, 4, 6, 7, 8, 9] K73_7)
@[simp] def W73_8 := C.w K73_8.eq_1
def K73_9 : C := .seq (.seq (.pl <| .e 12 1 <|
 .m 12 0 <|
 .x 10 (.lenV (.v 12)) <|
 .st (.act none (.px (some 11) (.mv (.c (.int .i64 0))))) .done) K73_8) K73_1
@[simp] def W73_9 := C.w K73_9.eq_1
def K73_10 : Pl := .m 5 14 .done
@[simp] def W73_10 := Pl.w K73_10.eq_1
def K73_11 : C := .seq (.pl <| .e 12 3 <|
 .m 12 0 <|
 .x 13 (.lenV (.v 12)) <|
 .st (.act none (.ex (some 14) (.mks 1 1 [.bool false] (.v 13) (.v 13)))) K73_10) K73_9
@[simp] def W73_11 := C.w K73_11.eq_1
def K73_12 : C := .pl <| .e 12 1 <|
 .x 12 (.bin .add (.v 9) (.c (.int .i64 1))) <|
 .m 9 12 .done
@[simp] def W73_12 := C.w K73_12.eq_1
def K73_13 : C := .pl <| .e 12 6 <|
 .m 12 3 <|
 .m 13 4 <|
 .x 14 (.ia 1 (.v 12) (.v 13)) <|
 .l 15 14 <|
 .x 16 (.bin .add (.v 15) (.c (.int .i64 1))) <|
 .x 17 (.ia 1 (.v 12) (.v 13)) <|
 .st (.act none (.ex none (.store 1 (.v 17) (.v 16)))) .done
@[simp] def W73_13 := C.w K73_13.eq_1
def K73_14 : C := .seq (.block 1 (.seq (.pl <| .e 12 2 <|
 .x 12 (.ia 1 (.v 7) (.v 9)) <|
 .l 13 12 <|
 .m 4 13 .done) K73_13)) K73_12
@[simp] def W73_14 := C.w K73_14.eq_1
def K73_15 : C := .seq (.cond 12 (.v 12) (.skip) (.exit 0)) K73_14
@[simp] def W73_15 := C.w K73_15.eq_1
def K73_16 : C := .seq (.pl <| .e 12 1 <|
 .st (.act none (.px (some 12) (.bin .lss (.v 9) (.v 8)))) .done) K73_15
@[simp] def W73_16 := C.w K73_16.eq_1
def K73_17 : C := .block 0 (.loop 12 [1, 4, 5, 6, 10, 11] K73_16)
@[simp] def W73_17 := C.w K73_17.eq_1
def K73_18 : C := .seq (.seq (.pl <| .e 12 0 <|
 .m 7 2 <|
 .x 8 (.lenV (.v 7)) <|
 .st (.act none (.px (some 9) (.mv (.c (.int .i64 0))))) .done) K73_17) K73_11
@[simp] def W73_18 := C.w K73_18.eq_1
def K73_19 : Pl := .m 3 14 .done
@[simp] def W73_19 := Pl.w K73_19.eq_1
def K73_20 : C := .seq (.pl <| .e 12 3 <|
 .m 12 0 <|
 .x 13 (.lenV (.v 12)) <|
 .st (.act none (.ex (some 14) (.mks 8 1 [.int .i64 0] (.v 13) (.v 13)))) K73_19) K73_18
@[simp] def W73_20 := C.w K73_20.eq_1
def K73_21 : Pl := .m 2 13 .done
@[simp] def W73_21 := Pl.w K73_21.eq_1
def K73_22 : C := .seq (.pl <| .e 12 2 <|
 .m 12 0 <|
 .st (.act none (.ex (some 13) (.call fn_impl_components [.v 12]))) K73_21) K73_20
@[simp] def W73_22 := C.w K73_22.eq_1
def B_impl_cyclic : C := .seq (.pl <| .e 12 0 <|
 .st (.act none (.px (some 1) (.mv (.c (.slice none 0 0))))) .done) K73_22
@[simp] def WB_impl_cyclic := C.w B_impl_cyclic.eq_1
def R_impl_cyclic : FIR := ⟨B_impl_cyclic, 12, [(1, none)]⟩
theorem IR_impl_cyclic : cfun Tryz.prog H_impl_cyclic Tryz.f73 = some R_impl_cyclic := by kernel_rfl
theorem EN_impl_cyclic : ENT Tryz.prog B_impl_cyclic [(1, none)] 1 12 fn_impl_cyclic := fun hargs hw => enter Tryz.func73 rfl IR_impl_cyclic hargs hw
def H_impl_in : Hint := ⟨[(0, false), (1, false), (2, false), (6, false)], []⟩
def K50_1 : C := .seq (.pl <| .e 4 8 <|
 .m 4 0 <|
 .m 5 1 <|
 .x 6 (.bin .geq (.v 4) (.v 5)) <|
 .m 7 6 <|
 .y 7 (.px (some 8) (.mv (.v 0))) <|
 .y 7 (.px (some 9) (.mv (.v 2))) <|
 .y 7 (.px (some 10) (.bin .leq (.v 8) (.v 9))) <|
 .x 11 (.pick (.v 7) (.v 10) (.c (.bool false))) <|
 .m 3 11 .done) (.ret)
@[simp] def W50_1 := C.w K50_1.eq_1
def B_impl_in : C := .seq (.pl <| .e 4 0 <|
 .st (.act none (.px (some 3) (.mv (.c (.bool false))))) .done) K50_1
@[simp] def WB_impl_in := C.w B_impl_in.eq_1
def R_impl_in : FIR := ⟨B_impl_in, 4, [(3, none)]⟩
theorem IR_impl_in : cfun Tryz.prog H_impl_in Tryz.f50 = some R_impl_in := by kernel_rfl
theorem EN_impl_in : ENT Tryz.prog B_impl_in [(3, none)] 3 4 fn_impl_in := fun hargs hw => enter Tryz.func50 rfl IR_impl_in hargs hw
def H_impl_letters : Hint := ⟨[(0, false), (2, false)], []⟩
def K63_1 : Pl := .x 4 (.un .not (.v 3)) <|
 .m 1 4 .done
@[simp] def W63_1 := Pl.w K63_1.eq_1
def K63_2 : C := .seq (.pl <| .e 2 3 <|
 .m 2 0 <|
 .st (.act none (.ex (some 3) (.call fn_slices_ContainsFunc_S_int_int [.v 2, .c (.func (.func 113) #[] #[])]))) K63_1) (.ret)
@[simp] def W63_2 := C.w K63_2.eq_1
def B_impl_letters : C := .seq (.pl <| .e 2 0 <|
 .st (.act none (.px (some 1) (.mv (.c (.bool false))))) .done) K63_2
@[simp] def WB_impl_letters := C.w B_impl_letters.eq_1
def R_impl_letters : FIR := ⟨B_impl_letters, 2, [(1, none)]⟩
theorem IR_impl_letters : cfun Tryz.prog H_impl_letters Tryz.f63 = some R_impl_letters := by kernel_rfl
theorem EN_impl_letters : ENT Tryz.prog B_impl_letters [(1, none)] 1 2 fn_impl_letters := fun hargs hw => enter Tryz.func63 rfl IR_impl_letters hargs hw
def H_impl_letters_1 : Hint := ⟨[(0, false), (2, false)], []⟩
def K113_1 : Pl := .x 4 (.un .not (.v 3)) <|
 .m 1 4 .done
@[simp] def W113_1 := Pl.w K113_1.eq_1
def K113_2 : C := .seq (.pl <| .e 2 3 <|
 .m 2 0 <|
 .st (.act none (.ex (some 3) (.call fn_impl_in [.v 2, .c (.int .i64 0), .c (.int .i64 7)]))) K113_1) (.ret)
@[simp] def W113_2 := C.w K113_2.eq_1
def B_impl_letters_1 : C := .seq (.pl <| .e 2 0 <|
 .st (.act none (.px (some 1) (.mv (.c (.bool false))))) .done) K113_2
@[simp] def WB_impl_letters_1 := C.w B_impl_letters_1.eq_1
def R_impl_letters_1 : FIR := ⟨B_impl_letters_1, 2, [(1, none)]⟩
theorem IR_impl_letters_1 : cfun Tryz.prog H_impl_letters_1 Tryz.f113 = some R_impl_letters_1 := by kernel_rfl
theorem EN_impl_letters_1 : ENT Tryz.prog B_impl_letters_1 [(1, none)] 1 2 fn_impl_letters_1 := fun hargs hw => enter Tryz.func113 rfl IR_impl_letters_1 hargs hw
def H_impl_reachable : Hint := ⟨[(0, false), (1, false), (4, false), (5, false), (6, false), (8, false), (9, false), (11, false), (17, false), (18, false), (19, false), (44, false), (45, false), (46, false)], [[1, 2, 5, 6, 7, 11, 12, 13], [1, 2, 5, 6, 7, 8, 9, 10, 11, 12, 13], [1, 2, 5, 6, 7, 8, 9, 10]]⟩
def K74_1 : C := .seq (.pl <| .e 14 1 <|
 .m 14 3 <|
 .m 2 14 .done) (.ret)
@[simp] def W74_1 := C.w K74_1.eq_1
def K74_2 : C := .pl <| .e 14 1 <|
 .x 14 (.bin .add (.v 13) (.c (.int .i64 1))) <|
 .m 13 14 .done
@[simp] def W74_2 := C.w K74_2.eq_1
def K74_3 : Pl := .m 4 17 .done
@[simp] def W74_3 := Pl.w K74_3.eq_1
def K74_4 : C := .pl <| .e 14 4 <|
 .m 14 4 <|
 .m 15 7 <|
 .st (.act none (.psl 16 [.int .i64 0] [(0, 1, .v 15)])) <|
 .st (.act none (.ex (some 17) (.app 8 1 [.int .i64 0] (.o (.v 14)) (.p 1 16)))) K74_3
@[simp] def W74_4 := C.w K74_4.eq_1
def K74_5 : C := .seq (.pl <| .e 14 3 <|
 .m 14 3 <|
 .m 15 7 <|
 .x 16 (.ia 1 (.v 14) (.v 15)) <|
 .st (.act none (.ex none (.store 1 (.v 16) (.c (.bool true))))) .done) K74_4
@[simp] def W74_5 := C.w K74_5.eq_1
def K74_6 : C := .cond 14 (.v 18) K74_5 (.skip)
@[simp] def W74_6 := C.w K74_6.eq_1
def K74_7 : C := .seq (.pl <| .e 14 5 <|
 .m 14 3 <|
 .m 15 7 <|
 .x 16 (.ia 1 (.v 14) (.v 15)) <|
 .l 17 16 <|
 .st (.act none (.px (some 18) (.un .not (.v 17)))) .done) K74_6
@[simp] def W74_7 := C.w K74_7.eq_1
def K74_8 : C := .seq (.block 5 (.seq (.pl <| .e 14 2 <|
 .x 14 (.ia 1 (.v 11) (.v 13)) <|
 .l 15 14 <|
 .m 7 15 .done) K74_7)) K74_2
@[simp] def W74_8 := C.w K74_8.eq_1
def K74_9 : C := .seq (.cond 14 (.v 14) (.skip) (.exit 4)) K74_8
@[simp] def W74_9 := C.w K74_9.eq_1
def K74_10 : C := .seq (.pl <| .e 14 1 <|
 .st (.act none (.px (some 14) (.bin .lss (.v 13) (.v 12)))) .done) K74_9
@[simp] def W74_10 := C.w K74_10.eq_1
def K74_11 : C := .block 4 (.loop 14 [1, 2, 5, 6, 7, 8, 9, 10] K74_10)
@[simp] def W74_11 := C.w K74_11.eq_1
def K74_12 : C := .seq (.pl <| .e 14 3 <|
 .m 14 0 <|
 .m 15 6 <|
 .x 16 (.ia 1 (.v 14) (.v 15)) <|
 .l 11 16 <|
 .x 12 (.lenV (.v 11)) <|
 .st (.act none (.px (some 13) (.mv (.c (.int .i64 0))))) .done) K74_11
@[simp] def W74_12 := C.w K74_12.eq_1
def K74_13 : C := .seq (.pl <| .e 14 5 <|
 .m 14 4 <|
 .m 15 4 <|
 .x 16 (.lenV (.v 15)) <|
 .x 17 (.bin .sub (.v 16) (.c (.int .i64 1))) <|
 .x 18 (.sliceV 1 (.v 14) none (some (.v 17)) none) <|
 .m 4 18 .done) K74_12
@[simp] def W74_13 := C.w K74_13.eq_1
def K74_14 : C := .block 3 (.seq (.pl <| .e 14 6 <|
 .m 14 4 <|
 .m 15 4 <|
 .x 16 (.lenV (.v 15)) <|
 .x 17 (.bin .sub (.v 16) (.c (.int .i64 1))) <|
 .x 18 (.ia 1 (.v 14) (.v 17)) <|
 .l 19 18 <|
 .m 6 19 .done) K74_13)
@[simp] def W74_14 := C.w K74_14.eq_1
def K74_15 : C := .cond 14 (.v 16) (.skip) (.exit 2)
@[simp] def W74_15 := C.w K74_15.eq_1
def K74_16 : C := .seq (.seq (.pl <| .e 14 3 <|
 .m 14 4 <|
 .x 15 (.lenV (.v 14)) <|
 .st (.act none (.px (some 16) (.bin .gtr (.v 15) (.c (.int .i64 0))))) .done) K74_15) K74_14
@[simp] def W74_16 := C.w K74_16.eq_1
def K74_17 : C := .seq (.block 2 (.loop 14 [1, 2, 5, 6, 7, 8, 9, 10, 11, 12, 13] K74_16)) K74_1
@[simp] def W74_17 := C.w K74_17.eq_1
def K74_18 : C := .pl <| .e 14 1 <|
 .x 14 (.bin .add (.v 10) (.c (.int .i64 1))) <|
 .m 10 14 .done
@[simp] def W74_18 := C.w K74_18.eq_1
def K74_19 : C := .pl <| .e 14 3 <|
 .m 14 3 <|
 .m 15 5 <|
 .x 16 (.ia 1 (.v 14) (.v 15)) <|
 .st (.act none (.ex none (.store 1 (.v 16) (.c (.bool true))))) .done
@[simp] def W74_19 := C.w K74_19.eq_1
def K74_20 : C := .seq (.block 1 (.seq (.pl <| .e 14 2 <|
 .x 14 (.ia 1 (.v 8) (.v 10)) <|
 .l 15 14 <|
 .m 5 15 .done) K74_19)) K74_18
@[simp] def W74_20 := C.w K74_20.eq_1
def K74_21 : C := .seq (.cond 14 (.v 14) (.skip) (.exit 0)) K74_20
@[simp] def W74_21 := C.w K74_21.eq_1
def K74_22 : C := .seq (.pl <| .e 14 1 <|
 .st (.act none (.px (some 14) (.bin .lss (.v 10) (.v 9)))) .done) K74_21
@[simp] def W74_22 := C.w K74_22.eq_1
def K74_23 : C := .block 0 (.loop 14 [1, 2, 5, 6, 7, 11, 12, 13] K74_22)
@[simp] def W74_23 := C.w K74_23.eq_1
def K74_24 : C := .seq (.seq (.pl <| .e 14 0 <|
 .m 8 1 <|
 .x 9 (.lenV (.v 8)) <|
 .st (.act none (.px (some 10) (.mv (.c (.int .i64 0))))) .done) K74_23) K74_17
@[simp] def W74_24 := C.w K74_24.eq_1
def K74_25 : Pl := .m 4 15 .done
@[simp] def W74_25 := Pl.w K74_25.eq_1
def K74_26 : C := .seq (.pl <| .e 14 2 <|
 .m 14 1 <|
 .st (.act none (.ex (some 15) (.call fn_impl_clone_int [.v 14]))) K74_25) K74_24
@[simp] def W74_26 := C.w K74_26.eq_1
def K74_27 : Pl := .m 3 16 .done
@[simp] def W74_27 := Pl.w K74_27.eq_1
def K74_28 : C := .seq (.pl <| .e 14 3 <|
 .m 14 0 <|
 .x 15 (.lenV (.v 14)) <|
 .st (.act none (.ex (some 16) (.mks 1 1 [.bool false] (.v 15) (.v 15)))) K74_27) K74_26
@[simp] def W74_28 := C.w K74_28.eq_1
def B_impl_reachable : C := .seq (.pl <| .e 14 0 <|
 .st (.act none (.px (some 2) (.mv (.c (.slice none 0 0))))) .done) K74_28
@[simp] def WB_impl_reachable := C.w B_impl_reachable.eq_1
def R_impl_reachable : FIR := ⟨B_impl_reachable, 14, [(2, none)]⟩
theorem IR_impl_reachable : cfun Tryz.prog H_impl_reachable Tryz.f74 = some R_impl_reachable := by kernel_rfl
theorem EN_impl_reachable : ENT Tryz.prog B_impl_reachable [(2, none)] 2 14 fn_impl_reachable := fun hargs hw => enter Tryz.func74 rfl IR_impl_reachable hargs hw
def H_slices_Clip_S_int_int : Hint := ⟨[(0, false), (2, false)], []⟩
def K38_1 : C := .seq (.pl <| .e 2 6 <|
 .m 2 0 <|
 .m 3 0 <|
 .x 4 (.lenV (.v 3)) <|
 .m 5 0 <|
 .x 6 (.lenV (.v 5)) <|
 .x 7 (.sliceV 1 (.v 2) none (some (.v 4)) (some (.v 6))) <|
 .m 1 7 .done) (.ret)
@[simp] def W38_1 := C.w K38_1.eq_1
def B_slices_Clip_S_int_int : C := .seq (.pl <| .e 2 0 <|
 .st (.act none (.px (some 1) (.mv (.c (.slice none 0 0))))) .done) K38_1
@[simp] def WB_slices_Clip_S_int_int := C.w B_slices_Clip_S_int_int.eq_1
def R_slices_Clip_S_int_int : FIR := ⟨B_slices_Clip_S_int_int, 2, [(1, none)]⟩
theorem IR_slices_Clip_S_int_int : cfun Tryz.prog H_slices_Clip_S_int_int Tryz.f38 = some R_slices_Clip_S_int_int := by kernel_rfl
theorem EN_slices_Clip_S_int_int : ENT Tryz.prog B_slices_Clip_S_int_int [(1, none)] 1 2 fn_slices_Clip_S_int_int := fun hargs hw => enter Tryz.func38 rfl IR_slices_Clip_S_int_int hargs hw
def H_slices_Clone_S_int_int : Hint := ⟨[(0, false), (2, false)], []⟩
def K124_1 : Pl := .m 1 4 .done
@[simp] def W124_1 := Pl.w K124_1.eq_1
def K124_2 : C := .seq (.pl <| .e 2 3 <|
 .st (.act none (.psl 2 [] [])) <|
 .m 3 0 <|
 .st (.act none (.ex (some 4) (.app 8 1 [.int .i64 0] (.p 0 2) (.o (.v 3))))) K124_1) (.ret)
@[simp] def W124_2 := C.w K124_2.eq_1
def K124_3 : C := .seq (.pl <| .e 2 0 <|
 .st (.act none (.px (some 1) (.mv (.c (.slice none 0 0))))) .done) (.ret)
@[simp] def W124_3 := C.w K124_3.eq_1
def K124_4 : C := .cond 2 (.v 3) K124_3 (.skip)
@[simp] def W124_4 := C.w K124_4.eq_1
def K124_5 : C := .seq (.seq (.pl <| .e 2 2 <|
 .m 2 0 <|
 .st (.act none (.px (some 3) (.isNil false (.v 2)))) .done) K124_4) K124_2
@[simp] def W124_5 := C.w K124_5.eq_1
def B_slices_Clone_S_int_int : C := .seq (.pl <| .e 2 0 <|
 .st (.act none (.px (some 1) (.mv (.c (.slice none 0 0))))) .done) K124_5
@[simp] def WB_slices_Clone_S_int_int := C.w B_slices_Clone_S_int_int.eq_1
def R_slices_Clone_S_int_int : FIR := ⟨B_slices_Clone_S_int_int, 2, [(1, none)]⟩
theorem IR_slices_Clone_S_int_int : cfun Tryz.prog H_slices_Clone_S_int_int Tryz.f124 = some R_slices_Clone_S_int_int := by kernel_rfl
theorem EN_slices_Clone_S_int_int : ENT Tryz.prog B_slices_Clone_S_int_int [(1, none)] 1 2 fn_slices_Clone_S_int_int := fun hargs hw => enter Tryz.func124 rfl IR_slices_Clone_S_int_int hargs hw
def H_slices_Concat_S_int_int : Hint := ⟨[(0, false), (2, false), (3, false), (5, false), (6, false), (8, false), (9, false), (10, false), (11, false), (25, false), (26, false), (27, false)], [[1, 3, 4, 5, 9, 10, 11], [0, 1, 2, 3, 5, 6, 7, 8]]⟩
def K39_1 : C := .seq (.pl <| .e 12 1 <|
 .m 12 4 <|
 .m 1 12 .done) (.ret)
@[simp] def W39_1 := C.w K39_1.eq_1
def K39_2 : C := .pl <| .e 12 1 <|
 .x 12 (.bin .add (.v 11) (.c (.int .i64 1))) <|
 .m 11 12 .done
@[simp] def W39_2 := C.w K39_2.eq_1
def K39_3 : Pl := .m 4 14 .done
@[simp] def W39_3 := Pl.w K39_3.eq_1
def K39_4 : C := .pl <| .e 12 3 <|
 .m 12 4 <|
 .m 13 5 <|
 .st (.act none (.ex (some 14) (.app 8 1 [.int .i64 0] (.o (.v 12)) (.o (.v 13))))) K39_3
@[simp] def W39_4 := C.w K39_4.eq_1
def K39_5 : C := .seq (.block 3 (.seq (.pl <| .e 12 2 <|
 .x 12 (.ia 1 (.v 9) (.v 11)) <|
 .l 13 12 <|
 .m 5 13 .done) K39_4)) K39_2
@[simp] def W39_5 := C.w K39_5.eq_1
def K39_6 : C := .seq (.cond 12 (.v 12) (.skip) (.exit 2)) K39_5
@[simp] def W39_6 := C.w K39_6.eq_1
def K39_7 : C := .seq (.pl <| .e 12 1 <|
 .st (.act none (.px (some 12) (.bin .lss (.v 11) (.v 10)))) .done) K39_6
@[simp] def W39_7 := C.w K39_7.eq_1
def K39_8 : C := .block 2 (.loop 12 [0, 1, 2, 3, 5, 6, 7, 8] K39_7)
@[simp] def W39_8 := C.w K39_8.eq_1
def K39_9 : C := .seq (.seq (.pl <| .e 12 0 <|
 .m 9 0 <|
 .x 10 (.lenV (.v 9)) <|
 .st (.act none (.px (some 11) (.mv (.c (.int .i64 0))))) .done) K39_8) K39_1
@[simp] def W39_9 := C.w K39_9.eq_1
def K39_10 : Pl := .m 4 13 .done
@[simp] def W39_10 := Pl.w K39_10.eq_1
def K39_11 : C := .seq (.pl <| .e 12 2 <|
 .m 12 2 <|
 .st (.act none (.ex (some 13) (.call fn_slices_Grow_S_int_int [.c (.slice none 0 0), .v 12]))) K39_10) K39_9
@[simp] def W39_11 := C.w K39_11.eq_1
def K39_12 : C := .pl <| .e 12 1 <|
 .x 12 (.bin .add (.v 8) (.c (.int .i64 1))) <|
 .m 8 12 .done
@[simp] def W39_12 := C.w K39_12.eq_1
def K39_13 : C := .pl <| .e 12 1 <|
 .st (.act none (.px none (.extract 0 (.c (.tuple #[]))))) <|
 .st (.act none (.px none (.extract 0 (.c (.tuple #[]))))) .done
@[simp] def W39_13 := C.w K39_13.eq_1
def K39_14 : C := .cond 12 (.v 13) K39_13 (.skip)
@[simp] def W39_14 := C.w K39_14.eq_1
def K39_15 : C := .seq (.pl <| .e 12 2 <|
 .m 12 2 <|
 .st (.act none (.px (some 13) (.bin .lss (.v 12) (.c (.int .i64 0))))) .done) K39_14
@[simp] def W39_15 := C.w K39_15.eq_1
def K39_16 : C := .seq (.pl <| .e 12 4 <|
 .m 12 2 <|
 .m 13 3 <|
 .x 14 (.lenV (.v 13)) <|
 .x 15 (.bin .add (.v 12) (.v 14)) <|
 .m 2 15 .done) K39_15
@[simp] def W39_16 := C.w K39_16.eq_1
def K39_17 : C := .seq (.block 1 (.seq (.pl <| .e 12 2 <|
 .x 12 (.ia 1 (.v 6) (.v 8)) <|
 .l 13 12 <|
 .m 3 13 .done) K39_16)) K39_12
@[simp] def W39_17 := C.w K39_17.eq_1
def K39_18 : C := .seq (.cond 12 (.v 12) (.skip) (.exit 0)) K39_17
@[simp] def W39_18 := C.w K39_18.eq_1
def K39_19 : C := .seq (.pl <| .e 12 1 <|
 .st (.act none (.px (some 12) (.bin .lss (.v 8) (.v 7)))) .done) K39_18
@[simp] def W39_19 := C.w K39_19.eq_1
def K39_20 : C := .block 0 (.loop 12 [1, 3, 4, 5, 9, 10, 11] K39_19)
@[simp] def W39_20 := C.w K39_20.eq_1
def K39_21 : C := .seq (.seq (.pl <| .e 12 0 <|
 .m 6 0 <|
 .x 7 (.lenV (.v 6)) <|
 .st (.act none (.px (some 8) (.mv (.c (.int .i64 0))))) .done) K39_20) K39_11
@[simp] def W39_21 := C.w K39_21.eq_1
def K39_22 : C := .seq (.pl <| .e 12 0 <|
 .st (.act none (.px (some 2) (.mv (.c (.int .i64 0))))) .done) K39_21
@[simp] def W39_22 := C.w K39_22.eq_1
def B_slices_Concat_S_int_int : C := .seq (.pl <| .e 12 0 <|
 .st (.act none (.px (some 1) (.mv (.c (.slice none 0 0))))) .done) K39_22
@[simp] def WB_slices_Concat_S_int_int := C.w B_slices_Concat_S_int_int.eq_1
def R_slices_Concat_S_int_int : FIR := ⟨B_slices_Concat_S_int_int, 12, [(1, none)]⟩
theorem IR_slices_Concat_S_int_int : cfun Tryz.prog H_slices_Concat_S_int_int Tryz.f39 = some R_slices_Concat_S_int_int := by kernel_rfl
theorem EN_slices_Concat_S_int_int : ENT Tryz.prog B_slices_Concat_S_int_int [(1, none)] 1 12 fn_slices_Concat_S_int_int := fun hargs hw => enter Tryz.func39 rfl IR_slices_Concat_S_int_int hargs hw
def H_slices_ContainsFunc_S_impl_Transition_impl_Transition : Hint := ⟨[(0, false), (1, false), (4, false)], []⟩
def K51_1 : Pl := .x 6 (.bin .geq (.v 5) (.c (.int .i64 0))) <|
 .m 2 6 .done
@[simp] def W51_1 := Pl.w K51_1.eq_1
def K51_2 : C := .seq (.pl <| .e 3 4 <|
 .m 3 0 <|
 .m 4 1 <|
 .st (.act none (.ex (some 5) (.call fn_slices_IndexFunc_S_impl_Transition_impl_Transition [.v 3, .v 4]))) K51_1) (.ret)
@[simp] def W51_2 := C.w K51_2.eq_1
def B_slices_ContainsFunc_S_impl_Transition_impl_Transition : C := .seq (.pl <| .e 3 0 <|
 .st (.act none (.px (some 2) (.mv (.c (.bool false))))) .done) K51_2
@[simp] def WB_slices_ContainsFunc_S_impl_Transition_impl_Transition := C.w B_slices_ContainsFunc_S_impl_Transition_impl_Transition.eq_1
def R_slices_ContainsFunc_S_impl_Transition_impl_Transition : FIR := ⟨B_slices_ContainsFunc_S_impl_Transition_impl_Transition, 3, [(2, none)]⟩
theorem IR_slices_ContainsFunc_S_impl_Transition_impl_Transition : cfun Tryz.prog H_slices_ContainsFunc_S_impl_Transition_impl_Transition Tryz.f51 = some R_slices_ContainsFunc_S_impl_Transition_impl_Transition := by kernel_rfl
theorem EN_slices_ContainsFunc_S_impl_Transition_impl_Transition : ENT Tryz.prog B_slices_ContainsFunc_S_impl_Transition_impl_Transition [(2, none)] 2 3 fn_slices_ContainsFunc_S_impl_Transition_impl_Transition := fun hargs hw => enter Tryz.func51 rfl IR_slices_ContainsFunc_S_impl_Transition_impl_Transition hargs hw
def H_slices_ContainsFunc_S_int_int : Hint := ⟨[(0, false), (1, false), (4, false)], []⟩
def K112_1 : Pl := .x 6 (.bin .geq (.v 5) (.c (.int .i64 0))) <|
 .m 2 6 .done
@[simp] def W112_1 := Pl.w K112_1.eq_1
def K112_2 : C := .seq (.pl <| .e 3 4 <|
 .m 3 0 <|
 .m 4 1 <|
 .st (.act none (.ex (some 5) (.call fn_slices_IndexFunc_S_int_int [.v 3, .v 4]))) K112_1) (.ret)
@[simp] def W112_2 := C.w K112_2.eq_1
def B_slices_ContainsFunc_S_int_int : C := .seq (.pl <| .e 3 0 <|
 .st (.act none (.px (some 2) (.mv (.c (.bool false))))) .done) K112_2
@[simp] def WB_slices_ContainsFunc_S_int_int := C.w B_slices_ContainsFunc_S_int_int.eq_1
def R_slices_ContainsFunc_S_int_int : FIR := ⟨B_slices_ContainsFunc_S_int_int, 3, [(2, none)]⟩
theorem IR_slices_ContainsFunc_S_int_int : cfun Tryz.prog H_slices_ContainsFunc_S_int_int Tryz.f112 = some R_slices_ContainsFunc_S_int_int := by kernel_rfl
theorem EN_slices_ContainsFunc_S_int_int : ENT Tryz.prog B_slices_ContainsFunc_S_int_int [(2, none)] 2 3 fn_slices_ContainsFunc_S_int_int := fun hargs hw => enter Tryz.func112 rfl IR_slices_ContainsFunc_S_int_int hargs hw
def H_slices_Contains_S_int_int : Hint := ⟨[(0, false), (1, false), (4, false)], []⟩
def K118_1 : Pl := .x 6 (.bin .geq (.v 5) (.c (.int .i64 0))) <|
 .m 2 6 .done
@[simp] def W118_1 := Pl.w K118_1.eq_1
def K118_2 : C := .seq (.pl <| .e 3 4 <|
 .m 3 0 <|
 .m 4 1 <|
 .st (.act none (.ex (some 5) (.call fn_slices_Index_S_int_int [.v 3, .v 4]))) K118_1) (.ret)
@[simp] def W118_2 := C.w K118_2.eq_1
def B_slices_Contains_S_int_int : C := .seq (.pl <| .e 3 0 <|
 .st (.act none (.px (some 2) (.mv (.c (.bool false))))) .done) K118_2
@[simp] def WB_slices_Contains_S_int_int := C.w B_slices_Contains_S_int_int.eq_1
def R_slices_Contains_S_int_int : FIR := ⟨B_slices_Contains_S_int_int, 3, [(2, none)]⟩
theorem IR_slices_Contains_S_int_int : cfun Tryz.prog H_slices_Contains_S_int_int Tryz.f118 = some R_slices_Contains_S_int_int := by kernel_rfl
theorem EN_slices_Contains_S_int_int : ENT Tryz.prog B_slices_Contains_S_int_int [(2, none)] 2 3 fn_slices_Contains_S_int_int := fun hargs hw => enter Tryz.func118 rfl IR_slices_Contains_S_int_int hargs hw
def H_slices_Grow_S_int_int : Hint := ⟨[(0, false), (1, false), (4, false)], []⟩
def K79_1 : C := .seq (.pl <| .e 3 1 <|
 .m 3 0 <|
 .m 2 3 .done) (.ret)
@[simp] def W79_1 := C.w K79_1.eq_1
def K79_2 : Pl := .m 9 0 <|
 .x 10 (.lenV (.v 9)) <|
 .x 11 (.sliceV 1 (.v 8) none (some (.v 10)) none) <|
 .m 0 11 .done
@[simp] def W79_2 := Pl.w K79_2.eq_1
def K79_3 : C := .pl <| .e 3 9 <|
 .m 3 0 <|
 .m 4 0 <|
 .x 5 (.capV (.v 4)) <|
 .x 6 (.sliceV 1 (.v 3) none (some (.v 5)) none) <|
 .m 7 1 <|
 .st (.act none (.ex (some 8) (.app 8 1 [.int .i64 0] (.o (.v 6)) (.z (.v 7) 8 [.int .i64 0])))) K79_2
@[simp] def W79_3 := C.w K79_3.eq_1
def K79_4 : C := .cond 3 (.v 4) K79_3 (.skip)
@[simp] def W79_4 := C.w K79_4.eq_1
def K79_5 : C := .seq (.pl <| .e 3 2 <|
 .m 3 1 <|
 .st (.act none (.px (some 4) (.bin .gtr (.v 3) (.c (.int .i64 0))))) .done) K79_4
@[simp] def W79_5 := C.w K79_5.eq_1
def K79_6 : C := .seq (.seq (.pl <| .e 3 7 <|
 .m 3 1 <|
 .m 4 0 <|
 .x 5 (.capV (.v 4)) <|
 .m 6 0 <|
 .x 7 (.lenV (.v 6)) <|
 .x 8 (.bin .sub (.v 5) (.v 7)) <|
 .x 9 (.bin .sub (.v 3) (.v 8)) <|
 .m 1 9 .done) K79_5) K79_1
@[simp] def W79_6 := C.w K79_6.eq_1
def K79_7 : C := .pl <| .e 3 1 <|
 .st (.act none (.px none (.extract 0 (.c (.tuple #[]))))) <|
 .st (.act none (.px none (.extract 0 (.c (.tuple #[]))))) .done
@[simp] def W79_7 := C.w K79_7.eq_1
def K79_8 : C := .cond 3 (.v 4) K79_7 (.skip)
@[simp] def W79_8 := C.w K79_8.eq_1
def K79_9 : C := .seq (.seq (.pl <| .e 3 2 <|
 .m 3 1 <|
 .st (.act none (.px (some 4) (.bin .lss (.v 3) (.c (.int .i64 0))))) .done) K79_8) K79_6
@[simp] def W79_9 := C.w K79_9.eq_1
def B_slices_Grow_S_int_int : C := .seq (.pl <| .e 3 0 <|
 .st (.act none (.px (some 2) (.mv (.c (.slice none 0 0))))) .done) K79_9
@[simp] def WB_slices_Grow_S_int_int := C.w B_slices_Grow_S_int_int.eq_1
def R_slices_Grow_S_int_int : FIR := ⟨B_slices_Grow_S_int_int, 3, [(2, none)]⟩
theorem IR_slices_Grow_S_int_int : cfun Tryz.prog H_slices_Grow_S_int_int Tryz.f79 = some R_slices_Grow_S_int_int := by kernel_rfl
theorem EN_slices_Grow_S_int_int : ENT Tryz.prog B_slices_Grow_S_int_int [(2, none)] 2 3 fn_slices_Grow_S_int_int := fun hargs hw => enter Tryz.func79 rfl IR_slices_Grow_S_int_int hargs hw
def H_slices_IndexFunc_S_impl_Transition_impl_Transition : Hint := ⟨[(0, false), (1, false), (4, false), (5, false), (7, false), (8, false)], [[2, 3]]⟩
def K93_1 : C := .seq (.pl <| .e 6 0 <|
 .st (.act none (.px (some 2) (.mv (.c (.int .i64 (-1)))))) .done) (.ret)
@[simp] def W93_1 := C.w K93_1.eq_1
def K93_2 : C := .pl <| .e 6 1 <|
 .x 6 (.bin .add (.v 5) (.c (.int .i64 1))) <|
 .m 5 6 .done
@[simp] def W93_2 := C.w K93_2.eq_1
def K93_3 : C := .seq (.pl <| .e 6 1 <|
 .m 6 3 <|
 .m 2 6 .done) (.ret)
@[simp] def W93_3 := C.w K93_3.eq_1
def K93_4 : C := .cond 6 (.v 11) K93_3 (.skip)
@[simp] def W93_4 := C.w K93_4.eq_1
def K93_5 : C := .seq (.pl <| .e 6 6 <|
 .m 6 1 <|
 .m 7 0 <|
 .m 8 3 <|
 .x 9 (.ia 4 (.v 7) (.v 8)) <|
 .st (.act none (.ld (some 10) (.v 9) (some 4))) <|
 .st (.act none (.ex (some 11) (.callv (.v 6) [.v 10]))) .done) K93_4
@[simp] def W93_5 := C.w K93_5.eq_1
def K93_6 : C := .seq (.block 1 (.seq (.pl <| .e 6 1 <|
 .m 6 5 <|
 .m 3 6 .done) K93_5)) K93_2
@[simp] def W93_6 := C.w K93_6.eq_1
def K93_7 : C := .seq (.cond 6 (.v 6) (.skip) (.exit 0)) K93_6
@[simp] def W93_7 := C.w K93_7.eq_1
def K93_8 : C := .seq (.pl <| .e 6 1 <|
 .st (.act none (.px (some 6) (.bin .lss (.v 5) (.v 4)))) .done) K93_7
@[simp] def W93_8 := C.w K93_8.eq_1
def K93_9 : C := .block 0 (.loop 6 [2, 3] K93_8)
@[simp] def W93_9 := C.w K93_9.eq_1
def K93_10 : C := .seq (.seq (.pl <| .e 6 1 <|
 .m 6 0 <|
 .x 4 (.lenV (.v 6)) <|
 .st (.act none (.px (some 5) (.mv (.c (.int .i64 0))))) .done) K93_9) K93_1
@[simp] def W93_10 := C.w K93_10.eq_1
def B_slices_IndexFunc_S_impl_Transition_impl_Transition : C := .seq (.pl <| .e 6 0 <|
 .st (.act none (.px (some 2) (.mv (.c (.int .i64 0))))) .done) K93_10
@[simp] def WB_slices_IndexFunc_S_impl_Transition_impl_Transition := C.w B_slices_IndexFunc_S_impl_Transition_impl_Transition.eq_1
def R_slices_IndexFunc_S_impl_Transition_impl_Transition : FIR := ⟨B_slices_IndexFunc_S_impl_Transition_impl_Transition, 6, [(2, none)]⟩
theorem IR_slices_IndexFunc_S_impl_Transition_impl_Transition : cfun Tryz.prog H_slices_IndexFunc_S_impl_Transition_impl_Transition Tryz.f93 = some R_slices_IndexFunc_S_impl_Transition_impl_Transition := by kernel_rfl
theorem EN_slices_IndexFunc_S_impl_Transition_impl_Transition : ENT Tryz.prog B_slices_IndexFunc_S_impl_Transition_impl_Transition [(2, none)] 2 6 fn_slices_IndexFunc_S_impl_Transition_impl_Transition := fun hargs hw => enter Tryz.func93 rfl IR_slices_IndexFunc_S_impl_Transition_impl_Transition hargs hw
def H_slices_IndexFunc_S_int_int : Hint := ⟨[(0, false), (1, false), (4, false), (5, false), (7, false), (8, false)], [[2, 3]]⟩
def K142_1 : C := .seq (.pl <| .e 6 0 <|
 .st (.act none (.px (some 2) (.mv (.c (.int .i64 (-1)))))) .done) (.ret)
@[simp] def W142_1 := C.w K142_1.eq_1
def K142_2 : C := .pl <| .e 6 1 <|
 .x 6 (.bin .add (.v 5) (.c (.int .i64 1))) <|
 .m 5 6 .done
@[simp] def W142_2 := C.w K142_2.eq_1
def K142_3 : C := .seq (.pl <| .e 6 1 <|
 .m 6 3 <|
 .m 2 6 .done) (.ret)
@[simp] def W142_3 := C.w K142_3.eq_1
def K142_4 : C := .cond 6 (.v 11) K142_3 (.skip)
@[simp] def W142_4 := C.w K142_4.eq_1
def K142_5 : C := .seq (.pl <| .e 6 6 <|
 .m 6 1 <|
 .m 7 0 <|
 .m 8 3 <|
 .x 9 (.ia 1 (.v 7) (.v 8)) <|
 .l 10 9 <|
 .st (.act none (.ex (some 11) (.callv (.v 6) [.v 10]))) .done) K142_4
@[simp] def W142_5 := C.w K142_5.eq_1
def K142_6 : C := .seq (.block 1 (.seq (.pl <| .e 6 1 <|
 .m 6 5 <|
 .m 3 6 .done) K142_5)) K142_2
@[simp] def W142_6 := C.w K142_6.eq_1
def K142_7 : C := .seq (.cond 6 (.v 6) (.skip) (.exit 0)) K142_6
@[simp] def W142_7 := C.w K142_7.eq_1
def K142_8 : C := .seq (.pl <| .e 6 1 <|
 .st (.act none (.px (some 6) (.bin .lss (.v 5) (.v 4)))) .done) K142_7
@[simp] def W142_8 := C.w K142_8.eq_1
def K142_9 : C := .block 0 (.loop 6 [2, 3] K142_8)
@[simp] def W142_9 := C.w K142_9.eq_1
def K142_10 : C := .seq (.seq (.pl <| .e 6 1 <|
 .m 6 0 <|
 .x 4 (.lenV (.v 6)) <|
 .st (.act none (.px (some 5) (.mv (.c (.int .i64 0))))) .done) K142_9) K142_1
@[simp] def W142_10 := C.w K142_10.eq_1
def B_slices_IndexFunc_S_int_int : C := .seq (.pl <| .e 6 0 <|
 .st (.act none (.px (some 2) (.mv (.c (.int .i64 0))))) .done) K142_10
@[simp] def WB_slices_IndexFunc_S_int_int := C.w B_slices_IndexFunc_S_int_int.eq_1
def R_slices_IndexFunc_S_int_int : FIR := ⟨B_slices_IndexFunc_S_int_int, 6, [(2, none)]⟩
theorem IR_slices_IndexFunc_S_int_int : cfun Tryz.prog H_slices_IndexFunc_S_int_int Tryz.f142 = some R_slices_IndexFunc_S_int_int := by kernel_rfl
theorem EN_slices_IndexFunc_S_int_int : ENT Tryz.prog B_slices_IndexFunc_S_int_int [(2, none)] 2 6 fn_slices_IndexFunc_S_int_int := fun hargs hw => enter Tryz.func142 rfl IR_slices_IndexFunc_S_int_int hargs hw
def H_slices_Index_S_int_int : Hint := ⟨[(0, false), (1, false), (4, false), (5, false), (7, false), (8, false)], [[2, 3]]⟩
def K144_1 : C := .seq (.pl <| .e 6 0 <|
 .st (.act none (.px (some 2) (.mv (.c (.int .i64 (-1)))))) .done) (.ret)
@[simp] def W144_1 := C.w K144_1.eq_1
def K144_2 : C := .pl <| .e 6 1 <|
 .x 6 (.bin .add (.v 5) (.c (.int .i64 1))) <|
 .m 5 6 .done
@[simp] def W144_2 := C.w K144_2.eq_1
def K144_3 : C := .seq (.pl <| .e 6 1 <|
 .m 6 3 <|
 .m 2 6 .done) (.ret)
@[simp] def W144_3 := C.w K144_3.eq_1
def K144_4 : C := .cond 6 (.v 11) K144_3 (.skip)
@[simp] def W144_4 := C.w K144_4.eq_1
def K144_5 : C := .seq (.pl <| .e 6 6 <|
 .m 6 1 <|
 .m 7 0 <|
 .m 8 3 <|
 .x 9 (.ia 1 (.v 7) (.v 8)) <|
 .l 10 9 <|
 .st (.act none (.px (some 11) (.bin .eql (.v 6) (.v 10)))) .done) K144_4
@[simp] def W144_5 := C.w K144_5.eq_1
def K144_6 : C := .seq (.block 1 (.seq (.pl <| .e 6 1 <|
 .m 6 5 <|
 .m 3 6 .done) K144_5)) K144_2
@[simp] def W144_6 := C.w K144_6.eq_1
def K144_7 : C := .seq (.cond 6 (.v 6) (.skip) (.exit 0)) K144_6
@[simp] def W144_7 := C.w K144_7.eq_1
def K144_8 : C := .seq (.pl <| .e 6 1 <|
 .st (.act none (.px (some 6) (.bin .lss (.v 5) (.v 4)))) .done) K144_7
@[simp] def W144_8 := C.w K144_8.eq_1
def K144_9 : C := .block 0 (.loop 6 [2, 3] K144_8)
@[simp] def W144_9 := C.w K144_9.eq_1
def K144_10 : C := .seq (.seq (.pl <| .e 6 1 <|
 .m 6 0 <|
 .x 4 (.lenV (.v 6)) <|
 .st (.act none (.px (some 5) (.mv (.c (.int .i64 0))))) .done) K144_9) K144_1
@[simp] def W144_10 := C.w K144_10.eq_1
def B_slices_Index_S_int_int : C := .seq (.pl <| .e 6 0 <|
 .st (.act none (.px (some 2) (.mv (.c (.int .i64 0))))) .done) K144_10
@[simp] def WB_slices_Index_S_int_int := C.w B_slices_Index_S_int_int.eq_1
def R_slices_Index_S_int_int : FIR := ⟨B_slices_Index_S_int_int, 6, [(2, none)]⟩
theorem IR_slices_Index_S_int_int : cfun Tryz.prog H_slices_Index_S_int_int Tryz.f144 = some R_slices_Index_S_int_int := by kernel_rfl
theorem EN_slices_Index_S_int_int : ENT Tryz.prog B_slices_Index_S_int_int [(2, none)] 2 6 fn_slices_Index_S_int_int := fun hargs hw => enter Tryz.func144 rfl IR_slices_Index_S_int_int hargs hw
end Go.Proofs.YtglnelcmcimljaaGreat

namespace Go.Proofs.YtglnelcmcimljaaGreat
open Go
end Go.Proofs.YtglnelcmcimljaaGreat

namespace Go.Proofs.YtglnelcmcimljaaGreat
open Go
end Go.Proofs.YtglnelcmcimljaaGreat

namespace Go.Proofs.YtglnelcmcimljaaGreat
open Go
theorem c_Clone_int {h : Heap} {a : Value} {x : List Int} (Ra : Rep h a x) (hs : x.length ≤ 1073741824) : CallE Tryz.prog fn_slices_Clone_S_int_int [a] h (fun v h' => HS h [ow v x] h') := by
  refine CallE.gen fun k hk => EN_slices_Clone_S_int_int rfl ?_
  obtain ⟨b, hb, hb2⟩ := Ra.isNil
  simp -implicitDefEqProofs (disch := first | omega | (simp only [LnZ]; omega)) [wrap64, hb]
  refine IteW.mk (fun h1 => ?_) (fun h1 => ?_)
  · simp -implicitDefEqProofs (disch := first | omega | (simp only [LnZ]; omega)) [wrap64]
    have h2 : x = [] := hb2 h1
    subst h2
    exact RetK.keep (hk _ _ HS.init.nil_ow)
  · simp -implicitDefEqProofs (disch := first | omega | (simp only [LnZ]; omega)) [wrap64]
    refine HS.init.appPL (α := Int) (l2 := x) (u := a) rfl rfl Ra rfl rfl (by omega) fun v h1 H => ?_
    simp -implicitDefEqProofs (disch := first | omega | (simp only [LnZ]; omega)) [wrap64]
    exact RetK.keep (hk _ _ H)
theorem c_Clip_int {g h : Heap} {Γ : List HP} {a : Value} {x : List Int} (H : HS g (ow a x :: Γ) h) : CallE Tryz.prog fn_slices_Clip_S_int_int [a] h (fun v h' => HS g (ow v x :: Γ) h') := by
  refine CallE.gen fun k hk => EN_slices_Clip_S_int_int rfl ?_
  obtain ⟨v', h1, h2⟩ := H.clip (esz := 1) (k := .i64)
  simp -implicitDefEqProofs (disch := first | omega | (simp only [LnZ]; omega)) [wrap64, H.rep.I, h1]
  exact RetK.keep (hk _ _ h2)
theorem c_clone_int {h : Heap} {a : Value} {x : List Int} (Ra : Rep h a x) (hs : x.length ≤ 1073741824) : CallE Tryz.prog fn_impl_clone_int [a] h (fun v h' => HS h [ow v x] h') := by
  refine CallE.gen fun k hk => EN_impl_clone_int rfl ?_
  simp -implicitDefEqProofs (disch := first | omega | (simp only [LnZ]; omega)) [wrap64]
  refine (c_Clone_int Ra hs).go ?_
  intro v h1 H
  simp -implicitDefEqProofs (disch := first | omega | (simp only [LnZ]; omega)) [wrap64]
  refine (c_Clip_int H).go ?_
  intro v' h2 H
  simp -implicitDefEqProofs (disch := first | omega | (simp only [LnZ]; omega)) [wrap64]
  exact RetK.keep (hk _ _ H)
theorem c_Clone_bool {h : Heap} {a : Value} {x : List Bool} (Ra : Rep h a x) (hs : x.length ≤ 1073741824) : CallE Tryz.prog fn_slices_Clone_S_bool_bool [a] h (fun v h' => HS h [ow v x] h') := by
  refine CallE.gen fun k hk => EN_slices_Clone_S_bool_bool rfl ?_
  obtain ⟨b, hb, hb2⟩ := Ra.isNil
  simp -implicitDefEqProofs (disch := first | omega | (simp only [LnZ]; omega)) [wrap64, hb]
  refine IteW.mk (fun h1 => ?_) (fun h1 => ?_)
  · simp -implicitDefEqProofs (disch := first | omega | (simp only [LnZ]; omega)) [wrap64]
    have h2 : x = [] := hb2 h1
    subst h2
    exact RetK.keep (hk _ _ HS.init.nil_ow)
  · simp -implicitDefEqProofs (disch := first | omega | (simp only [LnZ]; omega)) [wrap64]
    refine HS.init.appPL (α := Bool) (l2 := x) (u := a) rfl rfl Ra rfl rfl (by omega) fun v h1 H => ?_
    simp -implicitDefEqProofs (disch := first | omega | (simp only [LnZ]; omega)) [wrap64]
    exact RetK.keep (hk _ _ H)
theorem c_Clip_bool {g h : Heap} {Γ : List HP} {a : Value} {x : List Bool} (H : HS g (ow a x :: Γ) h) : CallE Tryz.prog fn_slices_Clip_S_bool_bool [a] h (fun v h' => HS g (ow v x :: Γ) h') := by
  refine CallE.gen fun k hk => EN_slices_Clip_S_bool_bool rfl ?_
  obtain ⟨v', h1, h2⟩ := H.clip (esz := 1) (k := .i64)
  simp -implicitDefEqProofs (disch := first | omega | (simp only [LnZ]; omega)) [wrap64, H.rep.B, h1]
  exact RetK.keep (hk _ _ h2)
theorem c_clone_bool {h : Heap} {a : Value} {x : List Bool} (Ra : Rep h a x) (hs : x.length ≤ 1073741824) : CallE Tryz.prog fn_impl_clone_bool [a] h (fun v h' => HS h [ow v x] h') := by
  refine CallE.gen fun k hk => EN_impl_clone_bool rfl ?_
  simp -implicitDefEqProofs (disch := first | omega | (simp only [LnZ]; omega)) [wrap64]
  refine (c_Clone_bool Ra hs).go ?_
  intro v h1 H
  simp -implicitDefEqProofs (disch := first | omega | (simp only [LnZ]; omega)) [wrap64]
  refine (c_Clip_bool H).go ?_
  intro v' h2 H
  simp -implicitDefEqProofs (disch := first | omega | (simp only [LnZ]; omega)) [wrap64]
  exact RetK.keep (hk _ _ H)
theorem c_Clone_impl_Transition {h : Heap} {a : Value} {x : List Tr} (Ra : Rep h a x) (hs : x.length ≤ 1073741824) : CallE Tryz.prog fn_slices_Clone_S_impl_Transition_impl_Transition [a] h (fun v h' => HS h [ow v x] h') := by
  refine CallE.gen fun k hk => EN_slices_Clone_S_impl_Transition_impl_Transition rfl ?_
  obtain ⟨b, hb, hb2⟩ := Ra.isNil
  simp -implicitDefEqProofs (disch := first | omega | (simp only [LnZ]; omega)) [wrap64, hb]
  refine IteW.mk (fun h1 => ?_) (fun h1 => ?_)
  · simp -implicitDefEqProofs (disch := first | omega | (simp only [LnZ]; omega)) [wrap64]
    have h2 : x = [] := hb2 h1
    subst h2
    exact RetK.keep (hk _ _ HS.init.nil_ow)
  · simp -implicitDefEqProofs (disch := first | omega | (simp only [LnZ]; omega)) [wrap64]
    refine HS.init.appPL (α := Tr) (l2 := x) (u := a) rfl rfl Ra rfl rfl (by omega) fun v h1 H => ?_
    simp -implicitDefEqProofs (disch := first | omega | (simp only [LnZ]; omega)) [wrap64]
    exact RetK.keep (hk _ _ H)
theorem c_Clip_impl_Transition {g h : Heap} {Γ : List HP} {a : Value} {x : List Tr} (H : HS g (ow a x :: Γ) h) : CallE Tryz.prog fn_slices_Clip_S_impl_Transition_impl_Transition [a] h (fun v h' => HS g (ow v x :: Γ) h') := by
  refine CallE.gen fun k hk => EN_slices_Clip_S_impl_Transition_impl_Transition rfl ?_
  obtain ⟨v', h1, h2⟩ := H.clip (esz := 4) (k := .i64)
  simp -implicitDefEqProofs (disch := first | omega | (simp only [LnZ]; omega)) [wrap64, H.rep.xTr, h1]
  exact RetK.keep (hk _ _ h2)
theorem c_clone_impl_Transition {h : Heap} {a : Value} {x : List Tr} (Ra : Rep h a x) (hs : x.length ≤ 1073741824) : CallE Tryz.prog fn_impl_clone_impl_Transition [a] h (fun v h' => HS h [ow v x] h') := by
  refine CallE.gen fun k hk => EN_impl_clone_impl_Transition rfl ?_
  simp -implicitDefEqProofs (disch := first | omega | (simp only [LnZ]; omega)) [wrap64]
  refine (c_Clone_impl_Transition Ra hs).go ?_
  intro v h1 H
  simp -implicitDefEqProofs (disch := first | omega | (simp only [LnZ]; omega)) [wrap64]
  refine (c_Clip_impl_Transition H).go ?_
  intro v' h2 H
  simp -implicitDefEqProofs (disch := first | omega | (simp only [LnZ]; omega)) [wrap64]
  exact RetK.keep (hk _ _ H)
theorem c_IndexFunc_impl_Transition {h : Heap} {a fv : Value} {x : List Tr} (Ra : Rep h a x) {f : FuncId} {c1 c2 : List Value} (hf : fnOf fv = some (f, c1, c2)) (p : Tr → Bool)
    (hp : ∀ h1, h.le h1 → ∀ (i : Nat) (hi : i < x.length) (u : Value), Rep h1 u x[i] → CallE Tryz.prog f (c1 ++ u :: c2) h1 (fun v h' => h1.le h' ∧ v = .bool (p x[i]))) :
    CallE Tryz.prog fn_slices_IndexFunc_S_impl_Transition_impl_Transition [a, fv] h (fun v h' => h.le h' ∧ v = .int .i64 (match x.findIdx? p with | some i => (i : Int) | none => -1)) := by
  refine CallE.gen fun k hk => EN_slices_IndexFunc_S_impl_Transition_impl_Transition rfl ?_
  have hL := Ra.lt
  simp -implicitDefEqProofs (disch := first | omega | (simp only [LnZ]; omega)) [wrap64, Ra.len]
  refine wp_count x.length (fun i e h' => e = [some a, some fv, none, none, some (.int .i64 x.length), some (.int .i64 i)] ∧ h.le h' ∧ ∀ (j : Nat) (hj : j < x.length), j < i → p x[j] = false) ⟨rfl, Heap.le.refl h, fun j _ hj => absurd hj (Nat.not_lt_zero j)⟩ ?_
  rintro J i _ h1 hJ hi ⟨rfl, hl, hn⟩
  simp -implicitDefEqProofs (disch := first | omega | (simp only [LnZ]; omega)) [wrap64]
  refine IteW.mk (fun hlt => ?_) (fun hge => ?_)
  · have hlx : i < x.length := by omega
    obtain ⟨u, hu, Ru⟩ := (Ra.le hl).ld hlx
    change hload _ (some (elp 4 a i)) (some 4) = some u at hu
    simp -implicitDefEqProofs (disch := first | omega | (simp only [LnZ]; omega)) [wrap64, (Ra.le hl).X (n := 4) rfl, hu, hf]
    refine (hp h1 hl i hlx u Ru).go ?_
    rintro _ h2 ⟨hl2, rfl⟩
    simp -implicitDefEqProofs (disch := first | omega | (simp only [LnZ]; omega)) [wrap64]
    refine IteW.mk (fun hq => ?_) (fun hq => ?_)
    · simp -implicitDefEqProofs (disch := first | omega | (simp only [LnZ]; omega)) [wrap64]
      refine RetK.keep (hk _ _ ⟨hl.trans hl2, ?_⟩)
      have h3 : x.findIdx? p = some i := by
        rw [List.findIdx?_eq_some_iff_getElem]
        exact ⟨hlx, hq, fun j hj => by rw [hn j (by omega) hj]; simp⟩
      rw [h3]
    · simp -implicitDefEqProofs (disch := first | omega | (simp only [LnZ]; omega)) [wrap64]
      refine hJ _ _ hlx ⟨rfl, hl.trans hl2, fun j hj hji => ?_⟩
      by_cases hji2 : j = i
      · subst hji2; simpa using hq
      · exact hn j hj (by omega)
  · simp -implicitDefEqProofs (disch := first | omega | (simp only [LnZ]; omega)) [wrap64]
    refine RetK.keep (hk _ _ ⟨hl, ?_⟩)
    have h3 : x.findIdx? p = none := by
      rw [List.findIdx?_eq_none_iff]
      intro y hy
      obtain ⟨j, hj, rfl⟩ := List.mem_iff_getElem.1 hy
      exact hn j hj (by omega)
    rw [h3]
theorem c_ContainsFunc_impl_Transition {h : Heap} {a fv : Value} {x : List Tr} (Ra : Rep h a x) {f : FuncId} {c1 c2 : List Value} (hf : fnOf fv = some (f, c1, c2)) (p : Tr → Bool)
    (hp : ∀ h1, h.le h1 → ∀ (i : Nat) (hi : i < x.length) (u : Value), Rep h1 u x[i] → CallE Tryz.prog f (c1 ++ u :: c2) h1 (fun v h' => h1.le h' ∧ v = .bool (p x[i]))) :
    CallE Tryz.prog fn_slices_ContainsFunc_S_impl_Transition_impl_Transition [a, fv] h (fun v h' => h.le h' ∧ v = .bool (x.any p)) := by
  refine CallE.gen fun k hk => EN_slices_ContainsFunc_S_impl_Transition_impl_Transition rfl ?_
  simp -implicitDefEqProofs (disch := first | omega | (simp only [LnZ]; omega)) [wrap64]
  refine (c_IndexFunc_impl_Transition Ra hf p hp).go ?_
  rintro _ h1 ⟨hl, rfl⟩
  simp -implicitDefEqProofs (disch := first | omega | (simp only [LnZ]; omega)) [wrap64]
  refine RetK.keep (hk _ _ ⟨hl, ?_⟩)
  congr 1
  rw [← List.findIdx?_isSome]
  cases x.findIdx? p <;> simp
end Go.Proofs.YtglnelcmcimljaaGreat

namespace Go.Proofs.YtglnelcmcimljaaGreat
open Go
theorem empty_ow {g h : Heap} {Γ : List HP} (H : HS g Γ h) : HS g (ow (.agg #[.slice none 0 0, .slice none 0 0, .slice none 0 0]) Aut.empty :: Γ) h :=
  HS.mkAut (a := Aut.empty) H.nil_ow.nil_ow.nil_ow
theorem c_copyOf {h : Heap} {v : Value} {a : Aut} (Ra : Rep h v a) (h1 : a.init.length ≤ 1073741824) (h2 : a.acc.length ≤ 1073741824) (h3 : a.edges.length ≤ 1073741824) : CallE Tryz.prog fn_impl_Automaton_copyOf [v] h (fun v h' => HS h [ow v a] h') := by
  obtain ⟨v1, v2, v3, rfl, R1, R2, R3⟩ := Rep_Aut.1 Ra
  refine CallE.gen fun k hk => EN_impl_Automaton_copyOf rfl ?_
  simp -implicitDefEqProofs (disch := first | omega | (simp only [LnZ]; omega)) [wrap64]
  refine (c_clone_int R1 h1).go ?_
  intro u1 m1 H
  simp -implicitDefEqProofs (disch := first | omega | (simp only [LnZ]; omega)) [wrap64]
  refine (c_clone_bool (R2.on H) h2).go ?_
  intro u2 m2 H2
  have H := H2.app H
  simp -implicitDefEqProofs (disch := first | omega | (simp only [LnZ]; omega)) [wrap64]
  refine (c_clone_impl_Transition (R3.on H) h3).go ?_
  intro u3 m3 H3
  have H := H3.app H
  simp -implicitDefEqProofs (disch := first | omega | (simp only [LnZ]; omega)) [wrap64, H.rep.cells, H.rep.one, H.sw1.rep.cells, H.sw1.rep.one, H.sw2.rep.cells, H.sw2.rep.one, setC]
  exact RetK.keep (hk _ _ (HS.mkAut H.sw1.sw2))
theorem c_in {h : Heap} {n lo hi : Int} : CallE Tryz.prog fn_impl_in [.int .i64 n, .int .i64 lo, .int .i64 hi] h (fun u h' => h' = h ∧ u = .bool (decide (lo ≤ n ∧ n ≤ hi))) := by
  refine CallE.gen fun k hk => EN_impl_in rfl ?_
  by_cases h1 : lo ≤ n
  · simp -implicitDefEqProofs (disch := first | omega | (simp only [LnZ]; omega)) [wrap64, h1]
    exact RetK.keep (hk _ _ ⟨rfl, by simp [h1]⟩)
  · simp -implicitDefEqProofs (disch := first | omega | (simp only [LnZ]; omega)) [wrap64, h1]
    exact RetK.keep (hk _ _ ⟨rfl, by simp [h1]⟩)
theorem c_l7Edge {h : Heap} {v : Value} {t : Tr} (Rt : Rep h v t) {n : Int} : CallE Tryz.prog fn_spec_l7Edge [v, .int .i64 n] h (fun u h' => h' = h ∧ u = .bool (decide (t.Ok n))) := by
  rw [(Rep_Tr.1 Rt).1]
  refine CallE.gen fun k hk => EN_spec_l7Edge rfl ?_
  unfold Tr.Ok at hk
  by_cases h1 : 0 ≤ t.frm
  case neg => simp -implicitDefEqProofs (disch := first | omega | (simp only [LnZ]; omega)) [wrap64, Tr.v, h1]; exact RetK.keep (hk _ _ ⟨rfl, by simp [h1]⟩)
  by_cases h2 : t.frm < n
  case neg => simp -implicitDefEqProofs (disch := first | omega | (simp only [LnZ]; omega)) [wrap64, Tr.v, h1, h2]; exact RetK.keep (hk _ _ ⟨rfl, by simp [h2]⟩)
  by_cases h3 : 0 ≤ t.to
  case neg => simp -implicitDefEqProofs (disch := first | omega | (simp only [LnZ]; omega)) [wrap64, Tr.v, h1, h2, h3]; exact RetK.keep (hk _ _ ⟨rfl, by simp [h3]⟩)
  by_cases h4 : t.to < n
  case neg => simp -implicitDefEqProofs (disch := first | omega | (simp only [LnZ]; omega)) [wrap64, Tr.v, h1, h2, h3, h4]; exact RetK.keep (hk _ _ ⟨rfl, by simp [h4]⟩)
  by_cases h5 : 0 ≤ t.care
  case neg => simp -implicitDefEqProofs (disch := first | omega | (simp only [LnZ]; omega)) [wrap64, Tr.v, h1, h2, h3, h4, h5]; exact RetK.keep (hk _ _ ⟨rfl, by simp [h5]⟩)
  by_cases h6 : t.care ≤ 7
  case neg => simp -implicitDefEqProofs (disch := first | omega | (simp only [LnZ]; omega)) [wrap64, Tr.v, h1, h2, h3, h4, h5, h6]; exact RetK.keep (hk _ _ ⟨rfl, by simp [h6]⟩)
  by_cases h7 : 0 ≤ t.value
  case neg => simp -implicitDefEqProofs (disch := first | omega | (simp only [LnZ]; omega)) [wrap64, Tr.v, h1, h2, h3, h4, h5, h6, h7]; exact RetK.keep (hk _ _ ⟨rfl, by simp [h7]⟩)
  simp -implicitDefEqProofs (disch := first | omega | (simp only [LnZ]; omega)) [wrap64, Tr.v, h1, h2, h3, h4, h5, h6, h7]
  exact RetK.keep (hk _ _ ⟨rfl, by simp [h1, h2, h3, h4, h5, h6, h7]⟩)
end Go.Proofs.YtglnelcmcimljaaGreat

namespace Go.Proofs.YtglnelcmcimljaaGreat
open Go
theorem i64_toInt (x : BitVec 64) : IntKind.i64.wrap (x.toNat : Int) = x.toInt := by
  rw [IntKind.wrap_i64, BitVec.toInt_eq_toNat_bmod, Int.bmod_def]
  have := x.isLt
  split <;> omega
theorem ofInt_toInt {v : Int} (h1 : -9223372036854775808 ≤ v) (h2 : v < 9223372036854775808) : (BitVec.ofInt 64 v).toInt = v := by
  rw [BitVec.toInt_ofInt, Int.bmod_def]; split <;> omega
theorem bits_in {v c : Int} (h1 : -9223372036854775808 ≤ v) (h2 : v < 9223372036854775808) : andNotI .i64 v c = 0 ↔ andI .i64 v c = v := by
  show IntKind.i64.wrap ((BitVec.ofInt 64 v &&& ~~~ BitVec.ofInt 64 c).toNat : Int) = 0 ↔ IntKind.i64.wrap ((BitVec.ofInt 64 v &&& BitVec.ofInt 64 c).toNat : Int) = v
  have hv := ofInt_toInt h1 h2
  rw [i64_toInt, i64_toInt]
  generalize BitVec.ofInt 64 v = x at *
  generalize BitVec.ofInt 64 c = y at *
  subst hv
  rw [BitVec.toInt_inj, show (0 : Int) = (0#64).toInt from rfl, BitVec.toInt_inj]
  constructor
  · intro h
    apply BitVec.eq_of_getLsbD_eq
    intro i hi
    have h3 := congrArg (fun z => z.getLsbD i) h
    simp only [BitVec.getLsbD_and, BitVec.getLsbD_not, hi, decide_true, Bool.true_and, BitVec.getLsbD_zero] at h3
    rw [BitVec.getLsbD_and]
    cases h4 : x.getLsbD i <;> cases h5 : y.getLsbD i <;> simp_all
  · intro h
    apply BitVec.eq_of_getLsbD_eq
    intro i hi
    have h3 := congrArg (fun z => z.getLsbD i) h
    simp only [BitVec.getLsbD_and] at h3
    rw [BitVec.getLsbD_and, BitVec.getLsbD_not, BitVec.getLsbD_zero]
    cases h4 : x.getLsbD i <;> cases h5 : y.getLsbD i <;> simp_all
theorem c_AutomatonValid_1 {h : Heap} {v : Value} {t : Tr} (Rt : Rep h v t) {b : Nat} {n : Int} (hn : 1 ≤ n ∧ n < 4611686018427387904) (hb : hload h (some (.pointer (some ⟨b, 0, none⟩))) none = some (.int .i64 n)) :
    CallE Tryz.prog fn_impl_AutomatonValid_1 [v, .pointer (some ⟨b, 0, none⟩)] h (fun u h' => h' = h ∧ u = .bool (!decide (t.Ok n))) := by
  have ht := (Rep_Tr.1 Rt).2
  rw [(Rep_Tr.1 Rt).1]
  have e0 := ht.value
  refine CallE.gen fun k hk => EN_impl_AutomatonValid_1 rfl ?_
  simp -implicitDefEqProofs (disch := first | omega | (simp only [LnZ]; omega)) [wrap64, Tr.v, hb]
  refine c_in.go ?_
  rintro _ _ ⟨rfl, rfl⟩
  by_cases h1 : 0 ≤ t.frm ∧ t.frm ≤ n - 1
  case neg =>
    simp -implicitDefEqProofs (disch := first | omega | (simp only [LnZ]; omega)) [wrap64, h1]
    have hno : ¬ t.Ok n := fun ho => h1 (by unfold Tr.Ok at ho; omega)
    exact RetK.keep (hk _ _ ⟨rfl, by simp [hno]⟩)
  simp -implicitDefEqProofs (disch := first | omega | (simp only [LnZ]; omega)) [wrap64, h1, hb]
  refine c_in.go ?_
  rintro _ _ ⟨rfl, rfl⟩
  by_cases h2 : 0 ≤ t.to ∧ t.to ≤ n - 1
  case neg =>
    simp -implicitDefEqProofs (disch := first | omega | (simp only [LnZ]; omega)) [wrap64, h2]
    have hno : ¬ t.Ok n := fun ho => h2 (by unfold Tr.Ok at ho; omega)
    exact RetK.keep (hk _ _ ⟨rfl, by simp [hno]⟩)
  simp -implicitDefEqProofs (disch := first | omega | (simp only [LnZ]; omega)) [wrap64, h2]
  refine c_in.go ?_
  rintro _ _ ⟨rfl, rfl⟩
  by_cases h3 : 0 ≤ t.care ∧ t.care ≤ 7
  case neg =>
    simp -implicitDefEqProofs (disch := first | omega | (simp only [LnZ]; omega)) [wrap64, h3]
    have hno : ¬ t.Ok n := fun ho => h3 (by unfold Tr.Ok at ho; omega)
    exact RetK.keep (hk _ _ ⟨rfl, by simp [hno]⟩)
  by_cases h4 : t.value < 0
  case pos =>
    simp -implicitDefEqProofs (disch := first | omega | (simp only [LnZ]; omega)) [wrap64, h3, h4]
    have hno : ¬ t.Ok n := fun ho => by unfold Tr.Ok at ho; omega
    exact RetK.keep (hk _ _ ⟨rfl, by simp [hno]⟩)
  simp -implicitDefEqProofs (disch := first | omega | (simp only [LnZ]; omega)) [wrap64, h3, h4]
  refine RetK.keep (hk _ _ ⟨rfl, ?_⟩)
  have h5 := bits_in (c := t.care) e0.1 e0.2
  by_cases h6 : andNotI .i64 t.value t.care = 0
  · have hyes : t.Ok n := ⟨by omega, by omega, by omega, by omega, by omega, by omega, by omega, h5.1 h6⟩
    simp [h6, hyes]
  · have hno : ¬ t.Ok n := fun h => h6 (h5.2 h.2.2.2.2.2.2.2)
    simp [h6, hno]
theorem drop_cons {α : Type} {l : List α} {i : Nat} (hi : i < l.length) : l.drop i = l[i] :: l.drop (i + 1) := List.drop_eq_getElem_cons hi
theorem incr_cons {n lo x : Int} {l : List Int} : incr n lo (x :: l) ↔ lo < x ∧ x < n ∧ incr n x l := Iff.rfl
theorem c_AutomatonValid {h : Heap} {v : Value} {a : Aut} (Ra : Rep h v a) : CallE Tryz.prog fn_impl_AutomatonValid [v] h (fun u h' => h.le h' ∧ u = .bool (decide a.Ok)) := by
  obtain ⟨v1, v2, v3, rfl, R1, R2, R3⟩ := Rep_Aut.1 Ra
  refine CallE.gen fun k hk => EN_impl_AutomatonValid rfl ?_
  have l1 := R1.lt
  have l2 := R2.lt
  simp -implicitDefEqProofs (disch := first | omega | (simp only [LnZ]; omega)) [wrap64, R1.len, R2.len, R3.len]
  refine HS.init.alloc rfl fun b h1 H => ?_
  simp -implicitDefEqProofs (disch := first | omega | (simp only [LnZ]; omega)) [wrap64]
  refine H.bxst (u := .int .i64 a.acc.length) rfl rfl rfl rfl (by simp) fun h2 H => ?_
  simp only [setC, cells_int, List.take_zero, List.nil_append] at H
  simp -implicitDefEqProofs (disch := first | omega | (simp only [LnZ]; omega)) [wrap64, R1.len, R2.len, R3.len]
  have H : HS h [bx b [.int .i64 a.acc.length]] h2 := H
  refine wp_count a.init.length (fun i e h' => h' = h2 ∧ ∃ last : Int, e = [none, some (.agg #[v1, v2, v3]), none, some (.pointer (some ⟨b, 0, none⟩)), some (.int .i64 last), none, some v1, some (.int .i64 a.init.length), some (.int .i64 i)] ∧
      -1 ≤ last ∧ last < 4611686018427387904 ∧ (incr a.acc.length (-1) a.init ↔ incr a.acc.length last (a.init.drop i))) ⟨rfl, -1, rfl, by omega, by omega, by simp⟩ ?_
  rintro J i _ _ hJ hi ⟨rfl, last, rfl, hl1, hl2, hin⟩
  simp -implicitDefEqProofs (disch := first | omega | (simp only [LnZ]; omega)) [wrap64]
  refine IteW.mk (fun hlt => ?_) (fun hge => ?_)
  · have hlx : i < a.init.length := by omega
    simp -implicitDefEqProofs (disch := first | omega | (simp only [LnZ]; omega)) [wrap64, (R1.on H).I, H.bxld0]
    refine c_in.go ?_
    rintro _ _ ⟨rfl, rfl⟩
    simp -implicitDefEqProofs (disch := first | omega | (simp only [LnZ]; omega)) [wrap64]
    rw [drop_cons hlx, incr_cons] at hin
    refine IteW.mk (fun hn => ?_) (fun hn => ?_)
    · simp -implicitDefEqProofs (disch := first | omega | (simp only [LnZ]; omega)) [wrap64]
      refine RetK.keep (hk _ _ ⟨H.base, ?_⟩)
      have : ¬ a.Ok := by
        intro ho
        have := hin.1 ho.i
        omega
      simp [this]
    · simp -implicitDefEqProofs (disch := first | omega | (simp only [LnZ]; omega)) [wrap64]
      exact hJ _ _ hlx ⟨rfl, _, rfl, by omega, by omega, hin.trans ⟨fun h => h.2.2, fun h => ⟨by omega, by omega, h⟩⟩⟩
  · simp -implicitDefEqProofs (disch := first | omega | (simp only [LnZ]; omega)) [wrap64, H.bxld0]
    have hin : incr a.acc.length (-1) a.init := hin.2 (by rw [List.drop_eq_nil_of_le (by omega)]; trivial)
    refine c_in.go ?_
    rintro _ _ ⟨rfl, rfl⟩
    by_cases hn : 1 ≤ (a.acc.length : Int) ∧ (a.acc.length : Int) ≤ 64
    case neg =>
      simp -implicitDefEqProofs (disch := first | omega | (simp only [LnZ]; omega)) [wrap64, hn]
      refine RetK.keep (hk _ _ ⟨H.base, ?_⟩)
      have : ¬ a.Ok := fun ho => hn (by have := ho.n; omega)
      simp [this]
    by_cases he : (a.edges.length : Int) ≤ 2048
    case neg =>
      simp -implicitDefEqProofs (disch := first | omega | (simp only [LnZ]; omega)) [wrap64, hn, he, R3.len]
      refine RetK.keep (hk _ _ ⟨H.base, ?_⟩)
      have : ¬ a.Ok := fun ho => he (by have := ho.e; omega)
      simp [this]
    simp -implicitDefEqProofs (disch := first | omega | (simp only [LnZ]; omega)) [wrap64, hn, he, R3.len]
    refine (c_ContainsFunc_impl_Transition (R3.on H) (c1 := []) (fnOf_func) (fun t => !decide (t.Ok a.acc.length)) ?_).go ?_
    · intro h3 hl j hj u Ru
      exact (c_AutomatonValid_1 Ru (by omega) (hload_le hl H.bxld0)).to fun _ _ ⟨h4, h5⟩ => ⟨h4 ▸ Heap.le.refl _, h5⟩
    · rintro _ h3 ⟨hl, rfl⟩
      simp -implicitDefEqProofs (disch := first | omega | (simp only [LnZ]; omega)) [wrap64]
      refine RetK.keep (hk _ _ ⟨H.base.trans hl, ?_⟩)
      congr 1
      have hnn : 1 ≤ a.acc.length ∧ a.acc.length ≤ 64 := by omega
      have hee : a.edges.length ≤ 2048 := by omega
      simp only [Aut.Ok, hnn, hee, hin, true_and]
      rw [Bool.eq_iff_iff]
      simp
theorem c_spec_AutomatonValid {h : Heap} {v : Value} {a : Aut} (Ra : Rep h v a) : CallE Tryz.prog fn_spec_AutomatonValid [v] h (fun u h' => h' = h ∧ u = .bool (decide a.Ok)) := by
  obtain ⟨v1, v2, v3, rfl, R1, R2, R3⟩ := Rep_Aut.1 Ra
  refine CallE.gen fun k hk => EN_spec_AutomatonValid rfl ?_
  have l1 := R1.lt
  have l2 := R2.lt
  have l3 := R3.lt
  simp -implicitDefEqProofs (disch := first | omega | (simp only [LnZ]; omega)) [wrap64, R1.len, R2.len, R3.len]
  by_cases h1 : (a.acc.length : Int) < 1
  case pos =>
    simp -implicitDefEqProofs (disch := first | omega | (simp only [LnZ]; omega)) [wrap64, h1]
    have hno : ¬ a.Ok := fun ho => by have := ho.n; omega
    exact RetK.keep (hk _ _ ⟨rfl, by simp [hno]⟩)
  by_cases h2 : 64 < (a.acc.length : Int)
  case pos =>
    simp -implicitDefEqProofs (disch := first | omega | (simp only [LnZ]; omega)) [wrap64, h1, h2]
    have hno : ¬ a.Ok := fun ho => by have := ho.n; omega
    exact RetK.keep (hk _ _ ⟨rfl, by simp [hno]⟩)
  by_cases h3 : (a.acc.length : Int) < a.init.length
  case pos =>
    simp -implicitDefEqProofs (disch := first | omega | (simp only [LnZ]; omega)) [wrap64, h1, h2, R1.len, h3]
    have hno : ¬ a.Ok := fun ho => by
      have h1 := incr_len ho.i (by have := ho.n; omega)
      omega
    exact RetK.keep (hk _ _ ⟨rfl, by simp [hno]⟩)
  by_cases h4 : 2048 < (a.edges.length : Int)
  case pos =>
    simp -implicitDefEqProofs (disch := first | omega | (simp only [LnZ]; omega)) [wrap64, h1, h2, R1.len, h3, R3.len, h4]
    have hno : ¬ a.Ok := fun ho => by have := ho.e; omega
    exact RetK.keep (hk _ _ ⟨rfl, by simp [hno]⟩)
  simp -implicitDefEqProofs (disch := first | omega | (simp only [LnZ]; omega)) [wrap64, h1, h2, R1.len, h3, R3.len, h4]
  refine wp_count a.init.length (fun i e h' => h' = h ∧ e = [none, some (.agg #[v1, v2, v3]), none, some (.int .i64 a.acc.length), some (.int .i64 i), none] ∧
      (incr a.acc.length (-1) a.init ↔ incr a.acc.length (if i = 0 then -1 else a.init.getD (i - 1) 0) (a.init.drop i))) ⟨rfl, rfl, by simp⟩ ?_
  rintro J i _ _ hJ hi ⟨rfl, rfl, hin⟩
  simp -implicitDefEqProofs (disch := first | omega | (simp only [LnZ]; omega)) [wrap64, R1.len]
  refine IteW.mk (fun hlt => ?_) (fun hge => ?_)
  · have hlx : i < a.init.length := by omega
    rw [drop_cons hlx, incr_cons] at hin
    have hgd : a.init.getD (i + 1 - 1) 0 = a.init[i] := by simp [hlx]
    by_cases h5 : a.init[i] < 0
    case pos =>
      simp -implicitDefEqProofs (disch := first | omega | (simp only [LnZ]; omega)) [wrap64, R1.I, h5]
      have hno : ¬ a.Ok := fun ho => by have := ho.im hlx; omega
      exact RetK.keep (hk _ _ ⟨rfl, by simp [hno]⟩)
    by_cases h6 : (a.acc.length : Int) ≤ a.init[i]
    case pos =>
      simp -implicitDefEqProofs (disch := first | omega | (simp only [LnZ]; omega)) [wrap64, R1.I, h5, h6]
      have hno : ¬ a.Ok := fun ho => by have := ho.im hlx; omega
      exact RetK.keep (hk _ _ ⟨rfl, by simp [hno]⟩)
    by_cases h7 : 0 < i
    · have hj : i - 1 < a.init.length := by omega
      have hii : (i : Int) - 1 = ((i - 1 : Nat) : Int) := by omega
      have hw : IntKind.i64.wrap ((i : Int) - 1) = ((i - 1 : Nat) : Int) := by rw [wrap64 (by omega) (by omega), hii]
      have hgd2 : a.init.getD (i - 1) 0 = a.init[i - 1] := by simp [hj]
      rw [if_neg (by omega), hgd2] at hin
      simp -implicitDefEqProofs (disch := first | omega | (simp only [LnZ]; omega)) [wrap64, R1.I, h5, h6, h7, hw]
      refine IteW.mk (fun h8 => ?_) (fun h8 => ?_)
      · simp -implicitDefEqProofs (disch := first | omega | (simp only [LnZ]; omega)) [wrap64]
        have hno : ¬ a.Ok := fun ho => by have := (hin.1 ho.i).1; omega
        exact RetK.keep (hk _ _ ⟨rfl, by simp [hno]⟩)
      · simp -implicitDefEqProofs (disch := first | omega | (simp only [LnZ]; omega)) [wrap64]
        exact hJ _ _ hlx ⟨rfl, rfl, by rw [if_neg (by omega), hgd]; exact hin.trans ⟨fun h => h.2.2, fun h => ⟨by omega, by omega, h⟩⟩⟩
    · have h0 : i = 0 := by omega
      subst h0
      rw [if_pos rfl] at hin
      simp -implicitDefEqProofs (disch := first | omega | (simp only [LnZ]; omega)) [wrap64, R1.I, h5, h6]
      exact hJ _ _ hlx ⟨rfl, rfl, by rw [if_neg (by omega), hgd]; exact hin.trans ⟨fun h => h.2.2, fun h => ⟨by omega, by omega, h⟩⟩⟩
  · have hin : incr a.acc.length (-1) a.init := hin.2 (by rw [List.drop_eq_nil_of_le (by omega)]; trivial)
    simp -implicitDefEqProofs (disch := first | omega | (simp only [LnZ]; omega)) [wrap64]
    refine wp_count a.edges.length (fun i e h' => h' = _ ∧ e = [none, some (.agg #[v1, v2, v3]), none, some (.int .i64 a.acc.length), none, some (.int .i64 i)] ∧
      ∀ (j : Nat) (hj : j < a.edges.length), j < i → a.edges[j].Ok a.acc.length) ⟨rfl, rfl, fun j _ hj => absurd hj (Nat.not_lt_zero j)⟩ ?_
    rintro J i _ _ hJ hi ⟨rfl, rfl, hn⟩
    simp -implicitDefEqProofs (disch := first | omega | (simp only [LnZ]; omega)) [wrap64, R3.len]
    refine IteW.mk (fun hlt => ?_) (fun hge => ?_)
    · have hlx : i < a.edges.length := by omega
      simp -implicitDefEqProofs (disch := first | omega | (simp only [LnZ]; omega)) [wrap64, R3.xTr]
      refine (c_l7Edge (Rep_Tr.2 ⟨rfl, R3.okTr hlx⟩)).go ?_
      rintro _ _ ⟨rfl, rfl⟩
      simp -implicitDefEqProofs (disch := first | omega | (simp only [LnZ]; omega)) [wrap64]
      refine IteW.mkr (fun h8 => ?_) (fun h8 => ?_)
      · simp -implicitDefEqProofs (disch := first | omega | (simp only [LnZ]; omega)) [wrap64]
        have hno : ¬ a.Ok := fun ho => h8 (ho.t hlx)
        exact RetK.keep (hk _ _ ⟨rfl, by simp [hno]⟩)
      · simp -implicitDefEqProofs (disch := first | omega | (simp only [LnZ]; omega)) [wrap64]
        refine hJ _ _ hlx ⟨rfl, rfl, fun j hj hji => ?_⟩
        by_cases hji2 : j = i
        · subst hji2; exact h8
        · exact hn j hj (by omega)
    · simp -implicitDefEqProofs (disch := first | omega | (simp only [LnZ]; omega)) [wrap64]
      have hyes : a.Ok := ⟨by omega, by omega, hin, fun t ht => by
        obtain ⟨j, hj, rfl⟩ := List.mem_iff_getElem.1 ht
        exact hn j hj (by omega)⟩
      exact RetK.keep (hk _ _ ⟨rfl, by simp [hyes]⟩)
end Go.Proofs.YtglnelcmcimljaaGreat

namespace Go.Proofs.YtglnelcmcimljaaGreat
open Go
section
variable {α : Type} [Ty α] {g h : Heap} {Γ : List HP} {v u : Value} {l : List α}
theorem HS.cut (H : HS g (ow v l :: Γ) h) {n esz : Nat} {k : IntKind} (hn : n ≤ l.length) : ∃ v', sliceVV esz v none (some (some (.int k n))) none = some v' ∧ HS g (ow v' (l.take n) :: Γ) h := by
  obtain ⟨g', r, rfl, d, O, H⟩ := H
  rcases Own_list.1 O with ⟨p, rfl, rfl, rfl, hp⟩ | ⟨b, off, cap, cells, el, r', rfl, ⟨h1, hM⟩, h2, rfl, h4, h5⟩
  · have hn0 : n = 0 := by simpa using hn
    subst hn0
    exact ⟨.slice p 0 0, by simp [sliceVV, bndV], g', Heap.nil, rfl, d, Own_list.2 (.inl ⟨p, rfl, by simp, rfl, hp⟩), H⟩
  · rw [← List.take_append_drop n l] at h5
    obtain ⟨r1, r2, rfl, d2, h6, h7⟩ := ownL_split h5
    obtain ⟨d3, d4⟩ := Dj_add.1 d
    obtain ⟨d5, d6⟩ := Dj_add.1 d4
    obtain ⟨n1, n2⟩ : r1 b = none ∧ r2 b = none := by simpa [Heap.add] using h4
    refine ⟨.slice (some ⟨b, off, none⟩) n cap, ?_, g'.add r2, (Heap.one b (.cells cells.toArray el (0, 0))).add r1, by ac_rfl, ?_, ?_, H.le (le_add d6)⟩
    · have : n ≤ cap := by omega
      simp [sliceVV, bndV, add_none, this]
    · exact Dj_add.2 ⟨add_Dj.2 ⟨d3, (Dj_one.2 n2)⟩, add_Dj.2 ⟨d5, d2.symm⟩⟩
    · have hl : (l.take n).length = n := by simp; omega
      exact Own_list.2 (.inr ⟨b, off, cap, cells, el, r1, by rw [hl], ⟨by omega, by omega⟩, h2, rfl, n1, h6⟩)
end
theorem c_Index_int {h : Heap} {a : Value} {x : List Int} (Ra : Rep h a x) {n : Int} : CallE Tryz.prog fn_slices_Index_S_int_int [a, .int .i64 n] h (fun v h' => h' = h ∧ ∃ r : Int, v = .int .i64 r ∧ (0 ≤ r ↔ n ∈ x)) := by
  refine CallE.gen fun k hk => EN_slices_Index_S_int_int rfl ?_
  have hL := Ra.lt
  simp -implicitDefEqProofs (disch := first | omega | (simp only [LnZ]; omega)) [wrap64, Ra.len]
  refine wp_count x.length (fun i e h' => e = [some a, some (.int .i64 n), none, none, some (.int .i64 x.length), some (.int .i64 i)] ∧ h' = h ∧ ∀ (j : Nat) (hj : j < x.length), j < i → x[j] ≠ n) ⟨rfl, rfl, fun j _ hj => absurd hj (Nat.not_lt_zero j)⟩ ?_
  rintro J i _ h1 hJ hi ⟨rfl, rfl, hn⟩
  simp -implicitDefEqProofs (disch := first | omega | (simp only [LnZ]; omega)) [wrap64]
  refine IteW.mk (fun hlt => ?_) (fun hge => ?_)
  · have hlx : i < x.length := by omega
    simp -implicitDefEqProofs (disch := first | omega | (simp only [LnZ]; omega)) [wrap64, Ra.I]
    refine IteW.mk (fun hq => ?_) (fun hq => ?_)
    · simp -implicitDefEqProofs (disch := first | omega | (simp only [LnZ]; omega)) [wrap64]
      exact RetK.keep (hk _ _ ⟨rfl, i, rfl, by simp only [Int.natCast_nonneg, true_iff]; rw [hq]; exact List.getElem_mem hlx⟩)
    · simp -implicitDefEqProofs (disch := first | omega | (simp only [LnZ]; omega)) [wrap64]
      refine hJ _ _ hlx ⟨rfl, rfl, fun j hj hji => ?_⟩
      by_cases hji2 : j = i
      · subst hji2; exact fun e => hq e.symm
      · exact hn j hj (by omega)
  · simp -implicitDefEqProofs (disch := first | omega | (simp only [LnZ]; omega)) [wrap64]
    refine RetK.keep (hk _ _ ⟨rfl, -1, rfl, ?_⟩)
    simp only [show ¬ (0 : Int) ≤ -1 by decide, false_iff]
    intro hm
    obtain ⟨j, hj, h1⟩ := List.mem_iff_getElem.1 hm
    exact hn j hj (by omega) h1
theorem c_Contains_int {h : Heap} {a : Value} {x : List Int} (Ra : Rep h a x) {n : Int} : CallE Tryz.prog fn_slices_Contains_S_int_int [a, .int .i64 n] h (fun v h' => h' = h ∧ v = .bool (decide (n ∈ x))) := by
  refine CallE.gen fun k hk => EN_slices_Contains_S_int_int rfl ?_
  simp -implicitDefEqProofs (disch := first | omega | (simp only [LnZ]; omega)) [wrap64]
  refine (c_Index_int Ra).go ?_
  rintro _ h1 ⟨rfl, r, rfl, hr⟩
  simp -implicitDefEqProofs (disch := first | omega | (simp only [LnZ]; omega)) [wrap64]
  exact RetK.keep (hk _ _ ⟨rfl, by congr 1; rw [Bool.eq_iff_iff]; simp [hr]⟩)
end Go.Proofs.YtglnelcmcimljaaGreat

namespace Go.Proofs.YtglnelcmcimljaaGreat
open Go
theorem take_mem_succ {α : Type} {l : List α} {i : Nat} (hi : i < l.length) {x : α} : x ∈ l.take (i + 1) ↔ x ∈ l.take i ∨ x = l[i] := by
  rw [List.take_add_one, List.getElem?_eq_getElem hi]
  simp only [Option.toList_some, List.mem_append, List.mem_singleton]
theorem snoc_of {α : Type} {l : List α} (h : 0 < l.length) : ∃ l' x, l = l' ++ [x] := by
  refine ⟨l.dropLast, l.getLast (List.ne_nil_of_length_pos h), ?_⟩
  exact (List.dropLast_concat_getLast _).symm
theorem c_reachable {h : Heap} {w s : Value} {G : List (List Int)} {S : List Int} {E : Nat → Nat → Prop} (Rw : Rep h w G) (Rs : Rep h s S) (hG : Adj E G) (hS : ∀ z ∈ S, 0 ≤ z ∧ z < G.length) (hSl : S.length ≤ 1048576) (hGl : G.length ≤ 1048576) :
    CallE Tryz.prog fn_impl_reachable [w, s] h (fun u h' => ∃ B : List Bool, HS h [ow u B] h' ∧ B.length = G.length ∧ ∀ x, tru B x ↔ ∃ z : Nat, (z : Int) ∈ S ∧ Rch E z x) := by
  refine CallE.gen fun k hk => EN_impl_reachable rfl ?_
  simp -implicitDefEqProofs (disch := first | omega | (simp only [LnZ]; omega)) [wrap64, Rw.len]
  refine HS.init.mks (α := Bool) (z := false) rfl rfl own_false (Nat.le_refl _) (by omega) (by omega) fun b h1 H => ?_
  simp -implicitDefEqProofs (disch := first | omega | (simp only [LnZ]; omega)) [wrap64]
  refine (c_clone_int (Rs.on H) (by omega)).go ?_
  intro t0 h2 H2
  have H := H2.app H
  simp -implicitDefEqProofs (disch := first | omega | (simp only [LnZ]; omega)) [wrap64, (Rs.on H).len]
  refine wp_count S.length (fun i e h' => ∃ B, e = [some w, none, none, some b, some t0, none, none, none, some s, some (.int .i64 S.length), some (.int .i64 i), none, none, none] ∧ HS h [ow t0 S, ow b B] h' ∧ B.length = G.length ∧ ∀ x, tru B x ↔ (x : Int) ∈ S.take i) ⟨_, by simp, H, by simp, fun x => by simp [tru_replicate]⟩ ?_
  rintro J i _ h3 hJ hi ⟨B, rfl, H, hBl, hB⟩
  simp -implicitDefEqProofs (disch := first | omega | (simp only [LnZ]; omega)) [wrap64]
  refine IteW.mk (fun hlt => ?_) (fun hge => ?_)
  · have hlx : i < S.length := by omega
    have hz := hS _ (List.getElem_mem hlx)
    obtain ⟨z, hz2⟩ : ∃ z : Nat, S[i] = z := ⟨S[i].toNat, by omega⟩
    have H := H.sw1
    have hzB : z < B.length := by omega
    simp -implicitDefEqProofs (disch := first | omega | (simp only [LnZ]; omega)) [wrap64, (Rs.on H).I, hz2, H.rep.B]
    refine H.storeF true (i := z) hzB rfl rfl trivial rfl fun h4 H => ?_
    simp -implicitDefEqProofs (disch := first | omega | (simp only [LnZ]; omega)) [wrap64]
    refine hJ _ _ hlx ⟨_, rfl, H.sw1, by simpa using hBl, fun x => ?_⟩
    rw [tru_set hzB, hB, take_mem_succ hlx, hz2]
    exact or_congr Iff.rfl (by omega)
  simp -implicitDefEqProofs (disch := first | omega | (simp only [LnZ]; omega)) [wrap64]
  rw [List.take_of_length_le (by omega)] at hB
  have hI : Srch E (fun z => (z : Int) ∈ S) (tru B) (fun z => (z : Int) ∈ S) := Srch.init hB fun _ h => h
  have hcl := List.count_le_length (a := false) (l := B)
  refine wp_while (σ := List Bool × List Int) (fun s e h' => ∃ t, e = [some w, none, none, some b, some t, none, none, none, none, none, none, none, none, none] ∧
      HS h [ow t s.2, ow b s.1] h' ∧ s.1.length = G.length ∧ Srch E (fun z => (z : Int) ∈ S) (tru s.1) (fun z => (z : Int) ∈ s.2) ∧ (∀ z ∈ s.2, ∃ q : Nat, z = q ∧ tru s.1 q) ∧ s.2.length + s.1.count false ≤ S.length + G.length)
    (fun s => s.2.length + s.1.count false) (B, S) ⟨t0, by simp, H, hBl, hI, fun z hz => ⟨z.toNat, by have := hS z hz; omega, by rw [hB]; have := hS z hz; rwa [Int.toNat_of_nonneg this.1]⟩, by dsimp only; omega⟩ ?_
  rintro J ⟨B, T⟩ _ h4 hJ ⟨t, rfl, H, hBl, hI, hT, hm⟩
  dsimp only at H hBl hI hT hm
  simp -implicitDefEqProofs (disch := first | omega | (simp only [LnZ]; omega)) [wrap64, H.rep.len]
  refine IteW.mkr (fun h0 => ?_) (fun h0 => ?_)
  · simp -implicitDefEqProofs (disch := first | omega | (simp only [LnZ]; omega)) [wrap64]
    have hT0 : T = [] := List.eq_nil_of_length_eq_zero (by omega)
    subst hT0
    exact RetK.keep (hk _ _ ⟨B, H.drop, hBl, fun x => hI.done (by simp)⟩)
  obtain ⟨T, x, rfl⟩ := snoc_of (l := T) (by omega)
  obtain ⟨q, rfl, hq⟩ := hT x (by simp)
  have hqG : q < G.length := by rw [← hBl]; exact tru_lt hq
  obtain ⟨t', ht', H'⟩ := H.cut (n := T.length) (esz := 1) (k := .i64) (by simp)
  have hTl : T.length < 4611686018427387904 := by have := H.rep.lt; simp at this; omega
  rw [List.take_left' rfl] at H'
  obtain ⟨u, hu0, Ru⟩ := Rw.ldL hqG
  have hu := hload_le H.base hu0
  have hul := Ru.lt
  have hlen1 : (T ++ [(q : Int)]).length = T.length + 1 := by simp
  have hi1 : IntKind.i64.wrap ((T.length : Int) + 1 - 1) = T.length := by rw [wrap64 (by omega) (by omega)]; omega
  simp -implicitDefEqProofs (disch := first | omega | (simp only [LnZ]; omega)) [wrap64, H.rep.I, hlen1, hi1, ht', (Rw.on H').X (n := 1) rfl, hu, Ru.len]
  have hlt0 := hm
  obtain ⟨m, hmm⟩ : ∃ m, m = T.length + 1 + B.count false := ⟨_, rfl⟩
  refine wp_count G[q].length (fun j e h' => ∃ (t : Value) (B : List Bool) (T' : List Int), e = [some w, none, none, some b, some t, none, none, none, none, none, none, some u, some (.int .i64 G[q].length), some (.int .i64 j)] ∧
      HS h [ow t T', ow b B] h' ∧ B.length = G.length ∧ Srch E (fun z => (z : Int) ∈ S) (tru B) (fun z => (z : Int) ∈ T' ∨ z = q) ∧ tru B q ∧ (∀ z ∈ T', ∃ q : Nat, z = q ∧ tru B q) ∧ T'.length + 1 + B.count false = m ∧
      ∀ j' (hj' : j' < G[q].length), j' < j → ∀ y : Nat, G[q][j'] = y → tru B y) ⟨t', B, T, by simp, H', hBl, hI.congr (fun _ => Iff.rfl) (fun z => by simp [Int.ofNat_inj]), hq, fun z hz => hT z (by simp [hz]), hmm.symm, fun j' _ hj' => absurd hj' (Nat.not_lt_zero j')⟩ ?_
  rintro J2 j _ h5 hJ2 hj ⟨t2, B2, T2, rfl, H, hBl2, hI2, hq2, hT2, hm2, hpr⟩
  simp -implicitDefEqProofs (disch := first | omega | (simp only [LnZ]; omega)) [wrap64]
  refine IteW.mk (fun hlt2 => ?_) (fun hge2 => ?_)
  · have hjl : j < G[q].length := by omega
    obtain ⟨y, hy, hxy, hyG⟩ := hG.get hqG hjl
    have H := H.sw1
    have hyB : y < B2.length := by omega
    have hpr2 : ∀ B3, tru B3 y → (∀ z, tru B2 z → tru B3 z) → ∀ j' (hj' : j' < G[q].length), j' < j + 1 → ∀ y : Nat, G[q][j'] = y → tru B3 y := by
      intro B3 h1 h2 j' hj' hlt y' hy'
      by_cases e : j' = j
      · subst e
        rw [hy] at hy'
        obtain rfl : y = y' := by omega
        exact h1
      · exact h2 _ (hpr j' hj' (by omega) y' hy')
    by_cases hb : B2[y] = true
    · simp -implicitDefEqProofs (disch := first | omega | (simp only [LnZ]; omega)) [wrap64, (Ru.on H).I, hy, H.rep.B, hb]
      exact hJ2 _ _ hjl ⟨t2, B2, T2, rfl, H.sw1, hBl2, hI2, hq2, hT2, hm2, hpr2 _ ((tru_get hyB).2 hb) fun _ h => h⟩
    · have hb' : B2[y] = false := by simpa using hb
      simp -implicitDefEqProofs (disch := first | omega | (simp only [LnZ]; omega)) [wrap64, (Ru.on H).I, hy, H.rep.B, hb']
      refine H.storeF true (i := y) hyB rfl rfl trivial rfl fun h6 H => ?_
      have hcs := count_set hyB hb'
      simp -implicitDefEqProofs (disch := first | omega | (simp only [LnZ]; omega)) [wrap64]
      refine H.sw1.app1 (y : Int) rfl rfl rfl ⟨by omega, by omega⟩ rfl rfl (by omega) (by omega) fun t3 h7 H => ?_
      simp -implicitDefEqProofs (disch := first | omega | (simp only [LnZ]; omega)) [wrap64]
      refine hJ2 _ _ hjl ⟨t3, _, _, rfl, H, by simpa using hBl2, hI2.add (x := q) (y := y) hq2 hxy (fun z => tru_set hyB) (fun z => ?_), (tru_set hyB).2 (.inl hq2), ?_, ?_, hpr2 _ ((tru_set hyB).2 (.inr rfl)) fun z hz => (tru_set hyB).2 (.inl hz)⟩
      · simp only [List.mem_append, List.mem_singleton]
        constructor
        · rintro ((h | h) | h)
          · exact .inl (.inl h)
          · exact .inr (by omega)
          · exact .inl (.inr h)
        · rintro ((h | h) | h)
          · exact .inl (.inl h)
          · exact .inr h
          · exact .inl (.inr (by omega))
      · intro z hz
        rcases List.mem_append.1 hz with hz | hz
        · obtain ⟨p, h1, h2⟩ := hT2 z hz
          exact ⟨p, h1, (tru_set hyB).2 (.inl h2)⟩
        · exact ⟨y, by simpa using hz, (tru_set hyB).2 (.inr rfl)⟩
      · simp; omega
  · simp -implicitDefEqProofs (disch := first | omega | (simp only [LnZ]; omega)) [wrap64]
    refine hJ (B2, T2) _ _ ?_ ⟨t2, rfl, H, hBl2, hI2.drop (x := q) (fun y hxy => ?_) (fun z hz => hz), hT2, ?_⟩
    · dsimp only; rw [hlen1]; omega
    · exact hG.all hqG (C := tru B2) (fun j' hj' y hy => hpr j' hj' (by omega) y hy) hxy
    · dsimp only at hm ⊢; rw [hlen1] at hm; omega
end Go.Proofs.YtglnelcmcimljaaGreat

namespace Go.Proofs.YtglnelcmcimljaaGreat
open Go
structure LpI (E : Nat → Nat → Prop) (n q : Nat) (B : List Bool) (Q : List Int) (i : Nat) : Prop where
  len : B.length = n
  size : Q.length + 2048 * B.count false ≤ 2048 * (n + 1)
  le : i ≤ Q.length
  snd : ∀ z ∈ Q, ∃ p : Nat, z = p ∧ p < n ∧ ∃ y, E q y ∧ Rch E y p
  start : ∀ y, E q y → (y : Int) ∈ Q
  seen : ∀ x, tru B x → ∀ y, E x y → (y : Int) ∈ Q
  past : ∀ j (hj : j < Q.length), j < i → Q[j] ≠ q ∧ tru B Q[j].toNat
theorem LpI.done {E : Nat → Nat → Prop} {n q : Nat} {B : List Bool} {Q : List Int} {i : Nat} (h : LpI E n q B Q i) (hi : Q.length ≤ i) : ¬ Cyc E q := by
  rintro ⟨y, h1, h2⟩
  have hm : ((q : Nat) : Int) ∈ Q := by
    refine h2.closed (C := fun x => (x : Int) ∈ Q) (fun u v hu huv => ?_) (h.start y h1)
    obtain ⟨j, hj, h3⟩ := List.mem_iff_getElem.1 hu
    have h4 := (h.past j hj (by omega)).2
    rw [h3] at h4
    exact h.seen u h4 v huv
  obtain ⟨j, hj, h3⟩ := List.mem_iff_getElem.1 hm
  exact (h.past j hj (by omega)).1 h3
end Go.Proofs.YtglnelcmcimljaaGreat

namespace Go.Proofs.YtglnelcmcimljaaGreat
open Go
def gd (l : List Int) : Nat → Int := fun x => l.getD x 0
theorem gd_get {l : List Int} {i : Nat} (hi : i < l.length) : gd l i = l[i] := by simp [gd, hi]
theorem gd_set {l : List Int} {i : Nat} {v : Int} (hi : i < l.length) : gd (l.set i v) = fput (gd l) i v := by
  funext x
  simp only [gd, fput, List.getD_eq_getElem?_getD, List.getElem?_set]
  by_cases h : i = x
  · subst h; simp [hi]
  · simp [h, Ne.symm h]
theorem ite_min {a b : Int} : (if b < a then b else a) = min a b := by
  split <;> omega
def unv (n : Nat) (f : Nat → Int) : Nat := ((List.range n).filter fun x => decide (x < n ∧ f x = 0)).length
theorem unv_lt {n : Nat} {f f' : Nat → Int} {a : Nat} (ha : a < n) (h0 : f a = 0) (h1 : f' a ≠ 0) (h : ∀ x, x < n → f x ≠ 0 → f' x ≠ 0) : unv n f' < unv n f := by
  refine filter_lt_of ?_ ⟨a, by simpa using ha, by simp [h1], by simp [h0, ha]⟩
  intro x hx2
  simp at hx2 ⊢
  exact ⟨hx2.1, Classical.byContradiction fun hn => h x hx2.1 hn hx2.2⟩
@[reducible] def FB (bN bL bQ bG bV : Nat) (vn vl vq w fv : Value) (h : Heap) : Prop := hload h (some (.pointer (some ⟨bN, 0, none⟩))) none = some vn ∧ hload h (some (.pointer (some ⟨bL, 0, none⟩))) none = some vl ∧ hload h (some (.pointer (some ⟨bQ, 0, none⟩))) none = some vq ∧
  hload h (some (.pointer (some ⟨bG, 0, none⟩))) none = some w ∧ hload h (some (.pointer (some ⟨bV, 0, none⟩))) none = some fv
theorem FB.on {bN bL bQ bG bV : Nat} {vn vl vq w fv : Value} {g h : Heap} {Γ : List HP} (F : FB bN bL bQ bG bV vn vl vq w fv g) (H : HS g Γ h) : FB bN bL bQ bG bV vn vl vq w fv h :=
  ⟨hload_le H.base F.1, hload_le H.base F.2.1, hload_le H.base F.2.2.1, hload_le H.base F.2.2.2.1, hload_le H.base F.2.2.2.2⟩
@[reducible] def CHs (vn vl vq : Value) (bS bC bP : Nat) (vs : Value) (N L Q : List Int) (s : TS) : List HP :=
  [ow vn N, ow vl L, ow vq Q, ow vs (s.stk.map Int.ofNat), bx bS [vs], bx bC [.int .i64 s.cnt], bx bP [.int .i64 s.prt]]
structure CHl (n : Nat) (N L Q : List Int) (s : TS) : Prop where
  hN : N.length = n
  hL : L.length = n
  hQ : Q.length = n
  num : s.num = gd N
  low : s.low = gd L
  part : s.part = gd Q
  cnt : s.cnt + unv n s.num ≤ n
def CH (g : Heap) (vn vl vq : Value) (bS bC bP n : Nat) (s : TS) (h : Heap) : Prop := ∃ (N L Q : List Int) (vs : Value), CHl n N L Q s ∧ HS g (CHs vn vl vq bS bC bP vs N L Q s) h
theorem TL.mono {n : Nat} {E : Nat → Nat → Prop} {gr sc sc' : Nat → Prop} {s s1 : TS} {a : Nat} (h : TL n E gr s a sc s1) (hs : ∀ y, sc' y → sc y) : TL n E gr s a sc' s1 :=
  ⟨h.inv, h.num, h.part, h.stk, h.na, h.cnt, h.fresh, h.black, h.lowa, h.low, h.min, fun y hy => h.proc y (hs y hy)⟩
def topv (C : List Nat) (m : Nat) : Int := if h : m < C.length then (C[m] : Int) else -1
set_option maxHeartbeats 4000000 in
theorem c_visit {g : Heap} {bN bL bQ bG bV bS bC bP n : Nat} {vn vl vq w fv : Value} {G : List (List Int)} {E : Nat → Nat → Prop} (F : FB bN bL bQ bG bV vn vl vq w fv g) (Rw : Rep g w G) (hG : Adj E G) (hn : G.length = n) (hnl : n ≤ 1048576)
    (hfv : fnOf fv = some (fn_impl_components_1, [], [.pointer (some ⟨bC, 0, none⟩), .pointer (some ⟨bN, 0, none⟩), .pointer (some ⟨bL, 0, none⟩), .pointer (some ⟨bS, 0, none⟩), .pointer (some ⟨bG, 0, none⟩), .pointer (some ⟨bV, 0, none⟩), .pointer (some ⟨bQ, 0, none⟩), .pointer (some ⟨bP, 0, none⟩)])) :
    ∀ (m : Nat) (gr : Nat → Prop) (s : TS) (a : Nat) (h : Heap), unv n s.num = m → CH g vn vl vq bS bC bP n s h → TI n E gr s → a < n → s.num a = 0 → (∀ g, gr g → g ∈ s.stk → Rch E g a) → (∀ g, gr g → g < n ∧ s.num g ≠ 0) →
    CallE Tryz.prog fn_impl_components_1 [.int .i64 a, .pointer (some ⟨bC, 0, none⟩), .pointer (some ⟨bN, 0, none⟩), .pointer (some ⟨bL, 0, none⟩), .pointer (some ⟨bS, 0, none⟩), .pointer (some ⟨bG, 0, none⟩), .pointer (some ⟨bV, 0, none⟩), .pointer (some ⟨bQ, 0, none⟩), .pointer (some ⟨bP, 0, none⟩)] h
      (fun u h' => ∃ s', CH g vn vl vq bS bC bP n s' h' ∧ TV n E gr s a s') := by
  intro m
  induction m using Nat.strongRecOn with
  | ind m ih =>
  rintro gr s a h hm ⟨N, L, Q, vs, hl, H⟩ hI han ha0 hg1 hg2
  have hE : ∀ x y, E x y → x < n ∧ y < n := fun x y hxy => hn ▸ hG.lt x y hxy
  have hc := hI.cnt
  have hcn := hl.cnt
  have hNl := hl.hN
  have hLl := hl.hL
  have hQl := hl.hQ
  have haG : a < G.length := by omega
  obtain ⟨u, hu0, Ru⟩ := Rw.ldL haG
  have hul := Ru.lt
  refine CallE.gen fun k hk => EN_impl_components_1 rfl ?_
  simp -implicitDefEqProofs (disch := first | omega | (simp only [LnZ]; omega)) [wrap64, H.sw5.bxld0]
  refine H.sw5.bxst (u := .int .i64 (s.cnt + 1)) rfl rfl rfl rfl (by simp) fun h1 H => ?_
  simp only [setC, cells_int, List.take_zero, List.nil_append] at H
  have H : HS g (bx bC [.int .i64 (s.cnt + 1)] :: ow vn N :: ow vl L :: ow vq Q :: ow vs (s.stk.map Int.ofNat) :: bx bS [vs] :: [bx bP [.int .i64 s.prt]]) h1 := H
  have H := H.bk5
  simp -implicitDefEqProofs (disch := first | omega | (simp only [LnZ]; omega)) [wrap64, F.on H, H.sw5.bxld0, H.rep.I]
  refine H.storeF (s.cnt + 1) (i := a) (by omega) rfl rfl ⟨by omega, by omega⟩ rfl fun h2 H => ?_
  have H := H.sw1
  simp -implicitDefEqProofs (disch := first | omega | (simp only [LnZ]; omega)) [wrap64, F.on H, H.sw5.bxld0, H.rep.I]
  refine H.storeF (s.cnt + 1) (i := a) (by omega) rfl rfl ⟨by omega, by omega⟩ rfl fun h3 H => ?_
  have H := H.sw1
  simp -implicitDefEqProofs (disch := first | omega | (simp only [LnZ]; omega)) [wrap64, F.on H, H.sw4.bxld0]
  refine H.sw3.app1 (a : Int) rfl rfl rfl ⟨by omega, by omega⟩ rfl rfl (by simp; omega) (by simp; omega) fun vs1 h4 H => ?_
  have H := H.bk3
  simp -implicitDefEqProofs (disch := first | omega | (simp only [LnZ]; omega)) [wrap64, F.on H]
  refine H.sw4.bxst (u := vs1) rfl rfl (by rw [H.sw3.rep.cells]; rfl) (by rw [H.sw3.rep.cells]; simp [H.sw3.rep.one]) (by simp [H.sw3.rep.cells]) fun h5 H => ?_
  have H : HS g [ow vn (N.set a (s.cnt + 1)), ow vl (L.set a (s.cnt + 1)), ow vq Q, ow vs1 ((s.push a).stk.map Int.ofNat), bx bS [vs1], bx bC [.int .i64 (s.cnt + 1)], bx bP [.int .i64 s.prt]] h5 := by
    simpa [setC, H.sw4.rep.cells, TS.push] using H.bk4
  have hl1 : CHl n (N.set a (s.cnt + 1)) (L.set a (s.cnt + 1)) Q (s.push a) := by
    refine ⟨by simpa using hNl, by simpa using hLl, hQl, by rw [gd_set (by omega), ← hl.num]; rfl, by rw [gd_set (by omega), ← hl.low]; rfl, hl.part, ?_⟩
    have h1 : unv n (s.push a).num < unv n s.num := by
      refine unv_lt han ha0 (by simp [TS.push]; omega) fun x hx hx0 => ?_
      by_cases e : x = a
      · exact absurd ha0 (e ▸ hx0)
      · simp only [TS.push, fput_ne e]; exact hx0
    show s.cnt + 1 + (unv n (s.push a).num : Int) ≤ n
    omega
  have hT := TL.start hE hI han ha0 hg1
  simp -implicitDefEqProofs (disch := first | omega | (simp only [LnZ]; omega)) [wrap64, F.on H, (Rw.on H).X (n := 1) rfl, hload_le H.base hu0, Ru.len]
  refine wp_count G[a].length (fun j e h' => e = [some (.int .i64 a), none, some (.pointer (some ⟨bN, 0, none⟩)), some (.pointer (some ⟨bL, 0, none⟩)), some (.pointer (some ⟨bS, 0, none⟩)), none, some (.pointer (some ⟨bV, 0, none⟩)), some (.pointer (some ⟨bQ, 0, none⟩)), some (.pointer (some ⟨bP, 0, none⟩)), none, none, some u, some (.int .i64 G[a].length), some (.int .i64 j)] ∧
    ∃ s1, CH g vn vl vq bS bC bP n s1 h' ∧ TL n E gr s a (fun y => ∃ (j' : Nat) (hj' : j' < G[a].length), j' < j ∧ G[a][j'] = y) s1) ⟨by simp, _, ⟨_, _, _, _, hl1, H⟩, hT.mono fun y ⟨_, _, h0, _⟩ => absurd h0 (Nat.not_lt_zero _)⟩ ?_
  clear hl1 hT H hl
  rintro J j _ h6 hJ hj ⟨rfl, s1, ⟨N, L, Q, vs, hl, H⟩, hT⟩
  have hNl := hl.hN
  have hLl := hl.hL
  have hQl := hl.hQ
  simp -implicitDefEqProofs (disch := first | omega | (simp only [LnZ]; omega)) [wrap64]
  refine IteW.mk (fun hlt => ?_) (fun hge => ?_)
  · have hjl : j < G[a].length := by omega
    obtain ⟨y, hy, hxy, hyG⟩ := hG.get haG hjl
    have hyn : y < n := by omega
    have hsc : ∀ z : Nat, (∃ (j' : Nat) (hj' : j' < G[a].length), j' < j + 1 ∧ G[a][j'] = z) → (∃ (j' : Nat) (hj' : j' < G[a].length), j' < j ∧ G[a][j'] = z) ∨ z = y := by
      rintro z ⟨j', hj', h1, h2⟩
      by_cases e : j' = j
      · subst e; exact .inr (by omega)
      · exact .inl ⟨j', hj', by omega, h2⟩
    have hNy : s1.num y = N[y]'(by omega) := by rw [hl.num, gd_get]
    have hQy : s1.part y = Q[y]'(by omega) := by rw [hl.part, gd_get]
    have hLa : s1.low a = L[a]'(by omega) := by rw [hl.low, gd_get]
    by_cases hy0 : N[y]'(by omega) = 0
    · have hy0' : s1.num y = 0 := by rw [hNy, hy0]
      have hgray := hT.gray hxy hI hg2 han
      have hlt2 : unv n s1.num < m := by
        rw [← hm]
        refine unv_lt han ha0 (by rw [hT.na]; omega) fun x hx hx0 => ?_
        rw [(hT.num x hx hx0).1]; exact hx0
      simp -implicitDefEqProofs (disch := first | omega | (simp only [LnZ]; omega)) [wrap64, (Ru.on H).I, hy, F.on H, H.rep.I, hy0, hfv]
      refine (ih (unv n s1.num) hlt2 _ s1 y _ rfl ⟨N, L, Q, vs, hl, H⟩ hT.inv hyn hy0' hgray.1 hgray.2.1).go ?_
      clear H hl hNy hQy hLa
      rintro u' h7 ⟨s2, ⟨N2, L2, Q2, vs2, hl, H⟩, hV⟩
      have hLl2 := hl.hL
      have hLa : L2[a]'(by omega) = s2.low a := by rw [hl.low, gd_get]
      have hLy : L2[y]'(by omega) = s2.low y := by rw [hl.low, gd_get]
      have H := H.sw1
      have hla := H.rep.okI (i := a) (by omega)
      have hly := H.rep.okI (i := y) (by omega)
      simp -implicitDefEqProofs (disch := first | omega | (simp only [LnZ]; omega)) [wrap64, F.on H, H.rep.I, ite_min]
      refine H.storeF (min (L2[a]'(by omega)) (L2[y]'(by omega))) (i := a) (by omega) rfl rfl ⟨by omega, by omega⟩ rfl fun h8 H => ?_
      simp -implicitDefEqProofs (disch := first | omega | (simp only [LnZ]; omega)) [wrap64]
      refine hJ _ _ hjl ⟨rfl, s2.lower a (s2.low y), ⟨N2, L2.set a (min (L2[a]'(by omega)) (L2[y]'(by omega))), Q2, vs2, ⟨hl.hN, by simpa using hLl2, hl.hQ, hl.num, ?_, hl.part, hl.cnt⟩, H.sw1⟩, (hT.visit hxy hE ha0 hI hy0' hV).mono hsc⟩
      rw [gd_set (by omega), ← hl.low, hLa, hLy]
      rfl
    · have hy0' : s1.num y ≠ 0 := by rw [hNy]; exact hy0
      by_cases hp : Q[y]'(by omega) < 0
      · have hl2 : (L[a]'(by omega)) = s1.low a := hLa.symm
        have H1 := H.sw1
        have hla := H1.rep.okI (i := a) (by omega)
        have hny := H.rep.okI (i := y) (by omega)
        simp -implicitDefEqProofs (disch := first | omega | (simp only [LnZ]; omega)) [wrap64, (Ru.on H).I, hy, F.on H, H.rep.I, hy0, H.sw2.rep.I, hp, H.sw1.rep.I, ite_min]
        refine H1.storeF (min (L[a]'(by omega)) (N[y]'(by omega))) (i := a) (by omega) rfl rfl ⟨by omega, by omega⟩ rfl fun h8 H => ?_
        simp -implicitDefEqProofs (disch := first | omega | (simp only [LnZ]; omega)) [wrap64]
        refine hJ _ _ hjl ⟨rfl, s1.lower a (s1.num y), ⟨N, L.set a (min (L[a]'(by omega)) (N[y]'(by omega))), Q, vs, ⟨hl.hN, by simpa using hLl, hl.hQ, hl.num, ?_, hl.part, hl.cnt⟩, H.sw1⟩, (hT.seen hxy hE ha0 hI hy0' (by rw [hQy]; exact hp)).mono hsc⟩
        rw [gd_set (by omega), ← hl.low, hl2, ← hNy]
        rfl
      · simp -implicitDefEqProofs (disch := first | omega | (simp only [LnZ]; omega)) [wrap64, (Ru.on H).I, hy, F.on H, H.rep.I, hy0, H.sw2.rep.I, hp]
        exact hJ _ _ hjl ⟨rfl, s1, ⟨N, L, Q, vs, hl, H⟩, (hT.skip hI hyn hy0' (by rw [hQy]; omega)).mono hsc⟩
  have hall : ∀ y, E a y → ∃ (j' : Nat) (hj' : j' < G[a].length), j' < j ∧ G[a][j'] = y := by
    intro y hxy
    obtain ⟨_, j', hj', h1⟩ := hG.of hxy
    exact ⟨j', hj', by omega, h1⟩
  have hLa : s1.low a = L[a]'(by omega) := by rw [hl.low, gd_get]
  have hNa : s1.num a = N[a]'(by omega) := by rw [hl.num, gd_get]
  have hc1 := hT.inv.cnt
  by_cases he : L[a]'(by omega) = N[a]'(by omega)
  case neg =>
    simp -implicitDefEqProofs (disch := first | omega | (simp only [LnZ]; omega)) [wrap64, F.on H, H.rep.I, H.sw1.rep.I, he]
    exact RetK.keep (hk _ _ ⟨s1, ⟨N, L, Q, vs, hl, H⟩, hT.end1 hall han ha0 hI (by rw [hLa, hNa]; exact he)⟩)
  obtain ⟨wl, hw, hw2⟩ := hT.stk
  have hlen : s1.stk.length = s.stk.length + (a :: wl).length := by rw [hw]; simp
  have hcl : s1.cnt ≤ n := by have := hl.cnt; omega
  have hpr : ∀ x ∈ a :: wl, x < n := fun x hx => hT.inv.stk_lt (by rw [hw]; exact List.mem_append_right _ hx)
  simp -implicitDefEqProofs (disch := first | omega | (simp only [LnZ]; omega)) [wrap64, F.on H, H.rep.I, H.sw1.rep.I, he]
  refine wp_while (σ := Nat) (fun m e h' => m ≤ (a :: wl).length ∧ e = [some (.int .i64 a), none, none, none, some (.pointer (some ⟨bS, 0, none⟩)), none, none, some (.pointer (some ⟨bQ, 0, none⟩)), some (.pointer (some ⟨bP, 0, none⟩)), none, some (.int .i64 (topv (a :: wl) m)), none, none, none] ∧
      ∃ Q' vs', Q'.length = n ∧ gd Q' = (fun x => if x ∈ (a :: wl).drop m then s1.prt else s1.part x) ∧ HS g [ow vn N, ow vl L, ow vq Q', ow vs' ((s.stk ++ (a :: wl).take m).map Int.ofNat), bx bS [vs'], bx bC [.int .i64 s1.cnt], bx bP [.int .i64 s1.prt]] h')
    (fun m => m) (a :: wl).length ⟨Nat.le_refl _, by simp [topv], Q, vs, hQl, by rw [List.drop_length]; simp [hl.part], by rw [List.take_length, ← hw]; exact H⟩ ?_
  rintro J2 m _ h7 hJ2 ⟨hml, rfl, Q', vs', hQl', hQ', H⟩
  cases m with
  | zero =>
    have ht : topv (a :: wl) 0 = a := by simp [topv]
    simp -implicitDefEqProofs (disch := first | omega | (simp only [LnZ]; omega)) [wrap64, ht, H.sw6.bxld0]
    refine H.sw6.bxst (u := .int .i64 (s1.prt + 1)) rfl rfl rfl rfl (by simp) fun h8 H => ?_
    have H : HS g (bx bP [.int .i64 (s1.prt + 1)] :: ow vn N :: ow vl L :: ow vq Q' :: ow vs' (s.stk.map Int.ofNat) :: bx bS [vs'] :: [bx bC [.int .i64 s1.cnt]]) h8 := by
      simpa [setC] using H
    have H := H.bk6
    simp -implicitDefEqProofs (disch := first | omega | (simp only [LnZ]; omega)) [wrap64]
    exact RetK.keep (hk _ _ ⟨s1.pop s.stk (a :: wl), ⟨N, L, Q', vs', ⟨hl.hN, hl.hL, hQl', hl.num, hl.low, by rw [hQ']; rfl, hl.cnt⟩, H⟩, hT.end2 hE hall han ha0 hI hg2 (by rw [hLa, hNa]; exact he) hw⟩)
  | succ m =>
    have hmC : m < (a :: wl).length := by omega
    obtain ⟨c, hc'⟩ : ∃ c, (a :: wl)[m] = c := ⟨_, rfl⟩
    have hcn : c < n := hpr c (hc' ▸ List.getElem_mem hmC)
    have ht : ¬ (topv (a :: wl) (m + 1) = a) := by
      unfold topv
      split
      · rename_i hlt2
        simp only [List.getElem_cons_succ]
        have hm2 : m < wl.length := by simpa using hlt2
        have := (hw2 _ (List.getElem_mem hm2)).2
        omega
      · omega
    have htm : topv (a :: wl) m = c := by simp only [topv, hmC, dif_pos, hc']
    obtain ⟨W, hW⟩ : ∃ W, W = (s.stk ++ (a :: wl).take m).map Int.ofNat := ⟨_, rfl⟩
    have hst : (s.stk ++ (a :: wl).take (m + 1)).map Int.ofNat = W ++ [(c : Int)] := by
      rw [hW, List.take_add_one, List.getElem?_eq_getElem hmC, hc']
      simp
    have hWl : W.length = s.stk.length + m := by
      rw [hW]
      simp at hml ⊢
      omega
    rw [hst] at H
    obtain ⟨v', hv', H'⟩ := H.sw3.cut (n := W.length) (esz := 1) (k := .i64) (by simp)
    rw [List.take_left' rfl] at H'
    have hlen1 : (W ++ [(c : Int)]).length = W.length + 1 := by simp
    have hi1 : IntKind.i64.wrap ((W.length : Int) + 1 - 1) = W.length := by rw [wrap64 (by omega) (by omega)]; omega
    have H' := H'.bk3
    simp -implicitDefEqProofs (disch := first | omega | (simp only [LnZ]; omega)) [wrap64, ht, H.sw4.bxld0, H.sw3.rep.I, hlen1, hi1, hv']
    refine H'.sw4.bxst (u := v') rfl rfl (by rw [H'.sw3.rep.cells]; rfl) (by rw [H'.sw3.rep.cells]; simp [H'.sw3.rep.one]) (by simp [H'.sw3.rep.cells]) fun h8 H => ?_
    have H : HS g [ow vn N, ow vl L, ow vq Q', ow v' W, bx bS [v'], bx bC [.int .i64 s1.cnt], bx bP [.int .i64 s1.prt]] h8 := by
      simpa [setC, H'.sw3.rep.cells] using H.bk4
    have hQb := hT.inv.bnd a han
    simp -implicitDefEqProofs (disch := first | omega | (simp only [LnZ]; omega)) [wrap64, F.on H, H.sw6.bxld0, H.sw2.rep.I]
    refine H.sw2.storeF s1.prt (i := c) (by omega) rfl rfl ⟨by omega, by omega⟩ rfl fun h9 H => ?_
    have H := H.bk2
    simp -implicitDefEqProofs (disch := first | omega | (simp only [LnZ]; omega)) [wrap64]
    refine hJ2 m _ _ (by omega) ⟨by omega, by rw [htm], Q'.set c s1.prt, v', by simpa using hQl', ?_, by rw [← hW]; exact H⟩
    rw [gd_set (by omega), hQ']
    funext x
    rw [List.drop_eq_getElem_cons hmC, hc']
    by_cases e : x = c
    · subst e; simp
    · simp only [fput_ne e, List.mem_cons, e, false_or]
end Go.Proofs.YtglnelcmcimljaaGreat

namespace Go.Proofs.YtglnelcmcimljaaGreat
open Go
theorem HS.only {g h : Heap} {Γ : List HP} {p : HP} (H : HS g (p :: Γ) h) : HS g [p] h := by
  obtain ⟨g', r, e, d, hp, H⟩ := H
  exact ⟨g', r, e, d, hp, H.base⟩
structure NmI (n : Nat) (f : Nat → Int) (i : Nat) (l : List (Int × Int)) (Q : List Int) : Prop where
  len : Q.length = n
  le : l.length ≤ i
  done : ∀ x, x < i → mlk l (f x) = some (gd Q x)
  rest : ∀ x, i ≤ x → x < n → gd Q x = f x
  bnd : ∀ a y, mlk l a = some y → 0 ≤ y ∧ y < l.length
  inj : ∀ a b y, mlk l a = some y → mlk l b = some y → a = b
theorem NmI.old {n : Nat} {f : Nat → Int} {i : Nat} {l : List (Int × Int)} {Q : List Int} {y : Int} (h : NmI n f i l Q) (hi : i < n) (hy : mlk l (f i) = some y) : NmI n f (i + 1) l (Q.set i y) := by
  have hl := h.len
  refine ⟨by simpa using hl, by have := h.le; omega, ?_, ?_, h.bnd, h.inj⟩
  · intro x hx
    rw [gd_set (by omega)]
    by_cases e : x = i
    · subst e; simp [hy]
    · rw [fput_ne e]; exact h.done x (by omega)
  · intro x hx hxn
    rw [gd_set (by omega), fput_ne (by omega)]
    exact h.rest x (by omega) hxn
theorem NmI.new {n : Nat} {f : Nat → Int} {i : Nat} {l : List (Int × Int)} {Q : List Int} (h : NmI n f i l Q) (hi : i < n) (hy : mlk l (f i) = none) : NmI n f (i + 1) (l ++ [(f i, (l.length : Int))]) (Q.set i (l.length : Int)) ∧ mlk (l ++ [(f i, (l.length : Int))]) (f i) = some (l.length : Int) := by
  have hl := h.len
  have hs := fun b => mlk_snoc (y := (l.length : Int)) (b := b) hy
  refine ⟨⟨by simpa using hl, by have := h.le; simp; omega, ?_, ?_, ?_, ?_⟩, by rw [hs, if_pos rfl]⟩
  · intro x hx
    rw [gd_set (by omega), hs]
    by_cases e : x = i
    · subst e; simp
    · rw [fput_ne e]
      have h1 := h.done x (by omega)
      rw [if_neg]
      · exact h1
      · intro e2; rw [← e2, hy] at h1; simp at h1
  · intro x hx hxn
    rw [gd_set (by omega), fput_ne (by omega)]
    exact h.rest x (by omega) hxn
  · intro a y ha
    rw [hs] at ha
    split at ha
    · simp at ha; subst ha; simp; omega
    · have := h.bnd a y ha; simp; omega
  · intro a b y ha hb
    rw [hs] at ha hb
    split at ha
    · simp at ha
      split at hb
      · rename_i e1 e2; rw [← e1, ← e2]
      · have := h.bnd b y hb; omega
    · split at hb
      · simp at hb
        have := h.bnd a y ha; omega
      · exact h.inj a b y ha hb
theorem NmI.result {n : Nat} {f : Nat → Int} {l : List (Int × Int)} {Q : List Int} (h : NmI n f n l Q) : (∀ x, x < n → 0 ≤ gd Q x ∧ gd Q x < n) ∧ ∀ x y, x < n → y < n → (gd Q x = gd Q y ↔ f x = f y) := by
  refine ⟨fun x hx => ?_, fun x y hx hy => ⟨fun e => ?_, fun e => ?_⟩⟩
  · have := h.bnd _ _ (h.done x hx)
    have := h.le
    omega
  · have h1 := h.done x hx
    have h2 := h.done y hy
    rw [e] at h1
    exact h.inj _ _ _ h1 h2
  · have h1 := h.done x hx
    have h2 := h.done y hy
    rw [e, h2] at h1
    simpa using h1.symm
set_option maxHeartbeats 4000000 in
theorem c_components {h : Heap} {w : Value} {G : List (List Int)} {E : Nat → Nat → Prop} (Rw : Rep h w G) (hG : Adj E G) (hnl : G.length ≤ 1048576) :
    CallE Tryz.prog fn_impl_components [w] h (fun u h' => ∃ Q : List Int, HS h [ow u Q] h' ∧ Q.length = G.length ∧ (∀ x, x < G.length → 0 ≤ gd Q x ∧ gd Q x < G.length) ∧ ∀ x y, x < G.length → y < G.length → (gd Q x = gd Q y ↔ Scc E x y)) := by
  refine CallE.gen fun k hk => EN_impl_components rfl ?_
  simp -implicitDefEqProofs (disch := first | omega | (simp only [LnZ]; omega)) [wrap64]
  refine HS.init.alloc rfl fun bG h1 H => ?_
  have H : HS h [bx bG [w]] h1 := by simpa [Rw.cells] using H
  simp -implicitDefEqProofs (disch := first | omega | (simp only [LnZ]; omega)) [wrap64, H.bxld0, Rw.len]
  refine H.mks (α := Int) (z := 0) rfl rfl (own_zero (by decide) (by decide)) (Nat.le_refl _) (by omega) (by omega) fun vn h2 H => ?_
  simp -implicitDefEqProofs (disch := first | omega | (simp only [LnZ]; omega)) [wrap64]
  refine H.mks (α := Int) (z := 0) rfl rfl (own_zero (by decide) (by decide)) (Nat.le_refl _) (by omega) (by omega) fun vl h3 H => ?_
  simp -implicitDefEqProofs (disch := first | omega | (simp only [LnZ]; omega)) [wrap64]
  refine H.mks (α := Int) (z := 0) rfl rfl (own_zero (by decide) (by decide)) (Nat.le_refl _) (by omega) (by omega) fun vq h4 H => ?_
  simp -implicitDefEqProofs (disch := first | omega | (simp only [LnZ]; omega)) [wrap64]
  refine H.alloc rfl fun bN h5 H => ?_
  simp -implicitDefEqProofs (disch := first | omega | (simp only [LnZ]; omega)) [wrap64]
  refine H.alloc rfl fun bL h6 H => ?_
  simp -implicitDefEqProofs (disch := first | omega | (simp only [LnZ]; omega)) [wrap64]
  refine H.alloc rfl fun bQ h7 H => ?_
  simp -implicitDefEqProofs (disch := first | omega | (simp only [LnZ]; omega)) [wrap64]
  have R0 := H.sw3.rep
  have R1 := H.sw4.rep
  have R2 := H.sw5.rep
  refine H.sw2.bxst (u := vn) rfl rfl (by rw [R2.cells]; rfl) (by rw [R2.cells]; simp [R2.one]) (by simp [R2.cells]) fun h8 H => ?_
  simp -implicitDefEqProofs (disch := first | omega | (simp only [LnZ]; omega)) [wrap64]
  refine H.sw2.bxst (u := vl) rfl rfl (by rw [R1.cells]; rfl) (by rw [R1.cells]; simp [R1.one]) (by simp [R1.cells]) fun h9 H => ?_
  simp -implicitDefEqProofs (disch := first | omega | (simp only [LnZ]; omega)) [wrap64]
  refine H.sw2.bxst (u := vq) rfl rfl (by rw [R0.cells]; rfl) (by rw [R0.cells]; simp [R0.one]) (by simp [R0.cells]) fun h10 H => ?_
  have H : HS h [bx bQ [vq], bx bL [vl], bx bN [vn], ow vq (List.replicate G.length (0 : Int)), ow vl (List.replicate G.length (0 : Int)), ow vn (List.replicate G.length (0 : Int)), bx bG [w]] h10 := by
    simpa [setC, R0.cells, R1.cells, R2.cells] using H
  have H := H.sw3
  simp -implicitDefEqProofs (disch := first | omega | (simp only [LnZ]; omega)) [wrap64, H.sw1.bxld0, H.rep.len]
  refine wp_count G.length (fun i e h' => e = [none, some (.pointer (some ⟨bG, 0, none⟩)), none, some (.int .i64 G.length), some (.pointer (some ⟨bN, 0, none⟩)), some (.pointer (some ⟨bL, 0, none⟩)), some (.pointer (some ⟨bQ, 0, none⟩)), none, none, none, none, none, none, none, none, none, none, some (.int .i64 G.length), some (.int .i64 i), none, none, none, none, none] ∧
    ∃ Q : List Int, HS h [ow vq Q, bx bQ [vq], bx bL [vl], bx bN [vn], ow vl (List.replicate G.length (0 : Int)), ow vn (List.replicate G.length (0 : Int)), bx bG [w]] h' ∧ Q.length = G.length ∧ ∀ x, x < i → gd Q x = -1) ⟨by simp, _, H, by simp, fun x hx => absurd hx (Nat.not_lt_zero x)⟩ ?_
  clear H
  rintro J i _ h11 hJ hi ⟨rfl, Q, H, hQl, hQ⟩
  simp -implicitDefEqProofs (disch := first | omega | (simp only [LnZ]; omega)) [wrap64]
  refine IteW.mk (fun hlt => ?_) (fun hge => ?_)
  · have hin : i < G.length := by omega
    simp -implicitDefEqProofs (disch := first | omega | (simp only [LnZ]; omega)) [wrap64, H.sw1.bxld0, H.rep.I]
    refine H.storeF (-1) (i := i) (by omega) rfl rfl ⟨by decide, by decide⟩ rfl fun h12 H => ?_
    simp -implicitDefEqProofs (disch := first | omega | (simp only [LnZ]; omega)) [wrap64]
    refine hJ _ _ hin ⟨rfl, _, H, by simpa using hQl, fun x hx => ?_⟩
    rw [gd_set (by omega)]
    by_cases e : x = i
    · subst e; simp
    · rw [fput_ne e]; exact hQ x (by omega)
  have hin : i = G.length := by omega
  subst hin
  simp -implicitDefEqProofs (disch := first | omega | (simp only [LnZ]; omega)) [wrap64]
  refine H.alloc rfl fun bS h12 H => ?_
  simp -implicitDefEqProofs (disch := first | omega | (simp only [LnZ]; omega)) [wrap64]
  refine H.alloc rfl fun bC h13 H => ?_
  simp -implicitDefEqProofs (disch := first | omega | (simp only [LnZ]; omega)) [wrap64]
  refine H.alloc rfl fun bP h14 H => ?_
  simp -implicitDefEqProofs (disch := first | omega | (simp only [LnZ]; omega)) [wrap64]
  refine H.sw1.bxst (u := .int .i64 0) rfl rfl rfl rfl (by simp) fun h15 H => ?_
  simp -implicitDefEqProofs (disch := first | omega | (simp only [LnZ]; omega)) [wrap64]
  refine H.sw1.bxst (u := .int .i64 0) rfl rfl rfl rfl (by simp) fun h16 H => ?_
  simp -implicitDefEqProofs (disch := first | omega | (simp only [LnZ]; omega)) [wrap64]
  refine H.alloc rfl fun bV h17 H => ?_
  simp -implicitDefEqProofs (disch := first | omega | (simp only [LnZ]; omega)) [wrap64]
  obtain ⟨fv, hfv⟩ : ∃ fv, fv = Value.func (.func fn_impl_components_1) #[] #[.pointer (some ⟨bC, 0, none⟩), .pointer (some ⟨bN, 0, none⟩), .pointer (some ⟨bL, 0, none⟩), .pointer (some ⟨bS, 0, none⟩), .pointer (some ⟨bG, 0, none⟩), .pointer (some ⟨bV, 0, none⟩), .pointer (some ⟨bQ, 0, none⟩), .pointer (some ⟨bP, 0, none⟩)] := ⟨_, rfl⟩
  have hfn : fnOf fv = some (fn_impl_components_1, [], [.pointer (some ⟨bC, 0, none⟩), .pointer (some ⟨bN, 0, none⟩), .pointer (some ⟨bL, 0, none⟩), .pointer (some ⟨bS, 0, none⟩), .pointer (some ⟨bG, 0, none⟩), .pointer (some ⟨bV, 0, none⟩), .pointer (some ⟨bQ, 0, none⟩), .pointer (some ⟨bP, 0, none⟩)]) := by subst hfv; rfl
  have hfc : fv.cells = #[fv] := by subst hfv; rfl
  have hf1 : fv.oneCell' = true := by subst hfv; rfl
  rw [← hfv]
  refine H.bxst (u := fv) rfl rfl (by rw [hfc]; rfl) (by rw [hfc]; simp [hf1]) (by simp) fun h18 H => ?_
  have H : HS h [bx bV [fv], bx bP [.int .i64 0], bx bC [.int .i64 0], bx bS [.slice none 0 0], ow vq Q, bx bQ [vq], bx bL [vl], bx bN [vn], ow vl (List.replicate G.length (0 : Int)), ow vn (List.replicate G.length (0 : Int)), bx bG [w]] h18 := by
    simpa [setC, hfc] using H
  have H := H.nil_ow (α := Int)
  have H := H.sw1.sw11.sw7.sw8.sw9.sw6.sw7.sw8.sw8.sw9.sw10.sw11
  obtain ⟨g1, H0, H⟩ := HS.rebase (Δ := [ow vn (List.replicate G.length (0 : Int)), ow vl (List.replicate G.length (0 : Int)), ow vq Q, ow (.slice none 0 0) ([] : List Int), bx bS [.slice none 0 0], bx bC [.int .i64 0], bx bP [.int .i64 0]]) (Γ := [bx bN [vn], bx bL [vl], bx bQ [vq], bx bG [w], bx bV [fv]]) H
  have F : FB bN bL bQ bG bV vn vl vq w fv g1 := ⟨H0.bxld0, H0.sw1.bxld0, H0.sw2.bxld0, H0.sw3.bxld0, H0.sw4.bxld0⟩
  have Rw1 := Rw.on H0
  have hg0 : ∀ x, gd (List.replicate G.length (0 : Int)) x = 0 := by
    intro x
    simp only [gd, List.getD_eq_getElem?_getD, List.getElem?_replicate]
    split <;> rfl
  have hE := hG.lt
  have hC0 : ∃ s, CH g1 vn vl vq bS bC bP G.length s h18 ∧ TI G.length E (fun _ => False) s ∧ ∀ x, x < 0 → s.num x ≠ 0 := by
    refine ⟨⟨gd (List.replicate G.length (0 : Int)), gd (List.replicate G.length (0 : Int)), gd Q, [], 0, 0⟩, ⟨_, _, Q, .slice none 0 0, ⟨by simp, by simp, hQl, rfl, rfl, rfl, ?_⟩, H⟩, TI.start (fun x _ => hg0 x) (fun x hx => hQ x hx) rfl rfl rfl, fun x hx => absurd hx (Nat.not_lt_zero x)⟩
    have := List.length_filter_le (fun x => decide (x < G.length ∧ gd (List.replicate G.length (0 : Int)) x = 0)) (List.range G.length)
    simp only [List.length_range] at this
    show (0 : Int) + ((unv G.length (gd (List.replicate G.length (0 : Int))) : Nat) : Int) ≤ _
    unfold unv
    omega
  simp -implicitDefEqProofs (disch := first | omega | (simp only [LnZ]; omega)) [wrap64]
  refine wp_count G.length (fun i e h' => e = [none, none, none, none, some (.pointer (some ⟨bN, 0, none⟩)), none, some (.pointer (some ⟨bQ, 0, none⟩)), none, none, none, none, some (.pointer (some ⟨bV, 0, none⟩)), none, none, none, none, none, none, none, some (.int .i64 G.length), some (.int .i64 i), none, none, none] ∧
    ∃ s, CH g1 vn vl vq bS bC bP G.length s h' ∧ TI G.length E (fun _ => False) s ∧ ∀ x, x < i → s.num x ≠ 0) ⟨by simp, hC0⟩ ?_
  clear H hC0 hQ hQl hJ
  rintro J2 i _ h19 hJ2 hi2 ⟨rfl, s, ⟨N, L, Q, vs, hl, H⟩, hI, hv⟩
  have hNl := hl.hN
  simp -implicitDefEqProofs (disch := first | omega | (simp only [LnZ]; omega)) [wrap64]
  refine IteW.mk (fun hlt2 => ?_) (fun hge2 => ?_)
  · have hin : i < G.length := by omega
    have hNi : s.num i = N[i]'(by omega) := by rw [hl.num, gd_get]
    by_cases h0 : N[i]'(by omega) = 0
    · simp -implicitDefEqProofs (disch := first | omega | (simp only [LnZ]; omega)) [wrap64, F.on H, H.rep.I, h0, hfn]
      refine (c_visit F Rw1 hG rfl hnl hfn _ (fun _ => False) s i _ rfl ⟨N, L, Q, vs, hl, H⟩ hI hin (by rw [hNi, h0]) (fun _ h => h.elim) (fun _ h => h.elim)).go ?_
      rintro u h20 ⟨s2, hC2, hV⟩
      simp -implicitDefEqProofs (disch := first | omega | (simp only [LnZ]; omega)) [wrap64]
      refine hJ2 _ _ hin ⟨rfl, s2, hC2, hV.inv, fun x hx => ?_⟩
      by_cases e : x = i
      · subst e; exact hV.vis
      · have h1 := hv x (by omega)
        rw [(hV.num x (by omega) h1).1]; exact h1
    · simp -implicitDefEqProofs (disch := first | omega | (simp only [LnZ]; omega)) [wrap64, F.on H, H.rep.I, h0]
      refine hJ2 _ _ hin ⟨rfl, s, ⟨N, L, Q, vs, hl, H⟩, hI, fun x hx => ?_⟩
      by_cases e : x = i
      · subst e; rw [hNi]; exact h0
      · exact hv x (by omega)
  have hin : i = G.length := by omega
  subst hin
  obtain ⟨hr1, hr2⟩ := hI.result hv
  have hQl := hl.hQ
  have H := H.sw2.only
  simp -implicitDefEqProofs (disch := first | omega | (simp only [LnZ]; omega)) [wrap64]
  refine H.mkm (fun n : Int => .int .i64 n) (fun n : Int => .int .i64 n) fun bm h20 H => ?_
  have H := H.sw1
  simp -implicitDefEqProofs (disch := first | omega | (simp only [LnZ]; omega)) [wrap64, F.on H, H.rep.len]
  refine wp_count G.length (fun i e h' => e = [none, none, none, none, none, none, some (.pointer (some ⟨bQ, 0, none⟩)), none, none, none, none, none, none, some (.map (some bm)), none, none, none, none, none, none, none, some vq, some (.int .i64 G.length), some (.int .i64 i)] ∧
    ∃ (l : List (Int × Int)) (Q : List Int), HS g1 [ow vq Q, mpo (fun n : Int => .int .i64 n) (fun n : Int => .int .i64 n) bm l] h' ∧ NmI G.length s.part i l Q) ⟨by simp [hQl], [], Q, H, hQl, by simp, fun x hx => absurd hx (Nat.not_lt_zero x), fun x _ _ => by rw [hl.part], fun a y h => by simp [mlk_nil] at h, fun a b y h => by simp [mlk_nil] at h⟩ ?_
  clear H hQl hl
  rintro J3 i _ h21 hJ3 hi3 ⟨rfl, l, Q, H, hM⟩
  have hQl := hM.len
  have hle := hM.le
  simp -implicitDefEqProofs (disch := first | omega | (simp only [LnZ]; omega)) [wrap64]
  refine IteW.mk (fun hlt3 => ?_) (fun hge3 => ?_)
  · have hin : i < G.length := by omega
    have hQi : Q[i]'(by omega) = s.part i := by rw [← gd_get, hM.rest i (Nat.le_refl _) hin]
    simp -implicitDefEqProofs (disch := first | omega | (simp only [LnZ]; omega)) [wrap64, H.rep.I, hQi]
    refine H.sw1.mget (a := s.part i) rfl rfl keyEq_int ?_
    cases hlk : mlk l (s.part i) with
    | some y =>
      have hyb := hM.bnd _ _ hlk
      simp -implicitDefEqProofs (disch := first | omega | (simp only [LnZ]; omega)) [wrap64, F.on H]
      refine H.sw1.mget (a := s.part i) rfl rfl keyEq_int ?_
      rw [hlk]
      simp -implicitDefEqProofs (disch := first | omega | (simp only [LnZ]; omega)) [wrap64, F.on H, H.rep.I]
      refine H.storeF y (i := i) (by omega) rfl rfl ⟨by omega, by omega⟩ rfl fun h22 H => ?_
      simp -implicitDefEqProofs (disch := first | omega | (simp only [LnZ]; omega)) [wrap64]
      exact hJ3 _ _ hin ⟨rfl, l, _, H, hM.old hin hlk⟩
    | none =>
      obtain ⟨hn1, hn2⟩ := hM.new hin hlk
      simp -implicitDefEqProofs (disch := first | omega | (simp only [LnZ]; omega)) [wrap64]
      refine H.sw1.mlen rfl ?_
      simp -implicitDefEqProofs (disch := first | omega | (simp only [LnZ]; omega)) [wrap64]
      refine H.sw1.mput (a := s.part i) (v := (l.length : Int)) rfl rfl rfl keyEq_int hlk fun h22 H => ?_
      simp -implicitDefEqProofs (disch := first | omega | (simp only [LnZ]; omega)) [wrap64, F.on H]
      refine H.mget (a := s.part i) rfl rfl keyEq_int ?_
      rw [hn2]
      have H := H.sw1
      simp -implicitDefEqProofs (disch := first | omega | (simp only [LnZ]; omega)) [wrap64, F.on H, H.rep.I]
      refine H.storeF (l.length : Int) (i := i) (by omega) rfl rfl ⟨by omega, by omega⟩ rfl fun h23 H => ?_
      simp -implicitDefEqProofs (disch := first | omega | (simp only [LnZ]; omega)) [wrap64]
      exact hJ3 _ _ hin ⟨rfl, _, _, H, hn1⟩
  have hin : i = G.length := by omega
  subst hin
  simp -implicitDefEqProofs (disch := first | omega | (simp only [LnZ]; omega)) [wrap64, F.on H]
  obtain ⟨hb, hc⟩ := hM.result
  have Hf := (H.app H0).only
  exact RetK.keep (hk _ _ ⟨Q, Hf, hQl, hb, fun x y hx hy => by rw [hc x y hx hy, hr2 x y hx hy]⟩)
end Go.Proofs.YtglnelcmcimljaaGreat

namespace Go.Proofs.YtglnelcmcimljaaGreat
open Go
def cntP (Q : List Int) (i : Nat) (p : Int) : Nat := ((List.range i).filter fun y => decide (gd Q y = p)).length
theorem cntP_succ {Q : List Int} {i : Nat} {p : Int} : cntP Q (i + 1) p = cntP Q i p + if gd Q i = p then 1 else 0 := by
  simp only [cntP, List.range_succ, List.filter_append, List.length_append, List.filter_cons, List.filter_nil]
  by_cases h : gd Q i = p <;> simp [h]
theorem cntP_le {Q : List Int} {i : Nat} {p : Int} : cntP Q i p ≤ i := by
  have := List.length_filter_le (fun y => decide (gd Q y = p)) (List.range i)
  simpa [cntP] using this
theorem c_cyclic {h : Heap} {w : Value} {G : List (List Int)} {E : Nat → Nat → Prop} (Rw : Rep h w G) (hG : Adj E G) (hnl : G.length ≤ 1048576) :
    CallE Tryz.prog fn_impl_cyclic [w] h (fun u h' => ∃ C : List Bool, HS h [ow u C] h' ∧ C.length = G.length ∧ ∀ x, x < G.length → (tru C x ↔ Cyc E x)) := by
  refine CallE.gen fun k hk => EN_impl_cyclic rfl ?_
  simp -implicitDefEqProofs (disch := first | omega | (simp only [LnZ]; omega)) [wrap64]
  refine (c_components Rw hG hnl).go ?_
  rintro p h1 ⟨Q, H, hQl, hQb, hQ⟩
  simp -implicitDefEqProofs (disch := first | omega | (simp only [LnZ]; omega)) [wrap64, (Rw.on H).len]
  refine H.mks (α := Int) (z := 0) rfl rfl (own_zero (by decide) (by decide)) (Nat.le_refl _) (by omega) (by omega) fun z h2 H => ?_
  simp -implicitDefEqProofs (disch := first | omega | (simp only [LnZ]; omega)) [wrap64, H.sw1.rep.len]
  refine wp_count G.length (fun i e h' => e = [some w, none, some p, some z, none, none, none, some p, some (.int .i64 G.length), some (.int .i64 i), none, none] ∧ ∃ Z : List Int, HS h [ow z Z, ow p Q] h' ∧ Z.length = G.length ∧ ∀ x, x < G.length → gd Z x = cntP Q i x) ⟨by simp [hQl], _, H, by simp, fun x hx => by rw [gd_get (by simpa using hx)]; simp [cntP]⟩ ?_
  clear H
  rintro J i _ h3 hJ hi ⟨rfl, Z, H, hZl, hZ⟩
  simp -implicitDefEqProofs (disch := first | omega | (simp only [LnZ]; omega)) [wrap64]
  refine IteW.mk (fun hlt => ?_) (fun hge => ?_)
  · have hin : i < G.length := by omega
    have hq := hQb i hin
    obtain ⟨q, hqi⟩ : ∃ q : Nat, Q[i]'(by omega) = q := ⟨(Q[i]'(by omega)).toNat, by rw [← gd_get]; omega⟩
    have hqn : q < G.length := by rw [gd_get (by omega), hqi] at hq; omega
    have hzq : Z[q]'(by omega) = cntP Q i q := by rw [← gd_get, hZ q hqn]
    have hcl := cntP_le (Q := Q) (i := i) (p := q)
    simp -implicitDefEqProofs (disch := first | omega | (simp only [LnZ]; omega)) [wrap64, H.sw1.rep.I, hqi, H.rep.I, hzq]
    refine H.storeF ((cntP Q i q : Int) + 1) (i := q) (by omega) rfl rfl ⟨by omega, by omega⟩ rfl fun h4 H => ?_
    simp -implicitDefEqProofs (disch := first | omega | (simp only [LnZ]; omega)) [wrap64]
    refine hJ _ _ hin ⟨rfl, _, H, by simpa using hZl, fun x hx => ?_⟩
    rw [gd_set (by omega), cntP_succ, gd_get (by omega), hqi]
    by_cases e : x = q
    · subst e; simp
    · rw [fput_ne e, hZ x hx, if_neg (by omega)]; simp
  have hin : i = G.length := by omega
  subst hin
  simp -implicitDefEqProofs (disch := first | omega | (simp only [LnZ]; omega)) [wrap64, (Rw.on H).len]
  refine H.mks (α := Bool) (z := false) rfl rfl own_false (Nat.le_refl _) (by omega) (by omega) fun c h4 H => ?_
  simp -implicitDefEqProofs (disch := first | omega | (simp only [LnZ]; omega)) [wrap64, (Rw.on H).len]
  refine wp_count G.length (fun i e h' => e = [some w, none, some p, some z, none, some c, none, none, none, none, some (.int .i64 G.length), some (.int .i64 i)] ∧ ∃ C : List Bool, HS h [ow c C, ow z Z, ow p Q] h' ∧ C.length = G.length ∧ ∀ x, x < i → (tru C x ↔ Cyc E x)) ⟨by simp, _, H, by simp, fun x hx => absurd hx (Nat.not_lt_zero x)⟩ ?_
  clear H hJ
  rintro J i _ h5 hJ hi ⟨rfl, C, H, hCl, hC⟩
  simp -implicitDefEqProofs (disch := first | omega | (simp only [LnZ]; omega)) [wrap64]
  refine IteW.mk (fun hlt2 => ?_) (fun hge2 => ?_)
  · have hin : i < G.length := by omega
    have hq := hQb i hin
    obtain ⟨q, hqi⟩ : ∃ q : Nat, Q[i]'(by omega) = q := ⟨(Q[i]'(by omega)).toNat, by rw [← gd_get]; omega⟩
    have hqn : q < G.length := by rw [gd_get (by omega), hqi] at hq; omega
    have hzq : Z[q]'(by omega) = cntP Q G.length q := by rw [← gd_get, hZ q hqn]
    have hpc := part_cycle hQ hG.lt hin
    have hcnt : ((List.range G.length).filter fun y => decide (gd Q y = gd Q i)).length = cntP Q G.length q := by
      rw [gd_get (by omega), hqi]; rfl
    rw [hcnt] at hpc
    have hstep : ∀ b : Bool, (b = true ↔ Cyc E i) → ∀ x, x < i + 1 → (tru (C.set i b) x ↔ Cyc E x) := by
      intro b hb x hx
      have h1 : tru (C.set i b) x ↔ if x = i then b = true else tru C x := by
        simp only [tru, List.getD_eq_getElem?_getD, List.getElem?_set]
        by_cases e : i = x
        · subst e; simp [show i < C.length by omega]
        · simp [e, Ne.symm e]
      rw [h1]
      split
      · rename_i e; subst e; exact hb
      · exact hC x (by omega)
    by_cases h1 : (1 : Int) < cntP Q G.length q
    · simp -implicitDefEqProofs (disch := first | omega | (simp only [LnZ]; omega)) [wrap64, H.sw2.rep.I, hqi, H.sw1.rep.I, hzq, h1, H.rep.B]
      refine H.storeF true (i := i) (by omega) rfl rfl trivial rfl fun h6 H => ?_
      simp -implicitDefEqProofs (disch := first | omega | (simp only [LnZ]; omega)) [wrap64]
      exact hJ _ _ hin ⟨rfl, _, H, by simpa using hCl, hstep true (by rw [hpc]; simp; omega)⟩
    · obtain ⟨u, hu0, Ru⟩ := Rw.ldL hin
      simp -implicitDefEqProofs (disch := first | omega | (simp only [LnZ]; omega)) [wrap64, H.sw2.rep.I, hqi, H.sw1.rep.I, hzq, h1, H.rep.B, (Rw.on H).X (n := 1) rfl, hload_le H.base hu0]
      refine (c_Contains_int (Ru.on H)).go ?_
      rintro _ _ ⟨rfl, rfl⟩
      simp -implicitDefEqProofs (disch := first | omega | (simp only [LnZ]; omega)) [wrap64, H.rep.B]
      refine H.storeF (decide ((i : Int) ∈ G[i])) (i := i) (by omega) rfl rfl trivial rfl fun h6 H => ?_
      simp -implicitDefEqProofs (disch := first | omega | (simp only [LnZ]; omega)) [wrap64]
      refine hJ _ _ hin ⟨rfl, _, H, by simpa using hCl, hstep _ ?_⟩
      rw [hpc, decide_eq_true_iff, hG.mem i hin]
      constructor
      · rintro ⟨y, h2, h3⟩
        obtain rfl : i = y := by omega
        exact .inr h3
      · rintro (h2 | h2)
        · omega
        · exact ⟨i, rfl, h2⟩
  have hin : i = G.length := by omega
  subst hin
  simp -implicitDefEqProofs (disch := first | omega | (simp only [LnZ]; omega)) [wrap64]
  exact RetK.keep (hk _ _ ⟨C, H.only, hCl, hC⟩)
end Go.Proofs.YtglnelcmcimljaaGreat

namespace Go.Proofs.YtglnelcmcimljaaGreat
open Go
end Go.Proofs.YtglnelcmcimljaaGreat

namespace Go.Proofs.YtglnelcmcimljaaGreat
open Go
def okR (f : Aut → Aut) (h : Heap) (a : Aut) (u : Value) (h' : Heap) : Prop := ∃ v, u = .tuple #[v, .bool (decide a.Ok)] ∧ HS h [ow v (if a.Ok then f a else Aut.empty)] h'
theorem okR.no {f : Aut → Aut} {h h' : Heap} {a : Aut} (hn : ¬ a.Ok) (H : HS h [] h') : okR f h a (.tuple #[.agg #[.slice none 0 0, .slice none 0 0, .slice none 0 0], .bool false]) h' :=
  ⟨_, by rw [decide_eq_false hn], by rw [if_neg hn]; exact empty_ow H⟩
theorem okR.yes {f : Aut → Aut} {h h' : Heap} {a : Aut} {v : Value} (hn : a.Ok) (H : HS h [ow v (f a)] h') : okR f h a (.tuple #[v, .bool true]) h' :=
  ⟨_, by rw [decide_eq_true hn], by rw [if_pos hn]; exact H⟩
end Go.Proofs.YtglnelcmcimljaaGreat

namespace Go.Proofs.YtglnelcmcimljaaGreat
open Go
end Go.Proofs.YtglnelcmcimljaaGreat

namespace Go.Proofs.YtglnelcmcimljaaGreat
open Go
theorem c_IndexFunc_int {h : Heap} {a fv : Value} {x : List Int} (Ra : Rep h a x) {f : FuncId} {c1 c2 : List Value} (hf : fnOf fv = some (f, c1, c2)) (p : Int → Bool)
    (hp : ∀ h1, h.le h1 → ∀ (i : Nat) (hi : i < x.length) (u : Value), Rep h1 u x[i] → CallE Tryz.prog f (c1 ++ u :: c2) h1 (fun v h' => h1.le h' ∧ v = .bool (p x[i]))) :
    CallE Tryz.prog fn_slices_IndexFunc_S_int_int [a, fv] h (fun v h' => h.le h' ∧ v = .int .i64 (match x.findIdx? p with | some i => (i : Int) | none => -1)) := by
  refine CallE.gen fun k hk => EN_slices_IndexFunc_S_int_int rfl ?_
  have hL := Ra.lt
  simp -implicitDefEqProofs (disch := first | omega | (simp only [LnZ]; omega)) [wrap64, Ra.len]
  refine wp_count x.length (fun i e h' => e = [some a, some fv, none, none, some (.int .i64 x.length), some (.int .i64 i)] ∧ h.le h' ∧ ∀ (j : Nat) (hj : j < x.length), j < i → p x[j] = false) ⟨rfl, Heap.le.refl h, fun j _ hj => absurd hj (Nat.not_lt_zero j)⟩ ?_
  rintro J i _ h1 hJ hi ⟨rfl, hl, hn⟩
  simp -implicitDefEqProofs (disch := first | omega | (simp only [LnZ]; omega)) [wrap64]
  refine IteW.mk (fun hlt => ?_) (fun hge => ?_)
  · have hlx : i < x.length := by omega
    obtain ⟨u, hu, Ru⟩ := (Ra.le hl).ld hlx
    change hload _ (some (elp 1 a i)) none = some u at hu
    simp -implicitDefEqProofs (disch := first | omega | (simp only [LnZ]; omega)) [wrap64, (Ra.le hl).X (n := 1) rfl, hu, hf]
    refine (hp h1 hl i hlx u Ru).go ?_
    rintro _ h2 ⟨hl2, rfl⟩
    simp -implicitDefEqProofs (disch := first | omega | (simp only [LnZ]; omega)) [wrap64]
    refine IteW.mk (fun hq => ?_) (fun hq => ?_)
    · simp -implicitDefEqProofs (disch := first | omega | (simp only [LnZ]; omega)) [wrap64]
      refine RetK.keep (hk _ _ ⟨hl.trans hl2, ?_⟩)
      have h3 : x.findIdx? p = some i := by
        rw [List.findIdx?_eq_some_iff_getElem]
        exact ⟨hlx, hq, fun j hj => by rw [hn j (by omega) hj]; simp⟩
      rw [h3]
    · simp -implicitDefEqProofs (disch := first | omega | (simp only [LnZ]; omega)) [wrap64]
      refine hJ _ _ hlx ⟨rfl, hl.trans hl2, fun j hj hji => ?_⟩
      by_cases hji2 : j = i
      · subst hji2; simpa using hq
      · exact hn j hj (by omega)
  · simp -implicitDefEqProofs (disch := first | omega | (simp only [LnZ]; omega)) [wrap64]
    refine RetK.keep (hk _ _ ⟨hl, ?_⟩)
    have h3 : x.findIdx? p = none := by
      rw [List.findIdx?_eq_none_iff]
      intro y hy
      obtain ⟨j, hj, rfl⟩ := List.mem_iff_getElem.1 hy
      exact hn j hj (by omega)
    rw [h3]
theorem c_ContainsFunc_int {h : Heap} {a fv : Value} {x : List Int} (Ra : Rep h a x) {f : FuncId} {c1 c2 : List Value} (hf : fnOf fv = some (f, c1, c2)) (p : Int → Bool)
    (hp : ∀ h1, h.le h1 → ∀ (i : Nat) (hi : i < x.length) (u : Value), Rep h1 u x[i] → CallE Tryz.prog f (c1 ++ u :: c2) h1 (fun v h' => h1.le h' ∧ v = .bool (p x[i]))) :
    CallE Tryz.prog fn_slices_ContainsFunc_S_int_int [a, fv] h (fun v h' => h.le h' ∧ v = .bool (x.any p)) := by
  refine CallE.gen fun k hk => EN_slices_ContainsFunc_S_int_int rfl ?_
  simp -implicitDefEqProofs (disch := first | omega | (simp only [LnZ]; omega)) [wrap64]
  refine (c_IndexFunc_int Ra hf p hp).go ?_
  rintro _ h1 ⟨hl, rfl⟩
  simp -implicitDefEqProofs (disch := first | omega | (simp only [LnZ]; omega)) [wrap64]
  refine RetK.keep (hk _ _ ⟨hl, ?_⟩)
  congr 1
  rw [← List.findIdx?_isSome]
  cases x.findIdx? p <;> simp
end Go.Proofs.YtglnelcmcimljaaGreat

namespace Go.Proofs.YtglnelcmcimljaaGreat
open Go
theorem c_takes {h : Heap} {v : Value} {t : Tr} (Rt : Rep h v t) {n : Int} : CallE Tryz.prog fn_impl_Transition_takes [v, .int .i64 n] h (fun u h' => h' = h ∧ u = .bool (t.on n)) := by
  rw [(Rep_Tr.1 Rt).1]
  refine CallE.gen fun k hk => EN_impl_Transition_takes rfl ?_
  simp -implicitDefEqProofs (disch := first | omega | (simp only [LnZ]; omega)) [wrap64, Tr.v]
  exact RetK.keep (hk _ _ ⟨rfl, rfl⟩)
theorem c_l7On {h : Heap} {v : Value} {t : Tr} (Rt : Rep h v t) {n : Int} : CallE Tryz.prog fn_spec_l7On [v, .int .i64 n] h (fun u h' => h' = h ∧ u = .bool (t.on n)) := by
  rw [(Rep_Tr.1 Rt).1]
  refine CallE.gen fun k hk => EN_spec_l7On rfl ?_
  simp -implicitDefEqProofs (disch := first | omega | (simp only [LnZ]; omega)) [wrap64, Tr.v]
  exact RetK.keep (hk _ _ ⟨rfl, rfl⟩)
end Go.Proofs.YtglnelcmcimljaaGreat

namespace Go.Proofs.YtglnelcmcimljaaGreat
open Go
theorem c_letters_1 {h : Heap} {n : Int} : CallE Tryz.prog fn_impl_letters_1 [.int .i64 n] h (fun u h' => h' = h ∧ u = .bool (!decide (0 ≤ n ∧ n ≤ 7))) := by
  refine CallE.gen fun k hk => EN_impl_letters_1 rfl ?_
  simp -implicitDefEqProofs (disch := first | omega | (simp only [LnZ]; omega)) [wrap64]
  refine c_in.go ?_
  rintro _ _ ⟨rfl, rfl⟩
  simp -implicitDefEqProofs (disch := first | omega | (simp only [LnZ]; omega)) [wrap64]
  exact RetK.keep (hk _ _ ⟨rfl, by simp⟩)
theorem c_letters {h : Heap} {w : Value} {W : List Int} (Rw : Rep h w W) : CallE Tryz.prog fn_impl_letters [w] h (fun u h' => h.le h' ∧ u = .bool (decide (∀ x ∈ W, 0 ≤ x ∧ x ≤ 7))) := by
  refine CallE.gen fun k hk => EN_impl_letters rfl ?_
  simp -implicitDefEqProofs (disch := first | omega | (simp only [LnZ]; omega)) [wrap64]
  refine (c_ContainsFunc_int Rw (c1 := []) (c2 := []) (f := fn_impl_letters_1) rfl (fun n => !decide (0 ≤ n ∧ n ≤ 7)) ?_).go ?_
  · intro h3 hl j hj u Ru
    obtain ⟨rfl, _⟩ := Rep_int.1 Ru
    exact (c_letters_1 (n := W[j])).to fun _ _ ⟨h4, h5⟩ => ⟨h4 ▸ Heap.le.refl _, h5⟩
  · rintro _ h3 ⟨hl, rfl⟩
    simp -implicitDefEqProofs (disch := first | omega | (simp only [LnZ]; omega)) [wrap64]
    refine RetK.keep (hk _ _ ⟨hl, ?_⟩)
    congr 1
    rw [Bool.eq_iff_iff]
    simp
end Go.Proofs.YtglnelcmcimljaaGreat

namespace Go.Proofs.YtglnelcmcimljaaGreat
open Go
section
variable {P : Program} {k : Env → Heap → Prop} {e : Env} {g h : Heap} {Γ : List HP} {v : Value} {α : Type}
theorem HS.appZ [Ty α] [Flat α] {l : List α} (H : HS g (ow v l :: Γ) h) {z : α} {n : Nat} {bytes esz : Nat} {zero zero' : List Value} {a x : O} {dst : Nat} {kd : IntKind} (ha : a.get e = some v) (hx : x.get e = some (.int kd (n : Int))) (hzz : zero' = Flat.enc z) (hok : Flat.ok z) (hsz : esz = Ty.sz α) (hz : zero.length = Ty.sz α)
    (hb : (l.length + n) * bytes ≤ 140737488355328) (hn : l.length + n < 2 ^ 62)
    (K : ∀ v' h', HS g (ow v' (l ++ List.replicate n z) :: Γ) h' → k (eset e dst (some v')) h') : (A.ex (some dst) (.app bytes esz zero (.o a) (.z x bytes zero'))).wp P k e h := by
  obtain ⟨g', r, rfl, d, O, H⟩ := H
  subst hsz hzz
  have hall : ∀ x ∈ List.replicate n z, Flat.ok x := fun x hx => by rw [List.eq_of_mem_replicate hx]; exact hok
  have henc : ∀ m, reps m (Flat.enc z) = encL (List.replicate m z) := fun m => by
    simp [reps, encL]
  have hle : n * bytes ≤ (l.length + n) * bytes := Nat.mul_le_mul_right _ (by omega)
  refine a_app (rs := Heap.nil) (l2 := List.replicate n z) O ha ?_ (encL_len hall) (ownL_enc hall) d Dj_nil (by simp) rfl hz (by simpa using hb) (by simpa using hn) fun v' r' d' O' => K _ _ ⟨g', r', rfl, d', O', H⟩
  simp only [AO.src, hx]
  rw [if_pos ⟨by omega, by omega, by simp; omega, flat_len hok⟩]
  simp [henc]
theorem bls_two [Ty α] {u1 u2 : Value} {y1 y2 : α} (R1 : Rep h u1 y1) (R2 : Rep h u2 y2) {esz : Nat} {zero : List Value} {parts : List (Nat × Nat × O)} {dst : Nat} (hf : fillP e (reps 2 zero) parts = some (u1.cells.toList ++ u2.cells.toList))
    (K : ∀ v' h', h.le h' → Rep h' v' [y1, y2] → k (eset e dst (some v')) h') : (A.ex (some dst) (.bls esz 2 zero parts)).wp P k e h := by
  obtain ⟨c1, rfl, r1⟩ := R1
  obtain ⟨c2, rfl, r2⟩ := R2
  rw [rep_cells r1, rep_cells r2] at hf
  have l1 := Ty.len r1
  have l2 := Ty.len r2
  refine ⟨_, hf, fun b el hb => Fgt.keep ?_⟩
  rw [set_new hb]
  have hd : Dj h (Heap.one b (.cells (c1 ++ c2).toArray el (0, 0))) := Dj_one.2 hb
  have hbb : (h.add (Heap.one b (.cells (c1 ++ c2).toArray el (0, 0)))) b = some (.cells (c1 ++ c2).toArray el (0, 0)) := by simp [Heap.add, Heap.one, hb]
  refine K _ _ (le_add hd) (Rep_list.2 ⟨some ⟨b, 0, none⟩, 2, rfl, ⟨Nat.le_refl _, by simp⟩, trivial, fun i hi => ?_⟩)
  refine ⟨b, 0, ((c1 ++ c2).drop (0 + i * Ty.sz α)).take (Ty.sz α), rfl, ?_, ?_⟩
  · rw [hcells_mk hbb (by simp at hi ⊢; rcases (by omega : i = 0 ∨ i = 1) with rfl | rfl <;> simp <;> omega)]
  · simp only [List.length_cons, List.length_nil] at hi
    rcases (by omega : i = 0 ∨ i = 1) with rfl | rfl
    · have e1 : ((c1 ++ c2).drop (0 + 0 * Ty.sz α)).take (Ty.sz α) = c1 := by simp [← l1]
      rw [e1]
      exact Ty.mono (le_add hd) r1
    · have e1 : ((c1 ++ c2).drop (0 + 1 * Ty.sz α)).take (Ty.sz α) = c2 := by
        rw [show 0 + 1 * Ty.sz α = c1.length by omega, List.drop_left, List.take_of_length_le (by omega)]
      rw [e1]
      exact Ty.mono (le_add hd) r2
end
end Go.Proofs.YtglnelcmcimljaaGreat

namespace Go.Proofs.YtglnelcmcimljaaGreat
open Go
def Las.Ok (l : Las) : Prop := ((∀ x ∈ l.stem, 0 ≤ x ∧ x ≤ 7) ∧ ∀ x ∈ l.loop, 0 ≤ x ∧ x ≤ 7) ∧ l.stem.length ≤ 80 ∧ 1 ≤ l.loop.length ∧ l.loop.length ≤ 80
instance instDecLasOk (l : Las) : Decidable l.Ok := by unfold Las.Ok; infer_instance
def Las.size (l : Las) : Nat := l.stem.length + l.loop.length
def Las.all (l : Las) : List Int := l.stem ++ l.loop
def Las.nx (l : Las) (i : Nat) : Nat := if i + 1 = l.size then l.stem.length else i + 1
def Las.pos (l : Las) : Nat → Nat
  | 0 => 0
  | t + 1 => l.nx (l.pos t)
def Las.word (l : Las) (t : Nat) : Int := l.all.getD (l.pos t) 0
theorem Las.nx_lt {l : Las} (h : 1 ≤ l.loop.length) {i : Nat} (hi : i < l.size) : l.nx i < l.size := by
  unfold Las.nx Las.size at *
  split <;> omega
theorem Las.pos_lt {l : Las} (h : 1 ≤ l.loop.length) : ∀ t, l.pos t < l.size
  | 0 => by unfold Las.pos Las.size; omega
  | t + 1 => Las.nx_lt h (Las.pos_lt h t)
theorem Las.all_len {l : Las} : l.all.length = l.size := by simp [Las.all, Las.size]
theorem Las.word_ok {l : Las} (h : l.Ok) (t : Nat) : 0 ≤ l.word t ∧ l.word t ≤ 7 := by
  have h1 := Las.pos_lt h.2.2.1 t
  unfold Las.word
  rw [List.getD_eq_getElem?_getD, List.getElem?_eq_getElem (by rw [Las.all_len]; exact h1)]
  have hm : l.all[l.pos t]'(by rw [Las.all_len]; exact h1) ∈ l.all := List.getElem_mem _
  simp only [Option.getD_some]
  unfold Las.all at hm
  rcases List.mem_append.1 hm with hm | hm
  · exact h.1.1 _ hm
  · exact h.1.2 _ hm
def StE (E : List Tr) (w : Nat → Int) (t p q : Nat) : Prop := ∃ e ∈ E, e.frm = p ∧ e.to = q ∧ e.on (w t) = true
inductive FR (E : List Tr) (w : Nat → Int) : Nat → Nat → Nat → Nat → Prop
  | refl (t p : Nat) : FR E w t p t p
  | step {t p q u r : Nat} (h : StE E w t p q) (k : FR E w (t + 1) q u r) : FR E w t p u r
section
variable {E : List Tr} {w : Nat → Int} {A : List Bool} {t p u q v r : Nat}
theorem FR.trans (h : FR E w t p u q) (k : FR E w u q v r) : FR E w t p v r := by
  induction h with
  | refl => exact k
  | step h _ ih => exact .step h (ih k)
theorem FR.le (h : FR E w t p u q) : t ≤ u := by
  induction h with
  | refl => exact Nat.le_refl _
  | step h _ ih => omega
theorem FR.one (h : StE E w t p q) : FR E w t p (t + 1) q := .step h (.refl _ _)
end
def Goes (A : List Bool) (E : List Tr) (w : Nat → Int) (C : Nat → Nat → Prop) : Prop := ∀ t p, C t p → ∃ u q, t < u ∧ FR E w t p u q ∧ tru A q ∧ C u q
def Run (A : List Bool) (E : List Tr) (w : Nat → Int) (t p : Nat) : Prop := ∃ C, C t p ∧ Goes A E w C
def Aut.Lang (a : Aut) (w : Nat → Int) : Prop := ∃ s : Nat, (s : Int) ∈ a.init ∧ Run a.acc a.edges w 0 s
theorem Run.before {A : List Bool} {E : List Tr} {w : Nat → Int} {t p u q : Nat} (h : FR E w t p u q) (k : Run A E w u q) : Run A E w t p := by
  obtain ⟨C, hC, hG⟩ := k
  refine ⟨fun t' p' => (t' = t ∧ p' = p) ∨ C t' p', .inl ⟨rfl, rfl⟩, ?_⟩
  rintro t' p' (⟨rfl, rfl⟩ | h1)
  · obtain ⟨v, r, h2, h3, h4, h5⟩ := hG u q hC
    have := h.le
    exact ⟨v, r, by omega, h.trans h3, h4, .inr h5⟩
  · obtain ⟨v, r, h2, h3, h4, h5⟩ := hG t' p' h1
    exact ⟨v, r, h2, h3, h4, .inr h5⟩
theorem Run.sim {A A' : List Bool} {E E' : List Tr} {w : Nat → Int} (M : Nat → Nat → Prop)
    (hs : ∀ t p q p', M p p' → StE E w t p q → Run A E w (t + 1) q → ∃ q', StE E' w t p' q' ∧ M q q') (ha : ∀ p p', M p p' → tru A p → tru A' p') {t p p' : Nat} (h : Run A E w t p) (hm : M p p') : Run A' E' w t p' := by
  have fr : ∀ {t p u r : Nat}, FR E w t p u r → Run A E w u r → ∀ p', M p p' → ∃ r', FR E' w t p' u r' ∧ M r r' := by
    intro t p u r h
    induction h with
    | refl => intro _ p' hm; exact ⟨p', .refl _ _, hm⟩
    | step h k ih =>
      intro hr p' hm
      obtain ⟨q', h1, h2⟩ := hs _ _ _ _ hm h (hr.before k)
      obtain ⟨r', h3, h4⟩ := ih hr q' h2
      exact ⟨r', .step h1 h3, h4⟩
  obtain ⟨C, hC, hG⟩ := h
  refine ⟨fun t p' => ∃ p, C t p ∧ M p p', ⟨p, hC, hm⟩, ?_⟩
  rintro t p' ⟨p, hC, hm⟩
  obtain ⟨u, q, h2, h3, h4, h5⟩ := hG t p hC
  obtain ⟨q', h6, h7⟩ := fr h3 ⟨C, h5, hG⟩ p' hm
  exact ⟨u, q', h2, h6, ha _ _ h7 h4, q, h5, h7⟩
theorem fin_cyc {T : Nat → Nat → Prop} (tr : ∀ x y z, T x y → T y z → T x z) (N : Nat) : ∀ (m : Nat) (D : Nat → Prop), (((List.range N).filter fun x => @decide (D x) (Classical.propDecidable _)).length ≤ m) → (∀ x, D x → x < N) → (∃ x, D x) → (∀ x, D x → ∃ y, D y ∧ T x y) → ∃ x, D x ∧ T x x := by
  intro m
  induction m with
  | zero =>
    rintro D hm hN ⟨x, hx⟩ _
    exfalso
    have : x ∈ (List.range N).filter fun x => @decide (D x) (Classical.propDecidable _) := by
      rw [List.mem_filter]
      exact ⟨List.mem_range.2 (hN x hx), by simpa using hx⟩
    have := List.length_pos_of_mem this
    omega
  | succ m ih =>
    rintro D hm hN ⟨x, hx⟩ hT
    by_cases hxx : T x x
    · exact ⟨x, hx, hxx⟩
    obtain ⟨y, hy, hxy⟩ := hT x hx
    obtain ⟨z, ⟨hz, _⟩, hzz⟩ := ih (fun y => D y ∧ T x y) (by
      have := filter_lt_of (p := fun y => @decide (D y ∧ T x y) (Classical.propDecidable _)) (q := fun y => @decide (D y) (Classical.propDecidable _)) (fun y hy => by
        simp only [decide_eq_true_eq] at hy ⊢
        exact hy.1) (l := List.range N) ⟨x, List.mem_range.2 (hN x hx), by simp [hxx], by simpa using hx⟩
      omega) (fun y hy => hN y hy.1) ⟨y, hy, hxy⟩ (fun z hz => by
        obtain ⟨v, h1, h2⟩ := hT z hz.1
        exact ⟨v, ⟨h1, tr _ _ _ hz.2 h2⟩, h2⟩)
    exact ⟨z, hz, hzz⟩
def Rch1 (E : Nat → Nat → Prop) (x y : Nat) : Prop := ∃ z, E x z ∧ Rch E z y
theorem Rch1.trans {E : Nat → Nat → Prop} {x y z : Nat} (h : Rch1 E x y) (k : Rch1 E y z) : Rch1 E x z := by
  obtain ⟨u, h1, h2⟩ := h
  obtain ⟨v, h3, h4⟩ := k
  exact ⟨u, h1, h2.trans (.step h3 h4)⟩
theorem Rch1.rch {E : Nat → Nat → Prop} {x y : Nat} (h : Rch1 E x y) : Rch E x y := by
  obtain ⟨u, h1, h2⟩ := h
  exact .step h1 h2
theorem fin_rch {E : Nat → Nat → Prop} {N : Nat} {D : Nat → Prop} (hN : ∀ x, D x → x < N) (h0 : ∃ x, D x) (hT : ∀ x, D x → ∃ y, D y ∧ Rch1 E x y) : ∃ x, D x ∧ Cyc E x :=
  fin_cyc (T := Rch1 E) (fun _ _ _ h k => Rch1.trans h k) N _ D (Nat.le_refl _) hN h0 hT
theorem at_div {i n f : Nat} (h : f < n) : (i * n + f) / n = i := by
  rw [Nat.mul_comm, Nat.mul_add_div (by omega), Nat.div_eq_of_lt h, Nat.add_zero]
theorem at_mod {i n f : Nat} (h : f < n) : (i * n + f) % n = f := by
  rw [Nat.mul_comm, Nat.mul_add_mod, Nat.mod_eq_of_lt h]
theorem at_inj {i j n f g : Nat} (hf : f < n) (hg : g < n) (h : i * n + f = j * n + g) : i = j ∧ f = g := by
  have h1 := at_div (i := i) hf
  have h2 := at_div (i := j) hg
  have h3 := at_mod (i := i) hf
  have h4 := at_mod (i := j) hg
  rw [h] at h1 h3
  exact ⟨by rw [← h1, h2], by rw [← h3, h4]⟩
theorem at_lt {i n f s : Nat} (hf : f < n) (hi : i < s) : i * n + f < s * n := by
  have : (i + 1) * n ≤ s * n := Nat.mul_le_mul_right n hi
  rw [Nat.add_mul] at this
  omega
def Aut.PE (a : Aut) (l : Las) (x y : Nat) : Prop := ∃ e ∈ a.edges, ∃ i, i < l.size ∧ x = i * a.acc.length + e.frm.toNat ∧ y = l.nx i * a.acc.length + e.to.toNat ∧ e.on (l.all.getD i 0) = true
def Aut.Acc (a : Aut) (l : Las) : Prop := ∃ s : Nat, (s : Int) ∈ a.init ∧ ∃ x, Rch (a.PE l) s x ∧ Cyc (a.PE l) x ∧ tru a.acc (x % a.acc.length)
section
variable {a : Aut} {l : Las}
theorem Aut.Ok.tr (ha : a.Ok) {e : Tr} (he : e ∈ a.edges) : ∃ f g : Nat, e.frm = f ∧ e.to = g ∧ f < a.acc.length ∧ g < a.acc.length := by
  have := ha.2.2.2 e he
  unfold Tr.Ok at this
  exact ⟨e.frm.toNat, e.to.toNat, by omega, by omega, by omega, by omega⟩
theorem Aut.Ok.st (ha : a.Ok) {w : Nat → Int} {t p q : Nat} (h : StE a.edges w t p q) : p < a.acc.length ∧ q < a.acc.length := by
  obtain ⟨e, he, h1, h2, _⟩ := h
  obtain ⟨f, g, h3, h4, h5, h6⟩ := ha.tr he
  exact ⟨by omega, by omega⟩
theorem Aut.Ok.ini (ha : a.Ok) {s : Nat} (hs : (s : Int) ∈ a.init) : s < a.acc.length := by
  have := incr_mem ha.i _ hs
  omega
theorem PE.lift (ha : a.Ok) (hl : 1 ≤ l.loop.length) {x y : Nat} (h : Rch (a.PE l) x y) : ∀ t p, p < a.acc.length → x = l.pos t * a.acc.length + p → ∃ u q, t ≤ u ∧ q < a.acc.length ∧ y = l.pos u * a.acc.length + q ∧ FR a.edges l.word t p u q := by
  induction h with
  | refl => intro t p hp hx; exact ⟨t, p, Nat.le_refl _, hp, hx, .refl _ _⟩
  | step h _ ih =>
    intro t p hp hx
    obtain ⟨e, he, i, hi, h1, h2, h3⟩ := h
    obtain ⟨f, g, h4, h5, h6, h7⟩ := ha.tr he
    rw [h4, Int.toNat_natCast] at h1
    rw [h5, Int.toNat_natCast] at h2
    obtain ⟨rfl, rfl⟩ := at_inj h6 hp (h1.symm.trans hx)
    obtain ⟨u, q, h8, h9, h10, h11⟩ := ih (t + 1) g h7 h2
    exact ⟨u, q, by omega, h9, h10, .step ⟨e, he, h4, h5, h3⟩ h11⟩
theorem PE.lift1 (ha : a.Ok) (hl : 1 ≤ l.loop.length) {x y : Nat} (h : Rch1 (a.PE l) x y) (t p : Nat) (hp : p < a.acc.length) (hx : x = l.pos t * a.acc.length + p) : ∃ u q, t < u ∧ q < a.acc.length ∧ y = l.pos u * a.acc.length + q ∧ FR a.edges l.word t p u q := by
  obtain ⟨z, ⟨e, he, i, hi, h1, h2, h3⟩, hr⟩ := h
  obtain ⟨f, g, h4, h5, h6, h7⟩ := ha.tr he
  rw [h4, Int.toNat_natCast] at h1
  rw [h5, Int.toNat_natCast] at h2
  obtain ⟨rfl, rfl⟩ := at_inj h6 hp (h1.symm.trans hx)
  obtain ⟨u, q, h8, h9, h10, h11⟩ := PE.lift ha hl hr (t + 1) g h7 h2
  exact ⟨u, q, by omega, h9, h10, .step ⟨e, he, h4, h5, h3⟩ h11⟩
theorem PE.of (hl : 1 ≤ l.loop.length) {t p q : Nat} (h : StE a.edges l.word t p q) : a.PE l (l.pos t * a.acc.length + p) (l.pos (t + 1) * a.acc.length + q) := by
  obtain ⟨e, he, h1, h2, h3⟩ := h
  exact ⟨e, he, l.pos t, Las.pos_lt hl t, by rw [h1]; rfl, by rw [h2]; rfl, h3⟩
theorem PE.rch (hl : 1 ≤ l.loop.length) {t p u q : Nat} (h : FR a.edges l.word t p u q) : Rch (a.PE l) (l.pos t * a.acc.length + p) (l.pos u * a.acc.length + q) := by
  induction h with
  | refl => exact .refl _
  | step h _ ih => exact .step (PE.of hl h) ih
theorem PE.rch1 (hl : 1 ≤ l.loop.length) {t p u q : Nat} (h : FR a.edges l.word t p u q) (htu : t < u) : Rch1 (a.PE l) (l.pos t * a.acc.length + p) (l.pos u * a.acc.length + q) := by
  cases h with
  | refl => omega
  | step h k => exact ⟨_, PE.of hl h, PE.rch hl k⟩
theorem FR.lt (ha : a.Ok) {w : Nat → Int} {t p u q : Nat} (h : FR a.edges w t p u q) (hp : p < a.acc.length) : q < a.acc.length := by
  induction h with
  | refl => exact hp
  | step h _ ih => exact ih (ha.st h).2
theorem Aut.acc_iff (ha : a.Ok) (hl : 1 ≤ l.loop.length) : a.Acc l ↔ a.Lang l.word := by
  constructor
  · rintro ⟨s, hs, x, h1, h2, h3⟩
    have hs' := ha.ini hs
    obtain ⟨u, q, _, h4, h5, h6⟩ := PE.lift ha hl h1 0 s hs' (by simp [Las.pos])
    refine ⟨s, hs, Run.before h6 ⟨fun t p => p < a.acc.length ∧ x = l.pos t * a.acc.length + p, ⟨h4, h5⟩, ?_⟩⟩
    rintro t p ⟨g1, g2⟩
    obtain ⟨v, r, g3, g4, g5, g6⟩ := PE.lift1 ha hl (x := x) (y := x) h2 t p g1 g2
    refine ⟨v, r, g3, g6, ?_, g4, g5⟩
    rw [g5, at_mod g4] at h3
    exact h3
  · rintro ⟨s, hs, C, hC, hG⟩
    have hs' := ha.ini hs
    obtain ⟨x, ⟨t, p, g1, g2, g3, rfl, g4⟩, hx⟩ := fin_rch (E := a.PE l) (N := l.size * a.acc.length) (D := fun x => ∃ t p, C t p ∧ p < a.acc.length ∧ tru a.acc p ∧ x = l.pos t * a.acc.length + p ∧ Rch (a.PE l) s x)
      (by rintro x ⟨t, p, g1, g2, g3, rfl, g4⟩; exact at_lt g2 (Las.pos_lt hl t))
      (by
        obtain ⟨u, q, h1, h2, h3, h4⟩ := hG 0 s hC
        have h5 := PE.rch (l := l) hl h2
        rw [show l.pos 0 * a.acc.length + s = s by simp [Las.pos]] at h5
        exact ⟨_, u, q, h4, h2.lt ha hs', h3, rfl, h5⟩)
      (by
        rintro x ⟨t, p, g1, g2, g3, rfl, g4⟩
        obtain ⟨u, q, h1, h2, h3, h4⟩ := hG t p g1
        have h5 := PE.rch1 (l := l) hl h2 h1
        exact ⟨_, ⟨u, q, h4, h2.lt ha g2, h3, rfl, g4.trans h5.rch⟩, h5⟩)
    exact ⟨s, hs, _, g4, hx, by rw [at_mod g2]; exact g3⟩
end
theorem Run.live {a : Aut} (ha : a.Ok) {w : Nat → Int} {t p : Nat} (hp : p < a.acc.length) (h : Run a.acc a.edges w t p) : a.Live p := by
  have rch : ∀ {t p u q : Nat}, FR a.edges w t p u q → Rch a.E p q := by
    intro t p u q h
    induction h with
    | refl => exact .refl _
    | step h _ ih =>
      obtain ⟨e, he, h1, h2, _⟩ := h
      exact .step ⟨e, he, h1, h2⟩ ih
  have rch1 : ∀ {t p u q : Nat}, FR a.edges w t p u q → t < u → Rch1 a.E p q := by
    intro t p u q h hlt
    cases h with
    | refl => omega
    | step h k =>
      obtain ⟨e, he, h1, h2, _⟩ := h
      exact ⟨_, ⟨e, he, h1, h2⟩, rch k⟩
  obtain ⟨C, hC, hG⟩ := h
  obtain ⟨x, ⟨t, g1, g2, g3, g4⟩, hx⟩ := fin_rch (E := a.E) (N := a.acc.length) (D := fun x => ∃ t, C t x ∧ x < a.acc.length ∧ tru a.acc x ∧ Rch a.E p x)
    (by rintro x ⟨t, g1, g2, _⟩; exact g2)
    (by
      obtain ⟨u, q, h1, h2, h3, h4⟩ := hG t p hC
      exact ⟨q, u, h4, h2.lt ha hp, h3, rch h2⟩)
    (by
      rintro x ⟨t, g1, g2, g3, g4⟩
      obtain ⟨u, q, h1, h2, h3, h4⟩ := hG t x g1
      exact ⟨q, ⟨u, h4, h2.lt ha g2, h3, g4.trans (rch h2)⟩, rch1 h2 h1⟩)
  exact ⟨x, g4, hx, g3⟩
end Go.Proofs.YtglnelcmcimljaaGreat

namespace Go.Proofs.YtglnelcmcimljaaGreat
open Go
theorem c_Grow_int {h : Heap} {m : Int} (hm : 0 ≤ m) (hn : m ≤ 1048576) : CallE Tryz.prog fn_slices_Grow_S_int_int [.slice none 0 0, .int .i64 m] h (fun u h' => HS h [ow u ([] : List Int)] h') := by
  obtain ⟨n, rfl⟩ : ∃ n : Nat, m = n := ⟨m.toNat, (Int.toNat_of_nonneg hm).symm⟩
  have H : HS h [ow (.slice none 0 0) ([] : List Int)] h := HS.init.nil_ow
  refine CallE.gen fun k hk => EN_slices_Grow_S_int_int rfl ?_
  have hng : ¬ ((n : Int) < 0) := by omega
  have hcap : capVV (.slice none 0 0) = some (.int .i64 0) := rfl
  have hln : lenVV (.slice none 0 0) = some (.int .i64 0) := rfl
  have hsl : sliceVV 1 (.slice none 0 0) none (some (some (.int .i64 0))) none = some (.slice none 0 0) := rfl
  by_cases h0 : (0 : Int) < n
  · have h0' : 0 < n := by omega
    simp -implicitDefEqProofs (disch := first | omega | (simp only [LnZ]; omega)) [wrap64, h0, h0', hng, hcap, hln, hsl]
    refine HS.appZ (bytes := 8) (α := Int) (z := 0) (n := n) H rfl rfl rfl ⟨by decide, by decide⟩ rfl rfl (by simp; omega) (by simp; omega) fun v' h1 H => ?_
    obtain ⟨v2, hv2, H⟩ := H.cut (n := 0) (esz := 1) (k := .i64) (by simp)
    simp only [List.take_zero] at H
    have hv2' : sliceVV 1 v' none (some (some (.int .i64 0))) none = some v2 := hv2
    simp -implicitDefEqProofs (disch := first | omega | (simp only [LnZ]; omega)) [wrap64, hln, hv2']
    exact RetK.keep (hk _ _ H)
  · have h0' : ¬ 0 < n := by omega
    simp -implicitDefEqProofs (disch := first | omega | (simp only [LnZ]; omega)) [wrap64, h0, h0', hng, hcap, hln, hsl]
    exact RetK.keep (hk _ _ H)
theorem c_Concat_int {h : Heap} {v : Value} {x y : List Int} (R : Rep h v [x, y]) (hx : x.length ≤ 65536) (hy : y.length ≤ 65536) : CallE Tryz.prog fn_slices_Concat_S_int_int [v] h (fun u h' => HS h [ow u (x ++ y)] h') := by
  have hL : ([x, y] : List (List Int)).length = 2 := rfl
  obtain ⟨u0, hu0, R0⟩ := R.ldL (i := 0) (by simp)
  obtain ⟨u1, hu1, R1⟩ := R.ldL (i := 1) (by simp)
  simp only [List.getElem_cons_zero, List.getElem_cons_succ] at R0 R1
  have hX := R.X (n := 1) rfl
  have hn1 : ¬ (x.length : Int) < 0 := by omega
  have hn2 : ¬ (x.length : Int) + y.length < 0 := by omega
  refine CallE.gen fun k hk => EN_slices_Concat_S_int_int rfl ?_
  simp -implicitDefEqProofs (disch := first | omega | (simp only [LnZ]; omega)) [wrap64, R.len]
  refine wp_count 2 (fun i e h' => e = [some v, none, some (.int .i64 (if i = 0 then 0 else if i = 1 then x.length else x.length + y.length)), none, none, none, some v, some (.int .i64 2), some (.int .i64 i), none, none, none] ∧ h' = h) ⟨by simp, rfl⟩ ?_
  rintro J i _ h1 hJ hi ⟨rfl, rfl⟩
  simp -implicitDefEqProofs (disch := first | omega | (simp only [LnZ]; omega)) [wrap64]
  refine IteW.mk (fun hlt => ?_) (fun hge => ?_)
  · obtain rfl | rfl : i = 0 ∨ i = 1 := by omega
    · simp -implicitDefEqProofs (disch := first | omega | (simp only [LnZ]; omega)) [wrap64, hX, hu0, R0.len, hn1]
      exact hJ _ _ (by omega) ⟨by simp, rfl⟩
    · simp -implicitDefEqProofs (disch := first | omega | (simp only [LnZ]; omega)) [wrap64, hX, hu1, R1.len, hn1, hn2]
      exact hJ _ _ (by omega) ⟨by simp, rfl⟩
  obtain rfl : i = 2 := by omega
  simp -implicitDefEqProofs (disch := first | omega | (simp only [LnZ]; omega)) [wrap64]
  refine (c_Grow_int (m := (x.length : Int) + y.length) (by omega) (by omega)).go ?_
  intro o h2 H
  simp -implicitDefEqProofs (disch := first | omega | (simp only [LnZ]; omega)) [wrap64, (R.on H).len]
  refine wp_count 2 (fun i e h' => ∃ o, e = [none, none, none, none, some o, none, none, none, none, some v, some (.int .i64 2), some (.int .i64 i)] ∧ HS h1 [ow o (if i = 0 then [] else if i = 1 then x else x ++ y)] h') ⟨o, by simp, by simpa using H⟩ ?_
  clear H
  rintro J2 i _ h3 hJ2 hi ⟨o, rfl, H⟩
  simp -implicitDefEqProofs (disch := first | omega | (simp only [LnZ]; omega)) [wrap64]
  refine IteW.mk (fun hlt2 => ?_) (fun hge2 => ?_)
  · obtain rfl | rfl : i = 0 ∨ i = 1 := by omega
    · simp only [if_true] at H
      simp -implicitDefEqProofs (disch := first | omega | (simp only [LnZ]; omega)) [wrap64, hX, hload_le H.base hu0]
      refine HS.appL (bytes := 8) (l2 := x) H rfl rfl (R0.on H) rfl rfl (by simp; omega) (by simp; omega) fun o' h4 H => ?_
      simp -implicitDefEqProofs (disch := first | omega | (simp only [LnZ]; omega)) [wrap64]
      exact hJ2 _ _ (by omega) ⟨o', by simp, by simpa using H⟩
    · simp only [Nat.one_ne_zero, if_true, if_false] at H
      simp -implicitDefEqProofs (disch := first | omega | (simp only [LnZ]; omega)) [wrap64, hX, hload_le H.base hu1]
      refine HS.appL (bytes := 8) (l2 := y) H rfl rfl (R1.on H) rfl rfl (by omega) (by omega) fun o' h4 H => ?_
      simp -implicitDefEqProofs (disch := first | omega | (simp only [LnZ]; omega)) [wrap64]
      exact hJ2 _ _ (by omega) ⟨o', by simp, by simpa using H⟩
  obtain rfl : i = 2 := by omega
  simp -implicitDefEqProofs (disch := first | omega | (simp only [LnZ]; omega)) [wrap64]
  exact RetK.keep (hk _ _ (by simpa using H))
theorem c_all {h : Heap} {v : Value} {l : Las} (R : Rep h v l) (hs : l.stem.length ≤ 65536) (hl : l.loop.length ≤ 65536) : CallE Tryz.prog fn_impl_Lasso_all [v] h (fun u h' => HS h [ow u l.all] h') := by
  obtain ⟨v1, v2, rfl, R1, R2⟩ := Rep_Las.1 R
  refine CallE.gen fun k hk => EN_impl_Lasso_all rfl ?_
  simp -implicitDefEqProofs (disch := first | omega | (simp only [LnZ]; omega)) [wrap64]
  refine bls_two R1 R2 (by simp [fillP, R1.cells, R2.cells, R1.one, R2.one, reps, setC]) fun w h1 l1 RW => ?_
  simp -implicitDefEqProofs (disch := first | omega | (simp only [LnZ]; omega)) [wrap64]
  refine (c_Concat_int RW hs hl).go ?_
  intro u h2 H
  simp -implicitDefEqProofs (disch := first | omega | (simp only [LnZ]; omega)) [wrap64]
  exact RetK.keep (hk _ _ (H.app (show HS h [] h1 from l1)))
theorem c_nextL {h : Heap} {v : Value} {l : Las} (R : Rep h v l) (hs : l.stem.length ≤ 65536) (hl : l.loop.length ≤ 65536) {i : Nat} (hi : i < l.size) : CallE Tryz.prog fn_impl_Lasso_next [v, .int .i64 i] h (fun u h' => h' = h ∧ u = .int .i64 (l.nx i : Nat)) := by
  obtain ⟨v1, v2, rfl, R1, R2⟩ := Rep_Las.1 R
  have hsz : l.size = l.stem.length + l.loop.length := rfl
  refine CallE.gen fun k hk => EN_impl_Lasso_next rfl ?_
  unfold Las.nx at hk
  by_cases e : i + 1 = l.size
  · rw [if_pos e] at hk
    have e' : (i : Int) + 1 = (l.stem.length : Int) + l.loop.length := by omega
    simp -implicitDefEqProofs (disch := first | omega | (simp only [LnZ]; omega)) [wrap64, R1.len, R2.len, e']
    exact RetK.keep (hk _ _ ⟨rfl, rfl⟩)
  · rw [if_neg e] at hk
    have e' : ¬ (i : Int) + 1 = (l.stem.length : Int) + l.loop.length := by omega
    simp -implicitDefEqProofs (disch := first | omega | (simp only [LnZ]; omega)) [wrap64, R1.len, R2.len, e']
    exact RetK.keep (hk _ _ ⟨rfl, by simp⟩)
theorem c_LassoValid {h : Heap} {v : Value} {l : Las} (R : Rep h v l) : CallE Tryz.prog fn_impl_LassoValid [v] h (fun u h' => h.le h' ∧ u = .bool (decide l.Ok)) := by
  obtain ⟨v1, v2, rfl, R1, R2⟩ := Rep_Las.1 R
  have hL1 := R1.lt
  have hL2 := R2.lt
  refine CallE.gen fun k hk => EN_impl_LassoValid rfl ?_
  simp -implicitDefEqProofs (disch := first | omega | (simp only [LnZ]; omega)) [wrap64]
  refine (c_letters R1).go ?_
  rintro _ h1 ⟨l1, rfl⟩
  by_cases q1 : ∀ x ∈ l.stem, 0 ≤ x ∧ x ≤ 7
  case neg =>
    have d1 : decide (∀ x ∈ l.stem, 0 ≤ x ∧ x ≤ 7) = false := decide_eq_false q1
    simp -implicitDefEqProofs (disch := first | omega | (simp only [LnZ]; omega)) [wrap64, d1]
    exact RetK.keep (hk _ _ ⟨l1, by rw [decide_eq_false (fun hh : l.Ok => q1 hh.1.1)]⟩)
  have d1 : decide (∀ x ∈ l.stem, 0 ≤ x ∧ x ≤ 7) = true := decide_eq_true q1
  simp -implicitDefEqProofs (disch := first | omega | (simp only [LnZ]; omega)) [wrap64, d1]
  refine (c_letters (R2.le l1)).go ?_
  rintro _ h2 ⟨l2, rfl⟩
  by_cases q2 : ∀ x ∈ l.loop, 0 ≤ x ∧ x ≤ 7
  case neg =>
    have d2 : decide (∀ x ∈ l.loop, 0 ≤ x ∧ x ≤ 7) = false := decide_eq_false q2
    simp -implicitDefEqProofs (disch := first | omega | (simp only [LnZ]; omega)) [wrap64, d2]
    exact RetK.keep (hk _ _ ⟨l1.trans l2, by rw [decide_eq_false (fun hh : l.Ok => q2 hh.1.2)]⟩)
  have d2 : decide (∀ x ∈ l.loop, 0 ≤ x ∧ x ≤ 7) = true := decide_eq_true q2
  by_cases q3 : (l.stem.length : Int) ≤ 80
  case neg =>
    simp -implicitDefEqProofs (disch := first | omega | (simp only [LnZ]; omega)) [wrap64, d2, R1.len, q3]
    exact RetK.keep (hk _ _ ⟨l1.trans l2, by rw [decide_eq_false (fun hh : l.Ok => q3 (by have := hh.2.1; omega))]⟩)
  simp -implicitDefEqProofs (disch := first | omega | (simp only [LnZ]; omega)) [wrap64, d2, R1.len, q3, R2.len]
  refine c_in.go ?_
  rintro _ h2 ⟨rfl, rfl⟩
  simp -implicitDefEqProofs (disch := first | omega | (simp only [LnZ]; omega)) [wrap64]
  refine RetK.keep (hk _ _ ⟨l1.trans l2, ?_⟩)
  congr 1
  rw [← Bool.decide_and]
  refine decide_eq_decide.2 ⟨fun hh => ⟨⟨q1, q2⟩, by omega, by omega, by omega⟩, fun hh => ⟨by have := hh.2.2.1; omega, by have := hh.2.2.2; omega⟩⟩
structure GI (N B : Nat) (E : Nat → Nat → Prop) (G : List (List Int)) : Prop where
  len : G.length = N
  mem : ∀ x (hx : x < G.length) z, z ∈ G[x] ↔ ∃ y : Nat, z = y ∧ E x y
  row : ∀ x (hx : x < G.length), G[x].length ≤ B
theorem GI.zero {N : Nat} : GI N 0 (fun _ _ => False) (List.replicate N []) := ⟨by simp, by simp, by simp⟩
theorem GI.add {N B : Nat} {E : Nat → Nat → Prop} {G : List (List Int)} (h : GI N B E G) {f t : Nat} (hf : f < G.length) : GI N (B + 1) (fun x y => E x y ∨ (x = f ∧ y = t)) (G.set f (G[f] ++ [(t : Int)])) := by
  refine ⟨by simp [h.len], fun x hx z => ?_, fun x hx => ?_⟩
  · simp only [List.length_set] at hx
    rw [List.getElem_set]
    split
    · rename_i e
      subst e
      rw [List.mem_append, h.mem f hf z, List.mem_singleton]
      constructor
      · rintro (⟨y, h1, h2⟩ | h1)
        · exact ⟨y, h1, .inl h2⟩
        · exact ⟨t, h1, .inr ⟨rfl, rfl⟩⟩
      · rintro ⟨y, h1, h2 | ⟨_, h2⟩⟩
        · exact .inl ⟨y, h1, h2⟩
        · subst h2; exact .inr h1
    · rename_i e
      rw [h.mem x hx z]
      constructor
      · rintro ⟨y, h1, h2⟩; exact ⟨y, h1, .inl h2⟩
      · rintro ⟨y, h1, h2 | ⟨h2, _⟩⟩
        · exact ⟨y, h1, h2⟩
        · exact absurd h2.symm e
  · simp only [List.length_set] at hx
    rw [List.getElem_set]
    have h1 := h.row f hf
    have h2 := h.row x hx
    split
    · simp; omega
    · omega
theorem GI.congr {N B B' : Nat} {E E' : Nat → Nat → Prop} {G : List (List Int)} (h : GI N B E G) (hB : B ≤ B') (he : ∀ x y, E x y ↔ E' x y) : GI N B' E' G :=
  ⟨h.len, fun x hx z => by rw [h.mem x hx z]; exact ⟨fun ⟨y, h1, h2⟩ => ⟨y, h1, (he x y).1 h2⟩, fun ⟨y, h1, h2⟩ => ⟨y, h1, (he x y).2 h2⟩⟩, fun x hx => Nat.le_trans (h.row x hx) hB⟩
def Aut.PK (a : Aut) (l : Las) (i k : Nat) (x y : Nat) : Prop := ∃ (m : Nat) (hm : m < a.edges.length) (j : Nat), j < l.size ∧ (j < i ∨ (j = i ∧ m < k)) ∧ x = j * a.acc.length + a.edges[m].frm.toNat ∧ y = l.nx j * a.acc.length + a.edges[m].to.toNat ∧ a.edges[m].on (l.all.getD j 0) = true
theorem PK_all {a : Aut} {l : Las} {x y : Nat} {i : Nat} (hi : l.size ≤ i) : a.PK l i 0 x y ↔ a.PE l x y := by
  constructor
  · rintro ⟨m, hm, j, h1, _, h3⟩
    exact ⟨_, List.getElem_mem hm, j, h1, h3⟩
  · rintro ⟨e, he, j, h1, h2⟩
    obtain ⟨m, hm, rfl⟩ := List.mem_iff_getElem.1 he
    exact ⟨m, hm, j, h1, .inl (by omega), h2⟩
theorem PK_next {a : Aut} {l : Las} {x y : Nat} {i k : Nat} (hk : a.edges.length ≤ k) : a.PK l i k x y ↔ a.PK l (i + 1) 0 x y := by
  constructor
  · rintro ⟨m, hm, j, h1, h2, h3⟩
    exact ⟨m, hm, j, h1, .inl (by omega), h3⟩
  · rintro ⟨m, hm, j, h1, h2, h3⟩
    exact ⟨m, hm, j, h1, by omega, h3⟩
theorem PK_step {a : Aut} {l : Las} {x y : Nat} {i k : Nat} (hi : i < l.size) (hk : k < a.edges.length) : a.PK l i (k + 1) x y ↔ a.PK l i k x y ∨ (a.edges[k].on (l.all.getD i 0) = true ∧ x = i * a.acc.length + a.edges[k].frm.toNat ∧ y = l.nx i * a.acc.length + a.edges[k].to.toNat) := by
  constructor
  · rintro ⟨m, hm, j, h1, h2, h3, h4, h5⟩
    by_cases e : j = i ∧ m = k
    · obtain ⟨rfl, rfl⟩ := e
      exact .inr ⟨h5, h3, h4⟩
    · exact .inl ⟨m, hm, j, h1, by omega, h3, h4, h5⟩
  · rintro (⟨m, hm, j, h1, h2, h3⟩ | ⟨h1, h2, h3⟩)
    · exact ⟨m, hm, j, h1, by omega, h3⟩
    · exact ⟨k, hk, i, hi, .inr ⟨rfl, by omega⟩, h2, h3, h1⟩
theorem Aut.PE_lt {a : Aut} {l : Las} (ha : a.Ok) (hl : 1 ≤ l.loop.length) {x y : Nat} (h : a.PE l x y) : x < l.size * a.acc.length ∧ y < l.size * a.acc.length := by
  obtain ⟨e, he, i, hi, h1, h2, h3⟩ := h
  obtain ⟨f, g, h4, h5, h6, h7⟩ := ha.tr he
  rw [h4, Int.toNat_natCast] at h1
  rw [h5, Int.toNat_natCast] at h2
  subst h1 h2
  exact ⟨at_lt h6 hi, at_lt h7 (Las.nx_lt hl hi)⟩
end Go.Proofs.YtglnelcmcimljaaGreat

namespace Go.Proofs.YtglnelcmcimljaaGreat
open Go
set_option maxHeartbeats 1000000 in
theorem c_accepts {h : Heap} {v w : Value} {a : Aut} {l : Las} (Ra : Rep h v a) (Rl : Rep h w l) (ha : a.Ok) (hl : l.Ok) : CallE Tryz.prog fn_impl_Automaton_accepts [v, w] h (fun u h' => h.le h' ∧ ∃ r : Bool, u = .bool r ∧ (r = true ↔ a.Acc l)) := by
  obtain ⟨v1, v2, v3, rfl, R1, R2, R3⟩ := Rep_Aut.1 Ra
  have hn := ha.n
  have he := ha.e
  have hl1 := hl.2.1
  have hl2 := hl.2.2.1
  have hl3 := hl.2.2.2
  have hsz : l.size = l.stem.length + l.loop.length := rfl
  have FL := Rl.aLas
  have hSn : l.size * a.acc.length ≤ 160 * 64 := Nat.mul_le_mul (by omega) hn.2
  refine CallE.gen fun k hk => EN_impl_Automaton_accepts rfl ?_
  simp -implicitDefEqProofs (disch := first | omega | (simp only [LnZ]; omega)) [wrap64, FL, R2.len]
  refine (c_all Rl (by omega) (by omega)).go ?_
  intro wd h1 H
  have hal := Las.all_len (l := l)
  obtain ⟨N, hN⟩ : ∃ N, N = l.size * a.acc.length := ⟨_, rfl⟩
  have hmul : (l.size : Int) * a.acc.length = (N : Int) := by rw [hN]; simp
  simp -implicitDefEqProofs (disch := first | omega | (simp only [LnZ]; omega)) [wrap64, (R2.on H).len, H.rep.len, hal, hmul]
  refine H.mks (α := List Int) (z := []) (n := N) (c := N) rfl rfl own_nils (Nat.le_refl _) (by omega) (by omega) fun nx h2 H => ?_
  simp -implicitDefEqProofs (disch := first | omega | (simp only [LnZ]; omega)) [wrap64, H.sw1.rep.len, hal]
  refine wp_count l.size (fun i e h' => ∃ G, e = [none, none, some (.agg #[v1, v2, v3]), some w, none, none, some (.int .i64 a.acc.length), some nx, none, none, none, none, none, none, some wd, some (.int .i64 l.size), some (.int .i64 i), none, none, none, none, none, none] ∧ HS h [ow nx G, ow wd l.all] h' ∧ GI N (i * 2048) (a.PK l i 0) G) ⟨_, by simp, H, by
    have : (0 : Nat) * 2048 = 0 := by omega
    rw [this]
    exact GI.zero.congr (Nat.le_refl _) fun x y => ⟨False.elim, fun ⟨m, hm, j, _, h, _⟩ => by omega⟩⟩ ?_
  clear H
  rintro J i _ h3 hJ hi ⟨G, rfl, H, hG⟩
  simp -implicitDefEqProofs (disch := first | omega | (simp only [LnZ]; omega)) [wrap64]
  refine IteW.mk (fun hlt => ?_) (fun hge => ?_)
  · have his : i < l.size := by omega
    have hial : i < l.all.length := by omega
    have hlet : l.all.getD i 0 = l.all[i] := by simp [hial]
    have hX := H.sw1.rep.I
    simp -implicitDefEqProofs (disch := first | omega | (simp only [LnZ]; omega)) [wrap64, hX, (R3.on H).len]
    refine wp_count a.edges.length (fun k e h' => ∃ G, e = [none, none, some (.agg #[v1, v2, v3]), some w, none, none, some (.int .i64 a.acc.length), some nx, some (.int .i64 i), some (.int .i64 l.all[i]), none, none, none, none, some wd, some (.int .i64 l.size), some (.int .i64 i), some v3, some (.int .i64 a.edges.length), some (.int .i64 k), none, none, none] ∧ HS h [ow nx G, ow wd l.all] h' ∧ GI N (i * 2048 + k) (a.PK l i k) G) ⟨G, by simp, H, hG⟩ ?_
    clear H hG
    rintro J2 k _ h4 hJ2 hk2 ⟨G, rfl, H, hG⟩
    simp -implicitDefEqProofs (disch := first | omega | (simp only [LnZ]; omega)) [wrap64]
    refine IteW.mk (fun hlt2 => ?_) (fun hge2 => ?_)
    · have hkx : k < a.edges.length := by omega
      have hx := ha.t hkx
      have hv := R3.okTr hkx
      unfold Tr.Ok at hx
      have hstep := fun x y => PK_step (a := a) (l := l) (x := x) (y := y) his hkx
      rw [hlet] at hstep
      simp -implicitDefEqProofs (disch := first | omega | (simp only [LnZ]; omega)) [wrap64, (R3.on H).xTr, Tr.v, setC]
      refine (c_takes (t := a.edges[k]) (Rep_Tr.2 ⟨rfl, hv⟩)).go ?_
      rintro _ _ ⟨rfl, rfl⟩
      cases ho : a.edges[k].on l.all[i] with
      | false =>
        simp -implicitDefEqProofs (disch := first | omega | (simp only [LnZ]; omega)) [wrap64, ho]
        refine hJ2 _ _ hkx ⟨G, by simp, H, hG.congr (by omega) fun x y => ?_⟩
        rw [hstep, ho]
        simp
      | true =>
        obtain ⟨f, hf⟩ : ∃ f : Nat, a.edges[k].frm = f := ⟨a.edges[k].frm.toNat, by omega⟩
        obtain ⟨t, ht⟩ : ∃ t : Nat, a.edges[k].to = t := ⟨a.edges[k].to.toNat, by omega⟩
        have hfn : f < a.acc.length := by omega
        have htn : t < a.acc.length := by omega
        have hnxl := Las.nx_lt hl2 his
        have hx1 := at_lt hfn his
        have hy1 := at_lt htn hnxl
        have e3 : (i : Int) * a.acc.length = ((i * a.acc.length : Nat) : Int) := by simp
        have e4 : ((l.nx i : Nat) : Int) * a.acc.length = ((l.nx i * a.acc.length : Nat) : Int) := by simp
        obtain ⟨X, hX1⟩ : ∃ X, X = i * a.acc.length + f := ⟨_, rfl⟩
        obtain ⟨Y, hY1⟩ : ∃ Y, Y = l.nx i * a.acc.length + t := ⟨_, rfl⟩
        obtain ⟨p, hp⟩ : ∃ p, p = i * a.acc.length := ⟨_, rfl⟩
        obtain ⟨q, hq⟩ : ∃ q, q = l.nx i * a.acc.length := ⟨_, rfl⟩
        have hXG : X < G.length := by rw [hG.len]; omega
        have hrow := hG.row X hXG
        have e5 : (p : Int) + f = X := by omega
        have e6 : (q : Int) + t = Y := by omega
        rw [← hp] at e3
        rw [← hq] at e4
        obtain ⟨u, hu, HT⟩ := H.take hXG
        change hload _ (some (elp 1 nx X)) none = some u at hu
        have RL := Rl.on HT
        have hadd : G[X] ++ [(Y : Int)] = G[X] ++ [(Y : Int)] := rfl
        simp -implicitDefEqProofs (disch := first | omega | (simp only [LnZ]; omega)) [wrap64, ho, hf, ht, e3, e5, HT.sw1.holeia (n := 1) rfl, hu, RL.aLas]
        refine (c_nextL RL (by omega) (by omega) his).go ?_
        rintro _ _ ⟨rfl, rfl⟩
        simp -implicitDefEqProofs (disch := first | omega | (simp only [LnZ]; omega)) [wrap64, hf, ht, e3, e5, e4, e6, HT.sw1.holeia (n := 1) rfl, hu]
        refine HT.app1 (Y : Int) rfl rfl rfl ⟨by omega, by omega⟩ rfl rfl (by omega) (by omega) fun u' h5 H => ?_
        simp -implicitDefEqProofs (disch := first | omega | (simp only [LnZ]; omega)) [wrap64, H.sw1.holeia (n := 1) rfl]
        refine H.storeH rfl rfl rfl fun h6 H => ?_
        simp -implicitDefEqProofs (disch := first | omega | (simp only [LnZ]; omega)) [wrap64]
        refine hJ2 _ _ hkx ⟨_, by simp, H, (hG.add hXG).congr (by omega) fun x y => ?_⟩
        rw [hstep, ho, hf, ht, Int.toNat_natCast, Int.toNat_natCast, hX1, hY1]
        simp
    · simp -implicitDefEqProofs (disch := first | omega | (simp only [LnZ]; omega)) [wrap64]
      exact hJ _ _ his ⟨G, by simp, H, hG.congr (by omega) fun x y => PK_next (by omega)⟩
  have hG' : GI N (i * 2048) (a.PE l) G := hG.congr (Nat.le_refl _) fun x y => PK_all (by omega)
  have hAdj : Adj (a.PE l) G := ⟨fun x y hxy => by
    have := Aut.PE_lt ha hl2 hxy
    rw [hG'.len, hN]; exact this, hG'.mem⟩
  have hGl := hG'.len
  simp -implicitDefEqProofs (disch := first | omega | (simp only [LnZ]; omega)) [wrap64]
  refine (c_cyclic H.rep hAdj (by omega)).go ?_
  rintro c h4 ⟨C, H2, hCl, hC⟩
  have H := H2.app H
  simp -implicitDefEqProofs (disch := first | omega | (simp only [LnZ]; omega)) [wrap64]
  have hi1 : ∀ z ∈ a.init, 0 ≤ z ∧ z < (G.length : Int) := by
    intro z hz
    have h5 := incr_mem ha.i z hz
    have : 1 * a.acc.length ≤ l.size * a.acc.length := Nat.mul_le_mul_right _ (by omega)
    omega
  have hil := ha.il
  refine (c_reachable H.sw1.rep (R1.on H) hAdj hi1 (by omega) (by omega)).go ?_
  rintro r h5 ⟨B, H5, hBl, hB⟩
  have H := H5.app H
  have hacc : ∀ x, x < G.length → (tru B x ∧ tru C x ∧ tru a.acc (x % a.acc.length) ↔ (∃ s : Nat, (s : Int) ∈ a.init ∧ Rch (a.PE l) s x) ∧ Cyc (a.PE l) x ∧ tru a.acc (x % a.acc.length)) := fun x hx => by rw [hB, hC x hx]
  simp -implicitDefEqProofs (disch := first | omega | (simp only [LnZ]; omega)) [wrap64, H.rep.len]
  refine wp_count G.length (fun k e h' => e = [none, none, some (.agg #[v1, v2, v3]), none, none, none, some (.int .i64 a.acc.length), none, none, none, none, some c, none, none, none, none, none, none, none, none, some r, some (.int .i64 G.length), some (.int .i64 k)] ∧ h' = h5 ∧ ∀ x, x < k → ¬ (tru B x ∧ tru C x ∧ tru a.acc (x % a.acc.length))) ⟨by simp [hBl], rfl, fun x hx => absurd hx (Nat.not_lt_zero x)⟩ ?_
  rintro J3 k _ h6 hJ3 hk3 ⟨rfl, rfl, hno⟩
  simp -implicitDefEqProofs (disch := first | omega | (simp only [LnZ]; omega)) [wrap64]
  refine IteW.mk (fun hlt2 => ?_) (fun hge2 => ?_)
  · have hkn : k < G.length := by omega
    have hmod : k % a.acc.length < a.acc.length := Nat.mod_lt _ (by omega)
    have hmodi : (k : Int).tmod a.acc.length = ((k % a.acc.length : Nat) : Int) := by first | exact (Int.ofNat_tmod _ _).symm | exact (Int.natCast_tmod _ _).symm | simp
    have hmodi2 : (k : Int) % a.acc.length = ((k % a.acc.length : Nat) : Int) := by simp
    obtain ⟨m, hm⟩ : ∃ m, m = k % a.acc.length := ⟨_, rfl⟩
    rw [← hm] at hmod hmodi hmodi2
    have hn0 : ¬ (a.acc.length : Int) = 0 := by omega
    have hn0' : ¬ a.acc = [] := fun e => by rw [e] at hn; simp at hn
    have tB : tru B k ↔ B[k]'(by omega) = true := tru_get (by omega)
    have tC : tru C k ↔ C[k]'(by omega) = true := tru_get (by omega)
    have tA : tru a.acc (k % a.acc.length) ↔ a.acc[m] = true := by rw [← hm]; exact tru_get hmod
    have next : ¬ (tru B k ∧ tru C k ∧ tru a.acc (k % a.acc.length)) → ∀ x, x < k + 1 → ¬ (tru B x ∧ tru C x ∧ tru a.acc (x % a.acc.length)) := fun hh x hx => by
      by_cases e : x = k
      · subst e; exact hh
      · exact hno x (by omega)
    cases b1 : B[k]'(by omega) with
    | false =>
      simp -implicitDefEqProofs (disch := first | omega | (simp only [LnZ]; omega)) [wrap64, H.rep.B, b1]
      exact hJ3 _ _ hkn ⟨by simp, rfl, next fun hh => by have := tB.1 hh.1; rw [b1] at this; exact absurd this (by decide)⟩
    | true =>
    cases b2 : C[k]'(by omega) with
    | false =>
      simp -implicitDefEqProofs (disch := first | omega | (simp only [LnZ]; omega)) [wrap64, H.rep.B, b1, H.sw1.rep.B, b2]
      exact hJ3 _ _ hkn ⟨by simp, rfl, next fun hh => by have := tC.1 hh.2.1; rw [b2] at this; exact absurd this (by decide)⟩
    | true =>
    cases b3 : a.acc[m] with
    | false =>
      simp -implicitDefEqProofs (disch := first | omega | (simp only [LnZ]; omega)) [wrap64, H.rep.B, b1, H.sw1.rep.B, b2, hmodi, hmodi2, hn0, hn0', (R2.on H).B, b3]
      exact hJ3 _ _ hkn ⟨by simp, rfl, next fun hh => by have := tA.1 hh.2.2; rw [b3] at this; exact absurd this (by decide)⟩
    | true =>
      simp -implicitDefEqProofs (disch := first | omega | (simp only [LnZ]; omega)) [wrap64, H.rep.B, b1, H.sw1.rep.B, b2, hmodi, hmodi2, hn0, hn0', (R2.on H).B, b3]
      refine RetK.keep (hk _ _ ⟨H.base, true, rfl, ?_⟩)
      simp only [true_iff]
      obtain ⟨⟨s, h7, h8⟩, h9, h10⟩ := (hacc k hkn).1 ⟨tB.2 b1, tC.2 b2, tA.2 b3⟩
      exact ⟨s, h7, k, h8, h9, h10⟩
  · simp -implicitDefEqProofs (disch := first | omega | (simp only [LnZ]; omega)) [wrap64]
    refine RetK.keep (hk _ _ ⟨H.base, false, rfl, ?_⟩)
    simp only [Bool.false_eq_true, false_iff]
    rintro ⟨s, h7, x, h8, h9, h10⟩
    have hxl : x < G.length := by
      obtain ⟨y, h11, _⟩ := h9
      exact (hAdj.lt x y h11).1
    exact hno x (by omega) ((hacc x hxl).2 ⟨⟨s, h7, h8⟩, h9, h10⟩)
noncomputable def Aut.accB (a : Aut) (l : Las) : Bool := @decide (a.Ok ∧ l.Ok ∧ a.Acc l) (Classical.propDecidable _)
theorem c_Accepts {h : Heap} {v w : Value} {a : Aut} {l : Las} (Ra : Rep h v a) (Rl : Rep h w l) : CallE Tryz.prog fn_impl_Accepts [v, w] h (fun u h' => h.le h' ∧ u = .tuple #[.bool (a.accB l), .bool (decide (a.Ok ∧ l.Ok))]) := by
  have FA := Ra.aAut
  have FL := Rl.aLas
  refine CallE.gen fun k hk => EN_impl_Accepts rfl ?_
  simp -implicitDefEqProofs (disch := first | omega | (simp only [LnZ]; omega)) [wrap64, FA, FL]
  refine (c_AutomatonValid Ra).go ?_
  rintro _ h1 ⟨l1, rfl⟩
  by_cases ha : a.Ok
  case neg =>
    simp -implicitDefEqProofs (disch := first | omega | (simp only [LnZ]; omega)) [wrap64, ha]
    refine RetK.keep (hk _ _ ⟨l1, ?_⟩)
    rw [show a.accB l = false by simp [Aut.accB, ha], decide_eq_false (fun hh : a.Ok ∧ l.Ok => ha hh.1)]
  simp -implicitDefEqProofs (disch := first | omega | (simp only [LnZ]; omega)) [wrap64, ha, FL]
  refine (c_LassoValid (Rl.le l1)).go ?_
  rintro _ h2 ⟨l2, rfl⟩
  by_cases hl : l.Ok
  case neg =>
    simp -implicitDefEqProofs (disch := first | omega | (simp only [LnZ]; omega)) [wrap64, hl]
    refine RetK.keep (hk _ _ ⟨l1.trans l2, ?_⟩)
    rw [show a.accB l = false by simp [Aut.accB, hl], decide_eq_false (fun hh : a.Ok ∧ l.Ok => hl hh.2)]
  simp -implicitDefEqProofs (disch := first | omega | (simp only [LnZ]; omega)) [wrap64, hl, FA, FL]
  refine (c_accepts (Ra.le (l1.trans l2)) (Rl.le (l1.trans l2)) ha hl).go ?_
  rintro _ h3 ⟨l3, r, rfl, hr⟩
  simp -implicitDefEqProofs (disch := first | omega | (simp only [LnZ]; omega)) [wrap64]
  refine RetK.keep (hk _ _ ⟨l1.trans (l2.trans l3), ?_⟩)
  rw [decide_eq_true (show a.Ok ∧ l.Ok from ⟨ha, hl⟩)]
  have : a.accB l = r := by
    rw [Bool.eq_iff_iff, hr, Aut.accB]
    simp [ha, hl]
  rw [this]
theorem Aut.accB_lang {a : Aut} {l : Las} (ha : a.Ok) (hl : l.Ok) : a.accB l = true ↔ a.Lang l.word := by
  rw [← Aut.acc_iff ha hl.2.2.1, Aut.accB]
  simp [ha, hl]
end Go.Proofs.YtglnelcmcimljaaGreat

namespace Go.Proofs.YtglnelcmcimljaaGreat
open Go
theorem Great.refl {a : Aut} {R : Rl} (h : Great a R) {i : Nat} (hi : i < a.acc.length) : R i i = true := by
  refine h.upper (fun x y => decide (x = y)) ⟨?_, ?_⟩ i i hi hi (by simp)
  · intro x y _ _ hxy hx
    simp only [decide_eq_true_eq] at hxy
    subst hxy; exact hx
  · intro x y _ _ hxy l _ e he hx ho
    simp only [decide_eq_true_eq] at hxy
    subst hxy
    exact ⟨e, he, hx, ho, by simp⟩
theorem Great.trans {a : Aut} (ha : a.Ok) {R : Rl} (h : Great a R) {i j k : Nat} (hi : i < a.acc.length) (hj : j < a.acc.length) (hk : k < a.acc.length) (h1 : R i j = true) (h2 : R j k = true) : R i k = true := by
  refine h.upper (fun x z => @decide (∃ y, y < a.acc.length ∧ R x y = true ∧ R y z = true) (Classical.propDecidable _)) ⟨?_, ?_⟩ i k hi hk (by simpa using ⟨j, hj, h1, h2⟩)
  · intro x z hx hz hxz h3
    simp only [decide_eq_true_eq] at hxz
    obtain ⟨y, hy, h4, h5⟩ := hxz
    exact h.simu.1 y z hy hz h5 (h.simu.1 x y hx hy h4 h3)
  · intro x z hx hz hxz l hl e he h6 ho
    simp only [decide_eq_true_eq] at hxz
    obtain ⟨y, hy, h4, h5⟩ := hxz
    obtain ⟨f, hf, g1, g2, g3⟩ := h.simu.2 x y hx hy h4 l hl e he h6 ho
    obtain ⟨f', hf', k1, k2, k3⟩ := h.simu.2 y z hy hz h5 l hl f hf g1 g2
    obtain ⟨_, q, _, h8, _, h10⟩ := ha.tr hf
    refine ⟨f', hf', k1, k2, ?_⟩
    simp only [decide_eq_true_eq]
    exact ⟨f.to.toNat, by rw [h8]; simpa using h10, g3, k3⟩
def Letters (w : Nat → Int) : Prop := ∀ t, 0 ≤ w t ∧ w t ≤ 7
theorem Simu.run {a : Aut} (ha : a.Ok) {R : Rl} (hR : Simu a R) {w : Nat → Int} (hw : Letters w) {t i j : Nat} (hi : i < a.acc.length) (hj : j < a.acc.length) (h : R i j = true) (k : Run a.acc a.edges w t i) : Run a.acc a.edges w t j := by
  refine Run.sim (fun x y => x < a.acc.length ∧ y < a.acc.length ∧ R x y = true) ?_ ?_ k ⟨hi, hj, h⟩
  · rintro t p q p' ⟨h1, h2, h3⟩ ⟨e, he, h4, h5, h6⟩ _
    have h7 := hw t
    obtain ⟨n, hn⟩ : ∃ n : Nat, w t = n := ⟨(w t).toNat, by omega⟩
    rw [hn] at h6 h7
    obtain ⟨f, hf, g1, g2, g3⟩ := hR.2 p p' h1 h2 h3 n (by omega) e he h4 h6
    obtain ⟨x, y, k1, k2, k3, k4⟩ := ha.tr he
    obtain ⟨x', y', k1', k2', k3', k4'⟩ := ha.tr hf
    refine ⟨y', ⟨f, hf, g1, k2', by rw [hn]; exact g2⟩, by omega, k4', ?_⟩
    rw [h5, k2'] at g3
    simpa using g3
  · rintro p p' ⟨h1, h2, h3⟩ h4
    exact hR.1 p p' h1 h2 h3 h4
section
variable {a b : Aut}
end
theorem kidx_inj {K : Nat → Bool} {p q : Nat} (hp : K p = true) (hq : K q = true) (h : kidx K p = kidx K q) : p = q := by
  have lt : ∀ {p q : Nat}, K p = true → p < q → kidx K p < kidx K q := by
    intro p q hp hlt
    have h1 := kidx_succ (K := K) (q := p)
    rw [hp, if_pos rfl] at h1
    have h2 := kidx_mono (K := K) (show p + 1 ≤ q by omega)
    omega
  by_cases h1 : p < q
  · have := lt hp h1; omega
  by_cases h2 : q < p
  · have := lt hq h2; omega
  omega
theorem kept_at {K : Nat → Bool} {A : List Bool} : ∀ {n p : Nat}, p < n → K p = true → (((List.range n).filter K).map fun q => A.getD q false)[kidx K p]? = some (A.getD p false)
  | 0, p, h, _ => absurd h (Nat.not_lt_zero p)
  | n + 1, p, h, hK => by
    rw [List.range_succ, List.filter_append, List.map_append]
    by_cases hp : p = n
    · subst hp
      rw [List.getElem?_append_right (by simp [kidx])]
      simp [kidx, hK]
    · have h1 := kept_at (A := A) (show p < n by omega) hK
      rw [List.getElem?_append_left]
      · exact h1
      · obtain ⟨h2, _⟩ := List.getElem?_eq_some_iff.1 h1
        exact h2
section
variable {a : Aut} {K : Nat → Bool}
theorem kidx_pos {n p : Nat} (hp : p < n) (hK : K p = true) : kidx K n ≠ 0 := by
  have h1 := kidx_succ (K := K) (q := p)
  rw [hK, if_pos rfl] at h1
  have h2 := kidx_mono (K := K) (show p + 1 ≤ n by omega)
  omega
theorem keep_ini {s : Nat} (hs : s < a.acc.length) (hK : K s = true) (h : (s : Int) ∈ a.init) : ((kidx K s : Nat) : Int) ∈ (a.keep K).init := by
  rw [Aut.keep, if_neg (kidx_pos hs hK)]
  exact List.mem_map.2 ⟨s, List.mem_filter.2 ⟨h, by simpa using hK⟩, by simp [kout]⟩
theorem keep_ini' (ha : a.Ok) {x : Nat} (h : (x : Int) ∈ (a.keep K).init) : ∃ s : Nat, (s : Int) ∈ a.init ∧ K s = true ∧ x = kidx K s := by
  unfold Aut.keep at h
  split at h
  · simp at h
  · obtain ⟨i, hi, he⟩ := List.mem_map.1 h
    obtain ⟨h1, h2⟩ := List.mem_filter.1 hi
    have h3 := incr_mem ha.i _ h1
    exact ⟨i.toNat, by rw [Int.toNat_of_nonneg (by omega)]; exact h1, h2, by simp only [kout] at he; omega⟩
theorem keep_st {w : Nat → Int} {t p q : Nat} (hp : K p = true) (hq : K q = true) (hpn : p < a.acc.length) (h : StE a.edges w t p q) : StE (a.keep K).edges w t (kidx K p) (kidx K q) := by
  obtain ⟨e, he, h1, h2, h3⟩ := h
  rw [Aut.keep, if_neg (kidx_pos hpn hp)]
  exact ⟨_, List.mem_map.2 ⟨e, List.mem_filter.2 ⟨he, by simp [h1, h2, hp, hq]⟩, rfl⟩, by simp [Tr.ren, kout, h1], by simp [Tr.ren, kout, h2], h3⟩
theorem keep_st' (ha : a.Ok) {w : Nat → Int} {t p y : Nat} (hp : K p = true) (h : StE (a.keep K).edges w t (kidx K p) y) : ∃ q, K q = true ∧ q < a.acc.length ∧ y = kidx K q ∧ StE a.edges w t p q := by
  obtain ⟨e, he, h1, h2, h3⟩ := h
  unfold Aut.keep at he
  split at he
  · simp at he
  · obtain ⟨f, hf, rfl⟩ := List.mem_map.1 he
    obtain ⟨g1, g2⟩ := List.mem_filter.1 hf
    obtain ⟨x, z, k1, k2, k3, k4⟩ := ha.tr g1
    simp only [Tr.ren, kout, k1, k2, Int.toNat_natCast, Bool.and_eq_true] at h1 h2 g2
    have := kidx_inj g2.1 hp (by omega)
    subst this
    exact ⟨z, g2.2, k4, by omega, f, g1, k1, k2, h3⟩
theorem keep_tru {p : Nat} (hp : p < a.acc.length) (hK : K p = true) : tru (a.keep K).acc (kidx K p) ↔ tru a.acc p := by
  rw [Aut.keep, if_neg (kidx_pos hp hK)]
  unfold tru
  rw [List.getD_eq_getElem?_getD, kept_at hp hK]
  rfl
theorem trim_lang (ha : a.Ok) {w : Nat → Int} : a.trim.Lang w ↔ a.Lang w := by
  constructor
  · rintro ⟨x, hx, h⟩
    obtain ⟨s, h1, h2, rfl⟩ := keep_ini' ha hx
    refine ⟨s, h1, Run.sim (fun x p => a.tkeep p = true ∧ p < a.acc.length ∧ x = kidx a.tkeep p) ?_ ?_ h ⟨h2, ha.ini h1, rfl⟩⟩
    · rintro t x y p ⟨g1, g2, rfl⟩ g3 _
      obtain ⟨q, k1, k2, k3, k4⟩ := keep_st' ha g1 g3
      exact ⟨q, k4, k1, k2, k3⟩
    · rintro x p ⟨g1, g2, rfl⟩ g3
      exact (keep_tru g2 g1).1 g3
  · rintro ⟨s, hs, h⟩
    have hs' := ha.ini hs
    have hK : a.tkeep s = true := Aut.tkeep_iff.2 ⟨⟨s, hs, .refl _⟩, Run.live ha hs' h⟩
    refine ⟨_, keep_ini hs' hK hs, Run.sim (fun p x => a.tkeep p = true ∧ p < a.acc.length ∧ x = kidx a.tkeep p) ?_ ?_ h ⟨hK, hs', rfl⟩⟩
    · rintro t p q x ⟨g1, g2, rfl⟩ g3 g4
      have hq := (ha.st g3).2
      have hKq : a.tkeep q = true := by
        obtain ⟨⟨s', h1, h2⟩, _⟩ := Aut.tkeep_iff.1 g1
        obtain ⟨e, he, k1, k2, _⟩ := g3
        exact Aut.tkeep_iff.2 ⟨⟨s', h1, h2.snoc ⟨e, he, k1, k2⟩⟩, Run.live ha hq g4⟩
      exact ⟨_, keep_st g1 hKq g2 g3, hKq, hq, rfl⟩
    · rintro p x ⟨g1, g2, rfl⟩ g3
      exact (keep_tru g2 g1).2 g3
end
end Go.Proofs.YtglnelcmcimljaaGreat
