/-
  Texts of this proof, one behind the other.
-/
import Derived.Shelf.Sort.Plain
import Derived.Shelf.Slices.CompactI
import Derived.Shelf.Slices.In.SortNone
import Derived.Test.YtglnelcmcimljaaRows
import Derived.Lib.SlicesCompact
import Derived.Sort.Grow
import Derived.Sort.Row
import Derived.Test.YtglnelcmcimljaaYF6
/-
  Which nodes lie on a cycle, and from which states a word is accepted, by the program.
-/
namespace Go.Proofs.Ytglnelcmcimljaa
open Go
set_option linter.all false
set_option linter.unusedVariables false
set_option linter.unusedSimpArgs false
set_option linter.defProp false
set_option maxRecDepth 1000000

def cntP (Q : List Int) (i : Nat) (p : Int) : Nat := ((List.range i).filter fun y => decide (gd Q y = p)).length
theorem cntP_succ {Q : List Int} {i : Nat} {p : Int} : cntP Q (i + 1) p = cntP Q i p + if gd Q i = p then 1 else 0 := by
  simp only [cntP, List.range_succ, List.filter_append, List.length_append, List.filter_cons, List.filter_nil]
  by_cases h : gd Q i = p <;> simp [h]
theorem cntP_le {Q : List Int} {i : Nat} {p : Int} : cntP Q i p ≤ i := by
  have := List.length_filter_le (fun y => decide (gd Q y = p)) (List.range i)
  simpa [cntP] using this

theorem c_cyclic {h : Heap} {w : Value} {G : List (List Int)} {E : Nat → Nat → Prop} (Rw : Rep h w G) (hG : Adj E G) (hnl : G.length ≤ 1048576) :
    CallE Try.prog fn_impl_cyclic [w] h (fun u h' => ∃ C : List Bool, HS h [ow u C] h' ∧ C.length = G.length ∧ ∀ x, x < G.length → (tru C x ↔ Cyc E x)) := by
  refine CallE.gen fun k hk => EN_impl_cyclic rfl ?_
  simp -implicitDefEqProofs (disch := first | omega | (simp only [LnZ]; omega)) [wrap64]
  refine (c_components Rw hG hnl).go ?_
  rintro p h1 ⟨Q, H, hQl, hQb, hQ⟩
  simp -implicitDefEqProofs (disch := first | omega | (simp only [LnZ]; omega)) [wrap64, (Rw.on H).len]
  refine H.mks (α := Int) (z := 0) rfl rfl (own_zero (by decide) (by decide)) (Nat.le_refl _) (by omega) (by omega) fun z h2 H => ?_
  simp -implicitDefEqProofs (disch := first | omega | (simp only [LnZ]; omega)) [wrap64, H.sw1.rep.len]
  refine wp_count G.length (fun i e h' => e = [some w, none, some p, some z, none, none, none, some p, some (.int .i64 G.length), some (.int .i64 i), none, none] ∧ ∃ Z : List Int, HS h [ow z Z, ow p Q] h' ∧ Z.length = G.length ∧ ∀ x, x < G.length → gd Z x = cntP Q i x) ⟨by simp [hQl], _, H, by simp, fun x hx => by rw [gd_get (by simpa using hx)]; simp [cntP]⟩ ?_
  clear H
  rintro J i _ h3 hJ hi ⟨rfl, Z, H, hZl, hZ⟩
  simp -implicitDefEqProofs (disch := first | omega | (simp only [LnZ]; omega)) [wrap64]
  refine IteW.mk (fun hlt => ?_) (fun hge => ?_)
  · have hin : i < G.length := by omega
    have hq := hQb i hin
    obtain ⟨q, hqi⟩ : ∃ q : Nat, Q[i]'(by omega) = q := ⟨(Q[i]'(by omega)).toNat, by rw [← gd_get]; omega⟩
    have hqn : q < G.length := by rw [gd_get (by omega), hqi] at hq; omega
    have hzq : Z[q]'(by omega) = cntP Q i q := by rw [← gd_get, hZ q hqn]
    have hcl := cntP_le (Q := Q) (i := i) (p := q)
    simp -implicitDefEqProofs (disch := first | omega | (simp only [LnZ]; omega)) [wrap64, H.sw1.rep.I, hqi, H.rep.I, hzq]
    refine H.storeF ((cntP Q i q : Int) + 1) (i := q) (by omega) rfl rfl ⟨by omega, by omega⟩ rfl fun h4 H => ?_
    simp -implicitDefEqProofs (disch := first | omega | (simp only [LnZ]; omega)) [wrap64]
    refine hJ _ _ hin ⟨rfl, _, H, by simpa using hZl, fun x hx => ?_⟩
    rw [gd_set (by omega), cntP_succ, gd_get (by omega), hqi]
    by_cases e : x = q
    · subst e; simp
    · rw [fput_ne e, hZ x hx, if_neg (by omega)]; simp
  have hin : i = G.length := by omega
  subst hin
  simp -implicitDefEqProofs (disch := first | omega | (simp only [LnZ]; omega)) [wrap64, (Rw.on H).len]
  refine H.mks (α := Bool) (z := false) rfl rfl own_false (Nat.le_refl _) (by omega) (by omega) fun c h4 H => ?_
  simp -implicitDefEqProofs (disch := first | omega | (simp only [LnZ]; omega)) [wrap64, (Rw.on H).len]
  refine wp_count G.length (fun i e h' => e = [some w, none, some p, some z, none, some c, none, none, none, none, some (.int .i64 G.length), some (.int .i64 i)] ∧ ∃ C : List Bool, HS h [ow c C, ow z Z, ow p Q] h' ∧ C.length = G.length ∧ ∀ x, x < i → (tru C x ↔ Cyc E x)) ⟨by simp, _, H, by simp, fun x hx => absurd hx (Nat.not_lt_zero x)⟩ ?_
  clear H hJ
  rintro J i _ h5 hJ hi ⟨rfl, C, H, hCl, hC⟩
  simp -implicitDefEqProofs (disch := first | omega | (simp only [LnZ]; omega)) [wrap64]
  refine IteW.mk (fun hlt2 => ?_) (fun hge2 => ?_)
  · have hin : i < G.length := by omega
    have hq := hQb i hin
    obtain ⟨q, hqi⟩ : ∃ q : Nat, Q[i]'(by omega) = q := ⟨(Q[i]'(by omega)).toNat, by rw [← gd_get]; omega⟩
    have hqn : q < G.length := by rw [gd_get (by omega), hqi] at hq; omega
    have hzq : Z[q]'(by omega) = cntP Q G.length q := by rw [← gd_get, hZ q hqn]
    have hpc := part_cycle hQ hG.lt hin
    have hcnt : ((List.range G.length).filter fun y => decide (gd Q y = gd Q i)).length = cntP Q G.length q := by
      rw [gd_get (by omega), hqi]; rfl
    rw [hcnt] at hpc
    have hstep : ∀ b : Bool, (b = true ↔ Cyc E i) → ∀ x, x < i + 1 → (tru (C.set i b) x ↔ Cyc E x) := by
      intro b hb x hx
      have h1 : tru (C.set i b) x ↔ if x = i then b = true else tru C x := by
        simp only [tru, List.getD_eq_getElem?_getD, List.getElem?_set]
        by_cases e : i = x
        · subst e; simp [show i < C.length by omega]
        · simp [e, Ne.symm e]
      rw [h1]
      split
      · rename_i e; subst e; exact hb
      · exact hC x (by omega)
    by_cases h1 : (1 : Int) < cntP Q G.length q
    · simp -implicitDefEqProofs (disch := first | omega | (simp only [LnZ]; omega)) [wrap64, H.sw2.rep.I, hqi, H.sw1.rep.I, hzq, h1, H.rep.B]
      refine H.storeF true (i := i) (by omega) rfl rfl trivial rfl fun h6 H => ?_
      simp -implicitDefEqProofs (disch := first | omega | (simp only [LnZ]; omega)) [wrap64]
      exact hJ _ _ hin ⟨rfl, _, H, by simpa using hCl, hstep true (by rw [hpc]; simp; omega)⟩
    · obtain ⟨u, hu0, Ru⟩ := Rw.ldL hin
      simp -implicitDefEqProofs (disch := first | omega | (simp only [LnZ]; omega)) [wrap64, H.sw2.rep.I, hqi, H.sw1.rep.I, hzq, h1, H.rep.B, (Rw.on H).X (n := 1) rfl, hload_le H.base hu0]
      refine (c_Contains_int (Ru.on H)).go ?_
      rintro _ _ ⟨rfl, rfl⟩
      simp -implicitDefEqProofs (disch := first | omega | (simp only [LnZ]; omega)) [wrap64, H.rep.B]
      refine H.storeF (decide ((i : Int) ∈ G[i])) (i := i) (by omega) rfl rfl trivial rfl fun h6 H => ?_
      simp -implicitDefEqProofs (disch := first | omega | (simp only [LnZ]; omega)) [wrap64]
      refine hJ _ _ hin ⟨rfl, _, H, by simpa using hCl, hstep _ ?_⟩
      rw [hpc, decide_eq_true_iff, hG.mem i hin]
      constructor
      · rintro ⟨y, h2, h3⟩
        obtain rfl : i = y := by omega
        exact .inr h3
      · rintro (h2 | h2)
        · omega
        · exact ⟨i, rfl, h2⟩
  have hin : i = G.length := by omega
  subst hin
  simp -implicitDefEqProofs (disch := first | omega | (simp only [LnZ]; omega)) [wrap64]
  exact RetK.keep (hk _ _ ⟨C, H.only, hCl, hC⟩)

end Go.Proofs.Ytglnelcmcimljaa

/-
  Bodies of functions in the small language, as a program printed them, and that each is what the translation gives.
-/
namespace Go.Proofs.Ytglnelcmcimljaa
open Go
set_option linter.all false
set_option linter.defProp false
set_option maxRecDepth 1000000

end Go.Proofs.Ytglnelcmcimljaa

/-
  Bodies of functions in the small language, as a program printed them, and that each is what the translation gives.
-/
namespace Go.Proofs.Ytglnelcmcimljaa
open Go
set_option linter.all false
set_option linter.defProp false
set_option maxRecDepth 1000000

end Go.Proofs.Ytglnelcmcimljaa

/-
  Trimming, by the program.
-/
namespace Go.Proofs.Ytglnelcmcimljaa
open Go
set_option linter.all false
set_option linter.unusedVariables false
set_option linter.unusedSimpArgs false
set_option linter.defProp false
set_option maxRecDepth 1000000

/-- accepting marks of the states that are kept, of so many -/
def accK (a : Aut) (K : Nat → Bool) (i : Nat) : List Bool := ((List.range i).filter K).map fun q => a.acc.getD q false
/-- the new numbers: -1 for what is not kept -/
def knum (K : Nat → Bool) (q : Nat) : Int := if K q then (kidx K q : Int) else -1

end Go.Proofs.Ytglnelcmcimljaa

/-
  Trimming, by the reference; both as functions of the package.
-/
namespace Go.Proofs.Ytglnelcmcimljaa
open Go
set_option linter.all false
set_option linter.unusedVariables false
set_option linter.unusedSimpArgs false
set_option linter.defProp false
set_option maxRecDepth 1000000

/-- what a function of a valid automaton gives back -/
def okR (f : Aut → Aut) (h : Heap) (a : Aut) (u : Value) (h' : Heap) : Prop := ∃ v, u = .tuple #[v, .bool (decide a.Ok)] ∧ HS h [ow v (if a.Ok then f a else Aut.empty)] h'
theorem okR.no {f : Aut → Aut} {h h' : Heap} {a : Aut} (hn : ¬ a.Ok) (H : HS h [] h') : okR f h a (.tuple #[.agg #[.slice none 0 0, .slice none 0 0, .slice none 0 0], .bool false]) h' :=
  ⟨_, by rw [decide_eq_false hn], by rw [if_neg hn]; exact empty_ow H⟩
theorem okR.yes {f : Aut → Aut} {h h' : Heap} {a : Aut} {v : Value} (hn : a.Ok) (H : HS h [ow v (f a)] h') : okR f h a (.tuple #[v, .bool true]) h' :=
  ⟨_, by rw [decide_eq_true hn], by rw [if_pos hn]; exact H⟩

end Go.Proofs.Ytglnelcmcimljaa

/-
  How much the arguments and results of the laws hold.
-/
namespace Go.Proofs.Ytglnelcmcimljaa
open Go
set_option linter.all false
set_option linter.unusedVariables false
set_option linter.unusedSimpArgs false
set_option linter.defProp false
set_option maxRecDepth 1000000

end Go.Proofs.Ytglnelcmcimljaa

/-
  Instances of functions over slices: copies, and whether some element meets a condition. Printed by a program.
-/
namespace Go.Proofs.Ytglnelcmcimljaa
open Go
set_option linter.all false
set_option linter.unusedVariables false
set_option linter.unusedSimpArgs false
set_option linter.defProp false
set_option maxRecDepth 1000000

theorem c_IndexFunc_int {h : Heap} {a fv : Value} {x : List Int} (Ra : Rep h a x) {f : FuncId} {c1 c2 : List Value} (hf : fnOf fv = some (f, c1, c2)) (p : Int → Bool)
    (hp : ∀ h1, h.le h1 → ∀ (i : Nat) (hi : i < x.length) (u : Value), Rep h1 u x[i] → CallE Try.prog f (c1 ++ u :: c2) h1 (fun v h' => h1.le h' ∧ v = .bool (p x[i]))) :
    CallE Try.prog fn_slices_IndexFunc_S_int_int [a, fv] h (fun v h' => h.le h' ∧ v = .int .i64 (match x.findIdx? p with | some i => (i : Int) | none => -1)) := by
  refine CallE.gen fun k hk => EN_slices_IndexFunc_S_int_int rfl ?_
  have hL := Ra.lt
  simp -implicitDefEqProofs (disch := first | omega | (simp only [LnZ]; omega)) [wrap64, Ra.len]
  refine wp_count x.length (fun i e h' => e = [some a, some fv, none, none, some (.int .i64 x.length), some (.int .i64 i)] ∧ h.le h' ∧ ∀ (j : Nat) (hj : j < x.length), j < i → p x[j] = false) ⟨rfl, Heap.le.refl h, fun j _ hj => absurd hj (Nat.not_lt_zero j)⟩ ?_
  rintro J i _ h1 hJ hi ⟨rfl, hl, hn⟩
  simp -implicitDefEqProofs (disch := first | omega | (simp only [LnZ]; omega)) [wrap64]
  refine IteW.mk (fun hlt => ?_) (fun hge => ?_)
  · have hlx : i < x.length := by omega
    obtain ⟨u, hu, Ru⟩ := (Ra.le hl).ld hlx
    change hload _ (some (elp 1 a i)) none = some u at hu
    simp -implicitDefEqProofs (disch := first | omega | (simp only [LnZ]; omega)) [wrap64, (Ra.le hl).X (n := 1) rfl, hu, hf]
    refine (hp h1 hl i hlx u Ru).go ?_
    rintro _ h2 ⟨hl2, rfl⟩
    simp -implicitDefEqProofs (disch := first | omega | (simp only [LnZ]; omega)) [wrap64]
    refine IteW.mk (fun hq => ?_) (fun hq => ?_)
    · simp -implicitDefEqProofs (disch := first | omega | (simp only [LnZ]; omega)) [wrap64]
      refine RetK.keep (hk _ _ ⟨hl.trans hl2, ?_⟩)
      have h3 : x.findIdx? p = some i := by
        rw [List.findIdx?_eq_some_iff_getElem]
        exact ⟨hlx, hq, fun j hj => by rw [hn j (by omega) hj]; simp⟩
      rw [h3]
    · simp -implicitDefEqProofs (disch := first | omega | (simp only [LnZ]; omega)) [wrap64]
      refine hJ _ _ hlx ⟨rfl, hl.trans hl2, fun j hj hji => ?_⟩
      by_cases hji2 : j = i
      · subst hji2; simpa using hq
      · exact hn j hj (by omega)
  · simp -implicitDefEqProofs (disch := first | omega | (simp only [LnZ]; omega)) [wrap64]
    refine RetK.keep (hk _ _ ⟨hl, ?_⟩)
    have h3 : x.findIdx? p = none := by
      rw [List.findIdx?_eq_none_iff]
      intro y hy
      obtain ⟨j, hj, rfl⟩ := List.mem_iff_getElem.1 hy
      exact hn j hj (by omega)
    rw [h3]

theorem c_ContainsFunc_int {h : Heap} {a fv : Value} {x : List Int} (Ra : Rep h a x) {f : FuncId} {c1 c2 : List Value} (hf : fnOf fv = some (f, c1, c2)) (p : Int → Bool)
    (hp : ∀ h1, h.le h1 → ∀ (i : Nat) (hi : i < x.length) (u : Value), Rep h1 u x[i] → CallE Try.prog f (c1 ++ u :: c2) h1 (fun v h' => h1.le h' ∧ v = .bool (p x[i]))) :
    CallE Try.prog fn_slices_ContainsFunc_S_int_int [a, fv] h (fun v h' => h.le h' ∧ v = .bool (x.any p)) := by
  refine CallE.gen fun k hk => EN_slices_ContainsFunc_S_int_int rfl ?_
  simp -implicitDefEqProofs (disch := first | omega | (simp only [LnZ]; omega)) [wrap64]
  refine (c_IndexFunc_int Ra hf p hp).go ?_
  rintro _ h1 ⟨hl, rfl⟩
  simp -implicitDefEqProofs (disch := first | omega | (simp only [LnZ]; omega)) [wrap64]
  refine RetK.keep (hk _ _ ⟨hl, ?_⟩)
  congr 1
  rw [← List.findIdx?_isSome]
  cases x.findIdx? p <;> simp

end Go.Proofs.Ytglnelcmcimljaa

/-
  Bodies of functions in the small language, as a program printed them, and that each is what the translation gives.
-/
namespace Go.Proofs.Ytglnelcmcimljaa
open Go
set_option linter.all false
set_option linter.defProp false
set_option maxRecDepth 1000000

def H_spec_l7On : Hint := ⟨[(0, false), (1, false), (2, true), (4, false)], []⟩
def K139_1 : C := .seq (.pl <| .st (.ext 4 7) <|
    .st (.act none (.px (some 4) (.mv (.v 1)))) <|
    .st (.act none (.als 5 none 2)) <|
    .st (.act none (.pget (some 6) (some 5) 2 1 none)) <|
    .st (.act none (.px (some 7) (.bin .and (.v 4) (.v 6)))) <|
    .st (.act none (.als 8 none 2)) <|
    .st (.act none (.pget (some 9) (some 8) 2 2 none)) <|
    .st (.act none (.px (some 10) (.bin .eql (.v 7) (.v 9)))) <|
    .st (.act none (.px (some 3) (.mv (.v 10)))) .done) (.ret)
@[simp] def W139_1 := @C.wpe _ _ K139_1.eq_1
def B_spec_l7On : C := .seq (.pl <| .st (.ext 4 0) <|
    .st (.act none (.pnew 2 (.v 0) [])) <|
    .st (.act none (.px (some 3) (.mv (.c (.bool false))))) .done) K139_1
@[simp] def WB_spec_l7On := @C.wpe _ _ B_spec_l7On.eq_1
def R_spec_l7On : FIR := ⟨B_spec_l7On, 4, [(3, none)]⟩
theorem IR_spec_l7On : cfun Try.prog H_spec_l7On Try.f139 = some R_spec_l7On := by kernel_rfl
theorem EN_spec_l7On {args : List Value} {h : Heap} {k : Value → Heap → Prop} (hargs : args.length = 2) (hw : B_spec_l7On.wp Try.prog (retQ [(3, none)] k) (env0 args 4) h) : CallE Try.prog fn_spec_l7On args h k := enter Try.func139 rfl IR_spec_l7On hargs hw


end Go.Proofs.Ytglnelcmcimljaa

/-
  Whether an edge takes a letter, by the program and by the reference.
-/
namespace Go.Proofs.Ytglnelcmcimljaa
open Go
set_option linter.all false
set_option linter.unusedVariables false
set_option linter.unusedSimpArgs false
set_option linter.defProp false
set_option maxRecDepth 1000000

theorem c_takes {h : Heap} {v : Value} {t : Tr} (Rt : Rep h v t) {n : Int} : CallE Try.prog fn_impl_Transition_takes [v, .int .i64 n] h (fun u h' => h' = h ∧ u = .bool (t.on n)) := by
  rw [(Rep_Tr.1 Rt).1]
  refine CallE.gen fun k hk => EN_impl_Transition_takes rfl ?_
  simp -implicitDefEqProofs (disch := first | omega | (simp only [LnZ]; omega)) [wrap64, Tr.v]
  exact RetK.keep (hk _ _ ⟨rfl, rfl⟩)
theorem c_l7On {h : Heap} {v : Value} {t : Tr} (Rt : Rep h v t) {n : Int} : CallE Try.prog fn_spec_l7On [v, .int .i64 n] h (fun u h' => h' = h ∧ u = .bool (t.on n)) := by
  rw [(Rep_Tr.1 Rt).1]
  refine CallE.gen fun k hk => EN_spec_l7On rfl ?_
  simp -implicitDefEqProofs (disch := first | omega | (simp only [LnZ]; omega)) [wrap64, Tr.v]
  exact RetK.keep (hk _ _ ⟨rfl, rfl⟩)

end Go.Proofs.Ytglnelcmcimljaa

/-
  The live states behind a word, by the program and by the reference.
-/
namespace Go.Proofs.Ytglnelcmcimljaa
open Go
set_option linter.all false
set_option linter.unusedVariables false
set_option linter.unusedSimpArgs false
set_option linter.defProp false
set_option maxRecDepth 1000000

theorem c_letters_1 {h : Heap} {n : Int} : CallE Try.prog fn_impl_letters_1 [.int .i64 n] h (fun u h' => h' = h ∧ u = .bool (!decide (0 ≤ n ∧ n ≤ 7))) := by
  refine CallE.gen fun k hk => EN_impl_letters_1 rfl ?_
  simp -implicitDefEqProofs (disch := first | omega | (simp only [LnZ]; omega)) [wrap64]
  refine c_in.go ?_
  rintro _ _ ⟨rfl, rfl⟩
  simp -implicitDefEqProofs (disch := first | omega | (simp only [LnZ]; omega)) [wrap64]
  exact RetK.keep (hk _ _ ⟨rfl, by simp⟩)
theorem c_letters {h : Heap} {w : Value} {W : List Int} (Rw : Rep h w W) : CallE Try.prog fn_impl_letters [w] h (fun u h' => h.le h' ∧ u = .bool (decide (∀ x ∈ W, 0 ≤ x ∧ x ≤ 7))) := by
  refine CallE.gen fun k hk => EN_impl_letters rfl ?_
  simp -implicitDefEqProofs (disch := first | omega | (simp only [LnZ]; omega)) [wrap64]
  refine (c_ContainsFunc_int Rw (c1 := []) (c2 := []) (f := fn_impl_letters_1) rfl (fun n => !decide (0 ≤ n ∧ n ≤ 7)) ?_).go ?_
  · intro h3 hl j hj u Ru
    obtain ⟨rfl, _⟩ := Rep_int.1 Ru
    exact (c_letters_1 (n := W[j])).to fun _ _ ⟨h4, h5⟩ => ⟨h4 ▸ Heap.le.refl _, h5⟩
  · rintro _ h3 ⟨hl, rfl⟩
    simp -implicitDefEqProofs (disch := first | omega | (simp only [LnZ]; omega)) [wrap64]
    refine RetK.keep (hk _ _ ⟨hl, ?_⟩)
    congr 1
    rw [Bool.eq_iff_iff]
    simp
end Go.Proofs.Ytglnelcmcimljaa

/-
  Appending zeros; a slice written out with two elements that are only read; concatenation of two lists of numbers.
-/
namespace Go.Proofs.Ytglnelcmcimljaa
open Go
set_option linter.all false
set_option linter.unusedVariables false
set_option linter.unusedSimpArgs false
set_option linter.defProp false
set_option maxRecDepth 1000000

section
variable {P : Program} {k : Env → Heap → Prop} {e : Env} {g h : Heap} {Γ : List HP} {v : Value} {α : Type}
theorem HS.appZ [Ty α] [Flat α] {l : List α} (H : HS g (ow v l :: Γ) h) {z : α} {n : Nat} {bytes esz : Nat} {zero zero' : List Value} {a x : O} {dst : Nat} {kd : IntKind} (ha : a.get e = some v) (hx : x.get e = some (.int kd (n : Int))) (hzz : zero' = Flat.enc z) (hok : Flat.ok z) (hsz : esz = Ty.sz α) (hz : zero.length = Ty.sz α)
    (hb : (l.length + n) * bytes ≤ 140737488355328) (hn : l.length + n < 2 ^ 62)
    (K : ∀ v' h', HS g (ow v' (l ++ List.replicate n z) :: Γ) h' → k (eset e dst (some v')) h') : (A.ex (some dst) (.app bytes esz zero (.o a) (.z x bytes zero'))).wp P k e h := by
  obtain ⟨g', r, rfl, d, O, H⟩ := H
  subst hsz hzz
  have hall : ∀ x ∈ List.replicate n z, Flat.ok x := fun x hx => by rw [List.eq_of_mem_replicate hx]; exact hok
  have henc : ∀ m, reps m (Flat.enc z) = encL (List.replicate m z) := fun m => by
    simp [reps, encL]
  have hle : n * bytes ≤ (l.length + n) * bytes := Nat.mul_le_mul_right _ (by omega)
  refine a_app (rs := Heap.nil) (l2 := List.replicate n z) O ha ?_ (encL_len hall) (ownL_enc hall) d Dj_nil (by simp) rfl hz (by simpa using hb) (by simpa using hn) fun v' r' d' O' => K _ _ ⟨g', r', rfl, d', O', H⟩
  simp only [AO.src, hx]
  rw [if_pos ⟨by omega, by omega, by simp; omega, flat_len hok⟩]
  simp [henc]
theorem bls_two [Ty α] {u1 u2 : Value} {y1 y2 : α} (R1 : Rep h u1 y1) (R2 : Rep h u2 y2) {esz : Nat} {zero : List Value} {parts : List (Nat × Nat × O)} {dst : Nat} (hf : fillP e (reps 2 zero) parts = some (u1.cells.toList ++ u2.cells.toList))
    (K : ∀ v' h', h.le h' → Rep h' v' [y1, y2] → k (eset e dst (some v')) h') : (A.ex (some dst) (.bls esz 2 zero parts)).wp P k e h := by
  obtain ⟨c1, rfl, r1⟩ := R1
  obtain ⟨c2, rfl, r2⟩ := R2
  rw [rep_cells r1, rep_cells r2] at hf
  have l1 := Ty.len r1
  have l2 := Ty.len r2
  refine ⟨_, hf, fun b el hb => Fgt.keep ?_⟩
  rw [set_new hb]
  have hd : Dj h (Heap.one b (.cells (c1 ++ c2).toArray el (0, 0))) := Dj_one.2 hb
  have hbb : (h.add (Heap.one b (.cells (c1 ++ c2).toArray el (0, 0)))) b = some (.cells (c1 ++ c2).toArray el (0, 0)) := by simp [Heap.add, Heap.one, hb]
  refine K _ _ (le_add hd) (Rep_list.2 ⟨some ⟨b, 0, none⟩, 2, rfl, ⟨Nat.le_refl _, by simp⟩, trivial, fun i hi => ?_⟩)
  refine ⟨b, 0, ((c1 ++ c2).drop (0 + i * Ty.sz α)).take (Ty.sz α), rfl, ?_, ?_⟩
  · rw [hcells_mk hbb (by simp at hi ⊢; rcases (by omega : i = 0 ∨ i = 1) with rfl | rfl <;> simp <;> omega)]
  · simp only [List.length_cons, List.length_nil] at hi
    rcases (by omega : i = 0 ∨ i = 1) with rfl | rfl
    · have e1 : ((c1 ++ c2).drop (0 + 0 * Ty.sz α)).take (Ty.sz α) = c1 := by simp [← l1]
      rw [e1]
      exact Ty.mono (le_add hd) r1
    · have e1 : ((c1 ++ c2).drop (0 + 1 * Ty.sz α)).take (Ty.sz α) = c2 := by
        rw [show 0 + 1 * Ty.sz α = c1.length by omega, List.drop_left, List.take_of_length_le (by omega)]
      rw [e1]
      exact Ty.mono (le_add hd) r2
end
end Go.Proofs.Ytglnelcmcimljaa

/-
  Plain laws of acceptance: lassos and their words, runs, and the search in the product.
-/
namespace Go.Proofs.Ytglnelcmcimljaa
open Go
set_option linter.all false
set_option linter.unusedVariables false
set_option linter.unusedSimpArgs false
set_option linter.defProp false
set_option maxRecDepth 1000000

/-- a valid lasso -/
def Las.Ok (l : Las) : Prop := ((∀ x ∈ l.stem, 0 ≤ x ∧ x ≤ 7) ∧ ∀ x ∈ l.loop, 0 ≤ x ∧ x ≤ 7) ∧ l.stem.length ≤ 80 ∧ 1 ≤ l.loop.length ∧ l.loop.length ≤ 80
instance instDecLasOk (l : Las) : Decidable l.Ok := by unfold Las.Ok; infer_instance
def Las.size (l : Las) : Nat := l.stem.length + l.loop.length
def Las.all (l : Las) : List Int := l.stem ++ l.loop
/-- the position behind a position -/
def Las.nx (l : Las) (i : Nat) : Nat := if i + 1 = l.size then l.stem.length else i + 1
/-- the position at a time -/
def Las.pos (l : Las) : Nat → Nat
  | 0 => 0
  | t + 1 => l.nx (l.pos t)
def Las.word (l : Las) (t : Nat) : Int := l.all.getD (l.pos t) 0
theorem Las.nx_lt {l : Las} (h : 1 ≤ l.loop.length) {i : Nat} (hi : i < l.size) : l.nx i < l.size := by
  unfold Las.nx Las.size at *
  split <;> omega
theorem Las.pos_lt {l : Las} (h : 1 ≤ l.loop.length) : ∀ t, l.pos t < l.size
  | 0 => by unfold Las.pos Las.size; omega
  | t + 1 => Las.nx_lt h (Las.pos_lt h t)
theorem Las.all_len {l : Las} : l.all.length = l.size := by simp [Las.all, Las.size]
theorem Las.word_ok {l : Las} (h : l.Ok) (t : Nat) : 0 ≤ l.word t ∧ l.word t ≤ 7 := by
  have h1 := Las.pos_lt h.2.2.1 t
  unfold Las.word
  rw [List.getD_eq_getElem?_getD, List.getElem?_eq_getElem (by rw [Las.all_len]; exact h1)]
  have hm : l.all[l.pos t]'(by rw [Las.all_len]; exact h1) ∈ l.all := List.getElem_mem _
  simp only [Option.getD_some]
  unfold Las.all at hm
  rcases List.mem_append.1 hm with hm | hm
  · exact h.1.1 _ hm
  · exact h.1.2 _ hm

/-- a step at a time -/
def StE (E : List Tr) (w : Nat → Int) (t p q : Nat) : Prop := ∃ e ∈ E, e.frm = p ∧ e.to = q ∧ e.on (w t) = true
/-- a finite run, from a time and a state to a time and a state -/
inductive FR (E : List Tr) (w : Nat → Int) : Nat → Nat → Nat → Nat → Prop
  | refl (t p : Nat) : FR E w t p t p
  | step {t p q u r : Nat} (h : StE E w t p q) (k : FR E w (t + 1) q u r) : FR E w t p u r
section
variable {E : List Tr} {w : Nat → Int} {A : List Bool} {t p u q v r : Nat}
theorem FR.trans (h : FR E w t p u q) (k : FR E w u q v r) : FR E w t p v r := by
  induction h with
  | refl => exact k
  | step h _ ih => exact .step h (ih k)
theorem FR.le (h : FR E w t p u q) : t ≤ u := by
  induction h with
  | refl => exact Nat.le_refl _
  | step h _ ih => omega
theorem FR.one (h : StE E w t p q) : FR E w t p (t + 1) q := .step h (.refl _ _)
end
/-- from these one always comes, later, to an accepting one of them -/
def Goes (A : List Bool) (E : List Tr) (w : Nat → Int) (C : Nat → Nat → Prop) : Prop := ∀ t p, C t p → ∃ u q, t < u ∧ FR E w t p u q ∧ tru A q ∧ C u q
/-- there is an accepting run from a time and a state -/
def Run (A : List Bool) (E : List Tr) (w : Nat → Int) (t p : Nat) : Prop := ∃ C, C t p ∧ Goes A E w C
def Aut.Lang (a : Aut) (w : Nat → Int) : Prop := ∃ s : Nat, (s : Int) ∈ a.init ∧ Run a.acc a.edges w 0 s
theorem Run.before {A : List Bool} {E : List Tr} {w : Nat → Int} {t p u q : Nat} (h : FR E w t p u q) (k : Run A E w u q) : Run A E w t p := by
  obtain ⟨C, hC, hG⟩ := k
  refine ⟨fun t' p' => (t' = t ∧ p' = p) ∨ C t' p', .inl ⟨rfl, rfl⟩, ?_⟩
  rintro t' p' (⟨rfl, rfl⟩ | h1)
  · obtain ⟨v, r, h2, h3, h4, h5⟩ := hG u q hC
    have := h.le
    exact ⟨v, r, by omega, h.trans h3, h4, .inr h5⟩
  · obtain ⟨v, r, h2, h3, h4, h5⟩ := hG t' p' h1
    exact ⟨v, r, h2, h3, h4, .inr h5⟩
/-- runs are carried over by a relation of states -/
theorem Run.sim {A A' : List Bool} {E E' : List Tr} {w : Nat → Int} (M : Nat → Nat → Prop)
    (hs : ∀ t p q p', M p p' → StE E w t p q → Run A E w (t + 1) q → ∃ q', StE E' w t p' q' ∧ M q q') (ha : ∀ p p', M p p' → tru A p → tru A' p') {t p p' : Nat} (h : Run A E w t p) (hm : M p p') : Run A' E' w t p' := by
  have fr : ∀ {t p u r : Nat}, FR E w t p u r → Run A E w u r → ∀ p', M p p' → ∃ r', FR E' w t p' u r' ∧ M r r' := by
    intro t p u r h
    induction h with
    | refl => intro _ p' hm; exact ⟨p', .refl _ _, hm⟩
    | step h k ih =>
      intro hr p' hm
      obtain ⟨q', h1, h2⟩ := hs _ _ _ _ hm h (hr.before k)
      obtain ⟨r', h3, h4⟩ := ih hr q' h2
      exact ⟨r', .step h1 h3, h4⟩
  obtain ⟨C, hC, hG⟩ := h
  refine ⟨fun t p' => ∃ p, C t p ∧ M p p', ⟨p, hC, hm⟩, ?_⟩
  rintro t p' ⟨p, hC, hm⟩
  obtain ⟨u, q, h2, h3, h4, h5⟩ := hG t p hC
  obtain ⟨q', h6, h7⟩ := fr h3 ⟨C, h5, hG⟩ p' hm
  exact ⟨u, q', h2, h6, ha _ _ h7 h4, q, h5, h7⟩

/- in a finite graph one that can always go on comes back -/
theorem fin_cyc {T : Nat → Nat → Prop} (tr : ∀ x y z, T x y → T y z → T x z) (N : Nat) : ∀ (m : Nat) (D : Nat → Prop), (((List.range N).filter fun x => @decide (D x) (Classical.propDecidable _)).length ≤ m) → (∀ x, D x → x < N) → (∃ x, D x) → (∀ x, D x → ∃ y, D y ∧ T x y) → ∃ x, D x ∧ T x x := by
  intro m
  induction m with
  | zero =>
    rintro D hm hN ⟨x, hx⟩ _
    exfalso
    have : x ∈ (List.range N).filter fun x => @decide (D x) (Classical.propDecidable _) := by
      rw [List.mem_filter]
      exact ⟨List.mem_range.2 (hN x hx), by simpa using hx⟩
    have := List.length_pos_of_mem this
    omega
  | succ m ih =>
    rintro D hm hN ⟨x, hx⟩ hT
    by_cases hxx : T x x
    · exact ⟨x, hx, hxx⟩
    obtain ⟨y, hy, hxy⟩ := hT x hx
    obtain ⟨z, ⟨hz, _⟩, hzz⟩ := ih (fun y => D y ∧ T x y) (by
      have := filter_lt_of (p := fun y => @decide (D y ∧ T x y) (Classical.propDecidable _)) (q := fun y => @decide (D y) (Classical.propDecidable _)) (fun y hy => by
        simp only [decide_eq_true_eq] at hy ⊢
        exact hy.1) (l := List.range N) ⟨x, List.mem_range.2 (hN x hx), by simp [hxx], by simpa using hx⟩
      omega) (fun y hy => hN y hy.1) ⟨y, hy, hxy⟩ (fun z hz => by
        obtain ⟨v, h1, h2⟩ := hT z hz.1
        exact ⟨v, ⟨h1, tr _ _ _ hz.2 h2⟩, h2⟩)
    exact ⟨z, hz, hzz⟩
def Rch1 (E : Nat → Nat → Prop) (x y : Nat) : Prop := ∃ z, E x z ∧ Rch E z y
theorem Rch1.trans {E : Nat → Nat → Prop} {x y z : Nat} (h : Rch1 E x y) (k : Rch1 E y z) : Rch1 E x z := by
  obtain ⟨u, h1, h2⟩ := h
  obtain ⟨v, h3, h4⟩ := k
  exact ⟨u, h1, h2.trans (.step h3 h4)⟩
theorem Rch1.rch {E : Nat → Nat → Prop} {x y : Nat} (h : Rch1 E x y) : Rch E x y := by
  obtain ⟨u, h1, h2⟩ := h
  exact .step h1 h2
theorem fin_rch {E : Nat → Nat → Prop} {N : Nat} {D : Nat → Prop} (hN : ∀ x, D x → x < N) (h0 : ∃ x, D x) (hT : ∀ x, D x → ∃ y, D y ∧ Rch1 E x y) : ∃ x, D x ∧ Cyc E x :=
  fin_cyc (T := Rch1 E) (fun _ _ _ h k => Rch1.trans h k) N _ D (Nat.le_refl _) hN h0 hT

/- the product -/
theorem at_div {i n f : Nat} (h : f < n) : (i * n + f) / n = i := by
  rw [Nat.mul_comm, Nat.mul_add_div (by omega), Nat.div_eq_of_lt h, Nat.add_zero]
theorem at_mod {i n f : Nat} (h : f < n) : (i * n + f) % n = f := by
  rw [Nat.mul_comm, Nat.mul_add_mod, Nat.mod_eq_of_lt h]
theorem at_inj {i j n f g : Nat} (hf : f < n) (hg : g < n) (h : i * n + f = j * n + g) : i = j ∧ f = g := by
  have h1 := at_div (i := i) hf
  have h2 := at_div (i := j) hg
  have h3 := at_mod (i := i) hf
  have h4 := at_mod (i := j) hg
  rw [h] at h1 h3
  exact ⟨by rw [← h1, h2], by rw [← h3, h4]⟩
theorem at_lt {i n f s : Nat} (hf : f < n) (hi : i < s) : i * n + f < s * n := by
  have : (i + 1) * n ≤ s * n := Nat.mul_le_mul_right n hi
  rw [Nat.add_mul] at this
  omega
/-- the edges of the product of an automaton and a lasso -/
def Aut.PE (a : Aut) (l : Las) (x y : Nat) : Prop := ∃ e ∈ a.edges, ∃ i, i < l.size ∧ x = i * a.acc.length + e.frm.toNat ∧ y = l.nx i * a.acc.length + e.to.toNat ∧ e.on (l.all.getD i 0) = true
/-- acceptance, by a search in the product -/
def Aut.Acc (a : Aut) (l : Las) : Prop := ∃ s : Nat, (s : Int) ∈ a.init ∧ ∃ x, Rch (a.PE l) s x ∧ Cyc (a.PE l) x ∧ tru a.acc (x % a.acc.length)
section
variable {a : Aut} {l : Las}
theorem Aut.Ok.tr (ha : a.Ok) {e : Tr} (he : e ∈ a.edges) : ∃ f g : Nat, e.frm = f ∧ e.to = g ∧ f < a.acc.length ∧ g < a.acc.length := by
  have := ha.2.2.2 e he
  unfold Tr.Ok at this
  exact ⟨e.frm.toNat, e.to.toNat, by omega, by omega, by omega, by omega⟩
theorem Aut.Ok.st (ha : a.Ok) {w : Nat → Int} {t p q : Nat} (h : StE a.edges w t p q) : p < a.acc.length ∧ q < a.acc.length := by
  obtain ⟨e, he, h1, h2, _⟩ := h
  obtain ⟨f, g, h3, h4, h5, h6⟩ := ha.tr he
  exact ⟨by omega, by omega⟩
theorem Aut.Ok.ini (ha : a.Ok) {s : Nat} (hs : (s : Int) ∈ a.init) : s < a.acc.length := by
  have := incr_mem ha.i _ hs
  omega
theorem PE.lift (ha : a.Ok) (hl : 1 ≤ l.loop.length) {x y : Nat} (h : Rch (a.PE l) x y) : ∀ t p, p < a.acc.length → x = l.pos t * a.acc.length + p → ∃ u q, t ≤ u ∧ q < a.acc.length ∧ y = l.pos u * a.acc.length + q ∧ FR a.edges l.word t p u q := by
  induction h with
  | refl => intro t p hp hx; exact ⟨t, p, Nat.le_refl _, hp, hx, .refl _ _⟩
  | step h _ ih =>
    intro t p hp hx
    obtain ⟨e, he, i, hi, h1, h2, h3⟩ := h
    obtain ⟨f, g, h4, h5, h6, h7⟩ := ha.tr he
    rw [h4, Int.toNat_natCast] at h1
    rw [h5, Int.toNat_natCast] at h2
    obtain ⟨rfl, rfl⟩ := at_inj h6 hp (h1.symm.trans hx)
    obtain ⟨u, q, h8, h9, h10, h11⟩ := ih (t + 1) g h7 h2
    exact ⟨u, q, by omega, h9, h10, .step ⟨e, he, h4, h5, h3⟩ h11⟩
theorem PE.lift1 (ha : a.Ok) (hl : 1 ≤ l.loop.length) {x y : Nat} (h : Rch1 (a.PE l) x y) (t p : Nat) (hp : p < a.acc.length) (hx : x = l.pos t * a.acc.length + p) : ∃ u q, t < u ∧ q < a.acc.length ∧ y = l.pos u * a.acc.length + q ∧ FR a.edges l.word t p u q := by
  obtain ⟨z, ⟨e, he, i, hi, h1, h2, h3⟩, hr⟩ := h
  obtain ⟨f, g, h4, h5, h6, h7⟩ := ha.tr he
  rw [h4, Int.toNat_natCast] at h1
  rw [h5, Int.toNat_natCast] at h2
  obtain ⟨rfl, rfl⟩ := at_inj h6 hp (h1.symm.trans hx)
  obtain ⟨u, q, h8, h9, h10, h11⟩ := PE.lift ha hl hr (t + 1) g h7 h2
  exact ⟨u, q, by omega, h9, h10, .step ⟨e, he, h4, h5, h3⟩ h11⟩
theorem PE.of (hl : 1 ≤ l.loop.length) {t p q : Nat} (h : StE a.edges l.word t p q) : a.PE l (l.pos t * a.acc.length + p) (l.pos (t + 1) * a.acc.length + q) := by
  obtain ⟨e, he, h1, h2, h3⟩ := h
  exact ⟨e, he, l.pos t, Las.pos_lt hl t, by rw [h1]; rfl, by rw [h2]; rfl, h3⟩
theorem PE.rch (hl : 1 ≤ l.loop.length) {t p u q : Nat} (h : FR a.edges l.word t p u q) : Rch (a.PE l) (l.pos t * a.acc.length + p) (l.pos u * a.acc.length + q) := by
  induction h with
  | refl => exact .refl _
  | step h _ ih => exact .step (PE.of hl h) ih
theorem PE.rch1 (hl : 1 ≤ l.loop.length) {t p u q : Nat} (h : FR a.edges l.word t p u q) (htu : t < u) : Rch1 (a.PE l) (l.pos t * a.acc.length + p) (l.pos u * a.acc.length + q) := by
  cases h with
  | refl => omega
  | step h k => exact ⟨_, PE.of hl h, PE.rch hl k⟩
theorem FR.lt (ha : a.Ok) {w : Nat → Int} {t p u q : Nat} (h : FR a.edges w t p u q) (hp : p < a.acc.length) : q < a.acc.length := by
  induction h with
  | refl => exact hp
  | step h _ ih => exact ih (ha.st h).2
theorem Aut.acc_iff (ha : a.Ok) (hl : 1 ≤ l.loop.length) : a.Acc l ↔ a.Lang l.word := by
  constructor
  · rintro ⟨s, hs, x, h1, h2, h3⟩
    have hs' := ha.ini hs
    obtain ⟨u, q, _, h4, h5, h6⟩ := PE.lift ha hl h1 0 s hs' (by simp [Las.pos])
    refine ⟨s, hs, Run.before h6 ⟨fun t p => p < a.acc.length ∧ x = l.pos t * a.acc.length + p, ⟨h4, h5⟩, ?_⟩⟩
    rintro t p ⟨g1, g2⟩
    obtain ⟨v, r, g3, g4, g5, g6⟩ := PE.lift1 ha hl (x := x) (y := x) h2 t p g1 g2
    refine ⟨v, r, g3, g6, ?_, g4, g5⟩
    rw [g5, at_mod g4] at h3
    exact h3
  · rintro ⟨s, hs, C, hC, hG⟩
    have hs' := ha.ini hs
    obtain ⟨x, ⟨t, p, g1, g2, g3, rfl, g4⟩, hx⟩ := fin_rch (E := a.PE l) (N := l.size * a.acc.length) (D := fun x => ∃ t p, C t p ∧ p < a.acc.length ∧ tru a.acc p ∧ x = l.pos t * a.acc.length + p ∧ Rch (a.PE l) s x)
      (by rintro x ⟨t, p, g1, g2, g3, rfl, g4⟩; exact at_lt g2 (Las.pos_lt hl t))
      (by
        obtain ⟨u, q, h1, h2, h3, h4⟩ := hG 0 s hC
        have h5 := PE.rch (l := l) hl h2
        rw [show l.pos 0 * a.acc.length + s = s by simp [Las.pos]] at h5
        exact ⟨_, u, q, h4, h2.lt ha hs', h3, rfl, h5⟩)
      (by
        rintro x ⟨t, p, g1, g2, g3, rfl, g4⟩
        obtain ⟨u, q, h1, h2, h3, h4⟩ := hG t p g1
        have h5 := PE.rch1 (l := l) hl h2 h1
        exact ⟨_, ⟨u, q, h4, h2.lt ha g2, h3, rfl, g4.trans h5.rch⟩, h5⟩)
    exact ⟨s, hs, _, g4, hx, by rw [at_mod g2]; exact g3⟩
end
/-- a state from which there is a run is live -/
theorem Run.live {a : Aut} (ha : a.Ok) {w : Nat → Int} {t p : Nat} (hp : p < a.acc.length) (h : Run a.acc a.edges w t p) : a.Live p := by
  have rch : ∀ {t p u q : Nat}, FR a.edges w t p u q → Rch a.E p q := by
    intro t p u q h
    induction h with
    | refl => exact .refl _
    | step h _ ih =>
      obtain ⟨e, he, h1, h2, _⟩ := h
      exact .step ⟨e, he, h1, h2⟩ ih
  have rch1 : ∀ {t p u q : Nat}, FR a.edges w t p u q → t < u → Rch1 a.E p q := by
    intro t p u q h hlt
    cases h with
    | refl => omega
    | step h k =>
      obtain ⟨e, he, h1, h2, _⟩ := h
      exact ⟨_, ⟨e, he, h1, h2⟩, rch k⟩
  obtain ⟨C, hC, hG⟩ := h
  obtain ⟨x, ⟨t, g1, g2, g3, g4⟩, hx⟩ := fin_rch (E := a.E) (N := a.acc.length) (D := fun x => ∃ t, C t x ∧ x < a.acc.length ∧ tru a.acc x ∧ Rch a.E p x)
    (by rintro x ⟨t, g1, g2, _⟩; exact g2)
    (by
      obtain ⟨u, q, h1, h2, h3, h4⟩ := hG t p hC
      exact ⟨q, u, h4, h2.lt ha hp, h3, rch h2⟩)
    (by
      rintro x ⟨t, g1, g2, g3, g4⟩
      obtain ⟨u, q, h1, h2, h3, h4⟩ := hG t x g1
      exact ⟨q, ⟨u, h4, h2.lt ha g2, h3, g4.trans (rch h2)⟩, rch1 h2 h1⟩)
  exact ⟨x, g4, hx, g3⟩
end Go.Proofs.Ytglnelcmcimljaa

/-
  Lassos and acceptance, by the program.
-/
namespace Go.Proofs.Ytglnelcmcimljaa
open Go
set_option linter.all false
set_option linter.unusedVariables false
set_option linter.unusedSimpArgs false
set_option linter.defProp false
set_option maxRecDepth 1000000

theorem c_Grow_int {h : Heap} {m : Int} (hm : 0 ≤ m) (hn : m ≤ 1048576) : CallE Try.prog fn_slices_Grow_S_int_int [.slice none 0 0, .int .i64 m] h (fun u h' => HS h [ow u ([] : List Int)] h') := by
  obtain ⟨n, rfl⟩ : ∃ n : Nat, m = n := ⟨m.toNat, (Int.toNat_of_nonneg hm).symm⟩
  have H : HS h [ow (.slice none 0 0) ([] : List Int)] h := HS.init.nil_ow
  refine CallE.gen fun k hk => EN_slices_Grow_S_int_int rfl ?_
  have hng : ¬ ((n : Int) < 0) := by omega
  have hcap : capVV (.slice none 0 0) = some (.int .i64 0) := rfl
  have hln : lenVV (.slice none 0 0) = some (.int .i64 0) := rfl
  have hsl : sliceVV 1 (.slice none 0 0) none (some (some (.int .i64 0))) none = some (.slice none 0 0) := rfl
  by_cases h0 : (0 : Int) < n
  · have h0' : 0 < n := by omega
    simp -implicitDefEqProofs (disch := first | omega | (simp only [LnZ]; omega)) [wrap64, h0, h0', hng, hcap, hln, hsl]
    refine HS.appZ (bytes := 8) (α := Int) (z := 0) (n := n) H rfl rfl rfl ⟨by decide, by decide⟩ rfl rfl (by simp; omega) (by simp; omega) fun v' h1 H => ?_
    obtain ⟨v2, hv2, H⟩ := H.cut (n := 0) (esz := 1) (k := .i64) (by simp)
    simp only [List.take_zero] at H
    have hv2' : sliceVV 1 v' none (some (some (.int .i64 0))) none = some v2 := hv2
    simp -implicitDefEqProofs (disch := first | omega | (simp only [LnZ]; omega)) [wrap64, hln, hv2']
    exact RetK.keep (hk _ _ H)
  · have h0' : ¬ 0 < n := by omega
    simp -implicitDefEqProofs (disch := first | omega | (simp only [LnZ]; omega)) [wrap64, h0, h0', hng, hcap, hln, hsl]
    exact RetK.keep (hk _ _ H)
theorem c_Concat_int {h : Heap} {v : Value} {x y : List Int} (R : Rep h v [x, y]) (hx : x.length ≤ 65536) (hy : y.length ≤ 65536) : CallE Try.prog fn_slices_Concat_S_int_int [v] h (fun u h' => HS h [ow u (x ++ y)] h') := by
  have hL : ([x, y] : List (List Int)).length = 2 := rfl
  obtain ⟨u0, hu0, R0⟩ := R.ldL (i := 0) (by simp)
  obtain ⟨u1, hu1, R1⟩ := R.ldL (i := 1) (by simp)
  simp only [List.getElem_cons_zero, List.getElem_cons_succ] at R0 R1
  have hX := R.X (n := 1) rfl
  have hn1 : ¬ (x.length : Int) < 0 := by omega
  have hn2 : ¬ (x.length : Int) + y.length < 0 := by omega
  refine CallE.gen fun k hk => EN_slices_Concat_S_int_int rfl ?_
  simp -implicitDefEqProofs (disch := first | omega | (simp only [LnZ]; omega)) [wrap64, R.len]
  refine wp_count 2 (fun i e h' => e = [some v, none, some (.int .i64 (if i = 0 then 0 else if i = 1 then x.length else x.length + y.length)), none, none, none, some v, some (.int .i64 2), some (.int .i64 i), none, none, none] ∧ h' = h) ⟨by simp, rfl⟩ ?_
  rintro J i _ h1 hJ hi ⟨rfl, rfl⟩
  simp -implicitDefEqProofs (disch := first | omega | (simp only [LnZ]; omega)) [wrap64]
  refine IteW.mk (fun hlt => ?_) (fun hge => ?_)
  · obtain rfl | rfl : i = 0 ∨ i = 1 := by omega
    · simp -implicitDefEqProofs (disch := first | omega | (simp only [LnZ]; omega)) [wrap64, hX, hu0, R0.len, hn1]
      exact hJ _ _ (by omega) ⟨by simp, rfl⟩
    · simp -implicitDefEqProofs (disch := first | omega | (simp only [LnZ]; omega)) [wrap64, hX, hu1, R1.len, hn1, hn2]
      exact hJ _ _ (by omega) ⟨by simp, rfl⟩
  obtain rfl : i = 2 := by omega
  simp -implicitDefEqProofs (disch := first | omega | (simp only [LnZ]; omega)) [wrap64]
  refine (c_Grow_int (m := (x.length : Int) + y.length) (by omega) (by omega)).go ?_
  intro o h2 H
  simp -implicitDefEqProofs (disch := first | omega | (simp only [LnZ]; omega)) [wrap64, (R.on H).len]
  refine wp_count 2 (fun i e h' => ∃ o, e = [none, none, none, none, some o, none, none, none, none, some v, some (.int .i64 2), some (.int .i64 i)] ∧ HS h1 [ow o (if i = 0 then [] else if i = 1 then x else x ++ y)] h') ⟨o, by simp, by simpa using H⟩ ?_
  clear H
  rintro J2 i _ h3 hJ2 hi ⟨o, rfl, H⟩
  simp -implicitDefEqProofs (disch := first | omega | (simp only [LnZ]; omega)) [wrap64]
  refine IteW.mk (fun hlt2 => ?_) (fun hge2 => ?_)
  · obtain rfl | rfl : i = 0 ∨ i = 1 := by omega
    · simp only [if_true] at H
      simp -implicitDefEqProofs (disch := first | omega | (simp only [LnZ]; omega)) [wrap64, hX, hload_le H.base hu0]
      refine HS.appL (bytes := 8) (l2 := x) H rfl rfl (R0.on H) rfl rfl (by simp; omega) (by simp; omega) fun o' h4 H => ?_
      simp -implicitDefEqProofs (disch := first | omega | (simp only [LnZ]; omega)) [wrap64]
      exact hJ2 _ _ (by omega) ⟨o', by simp, by simpa using H⟩
    · simp only [Nat.one_ne_zero, if_true, if_false] at H
      simp -implicitDefEqProofs (disch := first | omega | (simp only [LnZ]; omega)) [wrap64, hX, hload_le H.base hu1]
      refine HS.appL (bytes := 8) (l2 := y) H rfl rfl (R1.on H) rfl rfl (by omega) (by omega) fun o' h4 H => ?_
      simp -implicitDefEqProofs (disch := first | omega | (simp only [LnZ]; omega)) [wrap64]
      exact hJ2 _ _ (by omega) ⟨o', by simp, by simpa using H⟩
  obtain rfl : i = 2 := by omega
  simp -implicitDefEqProofs (disch := first | omega | (simp only [LnZ]; omega)) [wrap64]
  exact RetK.keep (hk _ _ (by simpa using H))
theorem c_all {h : Heap} {v : Value} {l : Las} (R : Rep h v l) (hs : l.stem.length ≤ 65536) (hl : l.loop.length ≤ 65536) : CallE Try.prog fn_impl_Lasso_all [v] h (fun u h' => HS h [ow u l.all] h') := by
  obtain ⟨v1, v2, rfl, R1, R2⟩ := Rep_Las.1 R
  refine CallE.gen fun k hk => EN_impl_Lasso_all rfl ?_
  simp -implicitDefEqProofs (disch := first | omega | (simp only [LnZ]; omega)) [wrap64]
  refine bls_two R1 R2 (by simp [fillP, R1.cells, R2.cells, R1.one, R2.one, reps, setC]) fun w h1 l1 RW => ?_
  simp -implicitDefEqProofs (disch := first | omega | (simp only [LnZ]; omega)) [wrap64]
  refine (c_Concat_int RW hs hl).go ?_
  intro u h2 H
  simp -implicitDefEqProofs (disch := first | omega | (simp only [LnZ]; omega)) [wrap64]
  exact RetK.keep (hk _ _ (H.app (show HS h [] h1 from l1)))
theorem c_nextL {h : Heap} {v : Value} {l : Las} (R : Rep h v l) (hs : l.stem.length ≤ 65536) (hl : l.loop.length ≤ 65536) {i : Nat} (hi : i < l.size) : CallE Try.prog fn_impl_Lasso_next [v, .int .i64 i] h (fun u h' => h' = h ∧ u = .int .i64 (l.nx i : Nat)) := by
  obtain ⟨v1, v2, rfl, R1, R2⟩ := Rep_Las.1 R
  have hsz : l.size = l.stem.length + l.loop.length := rfl
  refine CallE.gen fun k hk => EN_impl_Lasso_next rfl ?_
  unfold Las.nx at hk
  by_cases e : i + 1 = l.size
  · rw [if_pos e] at hk
    have e' : (i : Int) + 1 = (l.stem.length : Int) + l.loop.length := by omega
    simp -implicitDefEqProofs (disch := first | omega | (simp only [LnZ]; omega)) [wrap64, R1.len, R2.len, e']
    exact RetK.keep (hk _ _ ⟨rfl, rfl⟩)
  · rw [if_neg e] at hk
    have e' : ¬ (i : Int) + 1 = (l.stem.length : Int) + l.loop.length := by omega
    simp -implicitDefEqProofs (disch := first | omega | (simp only [LnZ]; omega)) [wrap64, R1.len, R2.len, e']
    exact RetK.keep (hk _ _ ⟨rfl, by simp⟩)
theorem c_LassoValid {h : Heap} {v : Value} {l : Las} (R : Rep h v l) : CallE Try.prog fn_impl_LassoValid [v] h (fun u h' => h.le h' ∧ u = .bool (decide l.Ok)) := by
  obtain ⟨v1, v2, rfl, R1, R2⟩ := Rep_Las.1 R
  have hL1 := R1.lt
  have hL2 := R2.lt
  refine CallE.gen fun k hk => EN_impl_LassoValid rfl ?_
  simp -implicitDefEqProofs (disch := first | omega | (simp only [LnZ]; omega)) [wrap64]
  refine (c_letters R1).go ?_
  rintro _ h1 ⟨l1, rfl⟩
  by_cases q1 : ∀ x ∈ l.stem, 0 ≤ x ∧ x ≤ 7
  case neg =>
    have d1 : decide (∀ x ∈ l.stem, 0 ≤ x ∧ x ≤ 7) = false := decide_eq_false q1
    simp -implicitDefEqProofs (disch := first | omega | (simp only [LnZ]; omega)) [wrap64, d1]
    exact RetK.keep (hk _ _ ⟨l1, by rw [decide_eq_false (fun hh : l.Ok => q1 hh.1.1)]⟩)
  have d1 : decide (∀ x ∈ l.stem, 0 ≤ x ∧ x ≤ 7) = true := decide_eq_true q1
  simp -implicitDefEqProofs (disch := first | omega | (simp only [LnZ]; omega)) [wrap64, d1]
  refine (c_letters (R2.le l1)).go ?_
  rintro _ h2 ⟨l2, rfl⟩
  by_cases q2 : ∀ x ∈ l.loop, 0 ≤ x ∧ x ≤ 7
  case neg =>
    have d2 : decide (∀ x ∈ l.loop, 0 ≤ x ∧ x ≤ 7) = false := decide_eq_false q2
    simp -implicitDefEqProofs (disch := first | omega | (simp only [LnZ]; omega)) [wrap64, d2]
    exact RetK.keep (hk _ _ ⟨l1.trans l2, by rw [decide_eq_false (fun hh : l.Ok => q2 hh.1.2)]⟩)
  have d2 : decide (∀ x ∈ l.loop, 0 ≤ x ∧ x ≤ 7) = true := decide_eq_true q2
  by_cases q3 : (l.stem.length : Int) ≤ 80
  case neg =>
    simp -implicitDefEqProofs (disch := first | omega | (simp only [LnZ]; omega)) [wrap64, d2, R1.len, q3]
    exact RetK.keep (hk _ _ ⟨l1.trans l2, by rw [decide_eq_false (fun hh : l.Ok => q3 (by have := hh.2.1; omega))]⟩)
  simp -implicitDefEqProofs (disch := first | omega | (simp only [LnZ]; omega)) [wrap64, d2, R1.len, q3, R2.len]
  refine c_in.go ?_
  rintro _ h2 ⟨rfl, rfl⟩
  simp -implicitDefEqProofs (disch := first | omega | (simp only [LnZ]; omega)) [wrap64]
  refine RetK.keep (hk _ _ ⟨l1.trans l2, ?_⟩)
  congr 1
  rw [← Bool.decide_and]
  refine decide_eq_decide.2 ⟨fun hh => ⟨⟨q1, q2⟩, by omega, by omega, by omega⟩, fun hh => ⟨by have := hh.2.2.1; omega, by have := hh.2.2.2; omega⟩⟩
/-- rows of a graph, while edges are put in -/
structure GI (N B : Nat) (E : Nat → Nat → Prop) (G : List (List Int)) : Prop where
  len : G.length = N
  mem : ∀ x (hx : x < G.length) z, z ∈ G[x] ↔ ∃ y : Nat, z = y ∧ E x y
  row : ∀ x (hx : x < G.length), G[x].length ≤ B
theorem GI.zero {N : Nat} : GI N 0 (fun _ _ => False) (List.replicate N []) := ⟨by simp, by simp, by simp⟩
theorem GI.add {N B : Nat} {E : Nat → Nat → Prop} {G : List (List Int)} (h : GI N B E G) {f t : Nat} (hf : f < G.length) : GI N (B + 1) (fun x y => E x y ∨ (x = f ∧ y = t)) (G.set f (G[f] ++ [(t : Int)])) := by
  refine ⟨by simp [h.len], fun x hx z => ?_, fun x hx => ?_⟩
  · simp only [List.length_set] at hx
    rw [List.getElem_set]
    split
    · rename_i e
      subst e
      rw [List.mem_append, h.mem f hf z, List.mem_singleton]
      constructor
      · rintro (⟨y, h1, h2⟩ | h1)
        · exact ⟨y, h1, .inl h2⟩
        · exact ⟨t, h1, .inr ⟨rfl, rfl⟩⟩
      · rintro ⟨y, h1, h2 | ⟨_, h2⟩⟩
        · exact .inl ⟨y, h1, h2⟩
        · subst h2; exact .inr h1
    · rename_i e
      rw [h.mem x hx z]
      constructor
      · rintro ⟨y, h1, h2⟩; exact ⟨y, h1, .inl h2⟩
      · rintro ⟨y, h1, h2 | ⟨h2, _⟩⟩
        · exact ⟨y, h1, h2⟩
        · exact absurd h2.symm e
  · simp only [List.length_set] at hx
    rw [List.getElem_set]
    have h1 := h.row f hf
    have h2 := h.row x hx
    split
    · simp; omega
    · omega
theorem GI.congr {N B B' : Nat} {E E' : Nat → Nat → Prop} {G : List (List Int)} (h : GI N B E G) (hB : B ≤ B') (he : ∀ x y, E x y ↔ E' x y) : GI N B' E' G :=
  ⟨h.len, fun x hx z => by rw [h.mem x hx z]; exact ⟨fun ⟨y, h1, h2⟩ => ⟨y, h1, (he x y).1 h2⟩, fun ⟨y, h1, h2⟩ => ⟨y, h1, (he x y).2 h2⟩⟩, fun x hx => Nat.le_trans (h.row x hx) hB⟩
/-- the product, while edges are put in: all edges at the first positions, and the first edges at this one -/
def Aut.PK (a : Aut) (l : Las) (i k : Nat) (x y : Nat) : Prop := ∃ (m : Nat) (hm : m < a.edges.length) (j : Nat), j < l.size ∧ (j < i ∨ (j = i ∧ m < k)) ∧ x = j * a.acc.length + a.edges[m].frm.toNat ∧ y = l.nx j * a.acc.length + a.edges[m].to.toNat ∧ a.edges[m].on (l.all.getD j 0) = true
theorem PK_all {a : Aut} {l : Las} {x y : Nat} {i : Nat} (hi : l.size ≤ i) : a.PK l i 0 x y ↔ a.PE l x y := by
  constructor
  · rintro ⟨m, hm, j, h1, _, h3⟩
    exact ⟨_, List.getElem_mem hm, j, h1, h3⟩
  · rintro ⟨e, he, j, h1, h2⟩
    obtain ⟨m, hm, rfl⟩ := List.mem_iff_getElem.1 he
    exact ⟨m, hm, j, h1, .inl (by omega), h2⟩
theorem PK_next {a : Aut} {l : Las} {x y : Nat} {i k : Nat} (hk : a.edges.length ≤ k) : a.PK l i k x y ↔ a.PK l (i + 1) 0 x y := by
  constructor
  · rintro ⟨m, hm, j, h1, h2, h3⟩
    exact ⟨m, hm, j, h1, .inl (by omega), h3⟩
  · rintro ⟨m, hm, j, h1, h2, h3⟩
    exact ⟨m, hm, j, h1, by omega, h3⟩
theorem PK_step {a : Aut} {l : Las} {x y : Nat} {i k : Nat} (hi : i < l.size) (hk : k < a.edges.length) : a.PK l i (k + 1) x y ↔ a.PK l i k x y ∨ (a.edges[k].on (l.all.getD i 0) = true ∧ x = i * a.acc.length + a.edges[k].frm.toNat ∧ y = l.nx i * a.acc.length + a.edges[k].to.toNat) := by
  constructor
  · rintro ⟨m, hm, j, h1, h2, h3, h4, h5⟩
    by_cases e : j = i ∧ m = k
    · obtain ⟨rfl, rfl⟩ := e
      exact .inr ⟨h5, h3, h4⟩
    · exact .inl ⟨m, hm, j, h1, by omega, h3, h4, h5⟩
  · rintro (⟨m, hm, j, h1, h2, h3⟩ | ⟨h1, h2, h3⟩)
    · exact ⟨m, hm, j, h1, by omega, h3⟩
    · exact ⟨k, hk, i, hi, .inr ⟨rfl, by omega⟩, h2, h3, h1⟩
theorem Aut.PE_lt {a : Aut} {l : Las} (ha : a.Ok) (hl : 1 ≤ l.loop.length) {x y : Nat} (h : a.PE l x y) : x < l.size * a.acc.length ∧ y < l.size * a.acc.length := by
  obtain ⟨e, he, i, hi, h1, h2, h3⟩ := h
  obtain ⟨f, g, h4, h5, h6, h7⟩ := ha.tr he
  rw [h4, Int.toNat_natCast] at h1
  rw [h5, Int.toNat_natCast] at h2
  subst h1 h2
  exact ⟨at_lt h6 hi, at_lt h7 (Las.nx_lt hl hi)⟩
end Go.Proofs.Ytglnelcmcimljaa

/-
  Acceptance, by the program.
-/
namespace Go.Proofs.Ytglnelcmcimljaa
open Go
set_option linter.all false
set_option linter.unusedVariables false
set_option linter.unusedSimpArgs false
set_option linter.defProp false
set_option maxRecDepth 1000000

set_option maxHeartbeats 1000000 in
theorem c_accepts {h : Heap} {v w : Value} {a : Aut} {l : Las} (Ra : Rep h v a) (Rl : Rep h w l) (ha : a.Ok) (hl : l.Ok) : CallE Try.prog fn_impl_Automaton_accepts [v, w] h (fun u h' => h.le h' ∧ ∃ r : Bool, u = .bool r ∧ (r = true ↔ a.Acc l)) := by
  obtain ⟨v1, v2, v3, rfl, R1, R2, R3⟩ := Rep_Aut.1 Ra
  have hn := ha.n
  have he := ha.e
  have hl1 := hl.2.1
  have hl2 := hl.2.2.1
  have hl3 := hl.2.2.2
  have hsz : l.size = l.stem.length + l.loop.length := rfl
  have FL := Rl.aLas
  have hSn : l.size * a.acc.length ≤ 160 * 64 := Nat.mul_le_mul (by omega) hn.2
  refine CallE.gen fun k hk => EN_impl_Automaton_accepts rfl ?_
  simp -implicitDefEqProofs (disch := first | omega | (simp only [LnZ]; omega)) [wrap64, FL, R2.len]
  refine (c_all Rl (by omega) (by omega)).go ?_
  intro wd h1 H
  have hal := Las.all_len (l := l)
  obtain ⟨N, hN⟩ : ∃ N, N = l.size * a.acc.length := ⟨_, rfl⟩
  have hmul : (l.size : Int) * a.acc.length = (N : Int) := by rw [hN]; simp
  simp -implicitDefEqProofs (disch := first | omega | (simp only [LnZ]; omega)) [wrap64, (R2.on H).len, H.rep.len, hal, hmul]
  refine H.mks (α := List Int) (z := []) (n := N) (c := N) rfl rfl own_nils (Nat.le_refl _) (by omega) (by omega) fun nx h2 H => ?_
  simp -implicitDefEqProofs (disch := first | omega | (simp only [LnZ]; omega)) [wrap64, H.sw1.rep.len, hal]
  refine wp_count l.size (fun i e h' => ∃ G, e = [none, none, some (.agg #[v1, v2, v3]), some w, none, none, some (.int .i64 a.acc.length), some nx, none, none, none, none, none, none, some wd, some (.int .i64 l.size), some (.int .i64 i), none, none, none, none, none, none] ∧ HS h [ow nx G, ow wd l.all] h' ∧ GI N (i * 2048) (a.PK l i 0) G) ⟨_, by simp, H, by
    have : (0 : Nat) * 2048 = 0 := by omega
    rw [this]
    exact GI.zero.congr (Nat.le_refl _) fun x y => ⟨False.elim, fun ⟨m, hm, j, _, h, _⟩ => by omega⟩⟩ ?_
  clear H
  rintro J i _ h3 hJ hi ⟨G, rfl, H, hG⟩
  simp -implicitDefEqProofs (disch := first | omega | (simp only [LnZ]; omega)) [wrap64]
  refine IteW.mk (fun hlt => ?_) (fun hge => ?_)
  · have his : i < l.size := by omega
    have hial : i < l.all.length := by omega
    have hlet : l.all.getD i 0 = l.all[i] := by simp [hial]
    have hX := H.sw1.rep.I
    simp -implicitDefEqProofs (disch := first | omega | (simp only [LnZ]; omega)) [wrap64, hX, (R3.on H).len]
    refine wp_count a.edges.length (fun k e h' => ∃ G, e = [none, none, some (.agg #[v1, v2, v3]), some w, none, none, some (.int .i64 a.acc.length), some nx, some (.int .i64 i), some (.int .i64 l.all[i]), none, none, none, none, some wd, some (.int .i64 l.size), some (.int .i64 i), some v3, some (.int .i64 a.edges.length), some (.int .i64 k), none, none, none] ∧ HS h [ow nx G, ow wd l.all] h' ∧ GI N (i * 2048 + k) (a.PK l i k) G) ⟨G, by simp, H, hG⟩ ?_
    clear H hG
    rintro J2 k _ h4 hJ2 hk2 ⟨G, rfl, H, hG⟩
    simp -implicitDefEqProofs (disch := first | omega | (simp only [LnZ]; omega)) [wrap64]
    refine IteW.mk (fun hlt2 => ?_) (fun hge2 => ?_)
    · have hkx : k < a.edges.length := by omega
      have hx := ha.t hkx
      have hv := R3.okTr hkx
      unfold Tr.Ok at hx
      have hstep := fun x y => PK_step (a := a) (l := l) (x := x) (y := y) his hkx
      rw [hlet] at hstep
      simp -implicitDefEqProofs (disch := first | omega | (simp only [LnZ]; omega)) [wrap64, (R3.on H).xTr, Tr.v, setC]
      refine (c_takes (t := a.edges[k]) (Rep_Tr.2 ⟨rfl, hv⟩)).go ?_
      rintro _ _ ⟨rfl, rfl⟩
      cases ho : a.edges[k].on l.all[i] with
      | false =>
        simp -implicitDefEqProofs (disch := first | omega | (simp only [LnZ]; omega)) [wrap64, ho]
        refine hJ2 _ _ hkx ⟨G, by simp, H, hG.congr (by omega) fun x y => ?_⟩
        rw [hstep, ho]
        simp
      | true =>
        obtain ⟨f, hf⟩ : ∃ f : Nat, a.edges[k].frm = f := ⟨a.edges[k].frm.toNat, by omega⟩
        obtain ⟨t, ht⟩ : ∃ t : Nat, a.edges[k].to = t := ⟨a.edges[k].to.toNat, by omega⟩
        have hfn : f < a.acc.length := by omega
        have htn : t < a.acc.length := by omega
        have hnxl := Las.nx_lt hl2 his
        have hx1 := at_lt hfn his
        have hy1 := at_lt htn hnxl
        have e3 : (i : Int) * a.acc.length = ((i * a.acc.length : Nat) : Int) := by simp
        have e4 : ((l.nx i : Nat) : Int) * a.acc.length = ((l.nx i * a.acc.length : Nat) : Int) := by simp
        obtain ⟨X, hX1⟩ : ∃ X, X = i * a.acc.length + f := ⟨_, rfl⟩
        obtain ⟨Y, hY1⟩ : ∃ Y, Y = l.nx i * a.acc.length + t := ⟨_, rfl⟩
        obtain ⟨p, hp⟩ : ∃ p, p = i * a.acc.length := ⟨_, rfl⟩
        obtain ⟨q, hq⟩ : ∃ q, q = l.nx i * a.acc.length := ⟨_, rfl⟩
        have hXG : X < G.length := by rw [hG.len]; omega
        have hrow := hG.row X hXG
        have e5 : (p : Int) + f = X := by omega
        have e6 : (q : Int) + t = Y := by omega
        rw [← hp] at e3
        rw [← hq] at e4
        obtain ⟨u, hu, HT⟩ := H.take hXG
        change hload _ (some (elp 1 nx X)) none = some u at hu
        have RL := Rl.on HT
        have hadd : G[X] ++ [(Y : Int)] = G[X] ++ [(Y : Int)] := rfl
        simp -implicitDefEqProofs (disch := first | omega | (simp only [LnZ]; omega)) [wrap64, ho, hf, ht, e3, e5, HT.sw1.holeia (n := 1) rfl, hu, RL.aLas]
        refine (c_nextL RL (by omega) (by omega) his).go ?_
        rintro _ _ ⟨rfl, rfl⟩
        simp -implicitDefEqProofs (disch := first | omega | (simp only [LnZ]; omega)) [wrap64, hf, ht, e3, e5, e4, e6, HT.sw1.holeia (n := 1) rfl, hu]
        refine HT.app1 (Y : Int) rfl rfl rfl ⟨by omega, by omega⟩ rfl rfl (by omega) (by omega) fun u' h5 H => ?_
        simp -implicitDefEqProofs (disch := first | omega | (simp only [LnZ]; omega)) [wrap64, H.sw1.holeia (n := 1) rfl]
        refine H.storeH rfl rfl rfl fun h6 H => ?_
        simp -implicitDefEqProofs (disch := first | omega | (simp only [LnZ]; omega)) [wrap64]
        refine hJ2 _ _ hkx ⟨_, by simp, H, (hG.add hXG).congr (by omega) fun x y => ?_⟩
        rw [hstep, ho, hf, ht, Int.toNat_natCast, Int.toNat_natCast, hX1, hY1]
        simp
    · simp -implicitDefEqProofs (disch := first | omega | (simp only [LnZ]; omega)) [wrap64]
      exact hJ _ _ his ⟨G, by simp, H, hG.congr (by omega) fun x y => PK_next (by omega)⟩
  have hG' : GI N (i * 2048) (a.PE l) G := hG.congr (Nat.le_refl _) fun x y => PK_all (by omega)
  have hAdj : Adj (a.PE l) G := ⟨fun x y hxy => by
    have := Aut.PE_lt ha hl2 hxy
    rw [hG'.len, hN]; exact this, hG'.mem⟩
  have hGl := hG'.len
  simp -implicitDefEqProofs (disch := first | omega | (simp only [LnZ]; omega)) [wrap64]
  refine (c_cyclic H.rep hAdj (by omega)).go ?_
  rintro c h4 ⟨C, H2, hCl, hC⟩
  have H := H2.app H
  simp -implicitDefEqProofs (disch := first | omega | (simp only [LnZ]; omega)) [wrap64]
  have hi1 : ∀ z ∈ a.init, 0 ≤ z ∧ z < (G.length : Int) := by
    intro z hz
    have h5 := incr_mem ha.i z hz
    have : 1 * a.acc.length ≤ l.size * a.acc.length := Nat.mul_le_mul_right _ (by omega)
    omega
  have hil := ha.il
  refine (c_reachable H.sw1.rep (R1.on H) hAdj hi1 (by omega) (by omega)).go ?_
  rintro r h5 ⟨B, H5, hBl, hB⟩
  have H := H5.app H
  have hacc : ∀ x, x < G.length → (tru B x ∧ tru C x ∧ tru a.acc (x % a.acc.length) ↔ (∃ s : Nat, (s : Int) ∈ a.init ∧ Rch (a.PE l) s x) ∧ Cyc (a.PE l) x ∧ tru a.acc (x % a.acc.length)) := fun x hx => by rw [hB, hC x hx]
  simp -implicitDefEqProofs (disch := first | omega | (simp only [LnZ]; omega)) [wrap64, H.rep.len]
  refine wp_count G.length (fun k e h' => e = [none, none, some (.agg #[v1, v2, v3]), none, none, none, some (.int .i64 a.acc.length), none, none, none, none, some c, none, none, none, none, none, none, none, none, some r, some (.int .i64 G.length), some (.int .i64 k)] ∧ h' = h5 ∧ ∀ x, x < k → ¬ (tru B x ∧ tru C x ∧ tru a.acc (x % a.acc.length))) ⟨by simp [hBl], rfl, fun x hx => absurd hx (Nat.not_lt_zero x)⟩ ?_
  rintro J3 k _ h6 hJ3 hk3 ⟨rfl, rfl, hno⟩
  simp -implicitDefEqProofs (disch := first | omega | (simp only [LnZ]; omega)) [wrap64]
  refine IteW.mk (fun hlt2 => ?_) (fun hge2 => ?_)
  · have hkn : k < G.length := by omega
    have hmod : k % a.acc.length < a.acc.length := Nat.mod_lt _ (by omega)
    have hmodi : (k : Int).tmod a.acc.length = ((k % a.acc.length : Nat) : Int) := by first | exact (Int.ofNat_tmod _ _).symm | exact (Int.natCast_tmod _ _).symm | simp
    have hmodi2 : (k : Int) % a.acc.length = ((k % a.acc.length : Nat) : Int) := by simp
    obtain ⟨m, hm⟩ : ∃ m, m = k % a.acc.length := ⟨_, rfl⟩
    rw [← hm] at hmod hmodi hmodi2
    have hn0 : ¬ (a.acc.length : Int) = 0 := by omega
    have hn0' : ¬ a.acc = [] := fun e => by rw [e] at hn; simp at hn
    have tB : tru B k ↔ B[k]'(by omega) = true := tru_get (by omega)
    have tC : tru C k ↔ C[k]'(by omega) = true := tru_get (by omega)
    have tA : tru a.acc (k % a.acc.length) ↔ a.acc[m] = true := by rw [← hm]; exact tru_get hmod
    have next : ¬ (tru B k ∧ tru C k ∧ tru a.acc (k % a.acc.length)) → ∀ x, x < k + 1 → ¬ (tru B x ∧ tru C x ∧ tru a.acc (x % a.acc.length)) := fun hh x hx => by
      by_cases e : x = k
      · subst e; exact hh
      · exact hno x (by omega)
    cases b1 : B[k]'(by omega) with
    | false =>
      simp -implicitDefEqProofs (disch := first | omega | (simp only [LnZ]; omega)) [wrap64, H.rep.B, b1]
      exact hJ3 _ _ hkn ⟨by simp, rfl, next fun hh => by have := tB.1 hh.1; rw [b1] at this; exact absurd this (by decide)⟩
    | true =>
    cases b2 : C[k]'(by omega) with
    | false =>
      simp -implicitDefEqProofs (disch := first | omega | (simp only [LnZ]; omega)) [wrap64, H.rep.B, b1, H.sw1.rep.B, b2]
      exact hJ3 _ _ hkn ⟨by simp, rfl, next fun hh => by have := tC.1 hh.2.1; rw [b2] at this; exact absurd this (by decide)⟩
    | true =>
    cases b3 : a.acc[m] with
    | false =>
      simp -implicitDefEqProofs (disch := first | omega | (simp only [LnZ]; omega)) [wrap64, H.rep.B, b1, H.sw1.rep.B, b2, hmodi, hmodi2, hn0, hn0', (R2.on H).B, b3]
      exact hJ3 _ _ hkn ⟨by simp, rfl, next fun hh => by have := tA.1 hh.2.2; rw [b3] at this; exact absurd this (by decide)⟩
    | true =>
      simp -implicitDefEqProofs (disch := first | omega | (simp only [LnZ]; omega)) [wrap64, H.rep.B, b1, H.sw1.rep.B, b2, hmodi, hmodi2, hn0, hn0', (R2.on H).B, b3]
      refine RetK.keep (hk _ _ ⟨H.base, true, rfl, ?_⟩)
      simp only [true_iff]
      obtain ⟨⟨s, h7, h8⟩, h9, h10⟩ := (hacc k hkn).1 ⟨tB.2 b1, tC.2 b2, tA.2 b3⟩
      exact ⟨s, h7, k, h8, h9, h10⟩
  · simp -implicitDefEqProofs (disch := first | omega | (simp only [LnZ]; omega)) [wrap64]
    refine RetK.keep (hk _ _ ⟨H.base, false, rfl, ?_⟩)
    simp only [Bool.false_eq_true, false_iff]
    rintro ⟨s, h7, x, h8, h9, h10⟩
    have hxl : x < G.length := by
      obtain ⟨y, h11, _⟩ := h9
      exact (hAdj.lt x y h11).1
    exact hno x (by omega) ((hacc x hxl).2 ⟨⟨s, h7, h8⟩, h9, h10⟩)
/-- what Accepts answers -/
noncomputable def Aut.accB (a : Aut) (l : Las) : Bool := @decide (a.Ok ∧ l.Ok ∧ a.Acc l) (Classical.propDecidable _)
theorem c_Accepts {h : Heap} {v w : Value} {a : Aut} {l : Las} (Ra : Rep h v a) (Rl : Rep h w l) : CallE Try.prog fn_impl_Accepts [v, w] h (fun u h' => h.le h' ∧ u = .tuple #[.bool (a.accB l), .bool (decide (a.Ok ∧ l.Ok))]) := by
  have FA := Ra.aAut
  have FL := Rl.aLas
  refine CallE.gen fun k hk => EN_impl_Accepts rfl ?_
  simp -implicitDefEqProofs (disch := first | omega | (simp only [LnZ]; omega)) [wrap64, FA, FL]
  refine (c_AutomatonValid Ra).go ?_
  rintro _ h1 ⟨l1, rfl⟩
  by_cases ha : a.Ok
  case neg =>
    simp -implicitDefEqProofs (disch := first | omega | (simp only [LnZ]; omega)) [wrap64, ha]
    refine RetK.keep (hk _ _ ⟨l1, ?_⟩)
    rw [show a.accB l = false by simp [Aut.accB, ha], decide_eq_false (fun hh : a.Ok ∧ l.Ok => ha hh.1)]
  simp -implicitDefEqProofs (disch := first | omega | (simp only [LnZ]; omega)) [wrap64, ha, FL]
  refine (c_LassoValid (Rl.le l1)).go ?_
  rintro _ h2 ⟨l2, rfl⟩
  by_cases hl : l.Ok
  case neg =>
    simp -implicitDefEqProofs (disch := first | omega | (simp only [LnZ]; omega)) [wrap64, hl]
    refine RetK.keep (hk _ _ ⟨l1.trans l2, ?_⟩)
    rw [show a.accB l = false by simp [Aut.accB, hl], decide_eq_false (fun hh : a.Ok ∧ l.Ok => hl hh.2)]
  simp -implicitDefEqProofs (disch := first | omega | (simp only [LnZ]; omega)) [wrap64, hl, FA, FL]
  refine (c_accepts (Ra.le (l1.trans l2)) (Rl.le (l1.trans l2)) ha hl).go ?_
  rintro _ h3 ⟨l3, r, rfl, hr⟩
  simp -implicitDefEqProofs (disch := first | omega | (simp only [LnZ]; omega)) [wrap64]
  refine RetK.keep (hk _ _ ⟨l1.trans (l2.trans l3), ?_⟩)
  rw [decide_eq_true (show a.Ok ∧ l.Ok from ⟨ha, hl⟩)]
  have : a.accB l = r := by
    rw [Bool.eq_iff_iff, hr, Aut.accB]
    simp [ha, hl]
  rw [this]
theorem Aut.accB_lang {a : Aut} {l : Las} (ha : a.Ok) (hl : l.Ok) : a.accB l = true ↔ a.Lang l.word := by
  rw [← Aut.acc_iff ha hl.2.2.1, Aut.accB]
  simp [ha, hl]
end Go.Proofs.Ytglnelcmcimljaa

/-
  Plain laws: what simulations, unions, trimming and merging do to the language.
-/
namespace Go.Proofs.Ytglnelcmcimljaa
open Go
set_option linter.all false
set_option linter.unusedVariables false
set_option linter.unusedSimpArgs false
set_option linter.defProp false
set_option maxRecDepth 1000000

/- the greatest simulation is a preorder -/
theorem Great.refl {a : Aut} {R : Rl} (h : Great a R) {i : Nat} (hi : i < a.acc.length) : R i i = true := by
  refine h.upper (fun x y => decide (x = y)) ⟨?_, ?_⟩ i i hi hi (by simp)
  · intro x y _ _ hxy hx
    simp only [decide_eq_true_eq] at hxy
    subst hxy; exact hx
  · intro x y _ _ hxy l _ e he hx ho
    simp only [decide_eq_true_eq] at hxy
    subst hxy
    exact ⟨e, he, hx, ho, by simp⟩
theorem Great.trans {a : Aut} (ha : a.Ok) {R : Rl} (h : Great a R) {i j k : Nat} (hi : i < a.acc.length) (hj : j < a.acc.length) (hk : k < a.acc.length) (h1 : R i j = true) (h2 : R j k = true) : R i k = true := by
  refine h.upper (fun x z => @decide (∃ y, y < a.acc.length ∧ R x y = true ∧ R y z = true) (Classical.propDecidable _)) ⟨?_, ?_⟩ i k hi hk (by simpa using ⟨j, hj, h1, h2⟩)
  · intro x z hx hz hxz h3
    simp only [decide_eq_true_eq] at hxz
    obtain ⟨y, hy, h4, h5⟩ := hxz
    exact h.simu.1 y z hy hz h5 (h.simu.1 x y hx hy h4 h3)
  · intro x z hx hz hxz l hl e he h6 ho
    simp only [decide_eq_true_eq] at hxz
    obtain ⟨y, hy, h4, h5⟩ := hxz
    obtain ⟨f, hf, g1, g2, g3⟩ := h.simu.2 x y hx hy h4 l hl e he h6 ho
    obtain ⟨f', hf', k1, k2, k3⟩ := h.simu.2 y z hy hz h5 l hl f hf g1 g2
    obtain ⟨_, q, _, h8, _, h10⟩ := ha.tr hf
    refine ⟨f', hf', k1, k2, ?_⟩
    simp only [decide_eq_true_eq]
    exact ⟨f.to.toNat, by rw [h8]; simpa using h10, g3, k3⟩

def Letters (w : Nat → Int) : Prop := ∀ t, 0 ≤ w t ∧ w t ≤ 7
/-- a simulating state has all runs of a simulated one -/
theorem Simu.run {a : Aut} (ha : a.Ok) {R : Rl} (hR : Simu a R) {w : Nat → Int} (hw : Letters w) {t i j : Nat} (hi : i < a.acc.length) (hj : j < a.acc.length) (h : R i j = true) (k : Run a.acc a.edges w t i) : Run a.acc a.edges w t j := by
  refine Run.sim (fun x y => x < a.acc.length ∧ y < a.acc.length ∧ R x y = true) ?_ ?_ k ⟨hi, hj, h⟩
  · rintro t p q p' ⟨h1, h2, h3⟩ ⟨e, he, h4, h5, h6⟩ _
    have h7 := hw t
    obtain ⟨n, hn⟩ : ∃ n : Nat, w t = n := ⟨(w t).toNat, by omega⟩
    rw [hn] at h6 h7
    obtain ⟨f, hf, g1, g2, g3⟩ := hR.2 p p' h1 h2 h3 n (by omega) e he h4 h6
    obtain ⟨x, y, k1, k2, k3, k4⟩ := ha.tr he
    obtain ⟨x', y', k1', k2', k3', k4'⟩ := ha.tr hf
    refine ⟨y', ⟨f, hf, g1, k2', by rw [hn]; exact g2⟩, by omega, k4', ?_⟩
    rw [h5, k2'] at g3
    simpa using g3
  · rintro p p' ⟨h1, h2, h3⟩ h4
    exact hR.1 p p' h1 h2 h3 h4

/- unions -/
section
variable {a b : Aut}
theorem tru_left {A B : List Bool} {p : Nat} (hp : p < A.length) : tru (A ++ B) p ↔ tru A p := by
  unfold tru
  rw [List.getD_eq_getElem?_getD, List.getElem?_append_left hp, ← List.getD_eq_getElem?_getD]
theorem tru_right {A B : List Bool} {p : Nat} : tru (A ++ B) (A.length + p) ↔ tru B p := by
  unfold tru
  rw [List.getD_eq_getElem?_getD, List.getElem?_append_right (by omega), ← List.getD_eq_getElem?_getD, Nat.add_sub_cancel_left]
theorem unite_left (ha : a.Ok) {w : Nat → Int} {t p : Nat} (hp : p < a.acc.length) (h : Run a.acc a.edges w t p) : Run (a.unite b).acc (a.unite b).edges w t p := by
  refine Run.sim (fun x y => x = y ∧ x < a.acc.length) ?_ ?_ h ⟨rfl, hp⟩
  · rintro t p q p' ⟨rfl, h1⟩ h2 _
    have h3 := ha.st h2
    obtain ⟨e, he, h4⟩ := h2
    exact ⟨q, ⟨e, List.mem_append_left _ he, h4⟩, rfl, h3.2⟩
  · rintro p p' ⟨rfl, h1⟩ h2
    exact (tru_left h1).2 h2
theorem unite_right (ha : a.Ok) {w : Nat → Int} {t p : Nat} (hb : b.Ok) (h : Run (a.unite b).acc (a.unite b).edges w t (a.acc.length + p)) : Run b.acc b.edges w t p := by
  refine Run.sim (fun x y => x = a.acc.length + y) ?_ ?_ h rfl
  · rintro t p q p' rfl ⟨e, he, h2, h3, h4⟩ _
    rcases List.mem_append.1 he with he | he
    · exfalso
      obtain ⟨x, y, k1, k2, k3, k4⟩ := ha.tr he
      omega
    · obtain ⟨f, hf, rfl⟩ := List.mem_map.1 he
      obtain ⟨x, y, k1, k2, k3, k4⟩ := hb.tr hf
      simp only [Tr.shift] at h2 h3
      exact ⟨y, ⟨f, hf, by omega, k2, h4⟩, by omega⟩
  · rintro p p' rfl h2
    exact tru_right.1 h2
end

/- trimming -/
theorem kidx_inj {K : Nat → Bool} {p q : Nat} (hp : K p = true) (hq : K q = true) (h : kidx K p = kidx K q) : p = q := by
  have lt : ∀ {p q : Nat}, K p = true → p < q → kidx K p < kidx K q := by
    intro p q hp hlt
    have h1 := kidx_succ (K := K) (q := p)
    rw [hp, if_pos rfl] at h1
    have h2 := kidx_mono (K := K) (show p + 1 ≤ q by omega)
    omega
  by_cases h1 : p < q
  · have := lt hp h1; omega
  by_cases h2 : q < p
  · have := lt hq h2; omega
  omega
theorem kept_at {K : Nat → Bool} {A : List Bool} : ∀ {n p : Nat}, p < n → K p = true → (((List.range n).filter K).map fun q => A.getD q false)[kidx K p]? = some (A.getD p false)
  | 0, p, h, _ => absurd h (Nat.not_lt_zero p)
  | n + 1, p, h, hK => by
    rw [List.range_succ, List.filter_append, List.map_append]
    by_cases hp : p = n
    · subst hp
      rw [List.getElem?_append_right (by simp [kidx])]
      simp [kidx, hK]
    · have h1 := kept_at (A := A) (show p < n by omega) hK
      rw [List.getElem?_append_left]
      · exact h1
      · obtain ⟨h2, _⟩ := List.getElem?_eq_some_iff.1 h1
        exact h2
section
variable {a : Aut} {K : Nat → Bool}
theorem kidx_pos {n p : Nat} (hp : p < n) (hK : K p = true) : kidx K n ≠ 0 := by
  have h1 := kidx_succ (K := K) (q := p)
  rw [hK, if_pos rfl] at h1
  have h2 := kidx_mono (K := K) (show p + 1 ≤ n by omega)
  omega
theorem keep_ini {s : Nat} (hs : s < a.acc.length) (hK : K s = true) (h : (s : Int) ∈ a.init) : ((kidx K s : Nat) : Int) ∈ (a.keep K).init := by
  rw [Aut.keep, if_neg (kidx_pos hs hK)]
  exact List.mem_map.2 ⟨s, List.mem_filter.2 ⟨h, by simpa using hK⟩, by simp [kout]⟩
theorem keep_ini' (ha : a.Ok) {x : Nat} (h : (x : Int) ∈ (a.keep K).init) : ∃ s : Nat, (s : Int) ∈ a.init ∧ K s = true ∧ x = kidx K s := by
  unfold Aut.keep at h
  split at h
  · simp at h
  · obtain ⟨i, hi, he⟩ := List.mem_map.1 h
    obtain ⟨h1, h2⟩ := List.mem_filter.1 hi
    have h3 := incr_mem ha.i _ h1
    exact ⟨i.toNat, by rw [Int.toNat_of_nonneg (by omega)]; exact h1, h2, by simp only [kout] at he; omega⟩
theorem keep_st {w : Nat → Int} {t p q : Nat} (hp : K p = true) (hq : K q = true) (hpn : p < a.acc.length) (h : StE a.edges w t p q) : StE (a.keep K).edges w t (kidx K p) (kidx K q) := by
  obtain ⟨e, he, h1, h2, h3⟩ := h
  rw [Aut.keep, if_neg (kidx_pos hpn hp)]
  exact ⟨_, List.mem_map.2 ⟨e, List.mem_filter.2 ⟨he, by simp [h1, h2, hp, hq]⟩, rfl⟩, by simp [Tr.ren, kout, h1], by simp [Tr.ren, kout, h2], h3⟩
theorem keep_st' (ha : a.Ok) {w : Nat → Int} {t p y : Nat} (hp : K p = true) (h : StE (a.keep K).edges w t (kidx K p) y) : ∃ q, K q = true ∧ q < a.acc.length ∧ y = kidx K q ∧ StE a.edges w t p q := by
  obtain ⟨e, he, h1, h2, h3⟩ := h
  unfold Aut.keep at he
  split at he
  · simp at he
  · obtain ⟨f, hf, rfl⟩ := List.mem_map.1 he
    obtain ⟨g1, g2⟩ := List.mem_filter.1 hf
    obtain ⟨x, z, k1, k2, k3, k4⟩ := ha.tr g1
    simp only [Tr.ren, kout, k1, k2, Int.toNat_natCast, Bool.and_eq_true] at h1 h2 g2
    have := kidx_inj g2.1 hp (by omega)
    subst this
    exact ⟨z, g2.2, k4, by omega, f, g1, k1, k2, h3⟩
theorem keep_tru {p : Nat} (hp : p < a.acc.length) (hK : K p = true) : tru (a.keep K).acc (kidx K p) ↔ tru a.acc p := by
  rw [Aut.keep, if_neg (kidx_pos hp hK)]
  unfold tru
  rw [List.getD_eq_getElem?_getD, kept_at hp hK]
  rfl
/-- trimming keeps the language -/
theorem trim_lang (ha : a.Ok) {w : Nat → Int} : a.trim.Lang w ↔ a.Lang w := by
  constructor
  · rintro ⟨x, hx, h⟩
    obtain ⟨s, h1, h2, rfl⟩ := keep_ini' ha hx
    refine ⟨s, h1, Run.sim (fun x p => a.tkeep p = true ∧ p < a.acc.length ∧ x = kidx a.tkeep p) ?_ ?_ h ⟨h2, ha.ini h1, rfl⟩⟩
    · rintro t x y p ⟨g1, g2, rfl⟩ g3 _
      obtain ⟨q, k1, k2, k3, k4⟩ := keep_st' ha g1 g3
      exact ⟨q, k4, k1, k2, k3⟩
    · rintro x p ⟨g1, g2, rfl⟩ g3
      exact (keep_tru g2 g1).1 g3
  · rintro ⟨s, hs, h⟩
    have hs' := ha.ini hs
    have hK : a.tkeep s = true := Aut.tkeep_iff.2 ⟨⟨s, hs, .refl _⟩, Run.live ha hs' h⟩
    refine ⟨_, keep_ini hs' hK hs, Run.sim (fun p x => a.tkeep p = true ∧ p < a.acc.length ∧ x = kidx a.tkeep p) ?_ ?_ h ⟨hK, hs', rfl⟩⟩
    · rintro t p q x ⟨g1, g2, rfl⟩ g3 g4
      have hq := (ha.st g3).2
      have hKq : a.tkeep q = true := by
        obtain ⟨⟨s', h1, h2⟩, _⟩ := Aut.tkeep_iff.1 g1
        obtain ⟨e, he, k1, k2, _⟩ := g3
        exact Aut.tkeep_iff.2 ⟨⟨s', h1, h2.snoc ⟨e, he, k1, k2⟩⟩, Run.live ha hq g4⟩
      exact ⟨_, keep_st g1 hKq g2 g3, hKq, hq, rfl⟩
    · rintro p x ⟨g1, g2, rfl⟩ g3
      exact (keep_tru g2 g1).2 g3
end
end Go.Proofs.Ytglnelcmcimljaa

/-
  Bodies of functions in the small language, as a program printed them, and that each is what the translation gives.
-/
namespace Go.Proofs.Ytglnelcmcimljaa
open Go
set_option linter.all false
set_option linter.defProp false
set_option maxRecDepth 1000000

end Go.Proofs.Ytglnelcmcimljaa

/-
  Bodies of functions in the small language, as a program printed them, and that each is what the translation gives.
-/
namespace Go.Proofs.Ytglnelcmcimljaa
open Go
set_option linter.all false
set_option linter.defProp false
set_option maxRecDepth 1000000

def H_impl_Automaton_simulation : Hint := ⟨[(0, false), (1, true), (2, false), (3, false), (4, false), (6, true), (7, false), (8, false), (9, false), (10, false), (11, false), (12, false), (13, false), (14, false), (21, false), (22, false), (23, false), (27, false), (51, false), (52, false), (55, false), (56, false), (84, false), (85, false), (88, false), (89, false)], [[0, 2, 5, 6, 7, 8, 9, 10, 11, 12, 13, 17, 18, 19, 20, 21, 22, 23, 24, 25], [0, 2, 6, 7, 8, 9, 10, 11, 12, 13, 18, 19, 20, 21, 22, 23, 24, 25], [0, 2, 5, 6, 8, 9, 10, 11, 12, 13, 14, 15, 16, 17, 20, 21, 22, 23, 24, 25], [0, 2, 5, 6, 9, 10, 11, 12, 13, 14, 15, 16, 17, 22, 23, 24, 25], [0, 1, 2, 4, 5, 6, 8, 9, 12, 13, 14, 15, 16, 17, 18, 19, 20, 21, 22, 23, 24, 25], [0, 1, 2, 4, 5, 6, 8, 9, 12, 13, 14, 15, 16, 17, 18, 19, 20, 21, 24, 25], [0, 1, 2, 4, 5, 6, 8, 9, 13, 14, 15, 16, 17, 18, 19, 20, 21]]⟩
def K47_1 : C := .seq (.pl <| .st (.ext 26 1) <|
    .st (.act none (.ld (some 26) (.v 7) none)) <|
    .st (.act none (.px (some 2) (.mv (.v 26)))) .done) (.ret)
@[simp] def W47_1 := @C.wpe _ _ K47_1.eq_1
def K47_2 : C := .pl <| .st (.ext 26 1) <|
    .st (.act none (.px (some 26) (.bin .add (.v 23) (.c (.int .i64 1))))) <|
    .st (.act none (.px (some 23) (.mv (.v 26)))) .done
@[simp] def W47_2 := @C.wpe _ _ K47_2.eq_1
def K47_3 : C := .pl <| .st (.ext 26 1) <|
    .st (.act none (.px (some 26) (.bin .add (.v 25) (.c (.int .i64 1))))) <|
    .st (.act none (.px (some 25) (.mv (.v 26)))) .done
@[simp] def W47_3 := @C.wpe _ _ K47_3.eq_1
def K47_4 : C := .pl <| .st (.ext 26 0) <|
    .st (.act none (.px (some 11) (.mv (.c (.bool true))))) .done
@[simp] def W47_4 := @C.wpe _ _ K47_4.eq_1
def K47_5 : C := .seq (.pl <| .st (.ext 26 8) <|
    .st (.act none (.ld (some 26) (.v 7) none)) <|
    .st (.act none (.px (some 27) (.mv (.v 12)))) <|
    .st (.act none (.px (some 28) (.ia 1 (.v 26) (.v 27)))) <|
    .st (.act none (.ld (some 29) (.v 28) none)) <|
    .st (.act none (.px (some 30) (.mv (.v 13)))) <|
    .st (.act none (.px (some 31) (.bin .shl (.c (.int .u64 1)) (.v 30)))) <|
    .st (.act none (.px (some 32) (.bin .andNot (.v 29) (.v 31)))) <|
    .st (.act none (.px (some 33) (.ia 1 (.v 26) (.v 27)))) <|
    .st (.act none (.ex none (.store 1 (.v 33) (.v 32)))) .done) K47_4
@[simp] def W47_5 := @C.wpe _ _ K47_5.eq_1
def K47_6 : C := .cond 26 (.v 40) K47_5 (.skip)
@[simp] def W47_6 := @C.wpe _ _ K47_6.eq_1
def K47_7 : Pl := .st (.act (some (.v 34, true)) (.px (some 39) (.un .not (.v 38)))) <|
    .st (.act none (.px (some 40) (.pick (.v 34) (.v 39) (.c (.bool false))))) .done
@[simp] def W47_7 := @Pl.wpe _ _ K47_7.eq_1
def K47_8 : C := .seq (.pl <| .st (.ext 26 15) <|
    .st (.act none (.ld (some 26) (.v 7) none)) <|
    .st (.act none (.px (some 27) (.mv (.v 12)))) <|
    .st (.act none (.px (some 28) (.ia 1 (.v 26) (.v 27)))) <|
    .st (.act none (.ld (some 29) (.v 28) none)) <|
    .st (.act none (.px (some 30) (.mv (.v 13)))) <|
    .st (.act none (.px (some 31) (.bin .shr (.v 29) (.v 30)))) <|
    .st (.act none (.px (some 32) (.bin .and (.v 31) (.c (.int .u64 1))))) <|
    .st (.act none (.px (some 33) (.bin .eql (.v 32) (.c (.int .u64 1))))) <|
    .st (.act none (.px (some 34) (.mv (.v 33)))) <|
    .st (.act (some (.v 34, true)) (.px (some 35) (.mv (.v 10)))) <|
    .st (.act (some (.v 34, true)) (.px (some 36) (.mv (.v 13)))) <|
    .st (.act (some (.v 34, true)) (.px (some 37) (.mv (.v 12)))) <|
    .st (.act (some (.v 34, true)) (.ex (some 38) (.callv (.v 35) [.v 36, .v 37]))) K47_7) K47_6
@[simp] def W47_8 := @C.wpe _ _ K47_8.eq_1
def K47_9 : C := .seq (.block 13 (.seq (.pl <| .st (.ext 26 1) <|
    .st (.act none (.px (some 26) (.mv (.v 25)))) <|
    .st (.act none (.px (some 13) (.mv (.v 26)))) .done) K47_8)) K47_3
@[simp] def W47_9 := @C.wpe _ _ K47_9.eq_1
def K47_10 : C := .seq (.cond 26 (.v 26) (.skip) (.exit 12)) K47_9
@[simp] def W47_10 := @C.wpe _ _ K47_10.eq_1
def K47_11 : C := .seq (.pl <| .st (.ext 26 1) <|
    .st (.act none (.px (some 26) (.bin .lss (.v 25) (.v 24)))) .done) K47_10
@[simp] def W47_11 := @C.wpe _ _ K47_11.eq_1
def K47_12 : C := .block 12 (.loop 26 [0, 1, 2, 4, 5, 6, 8, 9, 13, 14, 15, 16, 17, 18, 19, 20, 21] K47_11)
@[simp] def W47_12 := @C.wpe _ _ K47_12.eq_1
def K47_13 : C := .seq (.pl <| .st (.ext 26 0) <|
    .st (.act none (.ld (some 24) (.v 3) none)) <|
    .st (.act none (.px (some 25) (.mv (.c (.int .i64 0))))) .done) K47_12
@[simp] def W47_13 := @C.wpe _ _ K47_13.eq_1
def K47_14 : C := .seq (.block 11 (.seq (.pl <| .st (.ext 26 1) <|
    .st (.act none (.px (some 26) (.mv (.v 23)))) <|
    .st (.act none (.px (some 12) (.mv (.v 26)))) .done) K47_13)) K47_2
@[simp] def W47_14 := @C.wpe _ _ K47_14.eq_1
def K47_15 : C := .seq (.cond 26 (.v 26) (.skip) (.exit 10)) K47_14
@[simp] def W47_15 := @C.wpe _ _ K47_15.eq_1
def K47_16 : C := .seq (.pl <| .st (.ext 26 1) <|
    .st (.act none (.px (some 26) (.bin .lss (.v 23) (.v 22)))) .done) K47_15
@[simp] def W47_16 := @C.wpe _ _ K47_16.eq_1
def K47_17 : C := .block 10 (.loop 26 [0, 1, 2, 4, 5, 6, 8, 9, 12, 13, 14, 15, 16, 17, 18, 19, 20, 21, 24, 25] K47_16)
@[simp] def W47_17 := @C.wpe _ _ K47_17.eq_1
def K47_18 : C := .seq (.pl <| .st (.ext 26 0) <|
    .st (.act none (.ld (some 22) (.v 3) none)) <|
    .st (.act none (.px (some 23) (.mv (.c (.int .i64 0))))) .done) K47_17
@[simp] def W47_18 := @C.wpe _ _ K47_18.eq_1
def K47_19 : C := .block 9 (.seq (.pl <| .st (.ext 26 0) <|
    .st (.act none (.px (some 11) (.mv (.c (.bool false))))) .done) K47_18)
@[simp] def W47_19 := @C.wpe _ _ K47_19.eq_1
def K47_20 : C := .cond 26 (.v 26) (.skip) (.exit 8)
@[simp] def W47_20 := @C.wpe _ _ K47_20.eq_1
def K47_21 : C := .seq (.seq (.pl <| .st (.ext 26 1) <|
    .st (.act none (.px (some 26) (.mv (.v 11)))) .done) K47_20) K47_19
@[simp] def W47_21 := @C.wpe _ _ K47_21.eq_1
def K47_22 : C := .block 8 (.loop 26 [0, 1, 2, 4, 5, 6, 8, 9, 12, 13, 14, 15, 16, 17, 18, 19, 20, 21, 22, 23, 24, 25] K47_21)
@[simp] def W47_22 := @C.wpe _ _ K47_22.eq_1
def K47_23 : C := .seq (.seq (.pl <| .st (.ext 26 0) <|
    .st (.act none (.px (some 11) (.mv (.c (.bool true))))) .done) K47_22) K47_1
@[simp] def W47_23 := @C.wpe _ _ K47_23.eq_1
def K47_24 : C := .seq (.pl <| .st (.ext 26 1) <|
    .st (.act none (.px (some 26) (.mkf (.func fn_impl_Automaton_simulation_1) [] [.v 3, .v 4, .v 7]))) <|
    .st (.act none (.px (some 10) (.mv (.v 26)))) .done) K47_23
@[simp] def W47_24 := @C.wpe _ _ K47_24.eq_1
def K47_25 : C := .pl <| .st (.ext 26 1) <|
    .st (.act none (.px (some 26) (.bin .add (.v 19) (.c (.int .i64 1))))) <|
    .st (.act none (.px (some 19) (.mv (.v 26)))) .done
@[simp] def W47_25 := @C.wpe _ _ K47_25.eq_1
def K47_26 : C := .pl <| .st (.ext 26 1) <|
    .st (.act none (.px (some 26) (.bin .add (.v 21) (.c (.int .i64 1))))) <|
    .st (.act none (.px (some 21) (.mv (.v 26)))) .done
@[simp] def W47_26 := @C.wpe _ _ K47_26.eq_1
def K47_27 : C := .pl <| .st (.ext 26 8) <|
    .st (.act none (.ld (some 26) (.v 7) none)) <|
    .st (.act none (.px (some 27) (.mv (.v 8)))) <|
    .st (.act none (.px (some 28) (.ia 1 (.v 26) (.v 27)))) <|
    .st (.act none (.ld (some 29) (.v 28) none)) <|
    .st (.act none (.px (some 30) (.mv (.v 9)))) <|
    .st (.act none (.px (some 31) (.bin .shl (.c (.int .u64 1)) (.v 30)))) <|
    .st (.act none (.px (some 32) (.bin .or (.v 29) (.v 31)))) <|
    .st (.act none (.px (some 33) (.ia 1 (.v 26) (.v 27)))) <|
    .st (.act none (.ex none (.store 1 (.v 33) (.v 32)))) .done
@[simp] def W47_27 := @C.wpe _ _ K47_27.eq_1
def K47_28 : C := .cond 26 (.v 38) K47_27 (.skip)
@[simp] def W47_28 := @C.wpe _ _ K47_28.eq_1
def K47_29 : C := .seq (.pl <| .st (.ext 26 13) <|
    .st (.act none (.als 26 none 1)) <|
    .st (.act none (.pget (some 27) (some 26) 1 1 none)) <|
    .st (.act none (.px (some 28) (.mv (.v 9)))) <|
    .st (.act none (.px (some 29) (.ia 1 (.v 27) (.v 28)))) <|
    .st (.act none (.ld (some 30) (.v 29) none)) <|
    .st (.act none (.px (some 31) (.mv (.v 30)))) <|
    .st (.act (some (.v 31, false)) (.als 32 none 1)) <|
    .st (.act (some (.v 31, false)) (.pget (some 33) (some 32) 1 1 none)) <|
    .st (.act (some (.v 31, false)) (.px (some 34) (.mv (.v 8)))) <|
    .st (.act (some (.v 31, false)) (.px (some 35) (.ia 1 (.v 33) (.v 34)))) <|
    .st (.act (some (.v 31, false)) (.ld (some 36) (.v 35) none)) <|
    .st (.act (some (.v 31, false)) (.px (some 37) (.un .not (.v 36)))) <|
    .st (.act none (.px (some 38) (.pick (.v 31) (.c (.bool true)) (.v 37)))) .done) K47_28
@[simp] def W47_29 := @C.wpe _ _ K47_29.eq_1
def K47_30 : C := .seq (.block 7 (.seq (.pl <| .st (.ext 26 1) <|
    .st (.act none (.px (some 26) (.mv (.v 21)))) <|
    .st (.act none (.px (some 9) (.mv (.v 26)))) .done) K47_29)) K47_26
@[simp] def W47_30 := @C.wpe _ _ K47_30.eq_1
def K47_31 : C := .seq (.cond 26 (.v 26) (.skip) (.exit 6)) K47_30
@[simp] def W47_31 := @C.wpe _ _ K47_31.eq_1
def K47_32 : C := .seq (.pl <| .st (.ext 26 1) <|
    .st (.act none (.px (some 26) (.bin .lss (.v 21) (.v 20)))) .done) K47_31
@[simp] def W47_32 := @C.wpe _ _ K47_32.eq_1
def K47_33 : C := .block 6 (.loop 26 [0, 2, 5, 6, 9, 10, 11, 12, 13, 14, 15, 16, 17, 22, 23, 24, 25] K47_32)
@[simp] def W47_33 := @C.wpe _ _ K47_33.eq_1
def K47_34 : C := .seq (.pl <| .st (.ext 26 0) <|
    .st (.act none (.ld (some 20) (.v 3) none)) <|
    .st (.act none (.px (some 21) (.mv (.c (.int .i64 0))))) .done) K47_33
@[simp] def W47_34 := @C.wpe _ _ K47_34.eq_1
def K47_35 : C := .seq (.block 5 (.seq (.pl <| .st (.ext 26 1) <|
    .st (.act none (.px (some 26) (.mv (.v 19)))) <|
    .st (.act none (.px (some 8) (.mv (.v 26)))) .done) K47_34)) K47_25
@[simp] def W47_35 := @C.wpe _ _ K47_35.eq_1
def K47_36 : C := .seq (.cond 26 (.v 26) (.skip) (.exit 4)) K47_35
@[simp] def W47_36 := @C.wpe _ _ K47_36.eq_1
def K47_37 : C := .seq (.pl <| .st (.ext 26 1) <|
    .st (.act none (.px (some 26) (.bin .lss (.v 19) (.v 18)))) .done) K47_36
@[simp] def W47_37 := @C.wpe _ _ K47_37.eq_1
def K47_38 : C := .block 4 (.loop 26 [0, 2, 5, 6, 8, 9, 10, 11, 12, 13, 14, 15, 16, 17, 20, 21, 22, 23, 24, 25] K47_37)
@[simp] def W47_38 := @C.wpe _ _ K47_38.eq_1
def K47_39 : C := .seq (.seq (.pl <| .st (.ext 26 1) <|
    .st (.act none (.ld (some 26) (.v 7) none)) <|
    .st (.act none (.px (some 18) (.lenV (.v 26)))) <|
    .st (.act none (.px (some 19) (.mv (.c (.int .i64 0))))) .done) K47_38) K47_24
@[simp] def W47_39 := @C.wpe _ _ K47_39.eq_1
def K47_40 : Pl := .st (.act none (.ex none (.store 1 (.v 7) (.v 27)))) .done
@[simp] def W47_40 := @Pl.wpe _ _ K47_40.eq_1
def K47_41 : Pl := .st (.act none (.ex (some 7) (.alloc (.c (.slice none 0 0))))) K47_40
@[simp] def W47_41 := @Pl.wpe _ _ K47_41.eq_1
def K47_42 : C := .seq (.pl <| .st (.ext 26 2) <|
    .st (.act none (.ld (some 26) (.v 3) none)) <|
    .st (.act none (.ex (some 27) (.mks 8 1 [.int .u64 0] (.v 26) (.v 26)))) K47_41) K47_39
@[simp] def W47_42 := @C.wpe _ _ K47_42.eq_1
def K47_43 : C := .pl <| .st (.ext 26 1) <|
    .st (.act none (.px (some 26) (.bin .add (.v 16) (.c (.int .i64 1))))) <|
    .st (.act none (.px (some 16) (.mv (.v 26)))) .done
@[simp] def W47_43 := @C.wpe _ _ K47_43.eq_1
def K47_44 : C := .pl <| .st (.ext 26 1) <|
    .st (.act none (.px (some 26) (.bin .add (.v 17) (.c (.int .i64 1))))) <|
    .st (.act none (.px (some 17) (.mv (.v 26)))) .done
@[simp] def W47_44 := @C.wpe _ _ K47_44.eq_1
def K47_45 : C := .pl <| .st (.ext 26 13) <|
    .st (.act none (.ld (some 26) (.v 4) none)) <|
    .st (.act none (.als 27 none 5)) <|
    .st (.act none (.pget (some 28) (some 27) 5 0 none)) <|
    .st (.act none (.px (some 29) (.mv (.v 6)))) <|
    .st (.act none (.px (some 30) (.ia 8 (.v 26) (.v 28)))) <|
    .st (.act none (.px (some 31) (.iaA 8 1 (.v 30) (.v 29)))) <|
    .st (.act none (.ld (some 32) (.v 31) none)) <|
    .st (.act none (.als 33 none 5)) <|
    .st (.act none (.pget (some 34) (some 33) 5 3 none)) <|
    .st (.act none (.px (some 35) (.bin .shl (.c (.int .u64 1)) (.v 34)))) <|
    .st (.act none (.px (some 36) (.bin .or (.v 32) (.v 35)))) <|
    .st (.act none (.px (some 37) (.ia 8 (.v 26) (.v 28)))) <|
    .st (.act none (.px (some 38) (.iaA 8 1 (.v 37) (.v 29)))) <|
    .st (.act none (.ex none (.store 1 (.v 38) (.v 36)))) .done
@[simp] def W47_45 := @C.wpe _ _ K47_45.eq_1
def K47_46 : C := .cond 26 (.v 28) K47_45 (.skip)
@[simp] def W47_46 := @C.wpe _ _ K47_46.eq_1
def K47_47 : C := .seq (.pl <| .st (.ext 26 3) <|
    .st (.act none (.pget (some 26) none 5 0 (some 4))) <|
    .st (.act none (.px (some 27) (.mv (.v 6)))) <|
    .st (.act none (.ex (some 28) (.call fn_impl_Transition_takes [.v 26, .v 27]))) .done) K47_46
@[simp] def W47_47 := @C.wpe _ _ K47_47.eq_1
def K47_48 : C := .seq (.block 3 (.seq (.pl <| .st (.ext 26 1) <|
    .st (.act none (.px (some 26) (.mv (.v 17)))) <|
    .st (.act none (.px (some 6) (.mv (.v 26)))) .done) K47_47)) K47_44
@[simp] def W47_48 := @C.wpe _ _ K47_48.eq_1
def K47_49 : C := .seq (.cond 26 (.v 26) (.skip) (.exit 2)) K47_48
@[simp] def W47_49 := @C.wpe _ _ K47_49.eq_1
def K47_50 : C := .seq (.pl <| .st (.ext 26 1) <|
    .st (.act none (.px (some 26) (.bin .lss (.v 17) (.c (.int .i64 8))))) .done) K47_49
@[simp] def W47_50 := @C.wpe _ _ K47_50.eq_1
def K47_51 : C := .block 2 (.loop 26 [0, 2, 6, 7, 8, 9, 10, 11, 12, 13, 18, 19, 20, 21, 22, 23, 24, 25] K47_50)
@[simp] def W47_51 := @C.wpe _ _ K47_51.eq_1
def K47_52 : C := .seq (.pl <| .st (.ext 26 0) <|
    .st (.act none (.px (some 17) (.mv (.c (.int .i64 0))))) .done) K47_51
@[simp] def W47_52 := @C.wpe _ _ K47_52.eq_1
def K47_53 : C := .seq (.block 1 (.seq (.pl <| .st (.ext 26 2) <|
    .st (.act none (.px (some 26) (.ia 4 (.v 14) (.v 16)))) <|
    .st (.act none (.ld (some 27) (.v 26) (some 4))) <|
    .st (.act none (.pnew 5 (.c (.agg #[.int .i64 0, .int .i64 0, .int .i64 0, .int .i64 0])) [])) <|
    .st (.act none (.pset none 5 0 4 (.v 27))) .done) K47_52)) K47_43
@[simp] def W47_53 := @C.wpe _ _ K47_53.eq_1
def K47_54 : C := .seq (.cond 26 (.v 26) (.skip) (.exit 0)) K47_53
@[simp] def W47_54 := @C.wpe _ _ K47_54.eq_1
def K47_55 : C := .seq (.pl <| .st (.ext 26 1) <|
    .st (.act none (.px (some 26) (.bin .lss (.v 16) (.v 15)))) .done) K47_54
@[simp] def W47_55 := @C.wpe _ _ K47_55.eq_1
def K47_56 : C := .block 0 (.loop 26 [0, 2, 5, 6, 7, 8, 9, 10, 11, 12, 13, 17, 18, 19, 20, 21, 22, 23, 24, 25] K47_55)
@[simp] def W47_56 := @C.wpe _ _ K47_56.eq_1
def K47_57 : C := .seq (.seq (.pl <| .st (.ext 26 1) <|
    .st (.act none (.als 26 none 1)) <|
    .st (.act none (.pget (some 14) (some 26) 1 2 none)) <|
    .st (.act none (.px (some 15) (.lenV (.v 14)))) <|
    .st (.act none (.px (some 16) (.mv (.c (.int .i64 0))))) .done) K47_56) K47_42
@[simp] def W47_57 := @C.wpe _ _ K47_57.eq_1
def K47_58 : Pl := .st (.act none (.ex none (.store 1 (.v 4) (.v 27)))) .done
@[simp] def W47_58 := @Pl.wpe _ _ K47_58.eq_1
def K47_59 : Pl := .st (.act none (.ex (some 4) (.alloc (.c (.slice none 0 0))))) K47_58
@[simp] def W47_59 := @Pl.wpe _ _ K47_59.eq_1
def K47_60 : C := .seq (.pl <| .st (.ext 26 2) <|
    .st (.act none (.ld (some 26) (.v 3) none)) <|
    .st (.act none (.ex (some 27) (.mks 64 8 [.int .u64 0, .int .u64 0, .int .u64 0, .int .u64 0, .int .u64 0, .int .u64 0, .int .u64 0, .int .u64 0] (.v 26) (.v 26)))) K47_59) K47_57
@[simp] def W47_60 := @C.wpe _ _ K47_60.eq_1
def K47_61 : Pl := .st (.act none (.ex none (.store 1 (.v 3) (.v 28)))) .done
@[simp] def W47_61 := @Pl.wpe _ _ K47_61.eq_1
def K47_62 : C := .seq (.pl <| .st (.ext 26 3) <|
    .st (.act none (.als 26 none 1)) <|
    .st (.act none (.pget (some 27) (some 26) 1 1 none)) <|
    .st (.act none (.px (some 28) (.lenV (.v 27)))) <|
    .st (.act none (.ex (some 3) (.alloc (.c (.int .i64 0))))) K47_61) K47_60
@[simp] def W47_62 := @C.wpe _ _ K47_62.eq_1
def B_impl_Automaton_simulation : C := .seq (.pl <| .st (.ext 26 0) <|
    .st (.act none (.pnew 1 (.v 0) [])) <|
    .st (.act none (.px (some 2) (.mv (.c (.slice none 0 0))))) .done) K47_62
@[simp] def WB_impl_Automaton_simulation := @C.wpe _ _ B_impl_Automaton_simulation.eq_1
def R_impl_Automaton_simulation : FIR := ⟨B_impl_Automaton_simulation, 26, [(2, none)]⟩
theorem IR_impl_Automaton_simulation : cfun Try.prog H_impl_Automaton_simulation Try.f47 = some R_impl_Automaton_simulation := by kernel_rfl
theorem EN_impl_Automaton_simulation {args : List Value} {h : Heap} {k : Value → Heap → Prop} (hargs : args.length = 1) (hw : B_impl_Automaton_simulation.wp Try.prog (retQ [(2, none)] k) (env0 args 26) h) : CallE Try.prog fn_impl_Automaton_simulation args h k := enter Try.func47 rfl IR_impl_Automaton_simulation hargs hw

def H_impl_Automaton_simulation_1 : Hint := ⟨[(0, false), (1, false), (2, false), (3, false), (4, false), (7, false), (8, false), (9, false), (10, false), (13, false), (14, false)], [[5, 6, 7, 9, 10], [5, 7]]⟩
def K96_1 : C := .seq (.pl <| .st (.ext 11 0) <|
    .st (.act none (.px (some 5) (.mv (.c (.bool true))))) .done) (.ret)
@[simp] def W96_1 := @C.wpe _ _ K96_1.eq_1
def K96_2 : C := .pl <| .st (.ext 11 1) <|
    .st (.act none (.px (some 11) (.bin .add (.v 8) (.c (.int .i64 1))))) <|
    .st (.act none (.px (some 8) (.mv (.v 11)))) .done
@[simp] def W96_2 := @C.wpe _ _ K96_2.eq_1
def K96_3 : C := .pl <| .st (.ext 11 1) <|
    .st (.act none (.px (some 11) (.bin .add (.v 10) (.c (.int .i64 1))))) <|
    .st (.act none (.px (some 10) (.mv (.v 11)))) .done
@[simp] def W96_3 := @C.wpe _ _ K96_3.eq_1
def K96_4 : C := .seq (.pl <| .st (.ext 11 0) <|
    .st (.act none (.px (some 5) (.mv (.c (.bool false))))) .done) (.ret)
@[simp] def W96_4 := @C.wpe _ _ K96_4.eq_1
def K96_5 : C := .cond 11 (.v 34) K96_4 (.skip)
@[simp] def W96_5 := @C.wpe _ _ K96_5.eq_1
def K96_6 : C := .seq (.pl <| .st (.ext 11 24) <|
    .st (.act none (.ld (some 11) (.v 3) none)) <|
    .st (.act none (.px (some 12) (.mv (.v 1)))) <|
    .st (.act none (.px (some 13) (.mv (.v 6)))) <|
    .st (.act none (.px (some 14) (.ia 8 (.v 11) (.v 12)))) <|
    .st (.act none (.px (some 15) (.iaA 8 1 (.v 14) (.v 13)))) <|
    .st (.act none (.ld (some 16) (.v 15) none)) <|
    .st (.act none (.px (some 17) (.mv (.v 7)))) <|
    .st (.act none (.px (some 18) (.bin .shr (.v 16) (.v 17)))) <|
    .st (.act none (.px (some 19) (.bin .and (.v 18) (.c (.int .u64 1))))) <|
    .st (.act none (.px (some 20) (.bin .eql (.v 19) (.c (.int .u64 1))))) <|
    .st (.act none (.px (some 21) (.mv (.v 20)))) <|
    .st (.act (some (.v 21, true)) (.ld (some 22) (.v 3) none)) <|
    .st (.act (some (.v 21, true)) (.px (some 23) (.mv (.v 0)))) <|
    .st (.act (some (.v 21, true)) (.px (some 24) (.mv (.v 6)))) <|
    .st (.act (some (.v 21, true)) (.px (some 25) (.ia 8 (.v 22) (.v 23)))) <|
    .st (.act (some (.v 21, true)) (.px (some 26) (.iaA 8 1 (.v 25) (.v 24)))) <|
    .st (.act (some (.v 21, true)) (.ld (some 27) (.v 26) none)) <|
    .st (.act (some (.v 21, true)) (.ld (some 28) (.v 4) none)) <|
    .st (.act (some (.v 21, true)) (.px (some 29) (.mv (.v 7)))) <|
    .st (.act (some (.v 21, true)) (.px (some 30) (.ia 1 (.v 28) (.v 29)))) <|
    .st (.act (some (.v 21, true)) (.ld (some 31) (.v 30) none)) <|
    .st (.act (some (.v 21, true)) (.px (some 32) (.bin .and (.v 27) (.v 31)))) <|
    .st (.act (some (.v 21, true)) (.px (some 33) (.bin .eql (.v 32) (.c (.int .u64 0))))) <|
    .st (.act none (.px (some 34) (.pick (.v 21) (.v 33) (.c (.bool false))))) .done) K96_5
@[simp] def W96_6 := @C.wpe _ _ K96_6.eq_1
def K96_7 : C := .seq (.block 3 (.seq (.pl <| .st (.ext 11 1) <|
    .st (.act none (.px (some 11) (.mv (.v 10)))) <|
    .st (.act none (.px (some 7) (.mv (.v 11)))) .done) K96_6)) K96_3
@[simp] def W96_7 := @C.wpe _ _ K96_7.eq_1
def K96_8 : C := .seq (.cond 11 (.v 11) (.skip) (.exit 2)) K96_7
@[simp] def W96_8 := @C.wpe _ _ K96_8.eq_1
def K96_9 : C := .seq (.pl <| .st (.ext 11 1) <|
    .st (.act none (.px (some 11) (.bin .lss (.v 10) (.v 9)))) .done) K96_8
@[simp] def W96_9 := @C.wpe _ _ K96_9.eq_1
def K96_10 : C := .block 2 (.loop 11 [5, 7] K96_9)
@[simp] def W96_10 := @C.wpe _ _ K96_10.eq_1
def K96_11 : C := .seq (.pl <| .st (.ext 11 0) <|
    .st (.act none (.ld (some 9) (.v 2) none)) <|
    .st (.act none (.px (some 10) (.mv (.c (.int .i64 0))))) .done) K96_10
@[simp] def W96_11 := @C.wpe _ _ K96_11.eq_1
def K96_12 : C := .seq (.block 1 (.seq (.pl <| .st (.ext 11 1) <|
    .st (.act none (.px (some 11) (.mv (.v 8)))) <|
    .st (.act none (.px (some 6) (.mv (.v 11)))) .done) K96_11)) K96_2
@[simp] def W96_12 := @C.wpe _ _ K96_12.eq_1
def K96_13 : C := .seq (.cond 11 (.v 11) (.skip) (.exit 0)) K96_12
@[simp] def W96_13 := @C.wpe _ _ K96_13.eq_1
def K96_14 : C := .seq (.pl <| .st (.ext 11 1) <|
    .st (.act none (.px (some 11) (.bin .lss (.v 8) (.c (.int .i64 8))))) .done) K96_13
@[simp] def W96_14 := @C.wpe _ _ K96_14.eq_1
def K96_15 : C := .block 0 (.loop 11 [5, 6, 7, 9, 10] K96_14)
@[simp] def W96_15 := @C.wpe _ _ K96_15.eq_1
def K96_16 : C := .seq (.seq (.pl <| .st (.ext 11 0) <|
    .st (.act none (.px (some 8) (.mv (.c (.int .i64 0))))) .done) K96_15) K96_1
@[simp] def W96_16 := @C.wpe _ _ K96_16.eq_1
def B_impl_Automaton_simulation_1 : C := .seq (.pl <| .st (.ext 11 0) <|
    .st (.act none (.px (some 5) (.mv (.c (.bool false))))) .done) K96_16
@[simp] def WB_impl_Automaton_simulation_1 := @C.wpe _ _ B_impl_Automaton_simulation_1.eq_1
def R_impl_Automaton_simulation_1 : FIR := ⟨B_impl_Automaton_simulation_1, 11, [(5, none)]⟩
theorem IR_impl_Automaton_simulation_1 : cfun Try.prog H_impl_Automaton_simulation_1 Try.f96 = some R_impl_Automaton_simulation_1 := by kernel_rfl
theorem EN_impl_Automaton_simulation_1 {args : List Value} {h : Heap} {k : Value → Heap → Prop} (hargs : args.length = 5) (hw : B_impl_Automaton_simulation_1.wp Try.prog (retQ [(5, none)] k) (env0 args 11) h) : CallE Try.prog fn_impl_Automaton_simulation_1 args h k := enter Try.func96 rfl IR_impl_Automaton_simulation_1 hargs hw

def H_spec_l13Answers : Hint := ⟨[(0, false), (1, false), (2, false), (6, false), (7, false), (8, false), (9, false), (10, false)], [[3, 5, 6, 7], [3, 6, 7], [3]]⟩
def K99_1 : C := .seq (.pl <| .st (.ext 8 0) <|
    .st (.act none (.px (some 3) (.mv (.c (.bool true))))) .done) (.ret)
@[simp] def W99_1 := @C.wpe _ _ K99_1.eq_1
def K99_2 : C := .pl <| .st (.ext 8 2) <|
    .st (.act none (.px (some 8) (.mv (.v 4)))) <|
    .st (.act none (.px (some 9) (.bin .add (.v 8) (.c (.int .i64 1))))) <|
    .st (.act none (.px (some 4) (.mv (.v 9)))) .done
@[simp] def W99_2 := @C.wpe _ _ K99_2.eq_1
def K99_3 : C := .pl <| .st (.ext 8 2) <|
    .st (.act none (.px (some 8) (.mv (.v 5)))) <|
    .st (.act none (.px (some 9) (.bin .add (.v 8) (.c (.int .i64 1))))) <|
    .st (.act none (.px (some 5) (.mv (.v 9)))) .done
@[simp] def W99_3 := @C.wpe _ _ K99_3.eq_1
def K99_4 : C := .seq (.pl <| .st (.ext 8 0) <|
    .st (.act none (.px (some 3) (.mv (.c (.bool false))))) .done) (.ret)
@[simp] def W99_4 := @C.wpe _ _ K99_4.eq_1
def K99_5 : C := .cond 8 (.v 9) K99_4 (.skip)
@[simp] def W99_5 := @C.wpe _ _ K99_5.eq_1
def K99_6 : C := .seq (.pl <| .st (.ext 8 2) <|
    .st (.act none (.px (some 8) (.mv (.v 6)))) <|
    .st (.act none (.px (some 9) (.un .not (.v 8)))) .done) K99_5
@[simp] def W99_6 := @C.wpe _ _ K99_6.eq_1
def K99_7 : C := .pl <| .st (.ext 8 2) <|
    .st (.act none (.px (some 8) (.mv (.v 7)))) <|
    .st (.act none (.px (some 9) (.bin .add (.v 8) (.c (.int .i64 1))))) <|
    .st (.act none (.px (some 7) (.mv (.v 9)))) .done
@[simp] def W99_7 := @C.wpe _ _ K99_7.eq_1
def K99_8 : Pl := .st (.act none (.px (some 14) (.mv (.v 13)))) <|
    .st (.act (some (.v 14, true)) (.px (some 15) (.mv (.v 2)))) <|
    .st (.act (some (.v 14, true)) (.px (some 16) (.mv (.v 0)))) <|
    .st (.act (some (.v 14, true)) (.px (some 17) (.mv (.v 5)))) <|
    .st (.act (some (.v 14, true)) (.px (some 18) (.ia 4 (.v 16) (.v 17)))) <|
    .st (.act (some (.v 14, true)) (.px (some 19) (.fa 3 (.v 18)))) <|
    .st (.act (some (.v 14, true)) (.ld (some 20) (.v 19) none)) <|
    .st (.act (some (.v 14, true)) (.px (some 21) (.ia 1 (.v 15) (.v 20)))) <|
    .st (.act (some (.v 14, true)) (.ld (some 22) (.v 21) none)) <|
    .st (.act (some (.v 14, true)) (.px (some 23) (.mv (.v 1)))) <|
    .st (.act (some (.v 14, true)) (.px (some 24) (.mv (.v 7)))) <|
    .st (.act (some (.v 14, true)) (.px (some 25) (.ia 4 (.v 23) (.v 24)))) <|
    .st (.act (some (.v 14, true)) (.px (some 26) (.fa 3 (.v 25)))) <|
    .st (.act (some (.v 14, true)) (.ld (some 27) (.v 26) none)) <|
    .st (.act (some (.v 14, true)) (.px (some 28) (.ia 1 (.v 22) (.v 27)))) <|
    .st (.act (some (.v 14, true)) (.ld (some 29) (.v 28) none)) <|
    .st (.act none (.px (some 30) (.pick (.v 14) (.v 29) (.c (.bool false))))) <|
    .st (.act none (.px (some 6) (.mv (.v 30)))) .done
@[simp] def W99_8 := @Pl.wpe _ _ K99_8.eq_1
def K99_9 : C := .seq (.block 5 (.pl <| .st (.ext 8 23) <|
    .st (.act none (.px (some 8) (.mv (.v 1)))) <|
    .st (.act none (.px (some 9) (.mv (.v 7)))) <|
    .st (.act none (.px (some 10) (.ia 4 (.v 8) (.v 9)))) <|
    .st (.act none (.ld (some 11) (.v 10) (some 4))) <|
    .st (.act none (.px (some 12) (.mv (.v 4)))) <|
    .st (.act none (.ex (some 13) (.call fn_spec_l7On [.v 11, .v 12]))) K99_8)) K99_7
@[simp] def W99_9 := @C.wpe _ _ K99_9.eq_1
def K99_10 : C := .cond 8 (.v 15) (.skip) (.exit 4)
@[simp] def W99_10 := @C.wpe _ _ K99_10.eq_1
def K99_11 : C := .seq (.seq (.pl <| .st (.ext 8 8) <|
    .st (.act none (.px (some 8) (.mv (.v 7)))) <|
    .st (.act none (.px (some 9) (.mv (.v 1)))) <|
    .st (.act none (.px (some 10) (.lenV (.v 9)))) <|
    .st (.act none (.px (some 11) (.bin .lss (.v 8) (.v 10)))) <|
    .st (.act none (.px (some 12) (.mv (.v 11)))) <|
    .st (.act (some (.v 12, true)) (.px (some 13) (.mv (.v 6)))) <|
    .st (.act (some (.v 12, true)) (.px (some 14) (.un .not (.v 13)))) <|
    .st (.act none (.px (some 15) (.pick (.v 12) (.v 14) (.c (.bool false))))) .done) K99_10) K99_9
@[simp] def W99_11 := @C.wpe _ _ K99_11.eq_1
def K99_12 : C := .block 4 (.loop 8 [3] K99_11)
@[simp] def W99_12 := @C.wpe _ _ K99_12.eq_1
def K99_13 : C := .seq (.seq (.pl <| .st (.ext 8 0) <|
    .st (.act none (.px (some 7) (.mv (.c (.int .i64 0))))) .done) K99_12) K99_6
@[simp] def W99_13 := @C.wpe _ _ K99_13.eq_1
def K99_14 : C := .seq (.pl <| .st (.ext 8 0) <|
    .st (.act none (.px (some 6) (.mv (.c (.bool false))))) .done) K99_13
@[simp] def W99_14 := @C.wpe _ _ K99_14.eq_1
def K99_15 : C := .cond 8 (.v 14) (.exit 3) (.skip)
@[simp] def W99_15 := @C.wpe _ _ K99_15.eq_1
def K99_16 : Pl := .st (.act none (.px (some 14) (.un .not (.v 13)))) .done
@[simp] def W99_16 := @Pl.wpe _ _ K99_16.eq_1
def K99_17 : C := .seq (.block 3 (.seq (.seq (.pl <| .st (.ext 8 7) <|
    .st (.act none (.px (some 8) (.mv (.v 0)))) <|
    .st (.act none (.px (some 9) (.mv (.v 5)))) <|
    .st (.act none (.px (some 10) (.ia 4 (.v 8) (.v 9)))) <|
    .st (.act none (.ld (some 11) (.v 10) (some 4))) <|
    .st (.act none (.px (some 12) (.mv (.v 4)))) <|
    .st (.act none (.ex (some 13) (.call fn_spec_l7On [.v 11, .v 12]))) K99_16) K99_15) K99_14)) K99_3
@[simp] def W99_17 := @C.wpe _ _ K99_17.eq_1
def K99_18 : C := .cond 8 (.v 11) (.skip) (.exit 2)
@[simp] def W99_18 := @C.wpe _ _ K99_18.eq_1
def K99_19 : C := .seq (.seq (.pl <| .st (.ext 8 4) <|
    .st (.act none (.px (some 8) (.mv (.v 5)))) <|
    .st (.act none (.px (some 9) (.mv (.v 0)))) <|
    .st (.act none (.px (some 10) (.lenV (.v 9)))) <|
    .st (.act none (.px (some 11) (.bin .lss (.v 8) (.v 10)))) .done) K99_18) K99_17
@[simp] def W99_19 := @C.wpe _ _ K99_19.eq_1
def K99_20 : C := .block 2 (.loop 8 [3, 6, 7] K99_19)
@[simp] def W99_20 := @C.wpe _ _ K99_20.eq_1
def K99_21 : C := .seq (.block 1 (.seq (.pl <| .st (.ext 8 0) <|
    .st (.act none (.px (some 5) (.mv (.c (.int .i64 0))))) .done) K99_20)) K99_2
@[simp] def W99_21 := @C.wpe _ _ K99_21.eq_1
def K99_22 : C := .cond 8 (.v 9) (.skip) (.exit 0)
@[simp] def W99_22 := @C.wpe _ _ K99_22.eq_1
def K99_23 : C := .seq (.seq (.pl <| .st (.ext 8 2) <|
    .st (.act none (.px (some 8) (.mv (.v 4)))) <|
    .st (.act none (.px (some 9) (.bin .leq (.v 8) (.c (.int .i64 7))))) .done) K99_22) K99_21
@[simp] def W99_23 := @C.wpe _ _ K99_23.eq_1
def K99_24 : C := .block 0 (.loop 8 [3, 5, 6, 7] K99_23)
@[simp] def W99_24 := @C.wpe _ _ K99_24.eq_1
def K99_25 : C := .seq (.seq (.pl <| .st (.ext 8 0) <|
    .st (.act none (.px (some 4) (.mv (.c (.int .i64 0))))) .done) K99_24) K99_1
@[simp] def W99_25 := @C.wpe _ _ K99_25.eq_1
def B_spec_l13Answers : C := .seq (.pl <| .st (.ext 8 0) <|
    .st (.act none (.px (some 3) (.mv (.c (.bool false))))) .done) K99_25
@[simp] def WB_spec_l13Answers := @C.wpe _ _ B_spec_l13Answers.eq_1
def R_spec_l13Answers : FIR := ⟨B_spec_l13Answers, 8, [(3, none)]⟩
theorem IR_spec_l13Answers : cfun Try.prog H_spec_l13Answers Try.f99 = some R_spec_l13Answers := by kernel_rfl
theorem EN_spec_l13Answers {args : List Value} {h : Heap} {k : Value → Heap → Prop} (hargs : args.length = 3) (hw : B_spec_l13Answers.wp Try.prog (retQ [(3, none)] k) (env0 args 8) h) : CallE Try.prog fn_spec_l13Answers args h k := enter Try.func99 rfl IR_spec_l13Answers hargs hw

def H_spec_l13Leaving : Hint := ⟨[(0, false), (1, true), (2, false), (3, false), (4, false)], [[0, 2]]⟩
def K98_1 : C := .seq (.pl <| .st (.ext 5 1) <|
    .st (.act none (.px (some 5) (.mv (.v 3)))) <|
    .st (.act none (.px (some 2) (.mv (.v 5)))) .done) (.ret)
@[simp] def W98_1 := @C.wpe _ _ K98_1.eq_1
def K98_2 : C := .pl <| .st (.ext 5 2) <|
    .st (.act none (.px (some 5) (.mv (.v 4)))) <|
    .st (.act none (.px (some 6) (.bin .add (.v 5) (.c (.int .i64 1))))) <|
    .st (.act none (.px (some 4) (.mv (.v 6)))) .done
@[simp] def W98_2 := @C.wpe _ _ K98_2.eq_1
def K98_3 : Pl := .st (.re 11 (.v 10) none none) <|
    .st (.act none (.px (some 28) (.ia 1 (.v 5) (.v 11)))) <|
    .st (.act none (.ex none (.store 1 (.v 28) (.v 27)))) .done
@[simp] def W98_3 := @Pl.wpe _ _ K98_3.eq_1
def K98_4 : C := .seq (.block 1 (.pl <| .st (.ext 5 24) <|
    .st (.act none (.px (some 5) (.mv (.v 3)))) <|
    .st (.act none (.als 6 none 1)) <|
    .st (.act none (.pget (some 7) (some 6) 1 2 none)) <|
    .st (.act none (.px (some 8) (.mv (.v 4)))) <|
    .st (.act none (.px (some 9) (.ia 4 (.v 7) (.v 8)))) <|
    .st (.act none (.px (some 10) (.fa 0 (.v 9)))) <|
    .st (.act none (.ld (some 11) (.v 10) none)) <|
    .st (.act none (.px (some 12) (.mv (.v 3)))) <|
    .st (.act none (.als 13 none 1)) <|
    .st (.act none (.pget (some 14) (some 13) 1 2 none)) <|
    .st (.act none (.px (some 15) (.mv (.v 4)))) <|
    .st (.act none (.px (some 16) (.ia 4 (.v 14) (.v 15)))) <|
    .st (.act none (.px (some 17) (.fa 0 (.v 16)))) <|
    .st (.act none (.ld (some 18) (.v 17) none)) <|
    .st (.act none (.px (some 19) (.ia 1 (.v 12) (.v 18)))) <|
    .st (.act none (.ld (some 20) (.v 19) none)) <|
    .st (.act none (.als 21 none 1)) <|
    .st (.act none (.pget (some 22) (some 21) 1 2 none)) <|
    .st (.act none (.px (some 23) (.mv (.v 4)))) <|
    .st (.act none (.px (some 24) (.ia 4 (.v 22) (.v 23)))) <|
    .st (.act none (.ld (some 25) (.v 24) (some 4))) <|
    .st (.act none (.psl 26 [.int .i64 0, .int .i64 0, .int .i64 0, .int .i64 0] [(0, 4, .v 25)])) <|
    .st (.act none (.ex (some 27) (.app 32 4 [.int .i64 0, .int .i64 0, .int .i64 0, .int .i64 0] (.o (.v 20)) (.p 1 26)))) K98_3)) K98_2
@[simp] def W98_4 := @C.wpe _ _ K98_4.eq_1
def K98_5 : C := .cond 5 (.v 9) (.skip) (.exit 0)
@[simp] def W98_5 := @C.wpe _ _ K98_5.eq_1
def K98_6 : C := .seq (.seq (.pl <| .st (.ext 5 5) <|
    .st (.act none (.px (some 5) (.mv (.v 4)))) <|
    .st (.act none (.als 6 none 1)) <|
    .st (.act none (.pget (some 7) (some 6) 1 2 none)) <|
    .st (.act none (.px (some 8) (.lenV (.v 7)))) <|
    .st (.act none (.px (some 9) (.bin .lss (.v 5) (.v 8)))) .done) K98_5) K98_4
@[simp] def W98_6 := @C.wpe _ _ K98_6.eq_1
def K98_7 : C := .block 0 (.loop 5 [0, 2] K98_6)
@[simp] def W98_7 := @C.wpe _ _ K98_7.eq_1
def K98_8 : C := .seq (.seq (.pl <| .st (.ext 5 0) <|
    .st (.act none (.px (some 4) (.mv (.c (.int .i64 0))))) .done) K98_7) K98_1
@[simp] def W98_8 := @C.wpe _ _ K98_8.eq_1
def K98_9 : Pl := .st (.act none (.px (some 3) (.mv (.v 8)))) .done
@[simp] def W98_9 := @Pl.wpe _ _ K98_9.eq_1
def K98_10 : C := .seq (.pl <| .st (.ext 5 4) <|
    .st (.act none (.als 5 none 1)) <|
    .st (.act none (.pget (some 6) (some 5) 1 1 none)) <|
    .st (.act none (.px (some 7) (.lenV (.v 6)))) <|
    .st (.act none (.ex (some 8) (.mks 24 1 [.slice none 0 0] (.v 7) (.v 7)))) K98_9) K98_8
@[simp] def W98_10 := @C.wpe _ _ K98_10.eq_1
def B_spec_l13Leaving : C := .seq (.pl <| .st (.ext 5 0) <|
    .st (.act none (.pnew 1 (.v 0) [])) <|
    .st (.act none (.px (some 2) (.mv (.c (.slice none 0 0))))) .done) K98_10
@[simp] def WB_spec_l13Leaving := @C.wpe _ _ B_spec_l13Leaving.eq_1
def R_spec_l13Leaving : FIR := ⟨B_spec_l13Leaving, 5, [(2, none)]⟩
theorem IR_spec_l13Leaving : cfun Try.prog H_spec_l13Leaving Try.f98 = some R_spec_l13Leaving := by kernel_rfl
theorem EN_spec_l13Leaving {args : List Value} {h : Heap} {k : Value → Heap → Prop} (hargs : args.length = 1) (hw : B_spec_l13Leaving.wp Try.prog (retQ [(2, none)] k) (env0 args 5) h) : CallE Try.prog fn_spec_l13Leaving args h k := enter Try.func98 rfl IR_spec_l13Leaving hargs hw

def H_spec_l13Relation : Hint := ⟨[(0, false), (1, true), (2, false), (3, false), (4, false), (5, false), (6, false), (7, false), (8, false), (9, false), (10, false), (11, false)], [[0, 2, 6, 7, 8, 9, 10, 11], [0, 2, 8, 9, 10, 11], [0, 1, 2, 5, 6, 7, 10, 11], [0, 1, 2, 5, 6, 7, 11], [0, 1, 2, 5, 6, 7]]⟩
def K49_1 : C := .seq (.pl <| .st (.ext 12 1) <|
    .st (.act none (.px (some 12) (.mv (.v 4)))) <|
    .st (.act none (.px (some 2) (.mv (.v 12)))) .done) (.ret)
@[simp] def W49_1 := @C.wpe _ _ K49_1.eq_1
def K49_2 : C := .pl <| .st (.ext 12 2) <|
    .st (.act none (.px (some 12) (.mv (.v 10)))) <|
    .st (.act none (.px (some 13) (.bin .add (.v 12) (.c (.int .i64 1))))) <|
    .st (.act none (.px (some 10) (.mv (.v 13)))) .done
@[simp] def W49_2 := @C.wpe _ _ K49_2.eq_1
def K49_3 : C := .pl <| .st (.ext 12 2) <|
    .st (.act none (.px (some 12) (.mv (.v 11)))) <|
    .st (.act none (.px (some 13) (.bin .add (.v 12) (.c (.int .i64 1))))) <|
    .st (.act none (.px (some 11) (.mv (.v 13)))) .done
@[simp] def W49_3 := @C.wpe _ _ K49_3.eq_1
def K49_4 : C := .pl <| .st (.ext 12 0) <|
    .st (.act none (.px (some 9) (.mv (.c (.bool true))))) .done
@[simp] def W49_4 := @C.wpe _ _ K49_4.eq_1
def K49_5 : C := .seq (.pl <| .st (.ext 12 6) <|
    .st (.act none (.px (some 12) (.mv (.v 4)))) <|
    .st (.act none (.px (some 13) (.mv (.v 10)))) <|
    .st (.act none (.px (some 14) (.ia 1 (.v 12) (.v 13)))) <|
    .st (.act none (.ld (some 15) (.v 14) none)) <|
    .st (.act none (.px (some 16) (.mv (.v 11)))) <|
    .st (.act none (.px (some 17) (.ia 1 (.v 15) (.v 16)))) <|
    .st (.act none (.ex none (.store 1 (.v 17) (.c (.bool false))))) .done) K49_4
@[simp] def W49_5 := @C.wpe _ _ K49_5.eq_1
def K49_6 : C := .cond 12 (.v 31) K49_5 (.skip)
@[simp] def W49_6 := @C.wpe _ _ K49_6.eq_1
def K49_7 : Pl := .st (.act (some (.v 19, true)) (.px (some 30) (.un .not (.v 29)))) <|
    .st (.act none (.px (some 31) (.pick (.v 19) (.v 30) (.c (.bool false))))) .done
@[simp] def W49_7 := @Pl.wpe _ _ K49_7.eq_1
def K49_8 : C := .seq (.block 9 (.seq (.pl <| .st (.ext 12 20) <|
    .st (.act none (.px (some 12) (.mv (.v 4)))) <|
    .st (.act none (.px (some 13) (.mv (.v 10)))) <|
    .st (.act none (.px (some 14) (.ia 1 (.v 12) (.v 13)))) <|
    .st (.act none (.ld (some 15) (.v 14) none)) <|
    .st (.act none (.px (some 16) (.mv (.v 11)))) <|
    .st (.act none (.px (some 17) (.ia 1 (.v 15) (.v 16)))) <|
    .st (.act none (.ld (some 18) (.v 17) none)) <|
    .st (.act none (.px (some 19) (.mv (.v 18)))) <|
    .st (.act (some (.v 19, true)) (.px (some 20) (.mv (.v 8)))) <|
    .st (.act (some (.v 19, true)) (.px (some 21) (.mv (.v 10)))) <|
    .st (.act (some (.v 19, true)) (.px (some 22) (.ia 1 (.v 20) (.v 21)))) <|
    .st (.act (some (.v 19, true)) (.ld (some 23) (.v 22) none)) <|
    .st (.act (some (.v 19, true)) (.px (some 24) (.mv (.v 8)))) <|
    .st (.act (some (.v 19, true)) (.px (some 25) (.mv (.v 11)))) <|
    .st (.act (some (.v 19, true)) (.px (some 26) (.ia 1 (.v 24) (.v 25)))) <|
    .st (.act (some (.v 19, true)) (.ld (some 27) (.v 26) none)) <|
    .st (.act (some (.v 19, true)) (.px (some 28) (.mv (.v 4)))) <|
    .st (.act (some (.v 19, true)) (.ex (some 29) (.call fn_spec_l13Answers [.v 23, .v 27, .v 28]))) K49_7) K49_6)) K49_3
@[simp] def W49_8 := @C.wpe _ _ K49_8.eq_1
def K49_9 : C := .cond 12 (.v 14) (.skip) (.exit 8)
@[simp] def W49_9 := @C.wpe _ _ K49_9.eq_1
def K49_10 : C := .seq (.seq (.pl <| .st (.ext 12 3) <|
    .st (.act none (.px (some 12) (.mv (.v 11)))) <|
    .st (.act none (.px (some 13) (.mv (.v 3)))) <|
    .st (.act none (.px (some 14) (.bin .lss (.v 12) (.v 13)))) .done) K49_9) K49_8
@[simp] def W49_10 := @C.wpe _ _ K49_10.eq_1
def K49_11 : C := .block 8 (.loop 12 [0, 1, 2, 5, 6, 7] K49_10)
@[simp] def W49_11 := @C.wpe _ _ K49_11.eq_1
def K49_12 : C := .seq (.block 7 (.seq (.pl <| .st (.ext 12 0) <|
    .st (.act none (.px (some 11) (.mv (.c (.int .i64 0))))) .done) K49_11)) K49_2
@[simp] def W49_12 := @C.wpe _ _ K49_12.eq_1
def K49_13 : C := .cond 12 (.v 14) (.skip) (.exit 6)
@[simp] def W49_13 := @C.wpe _ _ K49_13.eq_1
def K49_14 : C := .seq (.seq (.pl <| .st (.ext 12 3) <|
    .st (.act none (.px (some 12) (.mv (.v 10)))) <|
    .st (.act none (.px (some 13) (.mv (.v 3)))) <|
    .st (.act none (.px (some 14) (.bin .lss (.v 12) (.v 13)))) .done) K49_13) K49_12
@[simp] def W49_14 := @C.wpe _ _ K49_14.eq_1
def K49_15 : C := .block 6 (.loop 12 [0, 1, 2, 5, 6, 7, 11] K49_14)
@[simp] def W49_15 := @C.wpe _ _ K49_15.eq_1
def K49_16 : C := .seq (.pl <| .st (.ext 12 0) <|
    .st (.act none (.px (some 10) (.mv (.c (.int .i64 0))))) .done) K49_15
@[simp] def W49_16 := @C.wpe _ _ K49_16.eq_1
def K49_17 : C := .block 5 (.seq (.pl <| .st (.ext 12 0) <|
    .st (.act none (.px (some 9) (.mv (.c (.bool false))))) .done) K49_16)
@[simp] def W49_17 := @C.wpe _ _ K49_17.eq_1
def K49_18 : C := .cond 12 (.v 12) (.skip) (.exit 4)
@[simp] def W49_18 := @C.wpe _ _ K49_18.eq_1
def K49_19 : C := .seq (.seq (.pl <| .st (.ext 12 1) <|
    .st (.act none (.px (some 12) (.mv (.v 9)))) .done) K49_18) K49_17
@[simp] def W49_19 := @C.wpe _ _ K49_19.eq_1
def K49_20 : C := .block 4 (.loop 12 [0, 1, 2, 5, 6, 7, 10, 11] K49_19)
@[simp] def W49_20 := @C.wpe _ _ K49_20.eq_1
def K49_21 : C := .seq (.seq (.pl <| .st (.ext 12 0) <|
    .st (.act none (.px (some 9) (.mv (.c (.bool true))))) .done) K49_20) K49_1
@[simp] def W49_21 := @C.wpe _ _ K49_21.eq_1
def K49_22 : Pl := .st (.act none (.px (some 8) (.mv (.v 13)))) .done
@[simp] def W49_22 := @Pl.wpe _ _ K49_22.eq_1
def K49_23 : C := .seq (.pl <| .st (.ext 12 2) <|
    .st (.act none (.pget (some 12) none 1 0 (some 3))) <|
    .st (.act none (.ex (some 13) (.call fn_spec_l13Leaving [.v 12]))) K49_22) K49_21
@[simp] def W49_23 := @C.wpe _ _ K49_23.eq_1
def K49_24 : C := .pl <| .st (.ext 12 2) <|
    .st (.act none (.px (some 12) (.mv (.v 5)))) <|
    .st (.act none (.px (some 13) (.bin .add (.v 12) (.c (.int .i64 1))))) <|
    .st (.act none (.px (some 5) (.mv (.v 13)))) .done
@[simp] def W49_24 := @C.wpe _ _ K49_24.eq_1
def K49_25 : Pl := .st (.act none (.px (some 4) (.mv (.v 15)))) .done
@[simp] def W49_25 := @Pl.wpe _ _ K49_25.eq_1
def K49_26 : C := .pl <| .st (.ext 12 4) <|
    .st (.act none (.px (some 12) (.mv (.v 4)))) <|
    .st (.act none (.px (some 13) (.mv (.v 6)))) <|
    .st (.act none (.psl 14 [.slice none 0 0] [(0, 1, .v 13)])) <|
    .st (.act none (.ex (some 15) (.app 24 1 [.slice none 0 0] (.o (.v 12)) (.p 1 14)))) K49_25
@[simp] def W49_26 := @C.wpe _ _ K49_26.eq_1
def K49_27 : C := .pl <| .st (.ext 12 2) <|
    .st (.act none (.px (some 12) (.mv (.v 7)))) <|
    .st (.act none (.px (some 13) (.bin .add (.v 12) (.c (.int .i64 1))))) <|
    .st (.act none (.px (some 7) (.mv (.v 13)))) .done
@[simp] def W49_27 := @C.wpe _ _ K49_27.eq_1
def K49_28 : Pl := .st (.act none (.px (some 6) (.mv (.v 27)))) .done
@[simp] def W49_28 := @Pl.wpe _ _ K49_28.eq_1
def K49_29 : C := .seq (.block 3 (.pl <| .st (.ext 12 16) <|
    .st (.act none (.px (some 12) (.mv (.v 6)))) <|
    .st (.act none (.als 13 none 1)) <|
    .st (.act none (.pget (some 14) (some 13) 1 1 none)) <|
    .st (.act none (.px (some 15) (.mv (.v 5)))) <|
    .st (.act none (.px (some 16) (.ia 1 (.v 14) (.v 15)))) <|
    .st (.act none (.ld (some 17) (.v 16) none)) <|
    .st (.act none (.px (some 18) (.un .not (.v 17)))) <|
    .st (.act none (.px (some 19) (.mv (.v 18)))) <|
    .st (.act (some (.v 19, false)) (.als 20 none 1)) <|
    .st (.act (some (.v 19, false)) (.pget (some 21) (some 20) 1 1 none)) <|
    .st (.act (some (.v 19, false)) (.px (some 22) (.mv (.v 7)))) <|
    .st (.act (some (.v 19, false)) (.px (some 23) (.ia 1 (.v 21) (.v 22)))) <|
    .st (.act (some (.v 19, false)) (.ld (some 24) (.v 23) none)) <|
    .st (.act none (.px (some 25) (.pick (.v 19) (.c (.bool true)) (.v 24)))) <|
    .st (.act none (.psl 26 [.bool false] [(0, 1, .v 25)])) <|
    .st (.act none (.ex (some 27) (.app 1 1 [.bool false] (.o (.v 12)) (.p 1 26)))) K49_28)) K49_27
@[simp] def W49_29 := @C.wpe _ _ K49_29.eq_1
def K49_30 : C := .cond 12 (.v 14) (.skip) (.exit 2)
@[simp] def W49_30 := @C.wpe _ _ K49_30.eq_1
def K49_31 : C := .seq (.seq (.pl <| .st (.ext 12 3) <|
    .st (.act none (.px (some 12) (.mv (.v 7)))) <|
    .st (.act none (.px (some 13) (.mv (.v 3)))) <|
    .st (.act none (.px (some 14) (.bin .lss (.v 12) (.v 13)))) .done) K49_30) K49_29
@[simp] def W49_31 := @C.wpe _ _ K49_31.eq_1
def K49_32 : C := .block 2 (.loop 12 [0, 2, 8, 9, 10, 11] K49_31)
@[simp] def W49_32 := @C.wpe _ _ K49_32.eq_1
def K49_33 : C := .seq (.seq (.pl <| .st (.ext 12 0) <|
    .st (.act none (.px (some 7) (.mv (.c (.int .i64 0))))) .done) K49_32) K49_26
@[simp] def W49_33 := @C.wpe _ _ K49_33.eq_1
def K49_34 : Pl := .st (.act none (.px (some 6) (.mv (.v 12)))) .done
@[simp] def W49_34 := @Pl.wpe _ _ K49_34.eq_1
def K49_35 : C := .seq (.block 1 (.seq (.pl <| .st (.ext 12 1) <|
    .st (.act none (.ex (some 12) (.bls 1 0 [.bool false] []))) K49_34) K49_33)) K49_24
@[simp] def W49_35 := @C.wpe _ _ K49_35.eq_1
def K49_36 : C := .cond 12 (.v 14) (.skip) (.exit 0)
@[simp] def W49_36 := @C.wpe _ _ K49_36.eq_1
def K49_37 : C := .seq (.seq (.pl <| .st (.ext 12 3) <|
    .st (.act none (.px (some 12) (.mv (.v 5)))) <|
    .st (.act none (.px (some 13) (.mv (.v 3)))) <|
    .st (.act none (.px (some 14) (.bin .lss (.v 12) (.v 13)))) .done) K49_36) K49_35
@[simp] def W49_37 := @C.wpe _ _ K49_37.eq_1
def K49_38 : C := .block 0 (.loop 12 [0, 2, 6, 7, 8, 9, 10, 11] K49_37)
@[simp] def W49_38 := @C.wpe _ _ K49_38.eq_1
def K49_39 : C := .seq (.seq (.pl <| .st (.ext 12 0) <|
    .st (.act none (.px (some 5) (.mv (.c (.int .i64 0))))) .done) K49_38) K49_23
@[simp] def W49_39 := @C.wpe _ _ K49_39.eq_1
def K49_40 : Pl := .st (.act none (.px (some 4) (.mv (.v 12)))) .done
@[simp] def W49_40 := @Pl.wpe _ _ K49_40.eq_1
def K49_41 : C := .seq (.pl <| .st (.ext 12 1) <|
    .st (.act none (.ex (some 12) (.bls 1 0 [.slice none 0 0] []))) K49_40) K49_39
@[simp] def W49_41 := @C.wpe _ _ K49_41.eq_1
def K49_42 : C := .seq (.pl <| .st (.ext 12 3) <|
    .st (.act none (.als 12 none 1)) <|
    .st (.act none (.pget (some 13) (some 12) 1 1 none)) <|
    .st (.act none (.px (some 14) (.lenV (.v 13)))) <|
    .st (.act none (.px (some 3) (.mv (.v 14)))) .done) K49_41
@[simp] def W49_42 := @C.wpe _ _ K49_42.eq_1
def B_spec_l13Relation : C := .seq (.pl <| .st (.ext 12 0) <|
    .st (.act none (.pnew 1 (.v 0) [])) <|
    .st (.act none (.px (some 2) (.mv (.c (.slice none 0 0))))) .done) K49_42
@[simp] def WB_spec_l13Relation := @C.wpe _ _ B_spec_l13Relation.eq_1
def R_spec_l13Relation : FIR := ⟨B_spec_l13Relation, 12, [(2, none)]⟩
theorem IR_spec_l13Relation : cfun Try.prog H_spec_l13Relation Try.f49 = some R_spec_l13Relation := by kernel_rfl
theorem EN_spec_l13Relation {args : List Value} {h : Heap} {k : Value → Heap → Prop} (hargs : args.length = 1) (hw : B_spec_l13Relation.wp Try.prog (retQ [(2, none)] k) (env0 args 12) h) : CallE Try.prog fn_spec_l13Relation args h k := enter Try.func49 rfl IR_spec_l13Relation hargs hw


end Go.Proofs.Ytglnelcmcimljaa

/-
  The program's search for the greatest simulation.
-/
namespace Go.Proofs.Ytglnelcmcimljaa
open Go
set_option linter.all false
set_option linter.unusedVariables false
set_option linter.unusedSimpArgs false
set_option linter.defProp false
set_option maxRecDepth 1000000

/-- does j simulate i, under what is left: the program's function value -/
theorem c_simulates {h : Heap} {a : Aut} (ha : a.Ok) {b3 b4 b7 : Nat} {vn vb : Value} {T : List W8} {B : List (BitVec 64)} (h3 : hload h (some (.pointer (some ⟨b3, 0, none⟩))) none = some (.int .i64 a.acc.length))
    (h4 : hload h (some (.pointer (some ⟨b4, 0, none⟩))) none = some vn) (h7 : hload h (some (.pointer (some ⟨b7, 0, none⟩))) none = some vb) (Rn : Rep h vn T) (Rb : Rep h vb B)
    (hT : Tab a.edges a.acc.length T) (hB : B.length = a.acc.length) {i j : Nat} (hi : i < a.acc.length) (hj : j < a.acc.length) :
    CallE Try.prog fn_impl_Automaton_simulation_1 [.int .i64 j, .int .i64 i, .pointer (some ⟨b3, 0, none⟩), .pointer (some ⟨b4, 0, none⟩), .pointer (some ⟨b7, 0, none⟩)] h
      (fun u h' => h' = h ∧ ∃ r : Bool, u = .bool r ∧ (r = true ↔ Ans a (bitR B) i j)) := by
  refine CallE.gen fun k hk => EN_impl_Automaton_simulation_1 rfl ?_
  have hn := ha.n
  have hTl := hT.1
  rw [ans_iff ha] at hk
  simp -implicitDefEqProofs (disch := first | omega | (simp only [LnZ]; omega)) [wrap64]
  refine wp_count 8 (fun l e h' => h' = h ∧ e = [some (.int .i64 j), some (.int .i64 i), some (.pointer (some ⟨b3, 0, none⟩)), some (.pointer (some ⟨b4, 0, none⟩)), some (.pointer (some ⟨b7, 0, none⟩)), none, none, none, some (.int .i64 l), none, none] ∧
    ∀ l' < l, ∀ t < a.acc.length, EdgeB a.edges i l' t → ∃ k < a.acc.length, EdgeB a.edges j l' k ∧ bitR B t k = true) ⟨rfl, rfl, fun l' hl' => absurd hl' (Nat.not_lt_zero l')⟩ ?_
  rintro J l _ h hJ hl ⟨rfl, rfl, hA⟩
  simp -implicitDefEqProofs (disch := first | omega | (simp only [LnZ]; omega)) [wrap64]
  refine IteW.mk (fun hlt => ?_) (fun hge => ?_)
  · have hl8 : l < 8 := by omega
    simp -implicitDefEqProofs (disch := first | omega | (simp only [LnZ]; omega)) [wrap64, h3]
    refine wp_count a.acc.length (fun t e h' => h' = _ ∧ e = [some (.int .i64 j), some (.int .i64 i), some (.pointer (some ⟨b3, 0, none⟩)), some (.pointer (some ⟨b4, 0, none⟩)), some (.pointer (some ⟨b7, 0, none⟩)), none, some (.int .i64 l), none, some (.int .i64 l), some (.int .i64 a.acc.length), some (.int .i64 t)] ∧
      ∀ t' < t, EdgeB a.edges i l t' → ∃ k < a.acc.length, EdgeB a.edges j l k ∧ bitR B t' k = true) ⟨rfl, rfl, fun t' ht' => absurd ht' (Nat.not_lt_zero t')⟩ ?_
    rintro J2 t _ h hJ2 ht ⟨rfl, rfl, hA2⟩
    simp -implicitDefEqProofs (disch := first | omega | (simp only [LnZ]; omega)) [wrap64]
    refine IteW.mk (fun hlt2 => ?_) (fun hge2 => ?_)
    · have htn : t < a.acc.length := by omega
      have hbit := hT.2 i l t hi hl8 (by omega)
      have hgi : T.getD i W8.zero = T[i]'(by omega) := by simp [show i < T.length by omega]
      have hgj : T.getD j W8.zero = T[j]'(by omega) := by simp [show j < T.length by omega]
      rw [hgi] at hbit
      by_cases hb : ((T[i]'(by omega)).at l).getLsbD t = true
      · have hmeet := u64_meet (a := (T[j]'(by omega)).at l) (b := B[t]'(by omega))
        by_cases hm : andI .u64 ((T[j]'(by omega)).at l).toNat (B[t]'(by omega)).toNat = 0
        · simp -implicitDefEqProofs (disch := first | omega | (simp only [LnZ]; omega)) [wrap64, -BitVec.getLsbD_eq_getElem, h4, Rn.W, u64_bit, hb, h7, Rb.U, hm]
          refine RetK.keep (hk _ _ ⟨rfl, false, rfl, ?_⟩)
          simp only [Bool.false_eq_true, false_iff]
          intro h
          obtain ⟨k', hk', hE, hr⟩ := h l hl8 t htn (hbit.1 hb)
          rw [bitR_get (by omega)] at hr
          have := (hT.2 j l k' hj hl8 (by omega)).2 hE
          rw [hgj] at this
          exact (hmeet.1 hm) k' (by omega) ⟨this, hr⟩
        · simp -implicitDefEqProofs (disch := first | omega | (simp only [LnZ]; omega)) [wrap64, -BitVec.getLsbD_eq_getElem, h4, Rn.W, u64_bit, hb, h7, Rb.U, hm]
          refine hJ2 _ _ htn ⟨rfl, rfl, fun t' ht' hE => ?_⟩
          by_cases htt : t' = t
          · subst htt
            rw [hmeet] at hm
            simp only [Classical.not_forall, Classical.not_not] at hm
            obtain ⟨k', hk64, h1, h2⟩ := hm
            have h5 := hT.2 j l k' hj hl8 hk64
            rw [hgj] at h5
            have h6 := h5.1 h1
            obtain ⟨e, he, _, h8, _⟩ := h6
            have hq := ha.2.2.2 e he
            unfold Tr.Ok at hq
            exact ⟨k', by omega, h5.1 h1, by rw [bitR_get (by omega)]; exact h2⟩
          · exact hA2 t' (by omega) hE
      · simp -implicitDefEqProofs (disch := first | omega | (simp only [LnZ]; omega)) [wrap64, -BitVec.getLsbD_eq_getElem, h4, Rn.W, u64_bit, hb]
        refine hJ2 _ _ htn ⟨rfl, rfl, fun t' ht' hE => ?_⟩
        by_cases htt : t' = t
        · subst htt; exact absurd (hbit.2 hE) hb
        · exact hA2 t' (by omega) hE
    · simp -implicitDefEqProofs (disch := first | omega | (simp only [LnZ]; omega)) [wrap64]
      refine hJ _ _ hl8 ⟨rfl, rfl, fun l' hl' t' ht' hE => ?_⟩
      by_cases hll : l' = l
      · subst hll; exact hA2 t' (by omega) hE
      · exact hA l' (by omega) t' ht' hE
  · simp -implicitDefEqProofs (disch := first | omega | (simp only [LnZ]; omega)) [wrap64]
    refine RetK.keep (hk _ _ ⟨rfl, true, rfl, ?_⟩)
    simp only [true_iff]
    intro l' hl' t' ht' hE
    exact hA l' (by omega) t' ht' hE

theorem cond_acc0 {a : Aut} {i j : Nat} (hi : i < a.acc.length) (hj : j < a.acc.length) : acc0 a i j = (a.acc[j] || !a.acc[i]) := by
  simp [acc0, hi, hj, Bool.or_comm]

set_option maxHeartbeats 2000000 in
theorem c_simulation {h : Heap} {v : Value} {a : Aut} (Ra : Rep h v a) (ha : a.Ok) : CallE Try.prog fn_impl_Automaton_simulation [v] h (fun u h' => ∃ B : List (BitVec 64), HS h [ow u B] h' ∧ B.length = a.acc.length ∧ Great a (bitR B)) := by
  obtain ⟨v1, v2, v3, rfl, R1, R2, R3⟩ := Rep_Aut.1 Ra
  refine CallE.gen fun k hk => EN_impl_Automaton_simulation rfl ?_
  have hn := ha.n
  have he := ha.e
  simp -implicitDefEqProofs (disch := first | omega | (simp only [LnZ]; omega)) [wrap64, R2.len]
  refine HS.init.alloc rfl fun b3 h1 H => ?_
  simp -implicitDefEqProofs (disch := first | omega | (simp only [LnZ]; omega)) [wrap64]
  refine H.bxst (u := .int .i64 a.acc.length) rfl rfl rfl rfl (by simp) fun h2 H => ?_
  simp only [setC, cells_int, List.take_zero, List.nil_append] at H
  have H : HS h [bx b3 [.int .i64 a.acc.length]] h2 := H
  simp -implicitDefEqProofs (disch := first | omega | (simp only [LnZ]; omega)) [wrap64, H.bxld0]
  refine H.mks (α := W8) (z := W8.zero) rfl rfl (Flat.own_iff.2 ⟨rfl, rfl, trivial⟩) (Nat.le_refl _) (by omega) (by omega) fun vn h3 H => ?_
  simp -implicitDefEqProofs (disch := first | omega | (simp only [LnZ]; omega)) [wrap64]
  refine H.alloc rfl fun b4 h4 H => ?_
  simp -implicitDefEqProofs (disch := first | omega | (simp only [LnZ]; omega)) [wrap64]
  refine H.bxst (u := vn) rfl rfl (by rw [H.sw1.rep.cells]; rfl) (by rw [H.sw1.rep.cells]; simp [H.sw1.rep.one]) (by simp [H.sw1.rep.cells]) fun h5 H => ?_
  have H : HS h [bx b4 [vn], ow vn (List.replicate a.acc.length W8.zero), bx b3 [.int .i64 a.acc.length]] h5 := by
    simpa [setC, H.sw1.rep.cells] using H
  simp -implicitDefEqProofs (disch := first | omega | (simp only [LnZ]; omega)) [wrap64, (R3.on H).len]
  refine wp_count a.edges.length (fun i e h' => e = [none, some (.agg #[v1, v2, v3]), none, some (.pointer (some ⟨b3, 0, none⟩)), some (.pointer (some ⟨b4, 0, none⟩)), none, none, none, none, none, none, none, none, none, some v3, some (.int .i64 a.edges.length), some (.int .i64 i), none, none, none, none, none, none, none, none, none] ∧
    ∃ T, HS h [ow vn T, bx b4 [vn], bx b3 [.int .i64 a.acc.length]] h' ∧ Tab (a.edges.take i) a.acc.length T) ⟨by simp, _, H.sw1, Tab.zero _⟩ ?_
  rintro J i _ h6 hJ hi ⟨rfl, T, H, hT⟩
  simp -implicitDefEqProofs (disch := first | omega | (simp only [LnZ]; omega)) [wrap64]
  refine IteW.mk (fun hlt => ?_) (fun hge => ?_)
  · have hlx : i < a.edges.length := by omega
    have hx := ha.t hlx
    have hv := R3.okTr hlx
    unfold Tr.Ok at hx
    simp -implicitDefEqProofs (disch := first | omega | (simp only [LnZ]; omega)) [wrap64, (R3.on H).xTr, Tr.v, setC]
    refine wp_count 8 (fun l e h' => e = [none, some (.agg #[v1, v2, v3]), none, some (.pointer (some ⟨b3, 0, none⟩)), some (.pointer (some ⟨b4, 0, none⟩)), some a.edges[i].v, none, none, none, none, none, none, none, none, some v3, some (.int .i64 a.edges.length), some (.int .i64 i), some (.int .i64 l), none, none, none, none, none, none, none, none] ∧
      ∃ T, HS h [ow vn T, bx b4 [vn], bx b3 [.int .i64 a.acc.length]] h' ∧ Tab2 (a.edges.take i) a.edges[i] l a.acc.length T) ⟨by simp [Tr.v], _, H, hT.start _⟩ ?_
    rintro J2 l _ h7 hJ2 hl ⟨rfl, T, H, hT⟩
    simp -implicitDefEqProofs (disch := first | omega | (simp only [LnZ]; omega)) [wrap64]
    refine IteW.mk (fun hlt2 => ?_) (fun hge2 => ?_)
    · have hl8 : l < 8 := by omega
      simp -implicitDefEqProofs (disch := first | omega | (simp only [LnZ]; omega)) [wrap64, Tr.v]
      refine (c_takes (t := a.edges[i]) (Rep_Tr.2 ⟨rfl, hv⟩)).go ?_
      rintro _ _ ⟨rfl, rfl⟩
      by_cases ho : a.edges[i].on l = true
      · obtain ⟨f, hf⟩ : ∃ f : Nat, a.edges[i].frm = f := ⟨a.edges[i].frm.toNat, by omega⟩
        obtain ⟨t, ht⟩ : ∃ t : Nat, a.edges[i].to = t := ⟨a.edges[i].to.toNat, by omega⟩
        have hfT : f < T.length := by rw [hT.1]; omega
        simp -implicitDefEqProofs (disch := first | omega | (simp only [LnZ]; omega)) [wrap64, ho, H.sw1.bxld0, hf, ht, H.rep.W, u64_setB]
        refine H.storeFld (α := W8) (T[f].put l (setB (T[f].at l) t)) (i := f) (fo := l) hfT rfl rfl rfl rfl (by show l < 8; omega) (W8.enc_put _) trivial fun h8 H => ?_
        simp -implicitDefEqProofs (disch := first | omega | (simp only [LnZ]; omega)) [wrap64]
        exact hJ2 _ _ hl8 ⟨by simp [Tr.v, hf, ht], _, H, hT.put ho hl8 hf ht (by omega) (by omega)⟩
      · simp -implicitDefEqProofs (disch := first | omega | (simp only [LnZ]; omega)) [wrap64, ho]
        exact hJ2 _ _ hl8 ⟨by simp [Tr.v], _, H, hT.skip (by simpa using ho)⟩
    · simp -implicitDefEqProofs (disch := first | omega | (simp only [LnZ]; omega)) [wrap64]
      have hl8 : l = 8 := by omega
      subst hl8
      exact hJ _ _ hlx ⟨rfl, _, H, hT.done hlx⟩
  rw [List.take_of_length_le (by omega)] at hT
  simp -implicitDefEqProofs (disch := first | omega | (simp only [LnZ]; omega)) [wrap64, H.sw2.bxld0]
  refine H.mks (α := BitVec 64) (z := 0) rfl rfl (show Ty.own (α := BitVec 64) Heap.nil [.int .u64 0] 0 from ⟨rfl, rfl⟩) (Nat.le_refl _) (by omega) (by omega) fun vb h7 H => ?_
  simp -implicitDefEqProofs (disch := first | omega | (simp only [LnZ]; omega)) [wrap64]
  refine H.alloc rfl fun b7 h8 H => ?_
  simp -implicitDefEqProofs (disch := first | omega | (simp only [LnZ]; omega)) [wrap64]
  refine H.bxst (u := vb) rfl rfl (by rw [H.sw1.rep.cells]; rfl) (by rw [H.sw1.rep.cells]; simp [H.sw1.rep.one]) (by simp [H.sw1.rep.cells]) fun h9 H => ?_
  have H : HS h [ow vb (List.replicate a.acc.length (0 : BitVec 64)), bx b7 [vb], ow vn T, bx b4 [vn], bx b3 [.int .i64 a.acc.length]] h9 := by
    simpa [setC, H.sw1.rep.cells] using H.sw1
  simp -implicitDefEqProofs (disch := first | omega | (simp only [LnZ]; omega)) [wrap64, H.sw1.bxld0, H.rep.len]
  refine wp_count a.acc.length (fun i e h' => e = [none, some (.agg #[v1, v2, v3]), none, some (.pointer (some ⟨b3, 0, none⟩)), some (.pointer (some ⟨b4, 0, none⟩)), none, none, some (.pointer (some ⟨b7, 0, none⟩)), none, none, none, none, none, none, none, none, none, none, some (.int .i64 a.acc.length), some (.int .i64 i), none, none, none, none, none, none] ∧
    ∃ B, HS h [ow vb B, bx b7 [vb], ow vn T, bx b4 [vn], bx b3 [.int .i64 a.acc.length]] h' ∧ B.length = a.acc.length ∧ ∀ x y, x < a.acc.length → y < a.acc.length → bitR B x y = (decide (x < i) && acc0 a x y)) ⟨by simp, _, H, by simp, fun x y hx hy => by simp [bitR, hx]⟩ ?_
  rintro J i _ h10 hJ hi ⟨rfl, B, H, hBl, hB⟩
  simp -implicitDefEqProofs (disch := first | omega | (simp only [LnZ]; omega)) [wrap64]
  refine IteW.mk (fun hlt2 => ?_) (fun hge2 => ?_)
  · have hin : i < a.acc.length := by omega
    simp -implicitDefEqProofs (disch := first | omega | (simp only [LnZ]; omega)) [wrap64, H.sw4.bxld0]
    refine wp_count a.acc.length (fun j e h' => e = [none, some (.agg #[v1, v2, v3]), none, some (.pointer (some ⟨b3, 0, none⟩)), some (.pointer (some ⟨b4, 0, none⟩)), none, none, some (.pointer (some ⟨b7, 0, none⟩)), some (.int .i64 i), none, none, none, none, none, none, none, none, none, some (.int .i64 a.acc.length), some (.int .i64 i), some (.int .i64 a.acc.length), some (.int .i64 j), none, none, none, none] ∧
      ∃ B, HS h [ow vb B, bx b7 [vb], ow vn T, bx b4 [vn], bx b3 [.int .i64 a.acc.length]] h' ∧ B.length = a.acc.length ∧ ∀ x y, x < a.acc.length → y < a.acc.length → bitR B x y = (decide (x < i ∨ (x = i ∧ y < j)) && acc0 a x y)) ⟨by simp, _, H, hBl, fun x y hx hy => by simp [hB x y hx hy]⟩ ?_
    rintro J2 j _ h11 hJ2 hj ⟨rfl, B, H, hBl, hB⟩
    simp -implicitDefEqProofs (disch := first | omega | (simp only [LnZ]; omega)) [wrap64]
    refine IteW.mk (fun hlt3 => ?_) (fun hge3 => ?_)
    · have hjn : j < a.acc.length := by omega
      have hc := cond_acc0 hin hjn
      have hstep : ∀ B' : List (BitVec 64), (∀ x y, x < a.acc.length → y < a.acc.length → bitR B' x y = (bitR B x y || (acc0 a i j && (decide (x = i) && decide (y = j))))) → ∀ x y, x < a.acc.length → y < a.acc.length → bitR B' x y = (decide (x < i ∨ (x = i ∧ y < j + 1)) && acc0 a x y) := by
        intro B' hB' x y hx hy
        rw [hB' x y hx hy, hB x y hx hy, Bool.eq_iff_iff]
        simp only [Bool.or_eq_true, Bool.and_eq_true, decide_eq_true_eq]
        constructor
        · rintro (⟨h1, h2⟩ | ⟨h1, rfl, rfl⟩)
          · exact ⟨by omega, h2⟩
          · exact ⟨by omega, h1⟩
        · rintro ⟨h1, h2⟩
          by_cases hxy : x = i ∧ y = j
          · obtain ⟨rfl, rfl⟩ := hxy; exact .inr ⟨h2, rfl, rfl⟩
          · exact .inl ⟨by omega, h2⟩
      by_cases h1 : a.acc[j] = true
      · simp -implicitDefEqProofs (disch := first | omega | (simp only [LnZ]; omega)) [wrap64, (R2.on H).B, h1, H.sw1.bxld0, H.rep.U, u64_setB]
        refine H.storeF (setB (B[i]'(by omega)) j) (i := i) (by omega) rfl rfl trivial rfl fun h12 H => ?_
        simp -implicitDefEqProofs (disch := first | omega | (simp only [LnZ]; omega)) [wrap64]
        exact hJ2 _ _ hjn ⟨rfl, _, H, by simpa using hBl, hstep _ fun x y hx hy => by rw [bitR_set (by omega) (by omega), hc, h1]; simp⟩
      · by_cases h2 : a.acc[i] = true
        · simp -implicitDefEqProofs (disch := first | omega | (simp only [LnZ]; omega)) [wrap64, (R2.on H).B, h1, h2]
          exact hJ2 _ _ hjn ⟨rfl, _, H, hBl, hstep _ fun x y hx hy => by rw [hc, h2]; simp [h1]⟩
        · simp -implicitDefEqProofs (disch := first | omega | (simp only [LnZ]; omega)) [wrap64, (R2.on H).B, h1, h2, H.sw1.bxld0, H.rep.U, u64_setB]
          refine H.storeF (setB (B[i]'(by omega)) j) (i := i) (by omega) rfl rfl trivial rfl fun h12 H => ?_
          simp -implicitDefEqProofs (disch := first | omega | (simp only [LnZ]; omega)) [wrap64]
          exact hJ2 _ _ hjn ⟨rfl, _, H, by simpa using hBl, hstep _ fun x y hx hy => by rw [bitR_set (by omega) (by omega), hc]; simp [h1, h2]⟩
    · simp -implicitDefEqProofs (disch := first | omega | (simp only [LnZ]; omega)) [wrap64]
      exact hJ _ _ hin ⟨rfl, _, H, hBl, fun x y hx hy => by
        rw [hB x y hx hy]
        congr 1
        exact decide_eq_decide.2 (by omega)⟩
  have hB2 : ∀ x y, x < a.acc.length → y < a.acc.length → bitR B x y = acc0 a x y := fun x y hx hy => by rw [hB x y hx hy]; simp [show x < i by omega]
  have hA : AccR a (bitR B) := fun x y hx hy hr => acc0_acc a x y hx hy (by rw [← hB2 x y hx hy]; exact hr)
  have hU : Upper a (bitR B) := fun S hS x y hx hy hr => by rw [hB2 x y hx hy]; exact acc0_upper a S hS x y hx hy hr
  simp -implicitDefEqProofs (disch := first | omega | (simp only [LnZ]; omega)) [wrap64]
  obtain ⟨fv, hfv⟩ : ∃ fv, fv = Value.func (.func fn_impl_Automaton_simulation_1) #[] #[.pointer (some ⟨b3, 0, none⟩), .pointer (some ⟨b4, 0, none⟩), .pointer (some ⟨b7, 0, none⟩)] := ⟨_, rfl⟩
  have hfn : fnOf fv = some (fn_impl_Automaton_simulation_1, [], [.pointer (some ⟨b3, 0, none⟩), .pointer (some ⟨b4, 0, none⟩), .pointer (some ⟨b7, 0, none⟩)]) := by subst hfv; rfl
  rw [← hfv]
  refine wp_while (σ := List (BitVec 64) × Bool) (fun s e h' => e = [none, none, none, some (.pointer (some ⟨b3, 0, none⟩)), none, none, none, some (.pointer (some ⟨b7, 0, none⟩)), none, none, some fv, some (.bool s.2), none, none, none, none, none, none, none, none, none, none, none, none, none, none] ∧
    HS h [ow vb s.1, bx b7 [vb], ow vn T, bx b4 [vn], bx b3 [.int .i64 a.acc.length]] h' ∧ s.1.length = a.acc.length ∧ AccR a (bitR s.1) ∧ Upper a (bitR s.1) ∧ (s.2 = false → Great a (bitR s.1)))
    (fun s => 2 * cnt2 a.acc.length (bitR s.1) + (if s.2 then 1 else 0)) (B, true) ⟨by simp, H, hBl, hA, hU, by simp⟩ ?_
  rintro J ⟨B, c⟩ _ h11 hJ ⟨rfl, H, hBl, hA, hU, hG⟩
  dsimp only at H hBl hA hU hG
  simp -implicitDefEqProofs (disch := first | omega | (simp only [LnZ]; omega)) [wrap64]
  cases c with
  | false =>
    simp -implicitDefEqProofs (disch := first | omega | (simp only [LnZ]; omega)) [wrap64, H.sw1.bxld0]
    exact RetK.keep (hk _ _ ⟨B, H.sw1.drop.sw1.drop.sw1.drop.sw1.drop, hBl, hG rfl⟩)
  | true =>
  simp -implicitDefEqProofs (disch := first | omega | (simp only [LnZ]; omega)) [wrap64, H.sw4.bxld0]
  refine wp_count a.acc.length (fun i e h' => ∃ c', e = [none, none, none, some (.pointer (some ⟨b3, 0, none⟩)), none, none, none, some (.pointer (some ⟨b7, 0, none⟩)), none, none, some fv, some (.bool c'), none, none, none, none, none, none, none, none, none, none, some (.int .i64 a.acc.length), some (.int .i64 i), none, none] ∧
    ∃ B', HS h [ow vb B', bx b7 [vb], ow vn T, bx b4 [vn], bx b3 [.int .i64 a.acc.length]] h' ∧ B'.length = a.acc.length ∧ Pass a (bitR B) (bitR B') c' i 0) ⟨false, by simp, B, H, hBl, Pass.start hA hU⟩ ?_
  rintro J1 i _ h12 hJ1 hi ⟨c', rfl, B', H, hBl', hP⟩
  simp -implicitDefEqProofs (disch := first | omega | (simp only [LnZ]; omega)) [wrap64]
  refine IteW.mk (fun hlt4 => ?_) (fun hge4 => ?_)
  · have hin : i < a.acc.length := by omega
    simp -implicitDefEqProofs (disch := first | omega | (simp only [LnZ]; omega)) [wrap64, H.sw4.bxld0]
    refine wp_count a.acc.length (fun j e h' => ∃ c', e = [none, none, none, some (.pointer (some ⟨b3, 0, none⟩)), none, none, none, some (.pointer (some ⟨b7, 0, none⟩)), none, none, some fv, some (.bool c'), some (.int .i64 i), none, none, none, none, none, none, none, none, none, some (.int .i64 a.acc.length), some (.int .i64 i), some (.int .i64 a.acc.length), some (.int .i64 j)] ∧
      ∃ B', HS h [ow vb B', bx b7 [vb], ow vn T, bx b4 [vn], bx b3 [.int .i64 a.acc.length]] h' ∧ B'.length = a.acc.length ∧ Pass a (bitR B) (bitR B') c' i j) ⟨c', by simp, B', H, hBl', hP⟩ ?_
    rintro J2 j _ h13 hJ2 hj ⟨c', rfl, B', H, hBl', hP⟩
    simp -implicitDefEqProofs (disch := first | omega | (simp only [LnZ]; omega)) [wrap64]
    refine IteW.mk (fun hlt5 => ?_) (fun hge5 => ?_)
    · have hjn : j < a.acc.length := by omega
      have hbg := bitR_get (B := B') (i := i) (j := j) (by omega)
      cases hb : (B'[i]'(by omega)).getLsbD j with
      | false =>
        simp -implicitDefEqProofs (disch := first | omega | (simp only [LnZ]; omega)) [wrap64, -BitVec.getLsbD_eq_getElem, H.sw1.bxld0, H.rep.U, u64_bit, hb]
        exact hJ2 _ _ hjn ⟨c', rfl, B', H, hBl', hP.keep fun hr => by rw [hbg, hb] at hr; simp at hr⟩
      | true =>
        simp -implicitDefEqProofs (disch := first | omega | (simp only [LnZ]; omega)) [wrap64, -BitVec.getLsbD_eq_getElem, H.sw1.bxld0, H.rep.U, u64_bit, hb, hfn]
        refine (c_simulates (i := i) (j := j) ha H.sw4.bxld0 H.sw3.bxld0 H.sw1.bxld0 H.sw2.rep H.rep hT hBl' hin hjn).go ?_
        rintro _ _ ⟨rfl, r, rfl, hr⟩
        cases r with
        | true =>
          simp -implicitDefEqProofs (disch := first | omega | (simp only [LnZ]; omega)) [wrap64]
          exact hJ2 _ _ hjn ⟨c', rfl, B', H, hBl', hP.keep fun _ => hr.1 rfl⟩
        | false =>
          simp -implicitDefEqProofs (disch := first | omega | (simp only [LnZ]; omega)) [wrap64, H.sw1.bxld0, H.rep.U, u64_clrB]
          refine H.storeF (clrB (B'[i]'(by omega)) j) (i := i) (by omega) rfl rfl trivial rfl fun h14 H => ?_
          simp -implicitDefEqProofs (disch := first | omega | (simp only [LnZ]; omega)) [wrap64]
          refine hJ2 _ _ hjn ⟨true, rfl, _, H, by simpa using hBl', ?_⟩
          rw [bitR_clr (by omega) (by omega)]
          exact hP.rem ha hin hjn (by rw [hbg, hb]) (fun hA => by have := hr.2 hA; simp at this)
    · simp -implicitDefEqProofs (disch := first | omega | (simp only [LnZ]; omega)) [wrap64]
      exact hJ1 _ _ hin ⟨c', rfl, B', H, hBl', hP.next (by omega)⟩
  · simp -implicitDefEqProofs (disch := first | omega | (simp only [LnZ]; omega)) [wrap64]
    refine hJ (B', c') _ _ ?_ ⟨rfl, H, hBl', hP.acc, hP.upper, fun hc => by dsimp only at hc; subst hc; exact hP.done (by omega)⟩
    cases c' with
    | true => have := hP.less rfl; simp; omega
    | false => simp [(hP.same rfl).1]
end Go.Proofs.Ytglnelcmcimljaa

/-
  The union of two automata, by the program and by the reference.
-/
namespace Go.Proofs.Ytglnelcmcimljaa
open Go
set_option linter.all false
set_option linter.unusedVariables false
set_option linter.unusedSimpArgs false
set_option linter.defProp false
set_option maxRecDepth 1000000

/-- what a union gives back -/
def unitR (h : Heap) (a b : Aut) (u : Value) (h' : Heap) : Prop := ∃ v, u = .tuple #[v, .bool (decide (a.Ok ∧ b.Ok ∧ (a.unite b).Ok))] ∧ HS h [ow v (if a.Ok ∧ b.Ok ∧ (a.unite b).Ok then a.unite b else Aut.empty)] h'
theorem unitR.no {h h' : Heap} {a b : Aut} (hn : ¬ (a.Ok ∧ b.Ok ∧ (a.unite b).Ok)) (H : HS h [] h') : unitR h a b (.tuple #[.agg #[.slice none 0 0, .slice none 0 0, .slice none 0 0], .bool false]) h' :=
  ⟨_, by rw [decide_eq_false hn], by rw [if_neg hn]; exact empty_ow H⟩
theorem unitR.yes {h h' : Heap} {a b : Aut} {v : Value} (hn : a.Ok ∧ b.Ok ∧ (a.unite b).Ok) (H : HS h [ow v (a.unite b)] h') : unitR h a b (.tuple #[v, .bool true]) h' :=
  ⟨_, by rw [decide_eq_true hn], by rw [if_pos hn]; exact H⟩

theorem c_UniteAutomata {h : Heap} {v w : Value} {a b : Aut} (Ra : Rep h v a) (Rb : Rep h w b) : CallE Try.prog fn_impl_UniteAutomata [v, w] h (unitR h a b) := by
  obtain ⟨v1, v2, v3, rfl, R1, R2, R3⟩ := Rep_Aut.1 Ra
  obtain ⟨w1, w2, w3, rfl, S1, S2, S3⟩ := Rep_Aut.1 Rb
  refine CallE.gen fun k hk => EN_impl_UniteAutomata rfl ?_
  simp -implicitDefEqProofs (disch := first | omega | (simp only [LnZ]; omega)) [wrap64]
  refine (c_AutomatonValid Ra).go ?_
  rintro _ h1 ⟨l1, rfl⟩
  by_cases ha : a.Ok
  case neg =>
    simp -implicitDefEqProofs (disch := first | omega | (simp only [LnZ]; omega)) [wrap64, ha]
    exact RetK.keep (hk _ _ (unitR.no (fun h => ha h.1) l1))
  simp -implicitDefEqProofs (disch := first | omega | (simp only [LnZ]; omega)) [wrap64, ha]
  refine (c_AutomatonValid (Rb.le l1)).go ?_
  rintro _ h2 ⟨l2, rfl⟩
  have l2 := l1.trans l2
  by_cases hb : b.Ok
  case neg =>
    simp -implicitDefEqProofs (disch := first | omega | (simp only [LnZ]; omega)) [wrap64, hb]
    exact RetK.keep (hk _ _ (unitR.no (fun h => hb h.2.1) l2))
  simp -implicitDefEqProofs (disch := first | omega | (simp only [LnZ]; omega)) [wrap64, hb, (R2.le l2).len]
  have e1 := ha.n
  have e2 := hb.n
  have e3 := ha.il
  have e4 := hb.il
  have e5 := ha.e
  have e6 := hb.e
  refine (c_copyOf (Ra.le l2) (by omega) (by omega) (by omega)).go ?_
  intro u h3 H0
  obtain ⟨u1, u2, u3, rfl, H⟩ := HS.unAut (H0.app (Γ := []) l2)
  simp -implicitDefEqProofs (disch := first | omega | (simp only [LnZ]; omega)) [wrap64, (S1.on H).len, H.rep.one, H.sw1.rep.one, H.sw2.rep.one]
  refine wp_count b.init.length (fun i e h' => ∃ u1', e = [none, none, none, some (.agg #[w1, w2, w3]), some (.agg #[.slice none 0 0, .slice none 0 0, .slice none 0 0]), none, some (.int .i64 a.acc.length), some (.agg #[u1', u2, u3]), none, none, some w1, some (.int .i64 b.init.length), some (.int .i64 i), none, none, none] ∧
    HS h [ow u1' (a.init ++ (b.init.take i).map (· + (a.acc.length : Int))), ow u2 a.acc, ow u3 a.edges] h') ⟨u1, by simp, by simpa using H⟩ ?_
  rintro J i _ h4 hJ hi ⟨u1', rfl, H⟩
  simp -implicitDefEqProofs (disch := first | omega | (simp only [LnZ]; omega)) [wrap64]
  refine IteW.mk (fun hlt => ?_) (fun hge => ?_)
  · have hlx : i < b.init.length := by omega
    have hx := hb.im hlx
    simp -implicitDefEqProofs (disch := first | omega | (simp only [LnZ]; omega)) [wrap64, (S1.on H).I]
    refine H.app1 (b.init[i] + a.acc.length) rfl rfl rfl ⟨by omega, by omega⟩ rfl rfl (by simp; omega) (by simp; omega) fun v' h5 H => ?_
    simp -implicitDefEqProofs (disch := first | omega | (simp only [LnZ]; omega)) [wrap64, H.rep.one, H.rep.cells, setC]
    exact hJ _ _ hlx ⟨v', by simp, by rw [map_take_succ hlx]; simpa using H⟩
  simp -implicitDefEqProofs (disch := first | omega | (simp only [LnZ]; omega)) [wrap64]
  rw [List.take_of_length_le (by omega)] at H
  have H := H.sw1
  refine H.appL rfl rfl (S2.on H) rfl rfl (by omega) (by omega) fun u2' h5 H => ?_
  simp -implicitDefEqProofs (disch := first | omega | (simp only [LnZ]; omega)) [wrap64, H.rep.one, H.rep.cells, setC, (S3.on H).len]
  refine wp_count b.edges.length (fun i e h' => ∃ u3', e = [none, none, none, none, some (.agg #[.slice none 0 0, .slice none 0 0, .slice none 0 0]), none, some (.int .i64 a.acc.length), some (.agg #[u1', u2', u3']), none, none, none, none, none, some w3, some (.int .i64 b.edges.length), some (.int .i64 i)] ∧
    HS h [ow u3' (a.edges ++ (b.edges.take i).map (Tr.shift a.acc.length)), ow u2' (a.acc ++ b.acc), ow u1' (a.init ++ b.init.map (· + (a.acc.length : Int)))] h') ⟨u3, by simp, by simpa using H.sw2⟩ ?_
  rintro J i _ h4 hJ hi ⟨u3', rfl, H⟩
  simp -implicitDefEqProofs (disch := first | omega | (simp only [LnZ]; omega)) [wrap64]
  refine IteW.mk (fun hlt => ?_) (fun hge => ?_)
  · have hlx : i < b.edges.length := by omega
    have hx := hb.t hlx
    have hv := S3.okTr hlx
    unfold Tr.Ok at hx
    simp -implicitDefEqProofs (disch := first | omega | (simp only [LnZ]; omega)) [wrap64, (S3.on H).xTr, Tr.v, setC]
    refine H.app1 (Tr.shift a.acc.length b.edges[i]) rfl rfl rfl (Tr.ok_iff.2 ⟨by simp [Tr.shift]; omega, hv.care, hv.value, by simp [Tr.shift]; omega⟩) rfl rfl (by simp; omega) (by simp; omega) fun v' h5 H => ?_
    simp -implicitDefEqProofs (disch := first | omega | (simp only [LnZ]; omega)) [wrap64, H.rep.one, H.rep.cells, setC]
    exact hJ _ _ hlx ⟨v', by simp, by rw [map_take_succ hlx]; simpa using H⟩
  simp -implicitDefEqProofs (disch := first | omega | (simp only [LnZ]; omega)) [wrap64]
  rw [List.take_of_length_le (by omega)] at H
  have H := HS.mkAut (a := a.unite b) H.sw1.sw2
  refine (c_AutomatonValid H.rep).go ?_
  rintro _ h5 ⟨l5, rfl⟩
  have H := H.le l5
  by_cases hc : (a.unite b).Ok
  case neg =>
    simp -implicitDefEqProofs (disch := first | omega | (simp only [LnZ]; omega)) [wrap64, hc]
    exact RetK.keep (hk _ _ (unitR.no (fun h => hc h.2.2) H.drop))
  simp -implicitDefEqProofs (disch := first | omega | (simp only [LnZ]; omega)) [wrap64, hc]
  have e7 : (a.unite b).init.length = a.init.length + b.init.length := by simp [Aut.unite]
  have e8 : (a.unite b).acc.length = a.acc.length + b.acc.length := by simp [Aut.unite]
  have e9 : (a.unite b).edges.length = a.edges.length + b.edges.length := by simp [Aut.unite]
  refine (c_copyOf H.rep (by omega) (by omega) (by omega)).go ?_
  intro v' h6 H6
  have H := (H6.app H).sw1.drop
  obtain ⟨z1, z2, z3, rfl, R1, R2, R3⟩ := Rep_Aut.1 H.rep
  simp -implicitDefEqProofs (disch := first | omega | (simp only [LnZ]; omega)) [wrap64, R1.one, R2.one, R3.one]
  exact RetK.keep (hk _ _ (unitR.yes ⟨ha, hb, hc⟩ H))

theorem c_spec_UniteAutomata {h : Heap} {v w : Value} {a b : Aut} (Ra : Rep h v a) (Rb : Rep h w b) : CallE Try.prog fn_spec_UniteAutomata [v, w] h (unitR h a b) := by
  obtain ⟨v1, v2, v3, rfl, R1, R2, R3⟩ := Rep_Aut.1 Ra
  obtain ⟨w1, w2, w3, rfl, S1, S2, S3⟩ := Rep_Aut.1 Rb
  refine CallE.gen fun k hk => EN_spec_UniteAutomata rfl ?_
  simp -implicitDefEqProofs (disch := first | omega | (simp only [LnZ]; omega)) [wrap64]
  refine (c_spec_AutomatonValid Ra).go ?_
  rintro _ h ⟨rfl, rfl⟩
  by_cases ha : a.Ok
  case neg =>
    simp -implicitDefEqProofs (disch := first | omega | (simp only [LnZ]; omega)) [wrap64, ha]
    exact RetK.keep (hk _ _ (unitR.no (fun h => ha h.1) HS.init))
  simp -implicitDefEqProofs (disch := first | omega | (simp only [LnZ]; omega)) [wrap64, ha]
  refine (c_spec_AutomatonValid Rb).go ?_
  rintro _ h ⟨rfl, rfl⟩
  by_cases hb : b.Ok
  case neg =>
    simp -implicitDefEqProofs (disch := first | omega | (simp only [LnZ]; omega)) [wrap64, hb]
    exact RetK.keep (hk _ _ (unitR.no (fun h => hb h.2.1) HS.init))
  simp -implicitDefEqProofs (disch := first | omega | (simp only [LnZ]; omega)) [wrap64, hb, R2.len]
  have e1 := ha.n
  have e2 := hb.n
  have e3 := ha.il
  have e4 := hb.il
  have e5 := ha.e
  have e6 := hb.e
  refine HS.init.appPL (α := Int) (l2 := a.init) rfl rfl R1 rfl rfl (by omega) fun u1 h1 H => ?_
  simp -implicitDefEqProofs (disch := first | omega | (simp only [LnZ]; omega)) [wrap64]
  refine H.appPL (α := Bool) (l2 := a.acc) rfl rfl (R2.on H) rfl rfl (by omega) fun u2 h2 H => ?_
  simp -implicitDefEqProofs (disch := first | omega | (simp only [LnZ]; omega)) [wrap64]
  refine H.appPL (α := Tr) (l2 := a.edges) rfl rfl (R3.on H) rfl rfl (by omega) fun u3 h3 H => ?_
  simp -implicitDefEqProofs (disch := first | omega | (simp only [LnZ]; omega)) [wrap64, H.rep.one, H.rep.cells, H.sw1.rep.one, H.sw1.rep.cells, H.sw2.rep.one, H.sw2.rep.cells, setC]
  refine wp_count b.init.length (fun i e h' => ∃ u1', e = [none, none, none, some (.agg #[w1, w2, w3]), some (.agg #[.slice none 0 0, .slice none 0 0, .slice none 0 0]), none, some (.int .i64 a.acc.length), some (.agg #[u1', u2, u3]), some (.int .i64 i), none, none] ∧
    HS h [ow u1' (a.init ++ (b.init.take i).map (· + (a.acc.length : Int))), ow u2 a.acc, ow u3 a.edges] h') ⟨u1, by simp, by simpa using H.sw1.sw2⟩ ?_
  rintro J i _ h4 hJ hi ⟨u1', rfl, H⟩
  simp -implicitDefEqProofs (disch := first | omega | (simp only [LnZ]; omega)) [wrap64, (S1.on H).len]
  refine IteW.mk (fun hlt => ?_) (fun hge => ?_)
  · have hlx : i < b.init.length := by omega
    have hx := hb.im hlx
    simp -implicitDefEqProofs (disch := first | omega | (simp only [LnZ]; omega)) [wrap64, (S1.on H).I]
    refine H.app1 (b.init[i] + a.acc.length) rfl rfl rfl ⟨by omega, by omega⟩ rfl rfl (by simp; omega) (by simp; omega) fun v' h5 H => ?_
    simp -implicitDefEqProofs (disch := first | omega | (simp only [LnZ]; omega)) [wrap64, H.rep.one, H.rep.cells, setC]
    exact hJ _ _ hlx ⟨v', by simp, by rw [map_take_succ hlx]; simpa using H⟩
  simp -implicitDefEqProofs (disch := first | omega | (simp only [LnZ]; omega)) [wrap64]
  rw [List.take_of_length_le (by omega)] at H
  have H := H.sw1
  refine H.appL rfl rfl (S2.on H) rfl rfl (by omega) (by omega) fun u2' h5 H => ?_
  simp -implicitDefEqProofs (disch := first | omega | (simp only [LnZ]; omega)) [wrap64, H.rep.one, H.rep.cells, setC]
  refine wp_count b.edges.length (fun i e h' => ∃ u3', e = [none, none, none, some (.agg #[w1, w2, w3]), some (.agg #[.slice none 0 0, .slice none 0 0, .slice none 0 0]), none, some (.int .i64 a.acc.length), some (.agg #[u1', u2', u3']), none, some (.int .i64 i), none] ∧
    HS h [ow u3' (a.edges ++ (b.edges.take i).map (Tr.shift a.acc.length)), ow u2' (a.acc ++ b.acc), ow u1' (a.init ++ b.init.map (· + (a.acc.length : Int)))] h') ⟨u3, by simp, by simpa using H.sw2⟩ ?_
  rintro J i _ h4 hJ hi ⟨u3', rfl, H⟩
  simp -implicitDefEqProofs (disch := first | omega | (simp only [LnZ]; omega)) [wrap64, (S3.on H).len]
  refine IteW.mk (fun hlt => ?_) (fun hge => ?_)
  · have hlx : i < b.edges.length := by omega
    have hx := hb.t hlx
    have hv := S3.okTr hlx
    unfold Tr.Ok at hx
    simp -implicitDefEqProofs (disch := first | omega | (simp only [LnZ]; omega)) [wrap64, (S3.on H).xTr, Tr.v, setC]
    refine H.app1 (Tr.shift a.acc.length b.edges[i]) rfl rfl rfl (Tr.ok_iff.2 ⟨by simp [Tr.shift]; omega, hv.care, hv.value, by simp [Tr.shift]; omega⟩) rfl rfl (by simp; omega) (by simp; omega) fun v' h5 H => ?_
    simp -implicitDefEqProofs (disch := first | omega | (simp only [LnZ]; omega)) [wrap64, H.rep.one, H.rep.cells, setC]
    exact hJ _ _ hlx ⟨v', by simp, by rw [map_take_succ hlx]; simpa using H⟩
  simp -implicitDefEqProofs (disch := first | omega | (simp only [LnZ]; omega)) [wrap64]
  rw [List.take_of_length_le (by omega)] at H
  have H := HS.mkAut (a := a.unite b) H.sw1.sw2
  refine (c_spec_AutomatonValid H.rep).go ?_
  rintro _ _ ⟨rfl, rfl⟩
  by_cases hc : (a.unite b).Ok
  case neg =>
    simp -implicitDefEqProofs (disch := first | omega | (simp only [LnZ]; omega)) [wrap64, hc]
    exact RetK.keep (hk _ _ (unitR.no (fun h => hc h.2.2) H.drop))
  simp -implicitDefEqProofs (disch := first | omega | (simp only [LnZ]; omega)) [wrap64, hc]
  obtain ⟨z1, z2, z3, hz, R1, R2, R3⟩ := Rep_Aut.1 H.rep
  simp at hz
  obtain ⟨rfl, rfl, rfl⟩ := hz
  simp -implicitDefEqProofs (disch := first | omega | (simp only [LnZ]; omega)) [wrap64, R1.one, R2.one, R3.one]
  exact RetK.keep (hk _ _ (unitR.yes ⟨ha, hb, hc⟩ H))
end Go.Proofs.Ytglnelcmcimljaa

/-
  What the program makes of the greatest simulation: its rows, and whether one automaton is simulated by another.
-/
namespace Go.Proofs.Ytglnelcmcimljaa
open Go
set_option linter.all false
set_option linter.unusedVariables false
set_option linter.unusedSimpArgs false
set_option linter.defProp false
set_option maxRecDepth 1000000

/-- is each first state simulated by one of the other automaton's -/
def inclR (R : Rl) (a b : Aut) : Bool := a.init.all fun i => b.init.any fun j => R i.toNat (j.toNat + a.acc.length)
/-- what both programs answer -/
def InclA (a b : Aut) (r : Bool) : Prop := (¬ (a.Ok ∧ b.Ok ∧ (a.unite b).Ok) ∧ r = false) ∨ ((a.Ok ∧ b.Ok ∧ (a.unite b).Ok) ∧ ∃ R, Great (a.unite b) R ∧ r = inclR R a b)
theorem InclA.eq {a b : Aut} {r s : Bool} (h : InclA a b r) (h' : InclA a b s) : r = s := by
  rcases h with ⟨h1, rfl⟩ | ⟨h1, R, hR, rfl⟩
  · rcases h' with ⟨_, rfl⟩ | ⟨h2, _⟩
    · rfl
    · exact absurd h2 h1
  · rcases h' with ⟨h2, _⟩ | ⟨_, S, hS, rfl⟩
    · exact absurd h1 h2
    · obtain ⟨ha, hb, hc⟩ := h1
      have hl : (a.unite b).acc.length = a.acc.length + b.acc.length := by simp [Aut.unite]
      have : ∀ i ∈ a.init, ∀ j ∈ b.init, R i.toNat (j.toNat + a.acc.length) = S i.toNat (j.toNat + a.acc.length) := by
        intro i hi j hj
        have h1 := incr_mem ha.i i hi
        have h2 := incr_mem hb.i j hj
        exact hR.eq hS (by omega) (by omega)
      unfold inclR
      rw [Bool.eq_iff_iff, List.all_eq_true, List.all_eq_true]
      constructor <;> intro h i hi <;> have h3 := h i hi <;> rw [List.any_eq_true] at h3 ⊢ <;> obtain ⟨j, hj, h4⟩ := h3 <;> exact ⟨j, hj, by first | rw [this i hi j hj] at h4; exact h4 | rw [← this i hi j hj] at h4; exact h4⟩

theorem c_incl_1_1 {h : Heap} {u : Value} {j i n : Int} (Rj : Rep h u j) {p1 p2 p3 : Addr} {vb : Value} {B : List (BitVec 64)} (h1 : hload h (some (.pointer (some p1))) none = some vb) (h2 : hload h (some (.pointer (some p2))) none = some (.int .i64 i))
    (h3 : hload h (some (.pointer (some p3))) none = some (.int .i64 n)) (Rb : Rep h vb B) (hi : 0 ≤ i ∧ i < B.length) (hj : 0 ≤ j ∧ 0 ≤ n ∧ j + n < 64) :
    CallE Try.prog fn_impl_IncludesAutomaton_1_1 [u, .pointer (some p1), .pointer (some p2), .pointer (some p3)] h (fun u h' => h' = h ∧ u = .bool (bitR B i.toNat (j.toNat + n.toNat))) := by
  rw [(Rep_int.1 Rj).1]
  refine CallE.gen fun k hk => EN_impl_IncludesAutomaton_1_1 rfl ?_
  have hs : (j + n) = ((j.toNat + n.toNat : Nat) : Int) := by omega
  have hw : IntKind.i64.wrap (j + n) = ((j.toNat + n.toNat : Nat) : Int) := by rw [wrap64 (by omega) (by omega), hs]
  simp -implicitDefEqProofs (disch := omega) [-BitVec.getLsbD_eq_getElem, -Int.natCast_add, h1, h2, h3, Rb.U, hw, u64_bit]
  refine RetK.keep (hk _ _ ⟨rfl, ?_⟩)
  rw [bitR_get (by omega)]

theorem c_incl_1 {h : Heap} {u : Value} {i : Int} (Ri : Rep h u i) {b3 b7 b8 : Nat} {w1 vb : Value} {B : List (BitVec 64)} {binit : List Int} {n : Nat} (h0 : hload h (some (.pointer (some ⟨b3, 0, none⟩))) none = some w1)
    (h1 : hload h (some (.pointer (some ⟨b7, 0, none⟩))) none = some vb) (h3 : hload h (some (.pointer (some ⟨b8, 0, none⟩))) none = some (.int .i64 n)) (Rb : Rep h vb B) (S1 : Rep h w1 binit)
    (hi : 0 ≤ i ∧ i < B.length) (hj : ∀ j ∈ binit, 0 ≤ j ∧ j + n < 64) :
    CallE Try.prog fn_impl_IncludesAutomaton_1 [u, .pointer (some ⟨b3, 0, none⟩), .pointer (some ⟨b7, 0, none⟩), .pointer (some ⟨b8, 0, none⟩)] h (fun u h' => h.le h' ∧ u = .bool (!binit.any fun j => bitR B i.toNat (j.toNat + n))) := by
  rw [(Rep_int.1 Ri).1]
  refine CallE.gen fun k hk => EN_impl_IncludesAutomaton_1 rfl ?_
  simp -implicitDefEqProofs (disch := first | omega | (simp only [LnZ]; omega)) [wrap64]
  refine HS.init.alloc rfl fun b h1' H => ?_
  have H : HS h [bx b [.int .i64 i]] h1' := H
  have hl := H.base
  simp -implicitDefEqProofs (disch := first | omega | (simp only [LnZ]; omega)) [wrap64, hload_le hl h0]
  refine (c_ContainsFunc_int (S1.on H) (c1 := []) (fnOf_func) (fun j => bitR B i.toNat (j.toNat + n)) ?_).go ?_
  · intro h2 hl2 m hm x Rx
    have hl3 := hl.trans hl2
    have hx := hj _ (List.getElem_mem hm)
    refine (c_incl_1_1 (n := n) Rx (hload_le hl3 h1) (hload_le hl2 H.bxld0) (hload_le hl3 h3) (Rb.le hl3) hi (by omega)).to fun _ _ ⟨h4, h5⟩ => ⟨h4 ▸ Heap.le.refl _, by simpa using h5⟩
  · rintro _ h2 ⟨hl2, rfl⟩
    simp -implicitDefEqProofs (disch := first | omega | (simp only [LnZ]; omega)) [wrap64]
    exact RetK.keep (hk _ _ ⟨hl.trans hl2, rfl⟩)

theorem c_IncludesAutomaton {h : Heap} {v w : Value} {a b : Aut} (Ra : Rep h v a) (Rb : Rep h w b) : CallE Try.prog fn_impl_IncludesAutomaton [v, w] h (fun u h' => h.le h' ∧ ∃ r, u = .bool r ∧ InclA a b r) := by
  obtain ⟨v1, v2, v3, rfl, R1, R2, R3⟩ := Rep_Aut.1 Ra
  obtain ⟨w1, w2, w3, rfl, S1, S2, S3⟩ := Rep_Aut.1 Rb
  refine CallE.gen fun k hk => EN_impl_IncludesAutomaton rfl ?_
  simp -implicitDefEqProofs (disch := first | omega | (simp only [LnZ]; omega)) [wrap64]
  refine HS.init.alloc rfl fun b3 h1 H => ?_
  have H : HS h [bx b3 [w1, w2, w3]] h1 := H
  have hld := H.bxlds (o := 0) (n := 3) (by simp)
  simp -implicitDefEqProofs (disch := first | omega | (simp only [LnZ]; omega)) [wrap64, hld]
  refine (c_UniteAutomata (Ra.on H) (Rb.on H)).go ?_
  rintro _ h2 ⟨vc, rfl, HC⟩
  have H := HC.app H
  by_cases hP : a.Ok ∧ b.Ok ∧ (a.unite b).Ok
  case neg =>
    rw [if_neg hP] at H
    obtain ⟨z1, z2, z3, hz, q1, q2, q3⟩ := Rep_Aut.1 H.rep
    subst hz
    simp -implicitDefEqProofs (disch := first | omega | (simp only [LnZ]; omega)) [wrap64, hP, q1.one, q2.one, q3.one]
    exact RetK.keep (hk _ _ ⟨H.base, false, rfl, .inl ⟨hP, rfl⟩⟩)
  rw [if_pos hP] at H
  obtain ⟨ha, hb, hc⟩ := hP
  obtain ⟨z1, z2, z3, hz, q1, q2, q3⟩ := Rep_Aut.1 H.rep
  subst hz
  simp -implicitDefEqProofs (disch := first | omega | (simp only [LnZ]; omega)) [wrap64, ha, hb, hc, q1.one, q2.one, q3.one]
  refine (c_simulation H.rep hc).go ?_
  rintro vb h3 ⟨B, HB, hBl, hG⟩
  have H := (HB.app H)
  simp -implicitDefEqProofs (disch := first | omega | (simp only [LnZ]; omega)) [wrap64]
  refine H.alloc rfl fun b7 h4 H => ?_
  simp -implicitDefEqProofs (disch := first | omega | (simp only [LnZ]; omega)) [wrap64]
  refine H.bxst (u := vb) rfl rfl (by rw [H.sw1.rep.cells]; rfl) (by rw [H.sw1.rep.cells]; simp [H.sw1.rep.one]) (by simp [H.sw1.rep.cells]) fun h5 H => ?_
  have H : HS h [bx b7 [vb], ow vb B, ow (.agg #[z1, z2, z3]) (a.unite b), bx b3 [w1, w2, w3]] h5 := by
    simpa [setC, H.sw1.rep.cells] using H
  simp -implicitDefEqProofs (disch := first | omega | (simp only [LnZ]; omega)) [wrap64, (R2.on H).len]
  refine H.alloc rfl fun b8 h6 H => ?_
  simp -implicitDefEqProofs (disch := first | omega | (simp only [LnZ]; omega)) [wrap64]
  refine H.bxst (u := .int .i64 a.acc.length) rfl rfl rfl rfl (by simp) fun h7 H => ?_
  have H : HS h [bx b8 [.int .i64 a.acc.length], bx b7 [vb], ow vb B, ow (.agg #[z1, z2, z3]) (a.unite b), bx b3 [w1, w2, w3]] h7 := H
  have hl : (a.unite b).acc.length = a.acc.length + b.acc.length := by simp [Aut.unite]
  have hcn := hc.n
  simp -implicitDefEqProofs (disch := first | omega | (simp only [LnZ]; omega)) [wrap64]
  refine (c_ContainsFunc_int (R1.on H) (c1 := []) (fnOf_func) (fun i => !b.init.any fun j => bitR B i.toNat (j.toNat + a.acc.length)) ?_).go ?_
  · intro h8 hl2 m hm x Rx
    have hx := ha.im hm
    exact (c_incl_1 Rx (hload_le hl2 (H.sw4.bxld (o := 0) rfl)) (hload_le hl2 H.sw1.bxld0) (hload_le hl2 H.bxld0) (H.sw2.rep.le hl2) ((S1.on H).le hl2) ⟨hx.1, by omega⟩ fun j hj => by
      have := incr_mem hb.i j hj
      omega)
  · rintro _ h8 ⟨hl2, rfl⟩
    simp -implicitDefEqProofs (disch := first | omega | (simp only [LnZ]; omega)) [wrap64]
    refine RetK.keep (hk _ _ ⟨H.base.trans hl2, _, rfl, .inr ⟨⟨ha, hb, hc⟩, bitR B, hG, ?_⟩⟩)
    rw [inclR, Bool.eq_iff_iff]
    simp
end Go.Proofs.Ytglnelcmcimljaa

/-
  Plain laws: merging keeps the language and reduces; inclusion is sound; simplification.
-/
namespace Go.Proofs.Ytglnelcmcimljaa
open Go
set_option linter.all false
set_option linter.unusedVariables false
set_option linter.unusedSimpArgs false
set_option linter.defProp false
set_option maxRecDepth 1000000

/- numbers of classes -/
def cls (e : Nat → Nat → Bool) (n x : Nat) : Nat := (grpS e n).1.getD x 0
theorem gnm_cls {e : Nat → Nat → Bool} {n x : Nat} : gnm e n (x : Int) = (cls e n x : Int) := by simp [gnm, cls]
def Fresh (e : Nat → Nat → Bool) (r : Nat) : Prop := ∀ k, k < r → e r k = false
section
variable {e : Nat → Nat → Bool}
theorem grpS_mono {i n : Nat} (h : i ≤ n) : (grpS e i).2 ≤ (grpS e n).2 := by
  induction n with
  | zero => obtain rfl : i = 0 := by omega
            exact Nat.le_refl _
  | succ n ih =>
    by_cases hi : i = n + 1
    · subst hi; exact Nat.le_refl _
    · have := ih (by omega)
      cases hf : (List.range n).find? (fun k => e n k) with
      | some k => rw [grpS_old hf]; exact this
      | none => rw [grpS_new hf]; simp only; omega
theorem cls_new {n r : Nat} (hr : r < n) (hf : Fresh e r) : cls e n r = (grpS e r).2 := by
  have hn : (List.range r).find? (fun k => e r k) = none := find_none hf
  unfold cls
  rw [grpS_get (i := r + 1) (by omega) (by omega), grpS_new hn, List.getD_eq_getElem?_getD, List.getElem?_append_right (by rw [grpS_len]; exact Nat.le_refl _), grpS_len]
  simp
theorem cls_old {n q k : Nat} (hq : q < n) (hf : (List.range q).find? (fun k => e q k) = some k) : cls e n q = cls e n k := by
  have hk := find_lt hf
  unfold cls
  rw [grpS_get (i := q + 1) (n := n) (q := q) (by omega) (by omega), grpS_old hf, List.getD_eq_getElem?_getD, List.getElem?_append_right (by rw [grpS_len]; exact Nat.le_refl _), grpS_len,
    grpS_get (i := q) (n := n) (q := k) hk (by omega)]
  simp
theorem cls_lt {n x : Nat} (hx : x < n) : cls e n x < (grpS e n).2 := by
  have := gnm_lt (e := e) (n := n) (x := x) (by omega) (by omega)
  rw [gnm_cls] at this
  omega
theorem find_some {p : Nat → Bool} {i k : Nat} (h : (List.range i).find? p = some k) : p k = true := by
  have := List.find?_some h
  exact this
theorem find_fresh {r : Nat} (h : (List.range r).find? (fun k => e r k) = none) : Fresh e r := by
  intro k hk
  rw [List.find?_eq_none] at h
  have := h k (List.mem_range.2 hk)
  simpa using this
theorem cls_rep {n : Nat} (htr : ∀ x y z, x < n → y < n → z < n → e x y = true → e y z = true → e x z = true) : ∀ m q, q ≤ m → q < n → ∃ r, r < n ∧ (r = q ∨ e q r = true) ∧ cls e n r = cls e n q ∧ Fresh e r
  | m, q, hm, hq => by
    cases hf : (List.range q).find? (fun k => e q k) with
    | none => exact ⟨q, hq, .inl rfl, rfl, find_fresh hf⟩
    | some k =>
      have hk := find_lt hf
      have hek := find_some hf
      cases m with
      | zero => omega
      | succ m =>
        obtain ⟨r, h1, h2, h3, h4⟩ := cls_rep htr m k (by omega) (by omega)
        refine ⟨r, h1, .inr ?_, by rw [h3, cls_old hq hf], h4⟩
        rcases h2 with rfl | h2
        · exact hek
        · exact htr _ _ _ hq (by omega) h1 hek h2
theorem fresh_inj {n r s : Nat} (hr : r < n) (hs : s < n) (fr : Fresh e r) (fs : Fresh e s) (h : cls e n r = cls e n s) : r = s := by
  have lt : ∀ {r s : Nat}, r < n → s < n → Fresh e r → Fresh e s → r < s → cls e n r < cls e n s := by
    intro r s hr hs fr fs hlt
    rw [cls_new hs fs, cls_new hr fr]
    have h1 := grpS_new (e := e) (i := r) (find_none fr)
    have h2 := grpS_mono (e := e) (show r + 1 ≤ s by omega)
    rw [h1] at h2
    simp only at h2
    omega
  by_cases h1 : r < s
  · have := lt hr hs fr fs h1; omega
  by_cases h2 : s < r
  · have := lt hs hr fs fr h2; omega
  omega
theorem cls_same {n p q : Nat} (hsy : ∀ x y, x < n → y < n → e x y = true → e y x = true) (htr : ∀ x y z, x < n → y < n → z < n → e x y = true → e y z = true → e x z = true) (hp : p < n) (hq : q < n) :
    cls e n p = cls e n q ↔ p = q ∨ e p q = true := by
  obtain ⟨r, h1, h2, h3, h4⟩ := cls_rep htr p p (Nat.le_refl _) hp
  obtain ⟨s, g1, g2, g3, g4⟩ := cls_rep htr q q (Nat.le_refl _) hq
  constructor
  · intro h
    have hrs := fresh_inj h1 g1 h4 g4 (by rw [h3, g3, h])
    subst hrs
    rcases h2 with rfl | h2
    · rcases g2 with rfl | g2
      · exact .inl rfl
      · exact .inr (hsy _ _ hq hp g2)
    · rcases g2 with rfl | g2
      · exact .inr h2
      · exact .inr (htr _ _ _ hp h1 hq h2 (hsy _ _ hq h1 g2))
  · rintro (rfl | h)
    · rfl
    · have hrs : r = s := by
        have hers : r = s ∨ e r s = true := by
          rcases h2 with rfl | h2
          · rcases g2 with rfl | g2
            · exact .inr h
            · exact .inr (htr _ _ _ hp hq g1 h g2)
          · have h5 := htr _ _ _ h1 hp hq (hsy _ _ hp h1 h2) h
            rcases g2 with rfl | g2
            · exact .inr h5
            · exact .inr (htr _ _ _ h1 hq g1 h5 g2)
        rcases hers with h5 | h5
        · exact h5
        by_cases h6 : r < s
        · have := g4 r h6
          rw [hsy _ _ h1 g1 h5] at this
          simp at this
        by_cases h7 : s < r
        · have := h4 s h7
          rw [h5] at this
          simp at this
        omega
      rw [← h3, ← g3, hrs]
theorem accG_at {a : Aut} : ∀ {n r : Nat}, r < n → Fresh e r → (accG a e n).getD (grpS e r).2 false = a.acc.getD r false
  | 0, r, h, _ => absurd h (Nat.not_lt_zero r)
  | n + 1, r, h, hf => by
    have hl := accG_len (a := a) (e := e) n
    by_cases hr : r = n
    · subst hr
      unfold accG
      rw [find_none hf]
      simp only
      rw [List.getD_eq_getElem?_getD, List.getElem?_append_right (by omega), hl]
      simp
    · have ih := accG_at (a := a) (show r < n by omega) hf
      unfold accG
      split
      · exact ih
      · have h1 := grpS_new (e := e) (i := r) (find_none hf)
        have h2 := grpS_mono (e := e) (show r + 1 ≤ n by omega)
        rw [h1] at h2
        simp only at h2
        rw [List.getD_eq_getElem?_getD, List.getElem?_append_left (by omega), ← List.getD_eq_getElem?_getD]
        exact ih
end
section
variable {a : Aut} {R : Rl}
theorem eqv_iff {x y : Nat} : eqv R x y = true ↔ R x y = true ∧ R y x = true := by simp [eqv]
theorem eqv_sy {n : Nat} : ∀ x y, x < n → y < n → eqv R x y = true → eqv R y x = true := fun x y _ _ h => eqv_iff.2 (eqv_iff.1 h).symm
theorem eqv_tr (ha : a.Ok) (hR : Great a R) : ∀ x y z, x < a.acc.length → y < a.acc.length → z < a.acc.length → eqv R x y = true → eqv R y z = true → eqv R x z = true := fun x y z hx hy hz h k => by
  rw [eqv_iff] at *
  exact ⟨hR.trans ha hx hy hz h.1 k.1, hR.trans ha hz hy hx k.2 h.2⟩
theorem cls_R (ha : a.Ok) (hR : Great a R) {p q : Nat} (hp : p < a.acc.length) (hq : q < a.acc.length) (h : cls (eqv R) a.acc.length p = cls (eqv R) a.acc.length q) : R p q = true := by
  rcases (cls_same eqv_sy (eqv_tr ha hR) hp hq).1 h with rfl | h
  · exact hR.refl hp
  · exact (eqv_iff.1 h).1
theorem mrg_st {w : Nat → Int} {t p q : Nat} (h : StE a.edges w t p q) : StE (a.mergeE (eqv R)).edges w t (cls (eqv R) a.acc.length p) (cls (eqv R) a.acc.length q) := by
  obtain ⟨f, hf, h1, h2, h3⟩ := h
  exact ⟨_, ded_mem.2 (List.mem_map_of_mem hf), by simp only [Tr.ren, h1, gnm_cls], by simp only [Tr.ren, h2, gnm_cls], h3⟩
theorem mrg_st' (ha : a.Ok) {w : Nat → Int} {t x y : Nat} (h : StE (a.mergeE (eqv R)).edges w t x y) : ∃ p q, StE a.edges w t p q ∧ x = cls (eqv R) a.acc.length p ∧ y = cls (eqv R) a.acc.length q := by
  obtain ⟨f, hf, h1, h2, h3⟩ := h
  obtain ⟨g, hg, rfl⟩ := List.mem_map.1 (ded_mem.1 hf)
  obtain ⟨u, v, k1, k2, k3, k4⟩ := ha.tr hg
  simp only [Tr.ren, k1, k2, gnm_cls] at h1 h2
  exact ⟨u, v, ⟨g, hg, k1, k2, h3⟩, by omega, by omega⟩
theorem mrg_tru (ha : a.Ok) (hR : Great a R) {p : Nat} (hp : p < a.acc.length) : tru (a.mergeE (eqv R)).acc (cls (eqv R) a.acc.length p) ↔ tru a.acc p := by
  obtain ⟨r, h1, h2, h3, h4⟩ := cls_rep (eqv_tr ha hR) p p (Nat.le_refl _) hp
  have h5 := accG_at (a := a) h1 h4
  rw [← cls_new h1 h4, h3] at h5
  have e1 := cls_R ha hR hp h1 h3.symm
  have e2 := cls_R ha hR h1 hp h3
  show (accG a (eqv R) a.acc.length).getD _ false = true ↔ _
  rw [h5]
  exact ⟨fun h => hR.simu.1 r p h1 hp e2 h, fun h => hR.simu.1 p r hp h1 e1 h⟩
theorem mrg_ini (ha : a.Ok) {s : Nat} (h : (s : Int) ∈ a.init) : ((cls (eqv R) a.acc.length s : Nat) : Int) ∈ (a.mergeE (eqv R)).init := by
  refine memL_mem.2 ⟨_, rfl, cls_lt (ha.ini h), ?_⟩
  rw [List.any_eq_true]
  exact ⟨_, h, by rw [gnm_cls]; simp⟩
theorem mrg_ini' (ha : a.Ok) {x : Nat} (h : (x : Int) ∈ (a.mergeE (eqv R)).init) : ∃ s : Nat, (s : Int) ∈ a.init ∧ x = cls (eqv R) a.acc.length s := by
  obtain ⟨q, h1, h2, h3⟩ := memL_mem.1 h
  rw [List.any_eq_true] at h3
  obtain ⟨i, hi, h4⟩ := h3
  have h5 := incr_mem ha.i i hi
  obtain ⟨s, rfl⟩ : ∃ s : Nat, i = s := ⟨i.toNat, by omega⟩
  rw [gnm_cls, decide_eq_true_eq] at h4
  exact ⟨s, hi, by omega⟩
/-- merging keeps the language -/
theorem mergeE_lang (ha : a.Ok) (hR : Great a R) {w : Nat → Int} (hw : Letters w) : (a.mergeE (eqv R)).Lang w ↔ a.Lang w := by
  constructor
  · rintro ⟨x, hx, h⟩
    obtain ⟨s, h1, rfl⟩ := mrg_ini' ha hx
    have hs := ha.ini h1
    refine ⟨s, h1, Run.sim (fun x p => p < a.acc.length ∧ ∃ y, y < a.acc.length ∧ x = cls (eqv R) a.acc.length y ∧ R y p = true) ?_ ?_ h ⟨hs, s, hs, rfl, hR.refl hs⟩⟩
    · rintro t x x' p ⟨g1, y, g2, rfl, g3⟩ g4 _
      obtain ⟨u, v, ⟨e, he, k1, k2, k3⟩, k4, rfl⟩ := mrg_st' ha g4
      obtain ⟨u', v', m1, m2, m3, m4⟩ := ha.tr he
      obtain rfl : u' = u := by omega
      obtain rfl : v' = v := by omega
      have h5 := hR.trans ha m3 g2 g1 (cls_R ha hR m3 g2 k4.symm) g3
      have h6 := hw t
      obtain ⟨n, hn⟩ : ∃ n : Nat, w t = n := ⟨(w t).toNat, by omega⟩
      rw [hn] at k3
      obtain ⟨f, hf, n1, n2, n3⟩ := hR.simu.2 _ p m3 g1 h5 n (by omega) e he k1 k3
      obtain ⟨c, d, o1, o2, o3, o4⟩ := ha.tr hf
      rw [k2, o2, Int.toNat_natCast, Int.toNat_natCast] at n3
      exact ⟨d, ⟨f, hf, n1, o2, by rw [hn]; exact n2⟩, o4, _, m4, rfl, n3⟩
    · rintro x p ⟨g1, y, g2, rfl, g3⟩ g4
      exact hR.simu.1 y p g2 g1 g3 ((mrg_tru ha hR g2).1 g4)
  · rintro ⟨s, hs, h⟩
    refine ⟨_, mrg_ini ha hs, Run.sim (fun p x => p < a.acc.length ∧ x = cls (eqv R) a.acc.length p) ?_ ?_ h ⟨ha.ini hs, rfl⟩⟩
    · rintro t p q x ⟨g1, rfl⟩ g2 _
      exact ⟨_, mrg_st g2, (ha.st g2).2, rfl⟩
    · rintro p x ⟨g1, rfl⟩ g2
      exact (mrg_tru ha hR g1).2 g2
end
/-- there is a greatest simulation -/
theorem Great.ex {a : Aut} (ha : a.Ok) : ∃ R, Great a R := by
  refine ⟨fun i j => @decide (∃ S, Simu a S ∧ S i j = true) (Classical.propDecidable _), ⟨?_, ?_⟩, ?_⟩
  · intro i j hi hj h h1
    simp only [decide_eq_true_eq] at h
    obtain ⟨S, hS, h2⟩ := h
    exact hS.1 i j hi hj h2 h1
  · intro i j hi hj h
    simp only [decide_eq_true_eq] at h
    obtain ⟨S, hS, h2⟩ := h
    refine (hS.2 i j hi hj h2).mono ha fun x y _ _ hxy => ?_
    simp only [decide_eq_true_eq]
    exact ⟨S, hS, hxy⟩
  · intro S hS i j _ _ h
    simp only [decide_eq_true_eq]
    exact ⟨S, hS, h⟩
theorem mrg_lang {a : Aut} (ha : a.Ok) {w : Nat → Int} (hw : Letters w) : a.mrg.Lang w ↔ a.Lang w := by
  obtain ⟨R, hR⟩ := Great.ex ha
  rw [← Aut.mrg_eq hR]
  exact mergeE_lang ha hR hw
theorem rnd_lang {a : Aut} (ha : a.Ok) {w : Nat → Int} (hw : Letters w) : a.rnd.Lang w ↔ a.Lang w := (mrg_lang (Aut.trim_ok ha) hw).trans (trim_lang ha)
theorem SmpR.all {a r : Aut} (h : SmpR a r) : a.Ok → (∀ {w}, Letters w → (r.Lang w ↔ a.Lang w)) ∧ r.acc.length ≤ a.acc.length ∧ r.rnd = r := by
  induction h with
  | stop h => intro ha; exact ⟨fun _ => Iff.rfl, Nat.le_refl _, h⟩
  | more h _ ih =>
    intro ha
    obtain ⟨h1, h2, h3⟩ := ih (Aut.rnd_ok ha)
    have h4 := (Aut.mrg_len (Aut.trim_ok ha)).1
    have h5 := (Aut.trim_len ha).1
    exact ⟨fun hw => (h1 hw).trans (rnd_lang ha hw), Nat.le_trans h2 (Nat.le_trans h4 h5), h3⟩
section
variable {a b : Aut}
/-- inclusion is sound -/
theorem incl_lang {R : Rl} (ha : a.Ok) (hb : b.Ok) (hc : (a.unite b).Ok) (hR : Great (a.unite b) R) (hi : inclR R a b = true) {w : Nat → Int} (hw : Letters w) (h : a.Lang w) : b.Lang w := by
  obtain ⟨s, hs, h1⟩ := h
  have hs' := ha.ini hs
  rw [inclR, List.all_eq_true] at hi
  have h2 := hi _ hs
  rw [List.any_eq_true] at h2
  obtain ⟨j, hj, h3⟩ := h2
  have hj' := incr_mem hb.i j hj
  obtain ⟨q, rfl⟩ : ∃ q : Nat, j = q := ⟨j.toNat, by omega⟩
  have hl : (a.unite b).acc.length = a.acc.length + b.acc.length := by simp [Aut.unite]
  simp only [Int.toNat_natCast] at h3
  have h4 := hR.simu.run hc hw (by omega) (by omega) h3 (unite_left (b := b) ha hs' h1)
  rw [Nat.add_comm] at h4
  exact ⟨q, hj, unite_right ha hb h4⟩
/-- an automaton includes itself -/
theorem incl_self {R : Rl} (ha : a.Ok) (hR : Great (a.unite a) R) : inclR R a a = true := by
  rw [inclR, List.all_eq_true]
  intro i hi
  rw [List.any_eq_true]
  refine ⟨i, hi, ?_⟩
  have hi' := incr_mem ha.i i hi
  obtain ⟨q, rfl⟩ : ∃ q : Nat, i = q := ⟨i.toNat, by omega⟩
  have hl : (a.unite a).acc.length = a.acc.length + a.acc.length := by simp [Aut.unite]
  rw [Int.toNat_natCast]
  refine hR.upper (fun x y => decide (x < a.acc.length ∧ y = x + a.acc.length)) ⟨?_, ?_⟩ q _ (by omega) (by omega) (by simp; omega)
  · intro x y _ _ hxy h1
    simp only [decide_eq_true_eq] at hxy
    obtain ⟨h2, rfl⟩ := hxy
    rw [Nat.add_comm]
    exact tru_right.2 ((tru_left h2).1 h1)
  · intro x y _ _ hxy l _ e he h1 h2
    simp only [decide_eq_true_eq] at hxy
    obtain ⟨h3, rfl⟩ := hxy
    rcases List.mem_append.1 he with he | he
    · obtain ⟨p, q', k1, k2, k3, k4⟩ := ha.tr he
      refine ⟨e.shift a.acc.length, List.mem_append_right _ (List.mem_map_of_mem he), by simp only [Tr.shift]; omega, h2, ?_⟩
      have e1 : (e.shift a.acc.length).to = e.to + a.acc.length := rfl
      rw [e1, k2, decide_eq_true_eq]
      exact ⟨by omega, by omega⟩
    · exfalso
      obtain ⟨f, hf, rfl⟩ := List.mem_map.1 he
      obtain ⟨p, q', k1, k2, k3, k4⟩ := ha.tr hf
      simp only [Tr.shift] at h1
      omega
end
end Go.Proofs.Ytglnelcmcimljaa

/-
  The reference's search for the greatest simulation, and what it makes of it.
-/
namespace Go.Proofs.Ytglnelcmcimljaa
open Go
set_option linter.all false
set_option linter.unusedVariables false
set_option linter.unusedSimpArgs false
set_option linter.defProp false
set_option maxRecDepth 1000000

/-- the edges that leave a state -/
def leav (es : List Tr) (i : Nat) : List Tr := es.filter fun e => e.frm = (i : Int)
theorem leav_take {es : List Tr} {k i : Nat} (hk : k < es.length) : leav (es.take (k + 1)) i = leav (es.take k) i ++ (if es[k].frm = (i : Int) then [es[k]] else []) := by
  rw [leav, leav, List.take_add_one, List.getElem?_eq_getElem hk]
  simp only [Option.toList_some, List.filter_append]
  congr 1
  by_cases h : es[k].frm = (i : Int) <;> simp [h]
theorem leav_len {es : List Tr} {i : Nat} : (leav es i).length ≤ es.length := List.length_filter_le _ _

theorem c_l13Leaving {h : Heap} {v : Value} {a : Aut} (Ra : Rep h v a) (ha : a.Ok) : CallE Try.prog fn_spec_l13Leaving [v] h (fun u h' => ∃ L : List (List Tr), HS h [ow u L] h' ∧ L.length = a.acc.length ∧ ∀ i (hi : i < L.length), L[i] = leav a.edges i) := by
  obtain ⟨v1, v2, v3, rfl, R1, R2, R3⟩ := Rep_Aut.1 Ra
  refine CallE.gen fun k hk => EN_spec_l13Leaving rfl ?_
  have hn := ha.n
  have he := ha.e
  simp -implicitDefEqProofs (disch := first | omega | (simp only [LnZ]; omega)) [wrap64, R2.len]
  refine HS.init.mks (α := List Tr) (z := []) rfl rfl own_nils (Nat.le_refl _) (by omega) (by omega) fun vo h1 H => ?_
  simp -implicitDefEqProofs (disch := first | omega | (simp only [LnZ]; omega)) [wrap64]
  refine wp_count a.edges.length (fun k e h' => e = [none, some (.agg #[v1, v2, v3]), none, some vo, some (.int .i64 k)] ∧
    ∃ L : List (List Tr), HS h [ow vo L] h' ∧ L.length = a.acc.length ∧ ∀ i (hi : i < L.length), L[i] = leav (a.edges.take k) i) ⟨by simp, _, H, by simp, fun i hi => by simp [leav]⟩ ?_
  rintro J k _ h2 hJ hi ⟨rfl, L, H, hL, hE⟩
  simp -implicitDefEqProofs (disch := first | omega | (simp only [LnZ]; omega)) [wrap64, (R3.on H).len]
  refine IteW.mk (fun hlt => ?_) (fun hge => ?_)
  · have hlx : k < a.edges.length := by omega
    have hx := ha.t hlx
    have hv := R3.okTr hlx
    unfold Tr.Ok at hx
    obtain ⟨f, hf⟩ : ∃ f : Nat, a.edges[k].frm = f := ⟨a.edges[k].frm.toNat, by omega⟩
    have hfL : f < L.length := by omega
    obtain ⟨w, hw, HT⟩ := H.take hfL
    change hload _ (some (elp 1 vo f)) none = some w at hw
    have hl := leav_len (es := a.edges.take k) (i := f)
    have hl2 : (a.edges.take k).length ≤ a.edges.length := by simp; omega
    rw [hE f hfL] at HT
    simp -implicitDefEqProofs (disch := first | omega | (simp only [LnZ]; omega)) [wrap64, (R3.on H).fTr, (R3.on H).xTr, hf, H.rep.X (n := 1) rfl, hw, Tr.v, setC]
    refine HT.app1 a.edges[k] rfl rfl ?_ (R3.okF hlx) rfl rfl ?_ (by omega) fun w' h3 HT => ?_
    · rw [← hf]; rfl
    · omega
    simp -implicitDefEqProofs (disch := first | omega | (simp only [LnZ]; omega)) [wrap64, HS.holeia HT.sw1 (n := 1) rfl hfL, (R3.on HT).fTr, hf]
    refine HS.storeH HT rfl rfl rfl fun h4 H => ?_
    simp -implicitDefEqProofs (disch := first | omega | (simp only [LnZ]; omega)) [wrap64]
    refine hJ _ _ hlx ⟨rfl, _, H, by simpa using hL, fun i hi => ?_⟩
    rw [leav_take hlx, hf]
    rw [List.getElem_set]
    by_cases hif : f = i
    · subst hif; simp
    · have h5 : ¬ (f : Int) = (i : Int) := by omega
      rw [if_neg hif, if_neg h5, hE i (by simpa using hi)]; simp
  · simp -implicitDefEqProofs (disch := first | omega | (simp only [LnZ]; omega)) [wrap64]
    rw [List.take_of_length_le (by omega)] at hE
    exact RetK.keep (hk _ _ ⟨L, H, hL, hE⟩)

theorem c_l13Answers {h : Heap} {v w u : Value} {fs gs : List Tr} {M : List (List Bool)} {n : Nat} (hn : n ≤ 64) (Rf : Rep h v fs) (Rg : Rep h w gs) (RM : Rep h u M) (hM : M.length = n) (hr : ∀ r ∈ M, r.length = n) (hf : ∀ e ∈ fs, e.Ok n) (hg : ∀ e ∈ gs, e.Ok n) :
    CallE Try.prog fn_spec_l13Answers [v, w, u] h (fun z h' => h' = h ∧ ∃ r : Bool, z = .bool r ∧ (r = true ↔ ∀ l : Nat, l < 8 → ∀ e ∈ fs, e.on l = true → ∃ f ∈ gs, f.on l = true ∧ matR M e.to.toNat f.to.toNat = true)) := by
  refine CallE.gen fun k hk => EN_spec_l13Answers rfl ?_
  have e1 := Rf.lt
  have e2 := Rg.lt
  simp -implicitDefEqProofs (disch := first | omega | (simp only [LnZ]; omega)) [wrap64]
  refine wp_count 8 (fun l e h' => h' = h ∧ e = [some v, some w, some u, none, some (.int .i64 l), none, none, none] ∧
    ∀ l' < l, ∀ e ∈ fs, e.on (l' : Nat) = true → ∃ f ∈ gs, f.on (l' : Nat) = true ∧ matR M e.to.toNat f.to.toNat = true) ⟨rfl, by simp, fun l' hl' => absurd hl' (Nat.not_lt_zero l')⟩ ?_
  rintro J l _ h hJ hl ⟨rfl, rfl, hA⟩
  simp -implicitDefEqProofs (disch := first | omega | (simp only [LnZ]; omega)) [wrap64]
  refine IteW.mk (fun hlt => ?_) (fun hge => ?_)
  · have hl8 : l < 8 := by omega
    simp -implicitDefEqProofs (disch := first | omega | (simp only [LnZ]; omega)) [wrap64]
    refine wp_count fs.length (fun k e h' => h' = _ ∧ e = [some v, some w, some u, none, some (.int .i64 l), some (.int .i64 k), none, none] ∧
      ∀ k' (hk' : k' < fs.length), k' < k → fs[k'].on (l : Nat) = true → ∃ f ∈ gs, f.on (l : Nat) = true ∧ matR M fs[k'].to.toNat f.to.toNat = true) ⟨rfl, by simp, fun k' _ hk' => absurd hk' (Nat.not_lt_zero k')⟩ ?_
    rintro J2 k _ h hJ2 hk2 ⟨rfl, rfl, hA2⟩
    simp -implicitDefEqProofs (disch := first | omega | (simp only [LnZ]; omega)) [wrap64, Rf.len]
    refine IteW.mk (fun hlt2 => ?_) (fun hge2 => ?_)
    · have hkx : k < fs.length := by omega
      have hnext : (fs[k].on (l : Nat) = true → ∃ f ∈ gs, f.on (l : Nat) = true ∧ matR M fs[k].to.toNat f.to.toNat = true) → ∀ k' (hk' : k' < fs.length), k' < k + 1 → fs[k'].on (l : Nat) = true → ∃ f ∈ gs, f.on (l : Nat) = true ∧ matR M fs[k'].to.toNat f.to.toNat = true := by
        intro h0 k' hk' hkk ho
        by_cases h1 : k' = k
        · subst h1; exact h0 ho
        · exact hA2 k' hk' (by omega) ho
      simp -implicitDefEqProofs (disch := first | omega | (simp only [LnZ]; omega)) [wrap64, Rf.xTr]
      refine (c_l7On (Rep_Tr.2 ⟨rfl, Rf.okTr hkx⟩)).go ?_
      rintro _ _ ⟨rfl, rfl⟩
      by_cases ho : fs[k].on l = true
      case neg =>
        simp -implicitDefEqProofs (disch := first | omega | (simp only [LnZ]; omega)) [wrap64, ho]
        exact hJ2 _ _ hkx ⟨rfl, rfl, hnext fun h => absurd h ho⟩
      have hok := hf _ (List.getElem_mem hkx)
      unfold Tr.Ok at hok
      obtain ⟨t, ht⟩ : ∃ t : Nat, fs[k].to = t := ⟨fs[k].to.toNat, by omega⟩
      rw [ht, Int.toNat_natCast] at hnext
      obtain ⟨z, hz, Rz⟩ := RM.ldL (i := t) (by omega)
      have hzl := hr _ (List.getElem_mem (show t < M.length by omega))
      simp -implicitDefEqProofs (disch := first | omega | (simp only [LnZ]; omega)) [wrap64, ho]
      refine wp_while (σ := Nat × Bool) (fun s e h' => h' = _ ∧ e = [some v, some w, some u, none, some (.int .i64 l), some (.int .i64 k), some (.bool s.2), some (.int .i64 s.1)] ∧ s.1 ≤ gs.length ∧
        (if s.2 = true then ∃ f ∈ gs, f.on (l : Nat) = true ∧ matR M t f.to.toNat = true else ∀ m' (hm' : m' < gs.length), m' < s.1 → ¬ (gs[m'].on (l : Nat) = true ∧ matR M t gs[m'].to.toNat = true)))
        (fun s => gs.length - s.1) (0, false) ⟨rfl, by simp, by simp, by simp⟩ ?_
      rintro J3 ⟨m, some'⟩ _ h hJ3 ⟨rfl, rfl, hm, hS⟩
      dsimp only at hm hS
      by_cases hmx : m < gs.length
      case neg =>
        simp -implicitDefEqProofs (disch := first | omega | (simp only [LnZ]; omega)) [wrap64, Rg.len, hmx]
        cases some' with
        | true =>
          simp -implicitDefEqProofs (disch := first | omega | (simp only [LnZ]; omega)) [wrap64]
          exact hJ2 _ _ hkx ⟨rfl, rfl, hnext fun _ => by simpa using hS⟩
        | false =>
          simp -implicitDefEqProofs (disch := first | omega | (simp only [LnZ]; omega)) [wrap64]
          refine RetK.keep (hk _ _ ⟨rfl, false, rfl, ?_⟩)
          simp only [Bool.false_eq_true, false_iff]
          intro h
          obtain ⟨f, hf, h1, h2⟩ := h l hl8 _ (List.getElem_mem hkx) ho
          obtain ⟨m', hm', rfl⟩ := List.mem_iff_getElem.1 hf
          rw [ht, Int.toNat_natCast] at h2
          exact (by simpa using hS : ∀ m' (hm' : m' < gs.length), m' < m → ¬ (gs[m'].on (l : Nat) = true ∧ matR M t gs[m'].to.toNat = true)) m' hm' (by omega) ⟨h1, h2⟩
      cases some' with
      | true =>
        simp -implicitDefEqProofs (disch := first | omega | (simp only [LnZ]; omega)) [wrap64, Rg.len, hmx]
        exact hJ2 _ _ hkx ⟨rfl, rfl, hnext fun _ => by simpa using hS⟩
      | false =>
        have hS' : ∀ m' (hm' : m' < gs.length), m' < m → ¬ (gs[m'].on (l : Nat) = true ∧ matR M t gs[m'].to.toNat = true) := by simpa using hS
        simp -implicitDefEqProofs (disch := first | omega | (simp only [LnZ]; omega)) [wrap64, Rg.len, hmx, Rg.xTr]
        refine (c_l7On (Rep_Tr.2 ⟨rfl, Rg.okTr hmx⟩)).go ?_
        rintro _ _ ⟨rfl, rfl⟩
        by_cases ho2 : gs[m].on l = true
        · have hok2 := hg _ (List.getElem_mem hmx)
          unfold Tr.Ok at hok2
          obtain ⟨t2, ht2⟩ : ∃ t2 : Nat, gs[m].to = t2 := ⟨gs[m].to.toNat, by omega⟩
          simp -implicitDefEqProofs (disch := first | omega | (simp only [LnZ]; omega)) [wrap64, ho2, Rf.X (n := 4) rfl, Rf.fTr, ht, RM.X (n := 1) rfl, hz, Rg.X (n := 4) rfl, Rg.fTr, ht2, Rz.B]
          refine hJ3 (m + 1, M[t][t2]'(by omega)) _ _ (by simp; omega) ⟨rfl, rfl, hmx, ?_⟩
          have hmat : matR M t t2 = M[t][t2]'(by omega) := matR_get (by omega) (by omega)
          cases hb : M[t][t2]'(by omega) with
          | true => exact ⟨_, List.getElem_mem hmx, ho2, by rw [ht2]; simp [hmat, hb]⟩
          | false =>
            simp only [Bool.false_eq_true, if_false]
            intro m' hm' hmm
            by_cases h1 : m' = m
            · subst h1; rintro ⟨_, h2⟩; rw [ht2, Int.toNat_natCast, hmat, hb] at h2; simp at h2
            · exact hS' m' hm' (by omega)
        · simp -implicitDefEqProofs (disch := first | omega | (simp only [LnZ]; omega)) [wrap64, ho2]
          refine hJ3 (m + 1, false) _ _ (by simp; omega) ⟨rfl, rfl, hmx, ?_⟩
          simp only [Bool.false_eq_true, if_false]
          intro m' hm' hmm
          by_cases h1 : m' = m
          · subst h1; exact fun h => ho2 h.1
          · exact hS' m' hm' (by omega)
    · simp -implicitDefEqProofs (disch := first | omega | (simp only [LnZ]; omega)) [wrap64]
      refine hJ _ _ hl8 ⟨rfl, rfl, fun l' hl' e he ho => ?_⟩
      by_cases h1 : l' = l
      · subst h1
        obtain ⟨k', hk', rfl⟩ := List.mem_iff_getElem.1 he
        exact hA2 k' hk' (by omega) ho
      · exact hA l' (by omega) e he ho
  · simp -implicitDefEqProofs (disch := first | omega | (simp only [LnZ]; omega)) [wrap64]
    refine RetK.keep (hk _ _ ⟨rfl, true, rfl, ?_⟩)
    simp only [true_iff]
    intro l' hl' e he ho
    exact hA l' (by omega) e he ho

theorem c_l13Relation {h : Heap} {v : Value} {a : Aut} (Ra : Rep h v a) (ha : a.Ok) : CallE Try.prog fn_spec_l13Relation [v] h (fun u h' => ∃ M : List (List Bool), HS h [ow u M] h' ∧ M.length = a.acc.length ∧ (∀ r ∈ M, r.length = a.acc.length) ∧ Great a (matR M)) := by
  obtain ⟨v1, v2, v3, rfl, R1, R2, R3⟩ := Rep_Aut.1 Ra
  refine CallE.gen fun k hk => EN_spec_l13Relation rfl ?_
  have hn := ha.n
  have he := ha.e
  simp -implicitDefEqProofs (disch := first | omega | (simp only [LnZ]; omega)) [wrap64, R2.len]
  refine HS.init.bls0 (List Bool) fun vm h1 H => ?_
  simp -implicitDefEqProofs (disch := first | omega | (simp only [LnZ]; omega)) [wrap64]
  refine wp_count a.acc.length (fun i e h' => ∃ vm, e = [none, some (.agg #[v1, v2, v3]), none, some (.int .i64 a.acc.length), some vm, some (.int .i64 i), none, none, none, none, none, none] ∧
    ∃ M : List (List Bool), HS h [ow vm M] h' ∧ M.length = i ∧ ∀ x (hx : x < M.length), M[x] = (List.range a.acc.length).map (acc0 a x)) ⟨vm, by simp, [], H, rfl, fun x hx => by simp at hx⟩ ?_
  rintro J i _ h2 hJ hi ⟨vm, rfl, M, H, hM, hE⟩
  simp -implicitDefEqProofs (disch := first | omega | (simp only [LnZ]; omega)) [wrap64]
  refine IteW.mk (fun hlt => ?_) (fun hge => ?_)
  · have hin : i < a.acc.length := by omega
    simp -implicitDefEqProofs (disch := first | omega | (simp only [LnZ]; omega)) [wrap64]
    refine H.bls0 Bool fun vr h3 H => ?_
    simp -implicitDefEqProofs (disch := first | omega | (simp only [LnZ]; omega)) [wrap64]
    refine wp_count a.acc.length (fun j e h' => ∃ vr, e = [none, some (.agg #[v1, v2, v3]), none, some (.int .i64 a.acc.length), some vm, some (.int .i64 i), some vr, some (.int .i64 j), none, none, none, none] ∧
      HS h [ow vr ((List.range j).map (acc0 a i)), ow vm M] h') ⟨vr, by simp, H⟩ ?_
    rintro J2 j _ h4 hJ2 hj ⟨vr, rfl, H⟩
    simp -implicitDefEqProofs (disch := first | omega | (simp only [LnZ]; omega)) [wrap64]
    refine IteW.mk (fun hlt2 => ?_) (fun hge2 => ?_)
    · have hjn : j < a.acc.length := by omega
      have hc := cond_acc0 hin hjn
      have hnext : ∀ b : Bool, b = acc0 a i j → (List.range j).map (acc0 a i) ++ [b] = (List.range (j + 1)).map (acc0 a i) := by
        rintro b rfl; rw [List.range_succ, List.map_append]; rfl
      by_cases h1 : a.acc[i] = true
      · simp -implicitDefEqProofs (disch := first | omega | (simp only [LnZ]; omega)) [wrap64, (R2.on H).B, h1]
        refine H.app1 a.acc[j] rfl rfl rfl trivial rfl rfl ?_ ?_ fun vr' h5 H => ?_
        · simp; omega
        · simp; omega
        simp -implicitDefEqProofs (disch := first | omega | (simp only [LnZ]; omega)) [wrap64]
        rw [hnext _ (by rw [hc, h1]; simp)] at H
        exact hJ2 _ _ hjn ⟨vr', rfl, H⟩
      · simp -implicitDefEqProofs (disch := first | omega | (simp only [LnZ]; omega)) [wrap64, (R2.on H).B, h1]
        refine H.app1 true rfl rfl rfl trivial rfl rfl ?_ ?_ fun vr' h5 H => ?_
        · simp; omega
        · simp; omega
        simp -implicitDefEqProofs (disch := first | omega | (simp only [LnZ]; omega)) [wrap64]
        rw [hnext _ (by rw [hc]; simp [h1])] at H
        exact hJ2 _ _ hjn ⟨vr', rfl, H⟩
    · simp -implicitDefEqProofs (disch := first | omega | (simp only [LnZ]; omega)) [wrap64, H.rep.cells]
      have hjn : j = a.acc.length := by omega
      subst hjn
      refine H.appO rfl rfl (by rw [H.rep.cells]; rfl) rfl rfl ?_ ?_ fun vm' h5 H => ?_
      · omega
      · omega
      simp -implicitDefEqProofs (disch := first | omega | (simp only [LnZ]; omega)) [wrap64]
      refine hJ _ _ hin ⟨vm', rfl, _, H, by simp [hM], fun x hx => ?_⟩
      by_cases hxi : x < M.length
      · rw [List.getElem_append_left hxi]; exact hE x hxi
      · have : x = i := by simp at hx; omega
        subst this
        rw [List.getElem_append_right (by omega)]; simp
  simp -implicitDefEqProofs (disch := first | omega | (simp only [LnZ]; omega)) [wrap64]
  have hMn : M.length = a.acc.length := by omega
  have hr : ∀ r ∈ M, r.length = a.acc.length := by
    intro r hr
    obtain ⟨x, hx, rfl⟩ := List.mem_iff_getElem.1 hr
    rw [hE x hx]; simp
  have hB2 : ∀ x y, x < a.acc.length → y < a.acc.length → matR M x y = acc0 a x y := by
    intro x y hx hy
    have h1 := hE x (by omega)
    rw [matR_get (by omega) (by rw [h1]; simpa using hy)]
    simp [h1]
  have hA : AccR a (matR M) := fun x y hx hy hr => acc0_acc a x y hx hy (by rw [← hB2 x y hx hy]; exact hr)
  have hU : Upper a (matR M) := fun S hS x y hx hy hr => by rw [hB2 x y hx hy]; exact acc0_upper a S hS x y hx hy hr
  refine (c_l13Leaving (Ra.on H) ha).go ?_
  rintro vl h3 ⟨L, HL, hL, hLE⟩
  have H := (HL.app H).sw1
  simp -implicitDefEqProofs (disch := first | omega | (simp only [LnZ]; omega)) [wrap64]
  have hok : ∀ i (hi : i < L.length), ∀ e ∈ L[i], e.Ok a.acc.length := by
    intro i hi e he
    rw [hLE i hi] at he
    exact ha.2.2.2 e (List.mem_filter.1 he).1
  have hans : ∀ M : List (List Bool), ∀ i j (hi : i < L.length) (hj : j < L.length), ((∀ l : Nat, l < 8 → ∀ e ∈ L[i], e.on l = true → ∃ f ∈ L[j], f.on l = true ∧ matR M e.to.toNat f.to.toNat = true) ↔ Ans a (matR M) i j) := by
    intro M i j hi hj
    rw [hLE i hi, hLE j hj]
    simp only [leav, List.mem_filter, decide_eq_true_eq]
    constructor
    · intro h l hl e he h1 h2
      obtain ⟨f, ⟨hf, h3⟩, h4⟩ := h l hl e ⟨he, h1⟩ h2
      exact ⟨f, hf, h3, h4⟩
    · rintro h l hl e ⟨he, h1⟩ h2
      obtain ⟨f, hf, h3, h4⟩ := h l hl e he h1 h2
      exact ⟨f, ⟨hf, h3⟩, h4⟩
  refine wp_while (σ := List (List Bool) × Bool) (fun s e h' => e = [none, none, none, some (.int .i64 a.acc.length), some vm, none, none, none, some vl, some (.bool s.2), none, none] ∧
    HS h [ow vm s.1, ow vl L] h' ∧ s.1.length = a.acc.length ∧ (∀ r ∈ s.1, r.length = a.acc.length) ∧ AccR a (matR s.1) ∧ Upper a (matR s.1) ∧ (s.2 = false → Great a (matR s.1)))
    (fun s => 2 * cnt2 a.acc.length (matR s.1) + (if s.2 then 1 else 0)) (M, true) ⟨by simp, H, hMn, hr, hA, hU, by simp⟩ ?_
  rintro J ⟨B, c⟩ _ h11 hJ ⟨rfl, H, hBl, hBr, hA, hU, hG⟩
  dsimp only at H hBl hBr hA hU hG
  simp -implicitDefEqProofs (disch := first | omega | (simp only [LnZ]; omega)) [wrap64]
  cases c with
  | false =>
    simp -implicitDefEqProofs (disch := first | omega | (simp only [LnZ]; omega)) [wrap64]
    exact RetK.keep (hk _ _ ⟨B, H.sw1.drop, hBl, hBr, hG rfl⟩)
  | true =>
  simp -implicitDefEqProofs (disch := first | omega | (simp only [LnZ]; omega)) [wrap64]
  refine wp_count a.acc.length (fun i e h' => ∃ c', e = [none, none, none, some (.int .i64 a.acc.length), some vm, none, none, none, some vl, some (.bool c'), some (.int .i64 i), none] ∧
    ∃ B', HS h [ow vm B', ow vl L] h' ∧ B'.length = a.acc.length ∧ (∀ r ∈ B', r.length = a.acc.length) ∧ Pass a (matR B) (matR B') c' i 0) ⟨false, by simp, B, H, hBl, hBr, Pass.start hA hU⟩ ?_
  rintro J1 i _ h12 hJ1 hi ⟨c', rfl, B', H, hBl', hBr', hP⟩
  simp -implicitDefEqProofs (disch := first | omega | (simp only [LnZ]; omega)) [wrap64]
  refine IteW.mk (fun hlt4 => ?_) (fun hge4 => ?_)
  · have hin : i < a.acc.length := by omega
    simp -implicitDefEqProofs (disch := first | omega | (simp only [LnZ]; omega)) [wrap64]
    refine wp_count a.acc.length (fun j e h' => ∃ c', e = [none, none, none, some (.int .i64 a.acc.length), some vm, none, none, none, some vl, some (.bool c'), some (.int .i64 i), some (.int .i64 j)] ∧
      ∃ B', HS h [ow vm B', ow vl L] h' ∧ B'.length = a.acc.length ∧ (∀ r ∈ B', r.length = a.acc.length) ∧ Pass a (matR B) (matR B') c' i j) ⟨c', by simp, B', H, hBl', hBr', hP⟩ ?_
    rintro J2 j _ h13 hJ2 hj ⟨c', rfl, B', H, hBl', hBr', hP⟩
    simp -implicitDefEqProofs (disch := first | omega | (simp only [LnZ]; omega)) [wrap64]
    refine IteW.mk (fun hlt5 => ?_) (fun hge5 => ?_)
    · have hjn : j < a.acc.length := by omega
      have hiB : i < B'.length := by omega
      have hil := hBr' _ (List.getElem_mem hiB)
      have hbg := matR_get (M := B') hiB (show j < B'[i].length by omega)
      obtain ⟨w, hw, Rw⟩ := H.rep.ldL hiB
      cases hb : B'[i]'hiB |>.get ⟨j, by omega⟩ with
      | false =>
        have hb : (B'[i]'hiB)[j]'(by omega) = false := hb
        simp -implicitDefEqProofs (disch := first | omega | (simp only [LnZ]; omega)) [wrap64, H.rep.X (n := 1) rfl, hw, Rw.B, hb]
        exact hJ2 _ _ hjn ⟨c', rfl, B', H, hBl', hBr', hP.keep fun hr => by rw [hbg, hb] at hr; simp at hr⟩
      | true =>
        have hb : (B'[i]'hiB)[j]'(by omega) = true := hb
        obtain ⟨x, hx, Rx⟩ := H.sw1.rep.ldL (i := i) (by omega)
        obtain ⟨y, hy, Ry⟩ := H.sw1.rep.ldL (i := j) (by omega)
        simp -implicitDefEqProofs (disch := first | omega | (simp only [LnZ]; omega)) [wrap64, H.rep.X (n := 1) rfl, hw, Rw.B, hb, H.sw1.rep.X (n := 1) rfl, hx, hy]
        refine (c_l13Answers (n := a.acc.length) (by omega) Rx Ry H.rep hBl' hBr' (hok i (by omega)) (hok j (by omega))).go ?_
        rintro _ _ ⟨rfl, r, rfl, hr⟩
        rw [hans] at hr
        cases r with
        | true =>
          simp -implicitDefEqProofs (disch := first | omega | (simp only [LnZ]; omega)) [wrap64]
          exact hJ2 _ _ hjn ⟨c', rfl, B', H, hBl', hBr', hP.keep fun _ => hr.1 rfl⟩
        | false =>
          obtain ⟨z, hz, HT⟩ := H.take hiB
          change hload _ (some (elp 1 vm i)) none = some z at hz
          simp -implicitDefEqProofs (disch := first | omega | (simp only [LnZ]; omega)) [wrap64, H.rep.X (n := 1) rfl, hz, HT.rep.B]
          refine HT.storeF false (i := j) (by omega) rfl rfl trivial rfl fun h14 HT => ?_
          have H := HT.put
          simp -implicitDefEqProofs (disch := first | omega | (simp only [LnZ]; omega)) [wrap64]
          refine hJ2 _ _ hjn ⟨true, rfl, _, H, by simpa using hBl', ?_, ?_⟩
          · intro r hr2
            rcases List.mem_or_eq_of_mem_set hr2 with h1 | rfl
            · exact hBr' r h1
            · simpa using hil
          · rw [matR_clr hiB (by omega)]
            exact hP.rem ha hin hjn (by rw [hbg, hb]) (fun hA => by have := hr.2 hA; simp at this)
    · simp -implicitDefEqProofs (disch := first | omega | (simp only [LnZ]; omega)) [wrap64]
      exact hJ1 _ _ hin ⟨c', rfl, B', H, hBl', hBr', hP.next (by omega)⟩
  · simp -implicitDefEqProofs (disch := first | omega | (simp only [LnZ]; omega)) [wrap64]
    refine hJ (B', c') _ _ ?_ ⟨rfl, H, hBl', hBr', hP.acc, hP.upper, fun hc => by dsimp only at hc; subst hc; exact hP.done (by omega)⟩
    cases c' with
    | true => have := hP.less rfl; simp; omega
    | false => simp [(hP.same rfl).1]

end Go.Proofs.Ytglnelcmcimljaa

/-
  The greatest simulation and inclusion, as functions of the package, by the reference.
-/
namespace Go.Proofs.Ytglnelcmcimljaa
open Go
set_option linter.all false
set_option linter.unusedVariables false
set_option linter.unusedSimpArgs false
set_option linter.defProp false
set_option maxRecDepth 1000000

theorem c_spec_IncludesAutomaton {h : Heap} {v w : Value} {a b : Aut} (Ra : Rep h v a) (Rb : Rep h w b) : CallE Try.prog fn_spec_IncludesAutomaton [v, w] h (fun u h' => h.le h' ∧ ∃ r, u = .bool r ∧ InclA a b r) := by
  obtain ⟨v1, v2, v3, rfl, R1, R2, R3⟩ := Rep_Aut.1 Ra
  obtain ⟨w1, w2, w3, rfl, S1, S2, S3⟩ := Rep_Aut.1 Rb
  refine CallE.gen fun k hk => EN_spec_IncludesAutomaton rfl ?_
  simp -implicitDefEqProofs (disch := first | omega | (simp only [LnZ]; omega)) [wrap64]
  refine (c_spec_UniteAutomata Ra Rb).go ?_
  rintro _ h2 ⟨vc, rfl, H⟩
  by_cases hP : a.Ok ∧ b.Ok ∧ (a.unite b).Ok
  case neg =>
    rw [if_neg hP] at H
    obtain ⟨z1, z2, z3, hz, q1, q2, q3⟩ := Rep_Aut.1 H.rep
    subst hz
    simp -implicitDefEqProofs (disch := first | omega | (simp only [LnZ]; omega)) [wrap64, hP, q1.one, q2.one, q3.one]
    exact RetK.keep (hk _ _ ⟨H.base, false, rfl, .inl ⟨hP, rfl⟩⟩)
  rw [if_pos hP] at H
  obtain ⟨ha, hb, hc⟩ := hP
  obtain ⟨z1, z2, z3, hz, q1, q2, q3⟩ := Rep_Aut.1 H.rep
  subst hz
  simp -implicitDefEqProofs (disch := first | omega | (simp only [LnZ]; omega)) [wrap64, ha, hb, hc, q1.one, q2.one, q3.one]
  refine (c_l13Relation H.rep hc).go ?_
  rintro vb h3 ⟨M, HB, hM, hr, hG⟩
  have H := HB.app H
  simp -implicitDefEqProofs (disch := first | omega | (simp only [LnZ]; omega)) [wrap64, (R2.on H).len]
  have hl : (a.unite b).acc.length = a.acc.length + b.acc.length := by simp [Aut.unite]
  have hcn := hc.n
  have e1 := ha.il
  have e2 := hb.il
  refine wp_count a.init.length (fun i e h' => h' = h3 ∧ e = [none, none, some (.agg #[v1, v2, v3]), some (.agg #[w1, w2, w3]), none, none, none, some vb, some (.int .i64 a.acc.length), some (.int .i64 i), none, none] ∧
    ∀ x (hx : x < a.init.length), x < i → (b.init.any fun j => matR M a.init[x].toNat (j.toNat + a.acc.length)) = true) ⟨rfl, by simp, fun x _ hx => absurd hx (Nat.not_lt_zero x)⟩ ?_
  rintro J i _ _ hJ hi ⟨rfl, rfl, hA⟩
  simp -implicitDefEqProofs (disch := first | omega | (simp only [LnZ]; omega)) [wrap64, (R1.on H).len]
  refine IteW.mk (fun hlt => ?_) (fun hge => ?_)
  · have hin : i < a.init.length := by omega
    have hx := ha.im hin
    obtain ⟨p, hp⟩ : ∃ p : Nat, a.init[i] = p := ⟨a.init[i].toNat, by omega⟩
    obtain ⟨z, hz, Rz⟩ := H.rep.ldL (i := p) (by omega)
    have hzl := hr _ (List.getElem_mem (show p < M.length by omega))
    simp -implicitDefEqProofs (disch := first | omega | (simp only [LnZ]; omega)) [wrap64]
    refine wp_count b.init.length (fun j e h' => h' = _ ∧ e = [none, none, some (.agg #[v1, v2, v3]), some (.agg #[w1, w2, w3]), none, none, none, some vb, some (.int .i64 a.acc.length), some (.int .i64 i), some (.bool ((b.init.take j).any fun j => matR M p (j.toNat + a.acc.length))), some (.int .i64 j)]) ⟨rfl, by simp⟩ ?_
    rintro J2 j _ _ hJ2 hj ⟨rfl, rfl⟩
    simp -implicitDefEqProofs (disch := first | omega | (simp only [LnZ]; omega)) [wrap64, (S1.on H).len]
    refine IteW.mk (fun hlt2 => ?_) (fun hge2 => ?_)
    · have hjn : j < b.init.length := by omega
      have hy := hb.im hjn
      obtain ⟨q, hq⟩ : ∃ q : Nat, b.init[j] = q := ⟨b.init[j].toNat, by omega⟩
      have hmat : matR M p (q + a.acc.length) = (M[p]'(by omega))[q + a.acc.length]'(by omega) := matR_get (by omega) (by omega)
      have hw : IntKind.i64.wrap ((a.acc.length : Int) + q) = ((q + a.acc.length : Nat) : Int) := by rw [wrap64 (by omega) (by omega)]; omega
      have hnext : ((b.init.take (j + 1)).any fun j => matR M p (j.toNat + a.acc.length)) = (((b.init.take j).any fun j => matR M p (j.toNat + a.acc.length)) || matR M p (q + a.acc.length)) := by
        rw [List.take_add_one, List.getElem?_eq_getElem hjn]
        simp [hq]
      cases hs : (b.init.take j).any fun j => matR M p (j.toNat + a.acc.length) with
      | true =>
        simp -implicitDefEqProofs (disch := first | omega | (simp only [LnZ]; omega)) [wrap64, hs]
        exact hJ2 _ _ hjn ⟨rfl, by rw [hnext, hs]; simp⟩
      | false =>
        simp -implicitDefEqProofs (disch := omega) [-Int.natCast_add, hs, (R1.on H).I, hp, H.rep.X (n := 1) rfl, hz, (S1.on H).I, hq, hw, Rz.B, wrap64]
        exact hJ2 _ _ hjn ⟨rfl, by rw [hnext, hs, hmat]; simp⟩
    · have hall : b.init.take j = b.init := List.take_of_length_le (by omega)
      rw [hall]
      obtain ⟨s, hs⟩ : ∃ s, s = b.init.any fun j => matR M p (j.toNat + a.acc.length) := ⟨_, rfl⟩
      rw [← hs]
      cases s with
      | true =>
        simp -implicitDefEqProofs (disch := first | omega | (simp only [LnZ]; omega)) [wrap64]
        refine hJ _ _ hin ⟨rfl, rfl, fun x hx hxi => ?_⟩
        by_cases h1 : x = i
        · subst h1; rw [hp]; exact hs.symm
        · exact hA x hx (by omega)
      | false =>
        simp -implicitDefEqProofs (disch := first | omega | (simp only [LnZ]; omega)) [wrap64]
        refine RetK.keep (hk _ _ ⟨H.base, false, rfl, .inr ⟨⟨ha, hb, hc⟩, matR M, hG, ?_⟩⟩)
        symm
        rw [inclR, List.all_eq_false]
        exact ⟨_, List.getElem_mem hin, by rw [hp]; simpa using hs.symm⟩
  · simp -implicitDefEqProofs (disch := first | omega | (simp only [LnZ]; omega)) [wrap64]
    refine RetK.keep (hk _ _ ⟨H.base, true, rfl, .inr ⟨⟨ha, hb, hc⟩, matR M, hG, ?_⟩⟩)
    symm
    rw [inclR, List.all_eq_true]
    intro x hx
    obtain ⟨m, hm, rfl⟩ := List.mem_iff_getElem.1 hx
    exact hA m hm (by omega)
end Go.Proofs.Ytglnelcmcimljaa

/-
  Bodies of functions in the small language, as a program printed them, and that each is what the translation gives.
-/
namespace Go.Proofs.Ytglnelcmcimljaa
open Go
set_option linter.all false
set_option linter.defProp false
set_option maxRecDepth 1000000

end Go.Proofs.Ytglnelcmcimljaa

/-
  Contracts of the library's own functions, laid at this program in plain words (printed by the shelf's tools).
-/
namespace Go.Proofs.Ytglnelcmcimljaa
open Go Go.Shelf
set_option linter.all false
set_option maxRecDepth 1000000
def sh_lays189_ren : Ren := ⟨fun | 189 => 118 | 125 => 156 | 257 => 155 | 128 => 187 | 129 => 188 | 294 => 178 | 295 => 179 | 296 => 180 | 297 => 181 | 298 => 182 | 299 => 183 | 216 => 184 | 300 => 185 | 301 => 186 | 328 => 200 | 329 => 201 | 330 => 202 | 331 => 203 | 332 => 204 | 215 => 205 | 343 => 206 | n => n, fun | 28 => 23 | 3 => 3 | 46 => 149 | 0 => 0 | 51 => 184 | 53 => 72 | 4 => 4 | 183 => 178 | 182 => 177 | 131 => 152 | 5 => 5 | 9 => 9 | 218 => 188 | 222 => 192 | 228 => 194 | 229 => 154 | n => n, fun | n => n⟩
def sh_laysNm220_ren : Ren := ⟨fun | 20 => 119 | n => n, fun | 22 => 23 | 3 => 3 | 4 => 4 | 0 => 0 | n => n, fun | n => n⟩
end Go.Proofs.Ytglnelcmcimljaa

/-
  The library's sort of numbers, and the fall of equal neighbours, as contracts over a partial memory.
-/
namespace Go.Proofs.Ytglnelcmcimljaa
open Go
set_option linter.all false
set_option linter.unusedVariables false
set_option linter.unusedSimpArgs false
set_option linter.defProp false
set_option maxRecDepth 1000000

theorem encI (l : List Int) : encL l = l.map (Value.int .i64) := by
  induction l with
  | nil => rfl
  | cons x l ih => rw [encL_cons, ih]; rfl

open Go.Sort in
/-- where a row of a slice's own is written over -/
theorem row_put {g g' : Heap} {Γ : List HP} {b off cap : Nat} {cells : List Value} {el : TypeId} {l d : List Int} {m n : Nat} {os : Array Obj} {w : World} (d1 : g' b = none) (H : HS g Γ g') (h1 : l.length ≤ cap ∧ l.length < 4611686018427387904) (h2 : off + cap ≤ cells.length)
    (hw : (g'.add (Heap.one b (.cells cells.toArray el (0, 0)))).sub w) (hd : d.length = l.length) (hm : m ≤ d.length) (hok : ∀ x ∈ d.take m, Flat.ok x) :
    ∃ h', HS g (ow (.slice (some ⟨b, off, none⟩) m cap) (d.take m) :: Γ) h' ∧ h'.sub (grow (putRow (Value.int .i64) (Sort.ahead w n) b off d.toArray) os) ∧ Frm (g'.add (Heap.one b (.cells cells.toArray el (0, 0)))) w h' (grow (putRow (Value.int .i64) (Sort.ahead w n) b off d.toArray) os) := by
  have hb : w.heap[b]? = some (.cells cells.toArray el (0, 0)) := hw b _ (by simp [Heap.add, Heap.one, d1])
  have hbs : b < w.heap.size := (Array.getElem?_eq_some_iff.1 hb).1
  have hold : ∀ x, x < w.heap.size → (grow (putRow (Value.int .i64) (Sort.ahead w n) b off d.toArray) os).heap[x]? = if x = b then some (.cells (putCells (Value.int .i64) off d.toArray cells.toArray) el (0, 0)) else w.heap[x]? := by
    intro x hx
    rw [heap_grow_old _ _ (by simpa [putRow, mapBlock, Sort.ahead] using hx)]
    simp only [putRow, mapBlock, Sort.ahead, Array.getElem?_modify]
    by_cases e : b = x
    · subst e; simp [hb, onCells]
    · simp [e, Ne.symm e]
  have hpt : (putCells (Value.int .i64) off d.toArray cells.toArray).toList.length = cells.length := by simp [putCells]
  refine ⟨g'.add (Heap.one b (.cells (putCells (Value.int .i64) off d.toArray cells.toArray).toList.toArray el (0, 0))), ⟨g', _, rfl, Dj_one.2 d1, ?_, H⟩, ?_, ?_⟩
  · have hlm : (d.take m).length = m := by simp; omega
    refine Own_list.2 (.inr ⟨b, off, cap, _, el, Heap.nil, by rw [hlm], ⟨by omega, by omega⟩, by rw [hpt]; show off + cap * 1 ≤ _; omega, by simp, rfl, ?_⟩)
    refine ownL_congr (ownL_enc hok) ?_
    rw [encI, hlm]
    show List.take (m * 1) _ = List.take (m * 1) _
    rw [List.take_of_length_le (l := List.map (Value.int .i64) (d.take m)) (by simp; omega)]
    apply List.ext_getElem?
    intro j
    by_cases hj : j < m
    · have hjd : j < d.length := by omega
      have hjc : off + j < cells.length := by omega
      have key : (putCells (Value.int .i64) off d.toArray cells.toArray).toList[off + j]? = some (.int .i64 d[j]) := by
        rw [Array.getElem?_toList, putCells, Array.getElem?_mapIdx]
        simp [hjc, hjd]
      rw [Nat.mul_one, List.getElem?_take_of_lt hj, List.getElem?_drop, key, List.getElem?_map, List.getElem?_take_of_lt hj, List.getElem?_eq_getElem hjd]
      rfl
    · have e1 : (List.map (Value.int .i64) (List.take m d))[j]? = none := List.getElem?_eq_none (by simp; omega)
      have e2 : (List.take (m * 1) (List.drop off (putCells (Value.int .i64) off d.toArray cells.toArray).toList))[j]? = none := List.getElem?_eq_none (by simp; omega)
      rw [e1, e2]
  · intro x o hx
    by_cases e : x = b
    · subst e
      rw [hold x hbs, if_pos rfl]
      simp only [Heap.add, Heap.one, d1, if_true] at hx
      simpa using hx
    · have hx2 : g' x = some o := by
        simp only [Heap.add, Heap.one, if_neg e] at hx
        cases hg : g' x with
        | none => rw [hg] at hx; simp at hx
        | some o' => rw [hg] at hx; simpa using hx
      have hwx : w.heap[x]? = some o := hw x o (by simp [Heap.add, Heap.one, e, hx2])
      have hxs : x < w.heap.size := (Array.getElem?_eq_some_iff.1 hwx).1
      rw [hold x hxs, if_neg e]; exact hwx
  · refine ⟨rfl, rfl, rfl, by simp [grow, putRow, mapBlock, Sort.ahead], fun x hx hn => ?_, fun x hx hn => ?_⟩
    · have e : x ≠ b := by
        intro e
        subst e
        simp [Heap.add, Heap.one, d1] at hn
      rw [hold x hx, if_neg e]
    · have e : x ≠ b := by
        intro e
        subst e
        simp [Heap.add, Heap.one, d1] at hn
      simp only [Heap.add, Heap.one, if_neg e] at hn ⊢
      exact hn

end Go.Proofs.Ytglnelcmcimljaa

/-
  Merging of states that simulate each other, by the program.
-/
namespace Go.Proofs.Ytglnelcmcimljaa
open Go
set_option linter.all false
set_option linter.unusedVariables false
set_option linter.unusedSimpArgs false
set_option linter.defProp false
set_option maxRecDepth 1000000

def zl (l : List Nat) : List Int := l.map fun (x : Nat) => (x : Int)
@[simp] theorem zl_len {l : List Nat} : (zl l).length = l.length := by simp [zl]
end Go.Proofs.Ytglnelcmcimljaa

/-
  Bodies of functions in the small language, as a program printed them, and that each is what the translation gives.
-/
namespace Go.Proofs.Ytglnelcmcimljaa
open Go
set_option linter.all false
set_option linter.defProp false
set_option maxRecDepth 1000000

end Go.Proofs.Ytglnelcmcimljaa

/-
  A number is put into an ascending list; what is given back as a pair.
-/
namespace Go.Proofs.Ytglnelcmcimljaa
open Go
set_option linter.all false
set_option linter.unusedVariables false
set_option linter.unusedSimpArgs false
set_option linter.defProp false
set_option maxRecDepth 1000000

/-- what is given back: a pair of a piece of data and a truth value -/
def R2 {α : Type} [Ty α] (b : Bool) (y : α) (h : Heap) (u : Value) (h' : Heap) : Prop := ∃ v, u = .tuple #[v, .bool b] ∧ HS h [ow v y] h'
end Go.Proofs.Ytglnelcmcimljaa

/-
  Merging, by the program and by the reference.
-/
namespace Go.Proofs.Ytglnelcmcimljaa
open Go
set_option linter.all false
set_option linter.unusedVariables false
set_option linter.unusedSimpArgs false
set_option linter.defProp false
set_option maxRecDepth 1000000

end Go.Proofs.Ytglnelcmcimljaa

/-
  Merging by the reference; both as functions of the package.
-/
namespace Go.Proofs.Ytglnelcmcimljaa
open Go
set_option linter.all false
set_option linter.unusedVariables false
set_option linter.unusedSimpArgs false
set_option linter.defProp false
set_option maxRecDepth 1000000

end Go.Proofs.Ytglnelcmcimljaa

/-
  Equality of automata; trimming and merging until nothing changes.
-/
namespace Go.Proofs.Ytglnelcmcimljaa
open Go
set_option linter.all false
set_option linter.unusedVariables false
set_option linter.unusedSimpArgs false
set_option linter.defProp false
set_option maxRecDepth 1000000

end Go.Proofs.Ytglnelcmcimljaa

/-
  What laws of automata share: relations returned by both, live states, words of lassos.
-/
namespace Go.Proofs.Ytglnelcmcimljaa
open Go
set_option linter.all false
set_option linter.unusedVariables false
set_option linter.unusedSimpArgs false
set_option linter.defProp false
set_option maxRecDepth 1000000

/-- what both programs answer -/
def SimR (a : Aut) (M : List (List Bool)) : Prop := (¬ a.Ok ∧ M = []) ∨ (a.Ok ∧ M.length = a.acc.length ∧ (∀ r ∈ M, r.length = a.acc.length) ∧ Great a (matR M))
theorem SimR.fn {a : Aut} {M M' : List (List Bool)} (h : SimR a M) (h' : SimR a M') : M = M' := by
  rcases h with ⟨h1, rfl⟩ | ⟨h1, h2, h3, h4⟩
  · rcases h' with ⟨_, rfl⟩ | ⟨h5, _⟩
    · rfl
    · exact absurd h5 h1
  · rcases h' with ⟨h5, _⟩ | ⟨h5, h6, h7, h8⟩
    · exact absurd h1 h5
    refine List.ext_getElem (by omega) fun i hi hi' => ?_
    have g1 := h3 _ (List.getElem_mem hi)
    have g2 := h7 _ (List.getElem_mem hi')
    refine List.ext_getElem (by omega) fun j hj hj' => ?_
    rw [← matR_get hi hj, ← matR_get hi' hj']
    exact h4.eq h8 (by omega) (by omega)
theorem c_AcceptsV {h : Heap} {v w : Value} {a : Aut} {l : Las} (Ra : Rep h v a) (Rl : Rep h w l) (ha : a.Ok) : CallE Try.prog fn_impl_Accepts [v, w] h (fun u h' => h.le h' ∧ u = .tuple #[.bool (a.accB l), .bool (decide l.Ok)]) :=
  (c_Accepts Ra Rl).mono fun _ _ ⟨h1, h2⟩ => ⟨h1, by rw [h2, decide_eq_decide.2 (show a.Ok ∧ l.Ok ↔ l.Ok from ⟨fun hh => hh.2, fun hh => ⟨ha, hh⟩⟩)]⟩
theorem lasso_letters {l : Las} (hl : l.Ok) : Letters l.word := fun t => Las.word_ok hl t
theorem accB_le {a b : Aut} {l : Las} (ha : a.Ok) (hb : b.Ok) (h : l.Ok → a.Lang l.word → b.Lang l.word) (hx : a.accB l = true) : b.accB l = true := by
  by_cases hl : l.Ok
  · exact (Aut.accB_lang hb hl).2 (h hl ((Aut.accB_lang ha hl).1 hx))
  · simp [Aut.accB, hl] at hx
end Go.Proofs.Ytglnelcmcimljaa

/-
  The law: inclusion is sound.
-/
namespace Go.Proofs.Ytglnelcmcimljaa
open Go
set_option linter.all false
set_option linter.unusedVariables false
set_option linter.unusedSimpArgs false
set_option linter.defProp false
set_option maxRecDepth 1000000

theorem unite_small {a : Aut} (ha : a.Ok) (h1 : a.acc.length ≤ 17) (h2 : a.edges.length ≤ 1001) : (a.unite a).Ok := by
  have hl : (a.unite a).acc.length = a.acc.length + a.acc.length := by simp [Aut.unite]
  have hn := ha.n
  refine ⟨by omega, by simp [Aut.unite]; omega, ?_, ?_⟩
  · rw [hl]
    show incr _ _ (a.init ++ a.init.map (· + (a.acc.length : Int)))
    obtain ⟨p1, p2⟩ := incr_iff.1 ha.i
    refine incr_iff.2 ⟨List.pairwise_append.2 ⟨p1, ?_, ?_⟩, ?_⟩
    · rw [List.pairwise_map]
      exact p1.imp (by intro x y hxy; omega)
    · intro x hx y hy
      obtain ⟨z, hz, rfl⟩ := List.mem_map.1 hy
      have := p2 x hx
      have := p2 z hz
      omega
    · intro x hx
      rcases List.mem_append.1 hx with hx | hx
      · have := p2 x hx
        omega
      · obtain ⟨z, hz, rfl⟩ := List.mem_map.1 hx
        have := p2 z hz
        omega
  · rw [hl]
    intro t ht
    rcases List.mem_append.1 ht with ht | ht
    · have := ha.2.2.2 t ht
      unfold Tr.Ok at this ⊢
      omega
    · obtain ⟨z, hz, rfl⟩ := List.mem_map.1 ht
      have := ha.2.2.2 z hz
      unfold Tr.Ok at this ⊢
      simp only [Tr.shift]
      omega
set_option maxHeartbeats 2000000 in
theorem c_FnIncludesAutomaton {h : Heap} {v w : Value} {l m : List (BitVec 8)} (R : Rep h v l) (RM0 : Rep h w m) : CallE Try.prog fn_laws_FnIncludesAutomaton [v, w] h (fun u h' => h.le h' ∧ u = .bool true) := by
  refine CallE.gen fun k hk => EN_laws_FnIncludesAutomaton rfl ?_
  by_cases a1 : (1048576 : Int) < l.length
  · simp -implicitDefEqProofs (disch := first | omega | (simp only [LnZ]; omega)) [wrap64, R.len, a1]
    exact RetK.keep (hk _ _ ⟨Heap.le.refl _, rfl⟩)
  by_cases a2 : (1048576 : Int) < m.length
  · simp -implicitDefEqProofs (disch := first | omega | (simp only [LnZ]; omega)) [wrap64, R.len, RM0.len, a1, a2]
    exact RetK.keep (hk _ _ ⟨Heap.le.refl _, rfl⟩)
  simp -implicitDefEqProofs (disch := first | omega | (simp only [LnZ]; omega)) [wrap64, R.len, RM0.len, a1, a2]
  refine (c_DrawIncludesAutomaton R).go ?_
  rintro _ h1 ⟨u1, u2, a, b, rfl, l1, Ra, Rb, hz1, hz2⟩
  have FA := Ra.aAut
  have FB := Rb.aAut
  simp -implicitDefEqProofs (disch := first | omega | (simp only [LnZ]; omega)) [wrap64, FA, FB, setC]
  refine (c_DrawAccepts (RM0.le l1)).go ?_
  rintro _ h2 ⟨u3, u4, a', x, rfl, l2, Ra', Rx, _⟩
  have FX := Rx.aLas
  have FA' := Ra'.aAut
  simp -implicitDefEqProofs (disch := first | omega | (simp only [LnZ]; omega)) [wrap64, FA, FB, FX, FA', setC]
  refine (c_IncludesAutomaton (Ra.le l2) (Rb.le l2)).go ?_
  rintro _ h3 ⟨l3, r, rfl, hr⟩
  simp -implicitDefEqProofs (disch := first | omega | (simp only [LnZ]; omega)) [wrap64, FA, FB]
  refine (c_spec_IncludesAutomaton (Ra.le (l2.trans l3)) (Rb.le (l2.trans l3))).go ?_
  rintro _ h4 ⟨l4, r', rfl, hr'⟩
  obtain rfl := hr.eq hr'
  have lb := l1.trans (l2.trans (l3.trans l4))
  have Ra4 := Ra.le (l2.trans (l3.trans l4))
  have Rb4 := Rb.le (l2.trans (l3.trans l4))
  have Rx4 := Rx.le (l3.trans l4)
  cases r with
  | false =>
    simp -implicitDefEqProofs (disch := first | omega | (simp only [LnZ]; omega)) [wrap64, FA, FB]
    refine (c_spec_IncludesAutomaton Ra4 Rb4).go ?_
    rintro _ h5 ⟨l5, r2, rfl, hr2⟩
    obtain rfl := hr.eq hr2
    simp -implicitDefEqProofs (disch := first | omega | (simp only [LnZ]; omega)) [wrap64]
    exact RetK.keep (hk _ _ ⟨lb.trans l5, rfl⟩)
  | true =>
  rcases hr with ⟨_, h5⟩ | ⟨⟨ha, hb, hc⟩, Rg, hG, hin⟩
  · exact absurd h5 (by decide)
  simp -implicitDefEqProofs (disch := first | omega | (simp only [LnZ]; omega)) [wrap64, FA, FX]
  refine (c_AcceptsV Ra4 Rx4 ha).go ?_
  rintro _ h5 ⟨l5, rfl⟩
  simp -implicitDefEqProofs (disch := first | omega | (simp only [LnZ]; omega)) [wrap64, FB, FX]
  refine (c_AcceptsV (Rb4.le l5) (Rx4.le l5) hb).go ?_
  rintro _ h6 ⟨l6, rfl⟩
  have hself := unite_small ha hz1 hz2
  have hinc : a.accB x = true → b.accB x = true := accB_le ha hb fun hl => incl_lang ha hb hc hG hin.symm (lasso_letters hl)
  have fin : ∀ {kk}, (∀ h7, h6.le h7 → kk (.bool true) h7) → CallE Try.prog fn_impl_IncludesAutomaton [u1, u1] h6 kk := fun hkk => by
    refine (c_IncludesAutomaton (Ra4.le (l5.trans l6)) (Ra4.le (l5.trans l6))).mono ?_
    rintro _ h7 ⟨l7, r3, rfl, hr3⟩
    rcases hr3 with ⟨h8, _⟩ | ⟨_, Rg2, hG2, hin2⟩
    · exact absurd ⟨ha, ha, hself⟩ h8
    · rw [incl_self ha hG2] at hin2
      subst hin2
      exact hkk _ l7
  cases b1 : a.accB x with
  | false =>
    simp -implicitDefEqProofs (disch := first | omega | (simp only [LnZ]; omega)) [wrap64, b1, FA]
    refine (fin (kk := fun u h7 => h6.le h7 ∧ u = .bool true) fun h7 l7 => ⟨l7, rfl⟩).go ?_
    rintro _ h7 ⟨l7, rfl⟩
    simp -implicitDefEqProofs (disch := first | omega | (simp only [LnZ]; omega)) [wrap64]
    exact RetK.keep (hk _ _ ⟨lb.trans (l5.trans (l6.trans l7)), rfl⟩)
  | true =>
    have b2 := hinc b1
    simp -implicitDefEqProofs (disch := first | omega | (simp only [LnZ]; omega)) [wrap64, b1, b2, FA]
    refine (fin (kk := fun u h7 => h6.le h7 ∧ u = .bool true) fun h7 l7 => ⟨l7, rfl⟩).go ?_
    rintro _ h7 ⟨l7, rfl⟩
    simp -implicitDefEqProofs (disch := first | omega | (simp only [LnZ]; omega)) [wrap64]
    exact RetK.keep (hk _ _ ⟨lb.trans (l5.trans (l6.trans l7)), rfl⟩)
end Go.Proofs.Ytglnelcmcimljaa
