/-
  Texts of this proof, one behind the other.
-/
import Derived.Test.YtbanccfdojgocaaYF5
set_option linter.all false
set_option linter.unusedVariables false
set_option linter.unusedSimpArgs false
set_option linter.defProp false
set_option maxRecDepth 1000000
namespace Go.Proofs.Ytbanccfdojgocaa
open Go
theorem c_normal : ∀ (x : Exq) {n : Nat} {h : Heap} {v : Value} {ng : Bool}, Fm.Shp n x → Rep h v x → CallE Try.prog fn_impl_Formula_normal [v, .bool ng] h (fun u h' => h.le h' ∧ Rep h' u (Fm.push x ng)) := by
  refine Exq.ind fun x ih n h v ng hs R => ?_
  obtain ⟨m, rfl⟩ : ∃ m, n = m + 1 := ⟨n - 1, by cases n with
    | zero => exact hs.elim
    | succ n => rfl⟩
  have FX := R.aExq
  obtain ⟨w, rfl, k1, k2, R1⟩ := Rep_Exq.1 R
  have hpe := Fm.push_eq x ng
  have hkd := hs.nd.kind
  refine CallE.gen fun k hk => EN_impl_Formula_normal rfl ?_
  rw [hpe] at hk
  simp -implicitDefEqProofs (disch:=first|omega|(simp only[LnZ];omega))[wrap64, FX]
  refine HS.init.alloc rfl fun b1 h1 H => ?_
  simp -implicitDefEqProofs (disch:=first|omega|(simp only[LnZ];omega))[wrap64]
  refine H.alloc rfl fun b2 h2 H => ?_
  simp -implicitDefEqProofs (disch:=first|omega|(simp only[LnZ];omega))[wrap64]
  have i1 : I64 1 := ⟨by decide, by decide⟩
  have i3 : I64 3 := ⟨by decide, by decide⟩
  have Rn : ∀ h, Rep h (.slice none 0 0) ([] : List Exq) := fun h => Own_nils.rep.le fun _ _ h => by simp [Heap.nil] at h
  refine (c_formula i1 (Rn _) (by simp)).go ?_
  rintro t h3 ⟨l3, Rt⟩
  obtain ⟨tw, rfl, _, _, _⟩ := Rep_Exq.1 Rt
  simp -implicitDefEqProofs (disch:=first|omega|(simp only[LnZ];omega))[wrap64, setC]
  refine bls_one (α := Exq) Rt rfl fun sl h4 l4 Rs => ?_
  simp -implicitDefEqProofs (disch:=first|omega|(simp only[LnZ];omega))[wrap64]
  refine (c_formula i3 Rs (by simp)).go ?_
  rintro fs h5 ⟨l5, Rf⟩
  obtain ⟨fw, rfl, _, _, Rfk⟩ := Rep_Exq.1 Rf
  have of := Rfk.one
  have oc := Rfk.cells
  have H := H.le (l3.trans (l4.trans l5))
  have lb := H.base
  have R1 := R1.le lb
  have q1 : hload h5 (some (.pointer (some ⟨b1, 0, none⟩))) none = some (.int .i64 x.kind) := H.sw1.bxld (o := 0) rfl
  have q2 : hload h5 (some (.pointer (some ⟨b1, 1, none⟩))) none = some (.int .i64 x.val) := H.sw1.bxld (o := 1) rfl
  have q3 : hload h5 (some (.pointer (some ⟨b1, 2, none⟩))) none = some w := H.sw1.bxld (o := 2) rfl
  have q4 : hload h5 (some (.pointer (some ⟨b2, 0, none⟩))) none = some (.bool ng) := H.bxld (o := 0) rfl
  clear H
  have kid : ∀ {j : Nat} {h6 : Heap} (hj : j < x.kids.length), h5.le h6 → CallE Try.prog fn_impl_Formula_normal_1 [.int .i64 j, .pointer (some ⟨b1, 0, none⟩), .pointer (some ⟨b2, 0, none⟩)] h6 (fun u h' => h6.le h' ∧ Rep h' u (Fm.kp x ng j)) := fun {j h6} hj l6 =>
    c_normal_kid hj (R1.le l6) (hload_le l6 q3) (hload_le l6 q4) fun R => ih _ (List.getElem_mem hj) (hs.kid hj) R
  have kid0 : ∀ {h6 : Heap}, 0 < x.kids.length → h5.le h6 → CallE Try.prog fn_impl_Formula_normal_1 [.int .i64 0, .pointer (some ⟨b1, 0, none⟩), .pointer (some ⟨b2, 0, none⟩)] h6 (fun u h' => h6.le h' ∧ Rep h' u (Fm.kp x ng 0)) := fun hj l6 => kid (j := 0) hj l6
  have kid1 : ∀ {h6 : Heap}, 1 < x.kids.length → h5.le h6 → CallE Try.prog fn_impl_Formula_normal_1 [.int .i64 1, .pointer (some ⟨b1, 0, none⟩), .pointer (some ⟨b2, 0, none⟩)] h6 (fun u h' => h6.le h' ∧ Rep h' u (Fm.kp x ng 1)) := fun hj l6 => kid (j := 1) hj l6
  by_cases c3 : x.kind = 3
  · have hl : 0 < x.kids.length := by rw [hs.one (.inl c3)]; omega
    obtain ⟨u, hu, Ru⟩ := R1.ld hl
    change hload _ (some (elp 3 w 0)) (some 3) = some u at hu
    rw [if_neg (by omega), if_pos c3] at hk
    simp -implicitDefEqProofs (disch:=first|omega|(simp only[LnZ];omega))[wrap64, setC, q1, q2, q3, q4, of, oc, c3, R1.X (n := 3) rfl, hu, Ru.aExq]
    refine (ih _ (List.getElem_mem hl) (hs.kid hl) Ru).go ?_
    rintro y h6 ⟨l6, Ry⟩
    simp -implicitDefEqProofs (disch:=first|omega|(simp only[LnZ];omega))[wrap64, setC, Ry.aExq]
    exact RetK.keep (hk _ _ ⟨lb.trans l6, by rw [Fm.kp_at hl]; exact Ry⟩)
  by_cases c4 : x.kind = 4
  · have hl := hs.two (.inl c4)
    rw [if_neg (by omega), if_neg (by omega), if_neg (by omega), if_neg (by omega)] at hk
    simp -implicitDefEqProofs (disch:=first|omega|(simp only[LnZ];omega))[wrap64, setC, q1, q2, q3, q4, of, oc, c3, c4]
    refine (c_normal_pick q4).go ?_
    rintro _ _ ⟨rfl, rfl⟩
    simp -implicitDefEqProofs (disch:=first|omega|(simp only[LnZ];omega))[wrap64]
    refine (kid0 (by omega) (Heap.le.refl _)).go ?_
    rintro y0 h6 ⟨l6, Ry0⟩
    simp -implicitDefEqProofs (disch:=first|omega|(simp only[LnZ];omega))[wrap64]
    refine (kid1 (by omega) l6).go ?_
    rintro y1 h7 ⟨l7, Ry1⟩
    have Ry0 := Ry0.le l7
    obtain ⟨z0, rfl, _, _, _⟩ := Rep_Exq.1 Ry0
    obtain ⟨z1, rfl, _, _, _⟩ := Rep_Exq.1 Ry1
    simp -implicitDefEqProofs (disch:=first|omega|(simp only[LnZ];omega))[wrap64]
    refine bls_two (α := Exq) Ry0 Ry1 rfl fun sl2 h8 l8 Rs2 => ?_
    simp -implicitDefEqProofs (disch:=first|omega|(simp only[LnZ];omega))[wrap64]
    refine (c_formula (by cases ng <;> exact ⟨by decide, by decide⟩) Rs2 (by simp)).go ?_
    rintro r h9 ⟨l9, Rr⟩
    simp -implicitDefEqProofs (disch:=first|omega|(simp only[LnZ];omega))[wrap64, setC, Rr.aExq]
    exact RetK.keep (hk _ _ ⟨lb.trans (l6.trans (l7.trans (l8.trans l9))), by cases ng <;> simpa [c4, Fm.dual] using Rr⟩)
  by_cases c5 : x.kind = 5
  · have hl := hs.two (.inr (.inl c5))
    rw [if_neg (by omega), if_neg (by omega), if_neg (by omega), if_neg (by omega)] at hk
    simp -implicitDefEqProofs (disch:=first|omega|(simp only[LnZ];omega))[wrap64, setC, q1, q2, q3, q4, of, oc, c3, c4, c5]
    refine (c_normal_pick q4).go ?_
    rintro _ _ ⟨rfl, rfl⟩
    simp -implicitDefEqProofs (disch:=first|omega|(simp only[LnZ];omega))[wrap64]
    refine (kid0 (by omega) (Heap.le.refl _)).go ?_
    rintro y0 h6 ⟨l6, Ry0⟩
    simp -implicitDefEqProofs (disch:=first|omega|(simp only[LnZ];omega))[wrap64]
    refine (kid1 (by omega) l6).go ?_
    rintro y1 h7 ⟨l7, Ry1⟩
    have Ry0 := Ry0.le l7
    obtain ⟨z0, rfl, _, _, _⟩ := Rep_Exq.1 Ry0
    obtain ⟨z1, rfl, _, _, _⟩ := Rep_Exq.1 Ry1
    simp -implicitDefEqProofs (disch:=first|omega|(simp only[LnZ];omega))[wrap64]
    refine bls_two (α := Exq) Ry0 Ry1 rfl fun sl2 h8 l8 Rs2 => ?_
    simp -implicitDefEqProofs (disch:=first|omega|(simp only[LnZ];omega))[wrap64]
    refine (c_formula (by cases ng <;> exact ⟨by decide, by decide⟩) Rs2 (by simp)).go ?_
    rintro r h9 ⟨l9, Rr⟩
    simp -implicitDefEqProofs (disch:=first|omega|(simp only[LnZ];omega))[wrap64, setC, Rr.aExq]
    exact RetK.keep (hk _ _ ⟨lb.trans (l6.trans (l7.trans (l8.trans l9))), by cases ng <;> simpa [c5, Fm.dual] using Rr⟩)
  by_cases c6 : x.kind = 6
  · have hl := hs.one (.inr (.inl c6))
    rw [if_neg (by omega), if_neg (by omega), if_pos c6] at hk
    simp -implicitDefEqProofs (disch:=first|omega|(simp only[LnZ];omega))[wrap64, setC, q1, q2, q3, q4, of, oc, c3, c4, c5, c6]
    refine (kid0 (by omega) (Heap.le.refl _)).go ?_
    rintro y0 h6 ⟨l6, Ry0⟩
    obtain ⟨z0, rfl, _, _, _⟩ := Rep_Exq.1 Ry0
    simp -implicitDefEqProofs (disch:=first|omega|(simp only[LnZ];omega))[wrap64]
    refine bls_one (α := Exq) Ry0 rfl fun sl2 h8 l8 Rs2 => ?_
    simp -implicitDefEqProofs (disch:=first|omega|(simp only[LnZ];omega))[wrap64]
    refine (c_formula ⟨by decide, by decide⟩ Rs2 (by simp)).go ?_
    rintro r h9 ⟨l9, Rr⟩
    simp -implicitDefEqProofs (disch:=first|omega|(simp only[LnZ];omega))[wrap64, setC, Rr.aExq]
    exact RetK.keep (hk _ _ ⟨lb.trans (l6.trans (l8.trans l9)), Rr⟩)
  by_cases c7 : x.kind = 7
  · have hl := hs.two (.inr (.inr (.inl c7)))
    rw [if_neg (by omega), if_neg (by omega), if_neg (by omega), if_neg (by omega)] at hk
    simp -implicitDefEqProofs (disch:=first|omega|(simp only[LnZ];omega))[wrap64, setC, q1, q2, q3, q4, of, oc, c3, c4, c5, c6, c7]
    refine (c_normal_pick q4).go ?_
    rintro _ _ ⟨rfl, rfl⟩
    simp -implicitDefEqProofs (disch:=first|omega|(simp only[LnZ];omega))[wrap64]
    refine (kid0 (by omega) (Heap.le.refl _)).go ?_
    rintro y0 h6 ⟨l6, Ry0⟩
    simp -implicitDefEqProofs (disch:=first|omega|(simp only[LnZ];omega))[wrap64]
    refine (kid1 (by omega) l6).go ?_
    rintro y1 h7 ⟨l7, Ry1⟩
    have Ry0 := Ry0.le l7
    obtain ⟨z0, rfl, _, _, _⟩ := Rep_Exq.1 Ry0
    obtain ⟨z1, rfl, _, _, _⟩ := Rep_Exq.1 Ry1
    simp -implicitDefEqProofs (disch:=first|omega|(simp only[LnZ];omega))[wrap64]
    refine bls_two (α := Exq) Ry0 Ry1 rfl fun sl2 h8 l8 Rs2 => ?_
    simp -implicitDefEqProofs (disch:=first|omega|(simp only[LnZ];omega))[wrap64]
    refine (c_formula (by cases ng <;> exact ⟨by decide, by decide⟩) Rs2 (by simp)).go ?_
    rintro r h9 ⟨l9, Rr⟩
    simp -implicitDefEqProofs (disch:=first|omega|(simp only[LnZ];omega))[wrap64, setC, Rr.aExq]
    exact RetK.keep (hk _ _ ⟨lb.trans (l6.trans (l7.trans (l8.trans l9))), by cases ng <;> simpa [c7, Fm.dual] using Rr⟩)
  by_cases c8 : x.kind = 8
  · have hl := hs.two (.inr (.inr (.inr c8)))
    rw [if_neg (by omega), if_neg (by omega), if_neg (by omega), if_neg (by omega)] at hk
    simp -implicitDefEqProofs (disch:=first|omega|(simp only[LnZ];omega))[wrap64, setC, q1, q2, q3, q4, of, oc, c3, c4, c5, c6, c7, c8]
    refine (c_normal_pick q4).go ?_
    rintro _ _ ⟨rfl, rfl⟩
    simp -implicitDefEqProofs (disch:=first|omega|(simp only[LnZ];omega))[wrap64]
    refine (kid0 (by omega) (Heap.le.refl _)).go ?_
    rintro y0 h6 ⟨l6, Ry0⟩
    simp -implicitDefEqProofs (disch:=first|omega|(simp only[LnZ];omega))[wrap64]
    refine (kid1 (by omega) l6).go ?_
    rintro y1 h7 ⟨l7, Ry1⟩
    have Ry0 := Ry0.le l7
    obtain ⟨z0, rfl, _, _, _⟩ := Rep_Exq.1 Ry0
    obtain ⟨z1, rfl, _, _, _⟩ := Rep_Exq.1 Ry1
    simp -implicitDefEqProofs (disch:=first|omega|(simp only[LnZ];omega))[wrap64]
    refine bls_two (α := Exq) Ry0 Ry1 rfl fun sl2 h8 l8 Rs2 => ?_
    simp -implicitDefEqProofs (disch:=first|omega|(simp only[LnZ];omega))[wrap64]
    refine (c_formula (by cases ng <;> exact ⟨by decide, by decide⟩) Rs2 (by simp)).go ?_
    rintro r h9 ⟨l9, Rr⟩
    simp -implicitDefEqProofs (disch:=first|omega|(simp only[LnZ];omega))[wrap64, setC, Rr.aExq]
    exact RetK.keep (hk _ _ ⟨lb.trans (l6.trans (l7.trans (l8.trans l9))), by cases ng <;> simpa [c8, Fm.dual] using Rr⟩)
  by_cases c9 : x.kind = 9
  · have hl := hs.one (.inr (.inr (.inl c9)))
    rw [if_neg (by omega), if_neg (by omega), if_neg (by omega), if_pos (by omega)] at hk
    cases ng
    · rw [if_pos (by simp [c9])] at hk
      simp -implicitDefEqProofs (disch:=first|omega|(simp only[LnZ];omega))[wrap64, setC, q1, q2, q3, q4, of, oc, c3, c4, c5, c6, c7, c8, c9]
      refine (c_formula i1 (Rn _) (by simp)).go ?_
      rintro t2 h6 ⟨l6, Rt2⟩
      obtain ⟨z1, rfl, _, _, _⟩ := Rep_Exq.1 Rt2
      simp -implicitDefEqProofs (disch:=first|omega|(simp only[LnZ];omega))[wrap64]
      refine (kid0 (by omega) l6).go ?_
      rintro y0 h7 ⟨l7, Ry0⟩
      have Rt2 := Rt2.le l7
      obtain ⟨z0, rfl, _, _, _⟩ := Rep_Exq.1 Ry0
      simp -implicitDefEqProofs (disch:=first|omega|(simp only[LnZ];omega))[wrap64]
      refine bls_two (α := Exq) Rt2 Ry0 rfl fun sl2 h8 l8 Rs2 => ?_
      simp -implicitDefEqProofs (disch:=first|omega|(simp only[LnZ];omega))[wrap64]
      refine (c_formula ⟨by decide, by decide⟩ Rs2 (by simp)).go ?_
      rintro r h9 ⟨l9, Rr⟩
      simp -implicitDefEqProofs (disch:=first|omega|(simp only[LnZ];omega))[wrap64, setC, Rr.aExq]
      exact RetK.keep (hk _ _ ⟨lb.trans (l6.trans (l7.trans (l8.trans l9))), Rr⟩)
    · rw [if_neg (by simp [c9])] at hk
      simp -implicitDefEqProofs (disch:=first|omega|(simp only[LnZ];omega))[wrap64, setC, q1, q2, q3, q4, of, oc, c3, c4, c5, c6, c7, c8, c9]
      refine (kid0 (by omega) (Heap.le.refl _)).go ?_
      rintro y0 h7 ⟨l7, Ry0⟩
      have Rf2 := Rf.le l7
      obtain ⟨z0, rfl, _, _, _⟩ := Rep_Exq.1 Ry0
      simp -implicitDefEqProofs (disch:=first|omega|(simp only[LnZ];omega))[wrap64]
      refine bls_two (α := Exq) Rf2 Ry0 rfl fun sl2 h8 l8 Rs2 => ?_
      simp -implicitDefEqProofs (disch:=first|omega|(simp only[LnZ];omega))[wrap64]
      refine (c_formula ⟨by decide, by decide⟩ Rs2 (by simp)).go ?_
      rintro r h9 ⟨l9, Rr⟩
      simp -implicitDefEqProofs (disch:=first|omega|(simp only[LnZ];omega))[wrap64, setC, Rr.aExq]
      exact RetK.keep (hk _ _ ⟨lb.trans (l7.trans (l8.trans l9)), Rr⟩)
  by_cases c10 : x.kind = 10
  · have hl := hs.one (.inr (.inr (.inr c10)))
    rw [if_neg (by omega), if_neg (by omega), if_neg (by omega), if_pos (by omega)] at hk
    cases ng
    · rw [if_neg (by simp [c10])] at hk
      simp -implicitDefEqProofs (disch:=first|omega|(simp only[LnZ];omega))[wrap64, setC, q1, q2, q3, q4, of, oc, c3, c4, c5, c6, c7, c8, c9, c10]
      refine (kid0 (by omega) (Heap.le.refl _)).go ?_
      rintro y0 h7 ⟨l7, Ry0⟩
      have Rf2 := Rf.le l7
      obtain ⟨z0, rfl, _, _, _⟩ := Rep_Exq.1 Ry0
      simp -implicitDefEqProofs (disch:=first|omega|(simp only[LnZ];omega))[wrap64]
      refine bls_two (α := Exq) Rf2 Ry0 rfl fun sl2 h8 l8 Rs2 => ?_
      simp -implicitDefEqProofs (disch:=first|omega|(simp only[LnZ];omega))[wrap64]
      refine (c_formula ⟨by decide, by decide⟩ Rs2 (by simp)).go ?_
      rintro r h9 ⟨l9, Rr⟩
      simp -implicitDefEqProofs (disch:=first|omega|(simp only[LnZ];omega))[wrap64, setC, Rr.aExq]
      exact RetK.keep (hk _ _ ⟨lb.trans (l7.trans (l8.trans l9)), Rr⟩)
    · rw [if_pos (by simp [c10])] at hk
      simp -implicitDefEqProofs (disch:=first|omega|(simp only[LnZ];omega))[wrap64, setC, q1, q2, q3, q4, of, oc, c3, c4, c5, c6, c7, c8, c9, c10]
      refine (c_formula i1 (Rn _) (by simp)).go ?_
      rintro t2 h6 ⟨l6, Rt2⟩
      obtain ⟨z1, rfl, _, _, _⟩ := Rep_Exq.1 Rt2
      simp -implicitDefEqProofs (disch:=first|omega|(simp only[LnZ];omega))[wrap64]
      refine (kid0 (by omega) l6).go ?_
      rintro y0 h7 ⟨l7, Ry0⟩
      have Rt2 := Rt2.le l7
      obtain ⟨z0, rfl, _, _, _⟩ := Rep_Exq.1 Ry0
      simp -implicitDefEqProofs (disch:=first|omega|(simp only[LnZ];omega))[wrap64]
      refine bls_two (α := Exq) Rt2 Ry0 rfl fun sl2 h8 l8 Rs2 => ?_
      simp -implicitDefEqProofs (disch:=first|omega|(simp only[LnZ];omega))[wrap64]
      refine (c_formula ⟨by decide, by decide⟩ Rs2 (by simp)).go ?_
      rintro r h9 ⟨l9, Rr⟩
      simp -implicitDefEqProofs (disch:=first|omega|(simp only[LnZ];omega))[wrap64, setC, Rr.aExq]
      exact RetK.keep (hk _ _ ⟨lb.trans (l6.trans (l7.trans (l8.trans l9))), Rr⟩)
  have c12 : x.kind = 1 ∨ x.kind = 2 := by omega
  rw [if_pos c12] at hk
  have Rlf : Rep h5 (.agg #[.int .i64 x.kind, .int .i64 x.val, .slice none 0 0]) (Exq.mk x.kind x.val []) := Rep_Exq.2 ⟨_, rfl, k1, k2, Rn _⟩
  have Flf := Rlf.aExq
  cases ng
  · simp -implicitDefEqProofs (disch:=first|omega|(simp only[LnZ];omega))[wrap64, setC, q1, q2, q3, q4, of, oc, c3, c4, c5, c6, c7, c8, c9, c10]
    exact RetK.keep (hk _ _ ⟨lb, Rlf⟩)
  · simp -implicitDefEqProofs (disch:=first|omega|(simp only[LnZ];omega))[wrap64, setC, q1, q2, q3, q4, of, oc, c3, c4, c5, c6, c7, c8, c9, c10]
    refine bls_one (α := Exq) Rlf rfl fun sl2 h8 l8 Rs2 => ?_
    simp -implicitDefEqProofs (disch:=first|omega|(simp only[LnZ];omega))[wrap64]
    refine (c_formula i3 Rs2 (by simp)).go ?_
    rintro r h9 ⟨l9, Rr⟩
    simp -implicitDefEqProofs (disch:=first|omega|(simp only[LnZ];omega))[wrap64, setC, Rr.aExq]
    exact RetK.keep (hk _ _ ⟨lb.trans (l8.trans l9), Rr⟩)
end Go.Proofs.Ytbanccfdojgocaa

namespace Go.Proofs.Ytbanccfdojgocaa
open Go
theorem c_Formula_normalForm {h : Heap} {v : Value} {x : Exq} (R : Rep h v x) (hx : Fm.Ok x) : CallE Try.prog fn_impl_Formula_normalForm [v] h (fun u h' => ∃ g, u = .tuple #[g, .bool (decide (Fm.Ok x ∧ Fm.Ok (Fm.push x false)))] ∧ h.le h' ∧ Rep h' g (Fm.nfR x)) := by
  have FX := R.aExq
  refine CallE.gen fun k hk => EN_impl_Formula_normalForm rfl ?_
  simp -implicitDefEqProofs (disch:=first|omega|(simp only[LnZ];omega))[wrap64, FX]
  refine (c_normal x hx.1 R).go ?_
  rintro g h1 ⟨l1, Rg⟩
  have FG := Rg.aExq
  simp -implicitDefEqProofs (disch:=first|omega|(simp only[LnZ];omega))[wrap64, FG]
  refine (c_FormulaValid Rg).go ?_
  rintro _ h2 ⟨l2, rfl⟩
  by_cases q : Fm.Ok (Fm.push x false)
  · simp -implicitDefEqProofs (disch:=first|omega|(simp only[LnZ];omega))[wrap64, q, FG]
    exact RetK.keep (hk _ _ ⟨_, by rw [decide_eq_true ⟨hx, q⟩], l1.trans l2, by rw [Fm.nfR, if_pos ⟨hx, q⟩]; exact Rg.le l2⟩)
  · simp -implicitDefEqProofs (disch:=first|omega|(simp only[LnZ];omega))[wrap64, q, FG]
    exact RetK.keep (hk _ _ ⟨_, by rw [decide_eq_false (fun hh => q hh.2)], l1.trans l2, by rw [Fm.nfR, if_neg (fun hh => q hh.2)]; exact rep_zero⟩)
theorem c_NormalForm {h : Heap} {v : Value} {x : Exq} (R : Rep h v x) : CallE Try.prog fn_impl_NormalForm [v] h (fun u h' => ∃ g, u = .tuple #[g, .bool (decide (Fm.Ok x ∧ Fm.Ok (Fm.push x false)))] ∧ h.le h' ∧ Rep h' g (Fm.nfR x)) := by
  have FX := R.aExq
  refine CallE.gen fun k hk => EN_impl_NormalForm rfl ?_
  simp -implicitDefEqProofs (disch:=first|omega|(simp only[LnZ];omega))[wrap64, FX]
  refine (c_FormulaValid R).go ?_
  rintro _ h1 ⟨l1, rfl⟩
  by_cases q : Fm.Ok x
  case neg =>
    simp -implicitDefEqProofs (disch:=first|omega|(simp only[LnZ];omega))[wrap64, q]
    exact RetK.keep (hk _ _ ⟨_, by rw [decide_eq_false (fun hh => q hh.1)], l1, by rw [Fm.nfR, if_neg (fun hh => q hh.1)]; exact rep_zero⟩)
  simp -implicitDefEqProofs (disch:=first|omega|(simp only[LnZ];omega))[wrap64, q, FX]
  refine (c_Formula_normalForm (R.le l1) q).go ?_
  rintro _ h2 ⟨g, rfl, l2, Rg⟩
  simp -implicitDefEqProofs (disch:=first|omega|(simp only[LnZ];omega))[wrap64, Rg.aExq]
  exact RetK.keep (hk _ _ ⟨g, by simp, l1.trans l2, Rg⟩)
theorem c_formulaAt_1 {h : Heap} {u : Value} {b : Nat} {x y : Exq} (Ru : Rep h u y) {v : Value} (Rv : Rep h v x) (hb : hload h (some (.pointer (some ⟨b, 0, none⟩))) (some 3) = some v) : CallE Try.prog fn_impl_formulaAt_1 [u, .pointer (some ⟨b, 0, none⟩)] h (fun r h' => h' = h ∧ r = .bool (decide (y = x))) := by
  have FU := Ru.aExq
  refine CallE.gen fun k hk => EN_impl_formulaAt_1 rfl ?_
  simp -implicitDefEqProofs (disch:=first|omega|(simp only[LnZ];omega))[wrap64, FU, hb, Rv.aExq]
  refine (c_FormulaSame Ru Rv).go ?_
  rintro _ _ ⟨rfl, rfl⟩
  simp -implicitDefEqProofs (disch:=first|omega|(simp only[LnZ];omega))[wrap64]
  exact RetK.keep (hk _ _ ⟨rfl, rfl⟩)
theorem c_IndexFunc_eq {h : Heap} {a fv : Value} {l : List Exq} {x : Exq} (Ra : Rep h a l) {f : FuncId} {c1 c2 : List Value} (hf : fnOf fv = some (f, c1, c2))
    (hp : ∀ (i : Nat) (hi : i < l.length) (u : Value), Rep h u l[i] → CallE Try.prog f (c1 ++ u :: c2) h (fun r h' => h' = h ∧ r = .bool (decide (l[i] = x)))) :
    CallE Try.prog fn_slices_IndexFunc_S_impl_Formula_impl_Formula [a, fv] h (fun r h' => h' = h ∧ r = .int .i64 (Fm.fx l x)) := by
  refine CallE.gen fun k hk => EN_slices_IndexFunc_S_impl_Formula_impl_Formula rfl ?_
  have hL := Ra.lt
  simp -implicitDefEqProofs (disch:=first|omega|(simp only[LnZ];omega))[wrap64, Ra.len]
  refine wp_count l.length (fun i e h' => e = [some a, some fv, none, none, some (.int .i64 l.length), some (.int .i64 i)] ∧ h' = h ∧ ∀ (j : Nat) (hj : j < l.length), j < i → l[j] ≠ x) ⟨rfl, rfl, fun j _ hj => absurd hj (Nat.not_lt_zero j)⟩ ?_
  rintro J i _ _ hJ hi ⟨rfl, rfl, hall⟩
  simp -implicitDefEqProofs (disch:=first|omega|(simp only[LnZ];omega))[wrap64]
  refine IteW.mk (fun hlt => ?_) (fun hge => ?_)
  · have hlx : i < l.length := by omega
    obtain ⟨u, hu, Ru⟩ := Ra.ld hlx
    change hload _ (some (elp 3 a i)) (some 3) = some u at hu
    simp -implicitDefEqProofs (disch:=first|omega|(simp only[LnZ];omega))[wrap64, Ra.X (n := 3) rfl, hu, hf]
    refine (hp i hlx u Ru).go ?_
    rintro _ _ ⟨rfl, rfl⟩
    by_cases e : l[i] = x
    · simp -implicitDefEqProofs (disch:=first|omega|(simp only[LnZ];omega))[wrap64, e]
      exact RetK.keep (hk _ _ ⟨rfl, by rw [Fm.fx_at hlx e fun j hj hji => hall j hj hji]⟩)
    · simp -implicitDefEqProofs (disch:=first|omega|(simp only[LnZ];omega))[wrap64, e]
      refine hJ _ _ hlx ⟨rfl, rfl, fun j hj hji => ?_⟩
      by_cases hji2 : j = i
      · subst hji2; exact e
      · exact hall j hj (by omega)
  · simp -implicitDefEqProofs (disch:=first|omega|(simp only[LnZ];omega))[wrap64]
    refine RetK.keep (hk _ _ ⟨rfl, ?_⟩)
    rw [Fm.fx_not]
    intro hm
    obtain ⟨j, hj, e⟩ := List.mem_iff_getElem.1 hm
    exact hall j hj (by omega) e
theorem c_formulaAt {h : Heap} {a v : Value} {l : List Exq} {x : Exq} (Ra : Rep h a l) (Rv : Rep h v x) : CallE Try.prog fn_impl_formulaAt [a, v] h (fun r h' => h.le h' ∧ r = .int .i64 (Fm.fx l x)) := by
  have FV := Rv.aExq
  obtain ⟨w, rfl, k1, k2, R1⟩ := Rep_Exq.1 Rv
  refine CallE.gen fun k hk => EN_impl_formulaAt rfl ?_
  simp -implicitDefEqProofs (disch:=first|omega|(simp only[LnZ];omega))[wrap64, FV]
  refine HS.init.alloc rfl fun b h1 H => ?_
  have l1 := H.base
  have hb : hload h1 (some (.pointer (some ⟨b, 0, none⟩))) (some 3) = some (.agg #[.int .i64 x.kind, .int .i64 x.val, w]) := by
    have := H.bxlds (o := 0) (n := 3) (by simp)
    simpa using this
  simp -implicitDefEqProofs (disch:=first|omega|(simp only[LnZ];omega))[wrap64]
  refine (c_IndexFunc_eq (x := x) (Ra.le l1) (f := fn_impl_formulaAt_1) (c1 := []) (c2 := [.pointer (some ⟨b, 0, none⟩)]) rfl fun i hi u Ru => c_formulaAt_1 Ru (Rv.le l1) hb).go ?_
  rintro _ _ ⟨rfl, rfl⟩
  simp -implicitDefEqProofs (disch:=first|omega|(simp only[LnZ];omega))[wrap64]
  exact RetK.keep (hk _ _ ⟨l1, rfl⟩)
end Go.Proofs.Ytbanccfdojgocaa

namespace Go.Proofs.Ytbanccfdojgocaa
open Go
namespace Fm
def has (s : Nat) (i : Int) : Bool := decide (0 ≤ i) && s.testBit i.toNat
theorem has_nat {s i : Nat} : has s (i : Int) = s.testBit i := by simp [has]
mutual
noncomputable def val (B : List Exq) (s : Nat) : Exq → Bool
  | .mk k v l => if k = 1 then true else if k = 3 then !(vals B s l).getD 0 false else if k = 4 then (vals B s l).getD 0 false && (vals B s l).getD 1 false
    else if k = 5 then (vals B s l).getD 0 false || (vals B s l).getD 1 false else has s (fx B (.mk k v l))
noncomputable def vals (B : List Exq) (s : Nat) : List Exq → List Bool
  | [] => []
  | x :: l => val B s x :: vals B s l
end
theorem vals_eq {B : List Exq} {s : Nat} : ∀ l, vals B s l = l.map (val B s)
  | [] => rfl
  | x :: l => by simp only [vals, List.map_cons, vals_eq l]
noncomputable def kv (B : List Exq) (s : Nat) (x : Exq) (j : Nat) : Bool := (x.kids.map (val B s)).getD j false
theorem kv_at {B : List Exq} {s : Nat} {x : Exq} {j : Nat} (hj : j < x.kids.length) : kv B s x j = val B s x.kids[j] := by simp [kv, hj]
theorem val_eq {B : List Exq} {s : Nat} (x : Exq) : val B s x = if x.kind = 1 then true else if x.kind = 3 then !kv B s x 0 else if x.kind = 4 then kv B s x 0 && kv B s x 1
    else if x.kind = 5 then kv B s x 0 || kv B s x 1 else has s (fx B x) := by
  cases x with
  | mk k v l => simp only [val, vals_eq]; rfl
noncomputable def got (B : List Exq) (s t i : Nat) (f : Exq) : Bool :=
  if f.kind = 6 then kv B t f 0 else if f.kind = 7 then kv B s f 1 || kv B s f 0 && t.testBit i else if f.kind = 8 then kv B s f 1 && (kv B s f 0 || t.testBit i) else s.testBit i
def Fol (B : List Exq) (s t : Nat) : Prop := ∀ (i : Nat) (hi : i < B.length), got B s t i B[i] = s.testBit i
noncomputable instance {B : List Exq} {s t : Nat} : Decidable (Fol B s t) := Classical.propDecidable _
noncomputable def ful (B : List Exq) (s : Nat) (u : Int) : Bool := !has s u || kv B s (B.getD u.toNat Exq.zero) 1
def ltc (B : List Exq) : Nat → Nat
  | 0 => 0
  | n + 1 => if (B.getD n Exq.zero).kind = 2 then ltc B n ||| 1 <<< (B.getD n Exq.zero).val.toNat else ltc B n
def ltv (B : List Exq) (s : Nat) : Nat → Nat
  | 0 => 0
  | n + 1 => if (B.getD n Exq.zero).kind = 2 ∧ s.testBit n = true then ltv B s n ||| 1 <<< (B.getD n Exq.zero).val.toNat else ltv B s n
theorem or8 {a b : Nat} (ha : a < 8) (hb : b < 8) : a ||| b < 8 := Nat.or_lt_two_pow (n := 3) ha hb
theorem sh3 {k : Nat} (hk : k < 3) : 1 <<< k < 8 := by
  obtain rfl | rfl | rfl : k = 0 ∨ k = 1 ∨ k = 2 := by omega
  all_goals decide
theorem ltc_lt {B : List Exq} (h : ∀ y ∈ B, Shp 6 y) : ∀ n, n ≤ B.length → ltc B n < 8
  | 0, _ => by simp [ltc]
  | n + 1, hn => by
    have ih := ltc_lt h n (by omega)
    have hm := (h _ (List.getElem_mem (show n < B.length by omega))).nd
    have e : B.getD n Exq.zero = B[n] := by simp [show n < B.length by omega]
    rw [ltc, e]
    split
    · exact or8 ih (sh3 (by have := hm.hi; have := hm.lo; omega))
    · exact ih
theorem ltv_lt {B : List Exq} {s : Nat} (h : ∀ y ∈ B, Shp 6 y) : ∀ n, n ≤ B.length → ltv B s n < 8
  | 0, _ => by simp [ltv]
  | n + 1, hn => by
    have ih := ltv_lt (s := s) h n (by omega)
    have hm := (h _ (List.getElem_mem (show n < B.length by omega))).nd
    have e : B.getD n Exq.zero = B[n] := by simp [show n < B.length by omega]
    rw [ltv, e]
    split
    · exact or8 ih (sh3 (by have := hm.hi; have := hm.lo; omega))
    · exact ih
def unt (B : List Exq) : Nat → List Int
  | 0 => []
  | n + 1 => if (B.getD n Exq.zero).kind = 7 then unt B n ++ [(n : Int)] else unt B n
theorem unt_mem {B : List Exq} : ∀ {n : Nat} {u : Int}, u ∈ unt B n → ∃ m : Nat, u = m ∧ m < n ∧ (B.getD m Exq.zero).kind = 7
  | 0, _, h => by simp [unt] at h
  | n + 1, u, h => by
    rw [unt] at h
    split at h
    · rename_i hk
      rcases List.mem_append.1 h with h | h
      · obtain ⟨m, h1, h2, h3⟩ := unt_mem h
        exact ⟨m, h1, by omega, h3⟩
      · simp at h; exact ⟨n, h, by omega, hk⟩
    · obtain ⟨m, h1, h2, h3⟩ := unt_mem h
      exact ⟨m, h1, by omega, h3⟩
theorem unt_len {B : List Exq} : ∀ n, (unt B n).length ≤ n
  | 0 => by simp [unt]
  | n + 1 => by
    have := unt_len (B := B) n
    rw [unt]
    split
    · simp; omega
    · omega
noncomputable def phs (B : List Exq) (U : List Int) (s : Nat) (p : Int) : Int × Bool :=
  if U.length = 0 then (0, true) else if ful B s (U.getD p.toNat 0) then ((p + 1).tmod U.length, decide (p = 0)) else (p, false)
def POk (U : List Int) (p : Int) : Prop := 0 ≤ p ∧ (p < U.length ∨ p = 0)
theorem phs_ok {B : List Exq} {U : List Int} {s : Nat} {p : Int} (h : POk U p) : POk U (phs B U s p).1 := by
  unfold phs
  by_cases h1 : U.length = 0
  · rw [if_pos h1]; exact ⟨by simp, .inr rfl⟩
  · have hU : (0 : Int) < U.length := by omega
    have h2 : (0 : Int) ≤ p + 1 := by have := h.1; omega
    have h3 : 0 ≤ (p + 1).tmod U.length ∧ (p + 1).tmod U.length < U.length := by
      rw [Int.tmod_eq_emod_of_nonneg h2]
      exact ⟨Int.emod_nonneg _ (by omega), Int.emod_lt_of_pos _ hU⟩
    rw [if_neg h1]
    split
    · exact ⟨h3.1, .inl h3.2⟩
    · exact h
def atL (L : List (List Int)) (p : List Int) : Int := match L.findIdx? (fun y => decide (y = p)) with | some i => (i : Int) | .none => (L.length : Int)
def adL (L : List (List Int)) (p : List Int) : List (List Int) := if p ∈ L then L else L ++ [p]
theorem atL_at {xs : List (List Int)} {st : List Int} {i : Nat} (hi : i < xs.length) (he : xs[i] = st) (hn : ∀ (j : Nat) (hj : j < xs.length), j < i → xs[j] ≠ st) : atL xs st = i := by
  have : xs.findIdx? (fun y => decide (y = st)) = some i := by
    rw [List.findIdx?_eq_some_iff_getElem]
    exact ⟨hi, by simpa using he, fun j hj => by simpa using hn j (by omega) hj⟩
  rw [atL, this]
theorem atL_not {xs : List (List Int)} {st : List Int} (h : st ∉ xs) : atL xs st = xs.length := by
  have : xs.findIdx? (fun y => decide (y = st)) = .none := by
    rw [List.findIdx?_eq_none_iff]
    intro y hy
    simp only [decide_eq_false_iff_not]
    rintro rfl
    exact h hy
  rw [atL, this]
theorem adL_len {L : List (List Int)} {p : List Int} : L.length ≤ (adL L p).length ∧ (adL L p).length ≤ L.length + 1 := by
  unfold adL; split <;> simp
theorem atL_lt {L : List (List Int)} {p : List Int} : 0 ≤ atL L p ∧ atL L p < (adL L p).length := by
  by_cases h : p ∈ L
  · rw [adL, if_pos h]
    unfold atL
    split
    · rename_i i hi
      rw [List.findIdx?_eq_some_iff_getElem] at hi
      obtain ⟨h1, _⟩ := hi
      omega
    · rename_i hn
      rw [List.findIdx?_eq_none_iff] at hn
      have := hn p h
      simp at this
  · rw [atL_not h, adL, if_neg h]
    simp
    omega
noncomputable def trow (B : List Exq) (i : Nat) (s : Nat) (p : Int) : Nat → List (List Int) × List Tr → List (List Int) × List Tr
  | 0, q => q
  | n + 1, q => let r := trow B i s p n q
    if Fol B s n then (adL r.1 [(n : Int), p], r.2 ++ [⟨(i : Int), (ltc B B.length : Nat), (ltv B s B.length : Nat), atL r.1 [(n : Int), p]⟩]) else r
noncomputable def tN (B : List Exq) (U : List Int) (L0 : List (List Int)) : Nat → List (List Int) × List Bool × List Tr
  | 0 => (L0, [], [])
  | n + 1 => let r := tN B U L0 n
    if n < r.1.length ∧ r.1.length ≤ 64 then
      let s := ((r.1.getD n []).getD 0 0).toNat
      let ph := phs B U s ((r.1.getD n []).getD 1 0)
      let q := trow B n s ph.1 (2 ^ B.length) (r.1, r.2.2)
      (q.1, r.2.1 ++ [ph.2], q.2)
    else r
def LOk2 (c : Nat) (U : List Int) (L : List (List Int)) : Prop := ∀ x ∈ L, ∃ (s : Nat) (p : Int), x = [(s : Int), p] ∧ s < c ∧ POk U p
theorem LOk2.add {c : Nat} {U : List Int} {L : List (List Int)} (h : LOk2 c U L) {s : Nat} {p : Int} (hs : s < c) (hp : POk U p) : LOk2 c U (adL L [(s : Int), p]) := by
  unfold adL
  split
  · exact h
  · intro x hx
    rcases List.mem_append.1 hx with hx | hx
    · exact h x hx
    · simp at hx; exact ⟨s, p, hx, hs, hp⟩
structure TRow (B : List Exq) (U : List Int) (c i n : Nat) (q r : List (List Int) × List Tr) : Prop where
  ok : LOk2 c U r.1
  ge : q.1.length ≤ r.1.length
  le : r.1.length ≤ q.1.length + n
  el : r.2.length ≤ q.2.length + n
  pre : ∃ t, r.1 = q.1 ++ t
  ed : ∀ e ∈ r.2, e ∈ q.2 ∨ (e.frm = i ∧ 0 ≤ e.to ∧ e.to < r.1.length ∧ e.care = (ltc B B.length : Nat) ∧ ∃ s : Nat, e.value = (ltv B s B.length : Nat))
theorem adL_pre {L : List (List Int)} {p : List Int} : ∃ t, adL L p = L ++ t := by
  unfold adL; split
  · exact ⟨[], by simp⟩
  · exact ⟨_, rfl⟩
theorem trow_inv {B : List Exq} {U : List Int} {c i s : Nat} {p : Int} {q : List (List Int) × List Tr} (hq : LOk2 c U q.1) (hp : POk U p) : ∀ n, n ≤ c → TRow B U c i n q (trow B i s p n q)
  | 0, _ => ⟨hq, Nat.le_refl _, by simp [trow], by simp [trow], ⟨[], by simp [trow]⟩, fun e he => .inl he⟩
  | n + 1, hn => by
    have ih := trow_inv (s := s) (i := i) (B := B) hq hp n (by omega)
    unfold trow
    simp only
    split
    · have hl := adL_len (L := (trow B i s p n q).1) (p := [(n : Int), p])
      have h1 := ih.ge
      have h2 := ih.le
      have h3 := ih.el
      have ha := atL_lt (L := (trow B i s p n q).1) (p := [(n : Int), p])
      obtain ⟨t, ht⟩ := ih.pre
      obtain ⟨t', ht'⟩ := adL_pre (L := (trow B i s p n q).1) (p := [(n : Int), p])
      refine ⟨ih.ok.add (by omega) hp, by simp only; omega, by simp only; omega, by simp only [List.length_append, List.length_singleton]; omega, ⟨t ++ t', by simp only; rw [ht', ht, List.append_assoc]⟩, fun e he => ?_⟩
      simp only at he
      rcases List.mem_append.1 he with he | he
      · rcases ih.ed e he with h | ⟨e1, e2, e3, e4, e5⟩
        · exact .inl h
        · exact .inr ⟨e1, e2, by simp only; omega, e4, e5⟩
      · rw [List.mem_singleton] at he
        subst he
        exact .inr ⟨rfl, ha.1, ha.2, rfl, s, rfl⟩
    · exact ⟨ih.ok, ih.ge, by have := ih.le; omega, by have := ih.el; omega, ih.pre, ih.ed⟩
structure TInv (B : List Exq) (U : List Int) (n : Nat) (r : List (List Int) × List Bool × List Tr) : Prop where
  ok : LOk2 (2 ^ B.length) U r.1
  al : r.2.1.length ≤ n ∧ r.2.1.length ≤ r.1.length
  el : r.2.2.length ≤ n * 2 ^ B.length
  ll : r.1.length ≤ 64 + 2 ^ B.length
  ed : ∀ e ∈ r.2.2, 0 ≤ e.frm ∧ e.frm < r.1.length ∧ 0 ≤ e.to ∧ e.to < r.1.length ∧ e.care = (ltc B B.length : Nat) ∧ ∃ s : Nat, e.value = (ltv B s B.length : Nat)
theorem tN_inv {B : List Exq} {U : List Int} {L0 : List (List Int)} (h0 : LOk2 (2 ^ B.length) U L0) (hl : L0.length ≤ 2 ^ B.length) : ∀ n, TInv B U n (tN B U L0 n)
  | 0 => ⟨h0, by simp [tN], by simp [tN], by simp only [tN]; omega, fun e he => by simp [tN] at he⟩
  | n + 1 => by
    have ih := tN_inv h0 hl n
    unfold tN
    simp only
    split
    · rename_i hc
      obtain ⟨h1, h2⟩ := hc
      obtain ⟨s, p, e, hs, hp⟩ := ih.ok _ (List.getElem_mem h1)
      have eg : (tN B U L0 n).1.getD n [] = [(s : Int), p] := by rw [List.getD_eq_getElem?_getD, List.getElem?_eq_getElem h1, ← e]; rfl
      have I := trow_inv (B := B) (s := s) (i := n) (p := (phs B U s p).1) (q := ((tN B U L0 n).1, (tN B U L0 n).2.2)) ih.ok (phs_ok (B := B) (s := s) hp) (2 ^ B.length) (Nat.le_refl _)
      simp only [eg, List.getD_cons_zero, List.getD_cons_succ, Int.toNat_natCast]
      have i1 := I.ge
      have i2 := I.le
      have i3 := I.el
      have i4 := ih.al
      have i5 := ih.el
      simp only at i1 i2 i3
      refine ⟨I.ok, by simp only [List.length_append, List.length_singleton]; omega, by simp only [Nat.add_mul]; omega, by simp only; omega, fun e he => ?_⟩
      rcases I.ed e he with h | ⟨e1, e2, e3, e4, e5⟩
      · obtain ⟨f1, f2, f3, f4, f5⟩ := ih.ed e h
        exact ⟨f1, by simp only; omega, f3, by simp only; omega, f5⟩
      · exact ⟨by omega, by simp only; omega, e2, e3, e4, e5⟩
    · have i4 := ih.al
      have i5 := ih.el
      exact ⟨ih.ok, by omega, by rw [Nat.add_mul]; omega, ih.ll, ih.ed⟩
theorem tN_al {B : List Exq} {U : List Int} {L0 : List (List Int)} : ∀ n, (∀ m, m < n → m < (tN B U L0 m).1.length ∧ (tN B U L0 m).1.length ≤ 64) → (tN B U L0 n).2.1.length = n
  | 0, _ => rfl
  | n + 1, h => by
    have ih := tN_al (B := B) (U := U) (L0 := L0) n (fun m hm => h m (by omega))
    unfold tN
    simp only
    rw [if_pos (h n (by omega))]
    simp [ih]
theorem tN_stop {B : List Exq} {U : List Int} {L0 : List (List Int)} {n : Nat} (h : ¬ (n < (tN B U L0 n).1.length ∧ (tN B U L0 n).1.length ≤ 64)) : ∀ m, n ≤ m → tN B U L0 m = tN B U L0 n
  | m, hm => by
    induction m with
    | zero => obtain rfl : n = 0 := by omega
              rfl
    | succ m ih =>
      by_cases e : n = m + 1
      · rw [e]
      · have h1 := ih (by omega)
        rw [tN]
        simp only
        rw [h1, if_neg (by omega)]
theorem tN_big {B : List Exq} {U : List Int} {L0 : List (List Int)} {n : Nat} (h : 64 < (tN B U L0 n).1.length) : ∀ m, n ≤ m → 64 < (tN B U L0 m).1.length := fun m hm => by
  rw [tN_stop (by omega) m hm]; exact h
theorem tN_succ {B : List Exq} {U : List Int} {L0 : List (List Int)} {n : Nat} (h1 : n < (tN B U L0 n).1.length) (h2 : (tN B U L0 n).1.length ≤ 64) {s : Nat} {p : Int} (e : (tN B U L0 n).1[n] = [(s : Int), p]) :
    tN B U L0 (n + 1) = ((trow B n s (phs B U s p).1 (2 ^ B.length) ((tN B U L0 n).1, (tN B U L0 n).2.2)).1, (tN B U L0 n).2.1 ++ [(phs B U s p).2], (trow B n s (phs B U s p).1 (2 ^ B.length) ((tN B U L0 n).1, (tN B U L0 n).2.2)).2) := by
  have eg : (tN B U L0 n).1.getD n [] = [(s : Int), p] := by rw [List.getD_eq_getElem?_getD, List.getElem?_eq_getElem h1, ← e]; rfl
  rw [tN]
  simp only
  rw [if_pos ⟨h1, h2⟩]
  simp only [eg, List.getD_cons_zero, List.getD_cons_succ, Int.toNat_natCast]
noncomputable def ini0 (B : List Exq) (g : Exq) : Nat → List (List Int)
  | 0 => []
  | n + 1 => if val B n g then ini0 B g n ++ [[(n : Int), 0]] else ini0 B g n
theorem ini0_len {B : List Exq} {g : Exq} : ∀ n, (ini0 B g n).length ≤ n
  | 0 => by simp [ini0]
  | n + 1 => by
    have := ini0_len (B := B) (g := g) n
    rw [ini0]
    split
    · simp; omega
    · omega
theorem ini0_ok {B : List Exq} {g : Exq} {U : List Int} : ∀ {n c : Nat}, n ≤ c → LOk2 c U (ini0 B g n)
  | 0, _, _ => fun x hx => by simp [ini0] at hx
  | n + 1, c, h => by
    have ih := ini0_ok (B := B) (g := g) (U := U) (n := n) (c := c) (by omega)
    rw [ini0]
    split
    · intro x hx
      rcases List.mem_append.1 hx with hx | hx
      · exact ih x hx
      · simp at hx; exact ⟨n, 0, hx, by omega, by simp [POk]⟩
    · exact ih
def upto (n : Nat) : List Int := (List.range n).map fun (i : Nat) => (i : Int)
theorem upto_succ {n : Nat} : upto (n + 1) = upto n ++ [(n : Int)] := by simp [upto, List.range_succ]
noncomputable def trT (x : Exq) : List (List Int) × List Bool × List Tr := tN (basics x) (unt (basics x) (basics x).length) (ini0 (basics x) (push x false) (2 ^ (basics x).length)) 64
def trOk (x : Exq) : Prop := bOk x ∧ (trT x).1.length ≤ 64
noncomputable instance {x : Exq} : Decidable (trOk x) := Classical.propDecidable _
noncomputable def trA (x : Exq) : Aut := ⟨upto (ini0 (basics x) (push x false) (2 ^ (basics x).length)).length, if (trT x).1 = [] then [false] else (trT x).2.1, (trT x).2.2⟩
noncomputable def trR (x : Exq) : Aut := if trOk x then trA x else ⟨[], [], []⟩
end Fm
end Go.Proofs.Ytbanccfdojgocaa

namespace Go.Proofs.Ytbanccfdojgocaa
open Go
theorem u64_any {i : Int} : IntKind.u64.wrap i = i % 18446744073709551616 := by simp [IntKind.wrap, IntKind.signed, IntKind.bits]
theorem u64_nn {i : Int} : ¬ IntKind.u64.wrap i < 0 := by rw [u64_any]; omega
theorem u64_pos {i : Int} (h0 : 0 ≤ i) (h1 : i < 9223372036854775808) : IntKind.u64.wrap i = i := by rw [u64_any]; omega
theorem bv_nat {m : Nat} (hm : m < 9223372036854775808) : (BitVec.ofInt 64 (m : Int)).toNat = m := by
  rw [BitVec.toNat_ofInt]
  have : (m : Int) % (2 ^ 64 : Nat) = m := Int.emod_eq_of_lt (by omega) (by omega)
  rw [this]
  rfl
theorem i64_and {a b : Nat} (ha : a < 9223372036854775808) (hb : b < 9223372036854775808) : andI .i64 (a : Int) (b : Int) = ((a &&& b : Nat) : Int) := by
  unfold andI
  rw [show IntKind.i64.bits = 64 from rfl, BitVec.toNat_and, bv_nat ha, bv_nat hb]
  have : a &&& b ≤ a := Nat.and_le_left
  exact wrap64 (by omega) (by omega)
theorem i64_or {a b : Nat} (ha : a < 4611686018427387904) (hb : b < 4611686018427387904) : orI .i64 (a : Int) (b : Int) = ((a ||| b : Nat) : Int) := by
  unfold orI
  rw [show IntKind.i64.bits = 64 from rfl, BitVec.toNat_or, bv_nat (by omega), bv_nat (by omega)]
  have : a ||| b < 2 ^ 62 := Nat.or_lt_two_pow (by omega) (by omega)
  exact wrap64 (by omega) (by omega)
theorem i64_shl1 {j : Nat} (hj : j < 60) : shlI .i64 1 (j : Int) = ((1 <<< j : Nat) : Int) := by
  unfold shlI
  rw [show IntKind.i64.bits = 64 from rfl, Int.toNat_natCast, Nat.min_eq_left (by omega), Nat.shiftLeft_eq]
  have h1 : (2 : Nat) ^ j < 2 ^ 60 := Nat.pow_lt_pow_right (by omega) hj
  have h2 : ((2 : Int) ^ j) = ((2 ^ j : Nat) : Int) := by push_cast; rfl
  rw [h2]
  generalize 2 ^ j = q at *
  rw [wrap64 (by omega) (by omega)]
  simp
theorem i64_shr {s j : Nat} : shrI .i64 (s : Int) (j : Int) = ((s / 2 ^ (min j 64) : Nat) : Int) := by
  unfold shrI
  rw [show IntKind.i64.bits = 64 from rfl, Int.toNat_natCast, Int.fdiv_eq_ediv_of_nonneg _ (by exact Int.le_of_lt (Int.pow_pos (by omega)))]
  push_cast
  rfl
theorem has_eq {s : Nat} {i : Int} (hs : s < 4611686018427387904) (hi : I64 i) : (andI .i64 (shrI .i64 (s : Int) (IntKind.u64.wrap i)) 1 = 1) ↔ Fm.has s i = true := by
  have key : ∀ j : Nat, (andI .i64 (shrI .i64 (s : Int) (j : Int)) 1 = 1) ↔ s / 2 ^ (min j 64) % 2 = 1 := fun j => by
    rw [i64_shr]
    have h1 : s / 2 ^ (min j 64) ≤ s := Nat.div_le_self _ _
    rw [show (1 : Int) = ((1 : Nat) : Int) from rfl, i64_and (by omega) (by omega), Nat.and_one_is_mod]
    omega
  by_cases h0 : 0 ≤ i
  · obtain ⟨n, rfl⟩ : ∃ n : Nat, i = n := ⟨i.toNat, (Int.toNat_of_nonneg h0).symm⟩
    rw [u64_pos h0 hi.2, key, Fm.has_nat, Nat.testBit_eq_decide_div_mod_eq, decide_eq_true_eq]
    by_cases h1 : n ≤ 64
    · rw [Nat.min_eq_left h1]
    · rw [Nat.min_eq_right (by omega)]
      have e1 : s / 2 ^ 64 = 0 := Nat.div_eq_of_lt (by omega)
      have e2 : s / 2 ^ n = 0 := Nat.div_eq_of_lt (Nat.lt_of_lt_of_le (by omega : s < 2 ^ 64) (Nat.pow_le_pow_right (by omega) (by omega)))
      rw [e1, e2]
  · have h2 := hi.1
    obtain ⟨n, hn⟩ : ∃ n : Nat, IntKind.u64.wrap i = n := ⟨(IntKind.u64.wrap i).toNat, by rw [u64_any]; omega⟩
    have hn2 : 64 ≤ n := by rw [u64_any] at hn; omega
    rw [hn, key, Nat.min_eq_right hn2]
    have e1 : s / 2 ^ 64 = 0 := Nat.div_eq_of_lt (by omega)
    rw [e1]
    simp [Fm.has, h0]
end Go.Proofs.Ytbanccfdojgocaa

namespace Go.Proofs.Ytbanccfdojgocaa
open Go
inductive Rch (E : Nat → Nat → Prop) : Nat → Nat → Prop
  | refl (x : Nat) : Rch E x x
  | step {x y z : Nat} (h : E x y) (r : Rch E y z) : Rch E x z
theorem Rch.one {E : Nat → Nat → Prop} {x y : Nat} (h : E x y) : Rch E x y := .step h (.refl y)
theorem Rch.trans {E : Nat → Nat → Prop} {x y z : Nat} (h1 : Rch E x y) (h2 : Rch E y z) : Rch E x z := by
  induction h1 with
  | refl => exact h2
  | step h _ ih => exact .step h (ih h2)
theorem Rch.closed {E : Nat → Nat → Prop} {C : Nat → Prop} (hC : ∀ x y, C x → E x y → C y) {x y : Nat} (h : Rch E x y) (hx : C x) : C y := by
  induction h with
  | refl => exact hx
  | step h _ ih => exact ih (hC _ _ hx h)
def Cyc (E : Nat → Nat → Prop) (x : Nat) : Prop := ∃ y, E x y ∧ Rch E y x
def Scc (E : Nat → Nat → Prop) (x y : Nat) : Prop := Rch E x y ∧ Rch E y x
structure TS where
  num : Nat → Int
  low : Nat → Int
  part : Nat → Int
  stk : List Nat
  cnt : Int
  prt : Int
def fput (f : Nat → Int) (i : Nat) (v : Int) : Nat → Int := fun x => if x = i then v else f x
@[simp] theorem fput_self {f : Nat → Int} {i : Nat} {v : Int} : fput f i v i = v := by simp [fput]
theorem fput_ne {f : Nat → Int} {i x : Nat} {v : Int} (h : x ≠ i) : fput f i v x = f x := by simp [fput, h]
structure TI (n : Nat) (E : Nat → Nat → Prop) (gr : Nat → Prop) (s : TS) : Prop where
  num : ∀ x, x < n → 0 ≤ s.num x ∧ s.num x ≤ s.cnt
  cnt : 0 ≤ s.prt ∧ s.prt + s.stk.length ≤ s.cnt
  mem : ∀ x, x ∈ s.stk ↔ x < n ∧ s.num x ≠ 0 ∧ s.part x < 0
  ord : s.stk.Pairwise fun x y => s.num x < s.num y
  new : ∀ x, x < n → s.num x = 0 → s.part x < 0
  done : ∀ x y, x < n → 0 ≤ s.part x → E x y → 0 ≤ s.part y
  bnd : ∀ x, x < n → -1 ≤ s.part x ∧ s.part x < s.prt
  scc : ∀ x y, x < n → y < n → 0 ≤ s.part x → 0 ≤ s.part y → (s.part x = s.part y ↔ Scc E x y)
  s1 : ∀ x y, x ∈ s.stk → y ∈ s.stk → s.num x ≤ s.num y → Rch E x y
  s2 : ∀ x, x ∈ s.stk → ∃ g, gr g ∧ g ∈ s.stk ∧ s.num g ≤ s.num x ∧ Rch E x g
structure TV (n : Nat) (E : Nat → Nat → Prop) (gr : Nat → Prop) (s : TS) (a : Nat) (s' : TS) : Prop where
  inv : TI n E gr s'
  num : ∀ x, x < n → s.num x ≠ 0 → s'.num x = s.num x ∧ s'.low x = s.low x
  part : ∀ x, x < n → 0 ≤ s.part x → s'.part x = s.part x
  stk : ∃ w, s'.stk = s.stk ++ w ∧ ∀ x ∈ w, s.num x = 0
  vis : s'.num a ≠ 0
  cnt : s.cnt ≤ s'.cnt
  fresh : ∀ x, x < n → s.num x = 0 → s'.num x ≠ 0 → s.cnt < s'.num x
  black : ∀ x, x < n → s.num x = 0 → s'.num x ≠ 0 → ∀ y, E x y → s'.num y ≠ 0
  low : s'.low a = s'.num a ∨ ∃ y ∈ s.stk, s'.low a = s.num y ∧ Rch E a y
  min : ∀ x ∈ s'.stk, s.num x = 0 → ∀ y ∈ s.stk, E x y → s'.low a ≤ s.num y
structure TL (n : Nat) (E : Nat → Nat → Prop) (gr : Nat → Prop) (s : TS) (a : Nat) (sc : Nat → Prop) (s' : TS) : Prop where
  inv : TI n E (fun g => gr g ∨ g = a) s'
  num : ∀ x, x < n → s.num x ≠ 0 → s'.num x = s.num x ∧ s'.low x = s.low x
  part : ∀ x, x < n → 0 ≤ s.part x → s'.part x = s.part x
  stk : ∃ w, s'.stk = s.stk ++ a :: w ∧ ∀ x ∈ w, s.num x = 0 ∧ x ≠ a
  na : s'.num a = s.cnt + 1
  cnt : s.cnt + 1 ≤ s'.cnt
  fresh : ∀ x, x < n → s.num x = 0 → s'.num x ≠ 0 → x ≠ a → s.cnt + 1 < s'.num x
  black : ∀ x, x < n → x ≠ a → s.num x = 0 → s'.num x ≠ 0 → ∀ y, E x y → s'.num y ≠ 0
  lowa : s'.low a ≤ s.cnt + 1
  low : s'.low a = s'.num a ∨ ∃ y ∈ s.stk, s'.low a = s.num y ∧ Rch E a y
  min : ∀ x ∈ s'.stk, x ≠ a → s.num x = 0 → ∀ y ∈ s.stk, E x y → s'.low a ≤ s.num y
  proc : ∀ y, sc y → y < n ∧ s'.num y ≠ 0 ∧ (y ∈ s.stk → s'.low a ≤ s.num y)
def TS.push (s : TS) (a : Nat) : TS := { s with num := fput s.num a (s.cnt + 1), low := fput s.low a (s.cnt + 1), stk := s.stk ++ [a], cnt := s.cnt + 1 }
def TS.lower (s : TS) (a : Nat) (v : Int) : TS := { s with low := fput s.low a (min (s.low a) v) }
section
variable {n : Nat} {E : Nat → Nat → Prop} {gr : Nat → Prop} {s s1 s2 : TS} {a b : Nat} {sc : Nat → Prop}
theorem TI.stk_lt (h : TI n E gr s) {x : Nat} (hx : x ∈ s.stk) : x < n := ((h.mem x).1 hx).1
theorem TI.stk_num (h : TI n E gr s) {x : Nat} (hx : x ∈ s.stk) : s.num x ≠ 0 := ((h.mem x).1 hx).2.1
theorem TL.start (hE : ∀ x y, E x y → x < n ∧ y < n) (h : TI n E gr s) (ha : a < n) (h0 : s.num a = 0) (hg : ∀ g, gr g → g ∈ s.stk → Rch E g a) : TL n E gr s a (fun _ => False) (s.push a) := by
  have hc := h.cnt
  have hns : ∀ x, x ∈ s.stk → x ≠ a := fun x hx e => h.stk_num hx (e ▸ h0)
  refine ⟨⟨?_, ?_, ?_, ?_, ?_, h.done, h.bnd, h.scc, ?_, ?_⟩, ?_, fun _ _ _ => rfl, ⟨[], by simp [TS.push], by simp⟩, by simp [TS.push], by simp [TS.push], ?_, ?_, by simp [TS.push], .inl (by simp [TS.push]), ?_, fun y hy => hy.elim⟩
  · intro x hx
    have := h.num x hx
    by_cases e : x = a
    · subst e; simp [TS.push]; omega
    · simp [TS.push, fput_ne e]; omega
  · simp [TS.push]; omega
  · intro x
    by_cases e : x = a
    · subst e
      simp only [TS.push, List.mem_append, List.mem_singleton, or_true, fput_self, true_iff]
      exact ⟨ha, by omega, h.new _ ha h0⟩
    · simp only [TS.push, List.mem_append, List.mem_singleton, e, or_false, fput_ne e]
      exact h.mem x
  · simp only [TS.push, List.pairwise_append]
    refine ⟨h.ord.imp_of_mem ?_, List.pairwise_singleton _ _, ?_⟩
    · intro x y hx hy hxy
      rw [fput_ne (hns x hx), fput_ne (hns y hy)]; exact hxy
    · intro x hx y hy
      obtain rfl : y = a := by simpa using hy
      rw [fput_ne (hns x hx)]
      have := h.num x (h.stk_lt hx)
      simp; omega
  · intro x hx hx0
    by_cases e : x = a
    · subst e; exact h.new _ hx h0
    · simp only [TS.push, fput_ne e] at hx0; exact h.new _ hx hx0
  · intro x y hx hy hxy
    simp only [TS.push, List.mem_append, List.mem_singleton] at hx hy hxy
    rcases hx with hx | rfl
    · rcases hy with hy | rfl
      · rw [fput_ne (hns x hx), fput_ne (hns y hy)] at hxy
        exact h.s1 x y hx hy hxy
      · obtain ⟨g, g1, g2, _, g4⟩ := h.s2 x hx
        exact g4.trans (hg g g1 g2)
    · rcases hy with hy | rfl
      · rw [fput_self, fput_ne (hns y hy)] at hxy
        have := h.num y (h.stk_lt hy)
        omega
      · exact .refl _
  · intro x hx
    simp only [TS.push, List.mem_append, List.mem_singleton] at hx ⊢
    rcases hx with hx | rfl
    · obtain ⟨g, g1, g2, g3, g4⟩ := h.s2 x hx
      exact ⟨g, .inl g1, .inl g2, by rw [fput_ne (hns g g2), fput_ne (hns x hx)]; exact g3, g4⟩
    · exact ⟨x, .inr rfl, .inr rfl, Int.le_refl _, .refl _⟩
  · intro x hx hx0
    have e : x ≠ a := fun e => hx0 (e ▸ h0)
    simp [TS.push, fput_ne e]
  · intro x hx hx0 hx1 e
    simp only [TS.push, fput_ne e] at hx1; exact absurd hx0 hx1
  · intro x hx e hx0 hx1
    simp only [TS.push, fput_ne e] at hx1; exact absurd hx0 hx1
  · intro x hx e hx0
    simp only [TS.push, List.mem_append, List.mem_singleton, e, or_false] at hx
    exact absurd hx0 (h.stk_num hx)
theorem TL.lower (h : TL n E gr s a sc s1) {v : Int} (hab : E a b) (hE : ∀ x y, E x y → x < n ∧ y < n) (ha0 : s.num a = 0) (hi : TI n E gr s)
    (hb : s1.num b ≠ 0) (hv : v < s1.low a → ∃ y ∈ s.stk, v = s.num y ∧ Rch E b y) (hsb : b ∈ s.stk → v ≤ s.num b) : TL n E gr s a (fun y => sc y ∨ y = b) (s1.lower a v) := by
  refine ⟨⟨h.inv.num, h.inv.cnt, h.inv.mem, h.inv.ord, h.inv.new, h.inv.done, h.inv.bnd, h.inv.scc, h.inv.s1, h.inv.s2⟩, ?_, h.part, h.stk, h.na, h.cnt, h.fresh, h.black, ?_, ?_, ?_, ?_⟩
  · intro x hx hx0
    have e : x ≠ a := fun e => hx0 (e ▸ ha0)
    exact ⟨(h.num x hx hx0).1, by simp only [TS.lower, fput_ne e]; exact (h.num x hx hx0).2⟩
  · have := h.lowa; simp [TS.lower]; omega
  · simp only [TS.lower, fput_self]
    by_cases hlt : v < s1.low a
    · obtain ⟨y, h1, h2, h3⟩ := hv hlt
      exact .inr ⟨y, h1, by omega, .step hab h3⟩
    · rw [Int.min_eq_left (by omega)]; exact h.low
  · intro x hx e hx0 y hy hxy
    have := h.min x hx e hx0 y hy hxy
    simp only [TS.lower, fput_self]; omega
  · rintro y (hy | rfl)
    · have := h.proc y hy
      exact ⟨this.1, this.2.1, fun hm => by have := this.2.2 hm; simp only [TS.lower, fput_self]; omega⟩
    · exact ⟨(hE _ _ hab).2, hb, fun hm => by have := hsb hm; simp only [TS.lower, fput_self]; omega⟩
theorem TL.skip (h : TL n E gr s a sc s1) (hi : TI n E gr s) (hbn : b < n) (hb : s1.num b ≠ 0) (hp : 0 ≤ s1.part b) : TL n E gr s a (fun y => sc y ∨ y = b) s1 := by
  refine ⟨h.inv, h.num, h.part, h.stk, h.na, h.cnt, h.fresh, h.black, h.lowa, h.low, h.min, ?_⟩
  rintro y (hy | rfl)
  · exact h.proc y hy
  · refine ⟨hbn, hb, fun hm => ?_⟩
    obtain ⟨w, hw, _⟩ := h.stk
    have : y ∈ s1.stk := by rw [hw]; simp [hm]
    have := ((h.inv.mem y).1 this).2.2
    omega
theorem TL.seen (h : TL n E gr s a sc s1) (hab : E a b) (hE : ∀ x y, E x y → x < n ∧ y < n) (ha0 : s.num a = 0) (hi : TI n E gr s) (hb : s1.num b ≠ 0) (hp : s1.part b < 0) : TL n E gr s a (fun y => sc y ∨ y = b) (s1.lower a (s1.num b)) := by
  have hbn := (hE _ _ hab).2
  refine h.lower hab hE ha0 hi hb ?_ ?_
  · intro hlt
    have hm : b ∈ s1.stk := (h.inv.mem b).2 ⟨hbn, hb, hp⟩
    obtain ⟨w, hw, hw2⟩ := h.stk
    rw [hw] at hm
    have hl := h.lowa
    rcases List.mem_append.1 hm with hm | hm
    · exact ⟨b, hm, (h.num b hbn (hi.stk_num hm)).1, .refl _⟩
    · exfalso
      rcases List.mem_cons.1 hm with rfl | hm
      · have := h.na; omega
      · have h1 := hw2 b hm
        have := h.fresh b hbn h1.1 hb h1.2
        omega
  · intro hm
    rw [(h.num b hbn (hi.stk_num hm)).1]; exact Int.le_refl _
theorem TL.visit (h : TL n E gr s a sc s1) (hab : E a b) (hE : ∀ x y, E x y → x < n ∧ y < n) (ha0 : s.num a = 0) (hi : TI n E gr s) (hb0 : s1.num b = 0) (hv : TV n E (fun g => gr g ∨ g = a) s1 b s2) :
    TL n E gr s a (fun y => sc y ∨ y = b) (s2.lower a (s2.low b)) := by
  have han := (hE _ _ hab).1
  have hbn := (hE _ _ hab).2
  have hna := h.na
  have hc := hi.cnt
  have hc1 := h.inv.cnt
  obtain ⟨w, hw, hw2⟩ := h.stk
  obtain ⟨w2, hw3, hw4⟩ := hv.stk
  have ha1 : s1.num a ≠ 0 := by omega
  have hkeep : ∀ x, x < n → s.num x ≠ 0 → s1.num x ≠ 0 := fun x hx h0 => by rw [(h.num x hx h0).1]; exact h0
  have hb00 : s.num b = 0 := by
    by_cases h0 : s.num b = 0
    · exact h0
    · exact absurd hb0 (hkeep b hbn h0)
  have hva := hv.num a han ha1
  have hla : (s2.lower a (s2.low b)).low a = Min.min (s1.low a) (s2.low b) := by simp [TS.lower, hva.2]
  have hlow : s2.low b < s1.low a → ∃ y ∈ s.stk, s2.low b = s.num y ∧ Rch E b y := by
    intro hlt
    have hl := h.lowa
    rcases hv.low with h1 | ⟨y, hy, h2, h3⟩
    · have := hv.fresh b hbn hb0 hv.vis
      have := h.cnt
      omega
    · rw [hw] at hy
      rcases List.mem_append.1 hy with hm | hm
      · exact ⟨y, hm, by rw [h2, (h.num y (hi.stk_lt hm) (hi.stk_num hm)).1], h3⟩
      · exfalso
        rcases List.mem_cons.1 hm with rfl | hm
        · omega
        · have h4 := hw2 y hm
          have hyn : y < n := h.inv.stk_lt (by rw [hw]; simp [hm])
          have := h.fresh y hyn h4.1 (h.inv.stk_num (by rw [hw]; simp [hm])) h4.2
          omega
  refine ⟨⟨hv.inv.num, hv.inv.cnt, hv.inv.mem, hv.inv.ord, hv.inv.new, hv.inv.done, hv.inv.bnd, hv.inv.scc, hv.inv.s1, hv.inv.s2⟩, ?_, ?_, ⟨w ++ w2, by show s2.stk = _; rw [hw3, hw]; simp, ?_⟩, by show s2.num a = _; rw [hva.1]; exact hna, Int.le_trans h.cnt hv.cnt, ?_, ?_, by have := h.lowa; rw [hla]; omega, ?_, ?_, ?_⟩
  · intro x hx hx0
    have e1 := h.num x hx hx0
    have e2 := hv.num x hx (hkeep x hx hx0)
    have e : x ≠ a := fun e => hx0 (e ▸ ha0)
    exact ⟨by show s2.num x = _; rw [e2.1, e1.1], by simp only [TS.lower, fput_ne e]; rw [e2.2, e1.2]⟩
  · intro x hx hx0
    have e1 := h.part x hx hx0
    show s2.part x = _
    rw [hv.part x hx (by rw [e1]; exact hx0), e1]
  · intro x hx
    rcases List.mem_append.1 hx with hx | hx
    · exact hw2 x hx
    · have h1 := hw4 x hx
      have hxn : x < n := hv.inv.stk_lt (by rw [hw3]; simp [hx])
      refine ⟨?_, fun e => ha1 (e ▸ h1)⟩
      by_cases h0 : s.num x = 0
      · exact h0
      · exact absurd h1 (hkeep x hxn h0)
  · intro x hx hx0 hx2 e
    show s.cnt + 1 < s2.num x
    by_cases h1 : s1.num x = 0
    · have := hv.fresh x hx h1 hx2
      have := h.cnt
      omega
    · have := h.fresh x hx hx0 h1 e
      rw [(hv.num x hx h1).1]; exact this
  · intro x hx e hx0 hx2 y hxy
    show s2.num y ≠ 0
    by_cases h1 : s1.num x = 0
    · exact hv.black x hx h1 hx2 y hxy
    · have h3 := h.black x hx e hx0 h1 y hxy
      rw [(hv.num y (hE _ _ hxy).2 h3).1]; exact h3
  · rw [hla]
    by_cases hlt : s2.low b < s1.low a
    · obtain ⟨y, h1, h2, h3⟩ := hlow hlt
      exact .inr ⟨y, h1, by rw [Int.min_eq_right (Int.le_of_lt hlt)]; exact h2, .step hab h3⟩
    · rw [Int.min_eq_left (Int.not_lt.1 hlt)]
      rcases h.low with h1 | h1
      · exact .inl (by rw [h1]; exact hva.1.symm)
      · exact .inr h1
  · intro x hx e hx0 y hy hxy
    rw [hla]
    clear hlow
    by_cases h1 : s1.num x = 0
    · have h3 := hv.min x hx h1 y (by rw [hw]; simp [hy]) hxy
      rw [(h.num y (hi.stk_lt hy) (hi.stk_num hy)).1] at h3
      omega
    · have h3 := h.min x (by
        have hx : x ∈ s2.stk := hx
        rw [hw3] at hx
        rcases List.mem_append.1 hx with hx | hx
        · exact hx
        · exact absurd (hw4 x hx) h1) e hx0 y hy hxy
      omega
  · clear hlow
    rintro y (hy | rfl)
    · have h1 := h.proc y hy
      refine ⟨h1.1, ?_, fun hm => ?_⟩
      · show s2.num y ≠ 0
        rw [(hv.num y h1.1 h1.2.1).1]; exact h1.2.1
      · have := h1.2.2 hm
        rw [hla]; omega
    · exact ⟨hbn, hv.vis, fun hm => absurd hb00 (hi.stk_num hm)⟩
theorem TI.done_all (h : TI n E (fun _ => False) s) : s.stk = [] := by
  cases hs : s.stk with
  | nil => rfl
  | cons x l =>
    obtain ⟨g, hg, _⟩ := h.s2 x (by rw [hs]; simp)
    exact hg.elim
theorem TI.start (h0 : ∀ x, x < n → s.num x = 0) (h1 : ∀ x, x < n → s.part x = -1) (h2 : s.stk = []) (h3 : s.cnt = 0) (h4 : s.prt = 0) : TI n E (fun _ => False) s := by
  refine ⟨fun x hx => by rw [h0 x hx, h3]; omega, by rw [h2, h3, h4]; simp, fun x => ?_, by rw [h2]; simp, fun x hx _ => by rw [h1 x hx]; omega, fun x y hx hp => by rw [h1 x hx] at hp; omega, fun x hx => by rw [h1 x hx, h4]; omega, fun x y hx _ hp => by rw [h1 x hx] at hp; omega, fun x y hx => by rw [h2] at hx; simp at hx, fun x hx => by rw [h2] at hx; simp at hx⟩
  rw [h2]
  constructor
  · intro h; simp at h
  · rintro ⟨h5, h6, _⟩; exact absurd (h0 x h5) h6
theorem TI.result (h : TI n E (fun _ => False) s) (hall : ∀ x, x < n → s.num x ≠ 0) : (∀ x, x < n → 0 ≤ s.part x) ∧ ∀ x y, x < n → y < n → (s.part x = s.part y ↔ Scc E x y) := by
  have h1 : ∀ x, x < n → 0 ≤ s.part x := by
    intro x hx
    have := h.mem x
    rw [h.done_all] at this
    by_cases hp : 0 ≤ s.part x
    · exact hp
    · have h2 := this.2 ⟨hx, hall x hx, by omega⟩
      simp at h2
  exact ⟨h1, fun x y hx hy => h.scc x y hx hy (h1 x hx) (h1 y hy)⟩
end
structure Srch (E : Nat → Nat → Prop) (S B td : Nat → Prop) : Prop where
  sound : ∀ x, B x → ∃ s, S s ∧ Rch E s x
  start : ∀ s, S s → B s
  closed : ∀ x y, B x → ¬ td x → E x y → B y
theorem Rch.snoc {E : Nat → Nat → Prop} {x y z : Nat} (h : Rch E x y) (e : E y z) : Rch E x z := h.trans (.one e)
section
variable {E : Nat → Nat → Prop} {S B B' td td' : Nat → Prop}
theorem Srch.done (h : Srch E S B td) (h0 : ∀ x, ¬ td x) {x : Nat} : B x ↔ ∃ s, S s ∧ Rch E s x :=
  ⟨h.sound x, fun ⟨s, hs, hr⟩ => hr.closed (fun u v hu huv => h.closed u v hu (h0 u) huv) (h.start s hs)⟩
theorem Srch.add (h : Srch E S B td) {x y : Nat} (hx : B x) (hxy : E x y) (hB : ∀ z, B' z ↔ B z ∨ z = y) (ht : ∀ z, td' z ↔ td z ∨ z = y) : Srch E S B' td' := by
  refine ⟨fun z hz => ?_, fun s hs => (hB s).2 (.inl (h.start s hs)), fun u v hu htd huv => ?_⟩
  · rcases (hB z).1 hz with hz | rfl
    · exact h.sound z hz
    · obtain ⟨s, hs, hr⟩ := h.sound x hx
      exact ⟨s, hs, hr.snoc hxy⟩
  · rw [ht] at htd
    rcases (hB u).1 hu with hu | rfl
    · exact (hB v).2 (.inl (h.closed u v hu (fun h => htd (.inl h)) huv))
    · exact absurd (.inr rfl) htd
theorem Srch.drop (h : Srch E S B td) {x : Nat} (hx : ∀ y, E x y → B y) (ht : ∀ z, td z → td' z ∨ z = x) : Srch E S B td' := by
  refine ⟨h.sound, h.start, fun u v hu htd huv => ?_⟩
  by_cases e : u = x
  · subst e; exact hx v huv
  · exact h.closed u v hu (fun h1 => (ht u h1).elim htd e) huv
theorem Srch.init (hB : ∀ x, B x ↔ S x) (ht : ∀ x, S x → td x) : Srch E S B td :=
  ⟨fun x hx => ⟨x, (hB x).1 hx, .refl x⟩, fun s hs => (hB s).2 hs, fun x y hx hn _ => absurd (ht x ((hB x).1 hx)) hn⟩
theorem Srch.congr (h : Srch E S B td) (hB : ∀ x, B x ↔ B' x) (ht : ∀ x, td x ↔ td' x) : Srch E S B' td' :=
  ⟨fun x hx => h.sound x ((hB x).2 hx), fun s hs => (hB s).1 (h.start s hs), fun x y hx hn hxy => (hB y).1 (h.closed x y ((hB x).2 hx) (fun ht' => hn ((ht x).1 ht')) hxy)⟩
end
def tru (B : List Bool) (x : Nat) : Prop := B.getD x false = true
structure Adj (E : Nat → Nat → Prop) (G : List (List Int)) : Prop where
  lt : ∀ x y, E x y → x < G.length ∧ y < G.length
  mem : ∀ x (hx : x < G.length) z, z ∈ G[x] ↔ ∃ y : Nat, z = y ∧ E x y
theorem Adj.get {E : Nat → Nat → Prop} {G : List (List Int)} (h : Adj E G) {x j : Nat} (hx : x < G.length) (hj : j < G[x].length) : ∃ y : Nat, G[x][j] = (y : Int) ∧ E x y ∧ y < G.length := by
  obtain ⟨y, h1, h2⟩ := (h.mem x hx _).1 (List.getElem_mem hj)
  exact ⟨y, h1, h2, (h.lt x y h2).2⟩
theorem Adj.of {E : Nat → Nat → Prop} {G : List (List Int)} (h : Adj E G) {x y : Nat} (hxy : E x y) : ∃ (hx : x < G.length) (j : Nat) (hj : j < G[x].length), G[x][j] = (y : Int) := by
  have hx := (h.lt x y hxy).1
  obtain ⟨j, hj, h1⟩ := List.mem_iff_getElem.1 ((h.mem x hx y).2 ⟨y, rfl, hxy⟩)
  exact ⟨hx, j, hj, h1⟩
theorem Adj.all {E : Nat → Nat → Prop} {G : List (List Int)} (h : Adj E G) {x : Nat} (hx : x < G.length) {C : Nat → Prop} (hC : ∀ j (hj : j < G[x].length), ∀ y : Nat, G[x][j] = (y : Int) → C y) {y : Nat} (hxy : E x y) : C y := by
  obtain ⟨_, j, hj, h1⟩ := h.of hxy
  exact hC j hj y h1
def Aut.E (a : Aut) (x y : Nat) : Prop := ∃ e ∈ a.edges, e.frm = x ∧ e.to = y
theorem Aut.E_lt {a : Aut} (ha : a.Ok) (x y : Nat) (h : a.E x y) : x < a.acc.length ∧ y < a.acc.length := by
  obtain ⟨e, he, h1, h2⟩ := h
  have := ha.2.2.2 e he
  unfold Tr.Ok at this
  omega
def Aut.Reach (a : Aut) (q : Nat) : Prop := ∃ s : Nat, (s : Int) ∈ a.init ∧ Rch a.E s q
def Aut.Live (a : Aut) (q : Nat) : Prop := ∃ t, Rch a.E q t ∧ Cyc a.E t ∧ tru a.acc t
def kidx (K : Nat → Bool) (q : Nat) : Nat := ((List.range q).filter K).length
theorem kidx_succ {K : Nat → Bool} {q : Nat} : kidx K (q + 1) = kidx K q + if K q then 1 else 0 := by
  simp only [kidx, List.range_succ, List.filter_append, List.length_append, List.filter_cons, List.filter_nil]
  split <;> simp
theorem kidx_le {K : Nat → Bool} {q : Nat} : kidx K q ≤ q := by
  have := List.length_filter_le K (List.range q)
  simpa [kidx] using this
def Tr.ren (f : Int → Int) (e : Tr) : Tr := ⟨f e.frm, e.care, e.value, f e.to⟩
def kout (K : Nat → Bool) (x : Int) : Int := kidx K x.toNat
def Aut.keep (a : Aut) (K : Nat → Bool) : Aut :=
  if kidx K a.acc.length = 0 then ⟨[], [false], []⟩ else
    ⟨(a.init.filter fun q => K q.toNat).map (kout K), ((List.range a.acc.length).filter K).map fun q => a.acc.getD q false,
     (a.edges.filter fun e => K e.frm.toNat && K e.to.toNat).map (Tr.ren (kout K))⟩
theorem incr_map {n m : Int} {K : Nat → Bool} : ∀ {lo lo' : Int} {l : List Int}, incr n lo l → (∀ x ∈ l, K x.toNat = true) → -1 ≤ lo → (0 ≤ lo → lo' < kidx K (lo.toNat + 1)) → (lo < 0 → lo' < 0) → (∀ x ∈ l, (kidx K (x.toNat + 1) : Int) ≤ m) → incr m lo' (l.map (kout K))
  | lo, lo', [], _, _, _, _, _, _ => trivial
  | lo, lo', x :: l, h, hK, h0, h1, h2, hm => by
    have hx := hK x (by simp)
    have hlx := h.1
    have mono : ∀ p q : Nat, p ≤ q → kidx K p ≤ kidx K q := by
      intro p q hpq
      induction hpq with
      | refl => exact Nat.le_refl _
      | step _ ih => rw [kidx_succ]; omega
    have hs := kidx_succ (K := K) (q := x.toNat)
    rw [if_pos hx] at hs
    have hmx := hm x (by simp)
    refine ⟨?_, ?_, incr_map h.2.2 (fun y hy => hK y (by simp [hy])) (by omega) (fun _ => ?_) (fun hneg => ?_) (fun y hy => hm y (by simp [hy]))⟩
    · unfold kout
      by_cases hl : 0 ≤ lo
      · have := h1 hl
        have := mono (lo.toNat + 1) x.toNat (by omega)
        omega
      · have := h2 (by omega); omega
    · unfold kout; omega
    · unfold kout; omega
    · omega
theorem incr_filter {n : Int} {p : Int → Bool} : ∀ {lo : Int} {l : List Int}, incr n lo l → incr n lo (l.filter p)
  | _, [], _ => trivial
  | lo, x :: l, h => by
    have weak : ∀ {lo lo' : Int} {l : List Int}, lo' ≤ lo → incr n lo l → incr n lo' l := by
      intro lo lo' l hle h
      cases l with
      | nil => trivial
      | cons y l => exact ⟨by have := h.1; omega, h.2.1, h.2.2⟩
    by_cases hp : p x = true
    · rw [List.filter_cons_of_pos hp]; exact ⟨h.1, h.2.1, incr_filter h.2.2⟩
    · rw [List.filter_cons_of_neg hp]; exact weak (by have := h.1; omega) (incr_filter h.2.2)
theorem kidx_mono {K : Nat → Bool} {p q : Nat} (hpq : p ≤ q) : kidx K p ≤ kidx K q := by
  induction hpq with
  | refl => exact Nat.le_refl _
  | step _ ih => rw [kidx_succ]; omega
theorem kout_lt {K : Nat → Bool} {n : Nat} {x : Int} (h0 : 0 ≤ x) (hx : x < n) (hK : K x.toNat = true) : kout K x < kidx K n := by
  have h1 := kidx_succ (K := K) (q := x.toNat)
  rw [if_pos hK] at h1
  have h2 := kidx_mono (K := K) (show x.toNat + 1 ≤ n by omega)
  unfold kout; omega
theorem Aut.keep_len {a : Aut} {K : Nat → Bool} (h : kidx K a.acc.length ≠ 0) : (a.keep K).acc.length = kidx K a.acc.length := by
  unfold Aut.keep
  rw [if_neg h]
  simp [kidx]
theorem Aut.keep_ok {a : Aut} (ha : a.Ok) (K : Nat → Bool) : (a.keep K).Ok := by
  by_cases h0 : kidx K a.acc.length = 0
  · simp [Aut.keep, h0, Aut.Ok, incr]
  have hl := Aut.keep_len h0
  have hn := ha.n
  refine ⟨?_, ?_, ?_, ?_⟩
  · rw [hl]
    have := kidx_le (K := K) (q := a.acc.length)
    omega
  · simp only [Aut.keep, h0, if_false, List.length_map]
    exact Nat.le_trans (List.length_filter_le _ _) ha.e
  · rw [hl]
    simp only [Aut.keep, h0, if_false]
    refine incr_map (incr_filter ha.i) (fun x hx => (List.mem_filter.1 hx).2) (by omega) (by omega) (by omega) ?_
    intro x hx
    have h1 := incr_mem ha.i x (List.mem_filter.1 hx).1
    have := kidx_mono (K := K) (show x.toNat + 1 ≤ a.acc.length by omega)
    omega
  · rw [hl]
    simp only [Aut.keep, h0, if_false]
    intro t ht
    obtain ⟨e, he, rfl⟩ := List.mem_map.1 ht
    obtain ⟨he, hk⟩ := List.mem_filter.1 he
    simp only [Bool.and_eq_true] at hk
    have h1 := ha.2.2.2 e he
    unfold Tr.Ok at h1 ⊢
    have h2 := kout_lt h1.1 h1.2.1 hk.1
    have h3 := kout_lt h1.2.2.1 h1.2.2.2.1 hk.2
    simp only [Tr.ren]
    refine ⟨?_, h2, ?_, h3, h1.2.2.2.2⟩ <;> (unfold kout; omega)
noncomputable def Aut.tkeep (a : Aut) : Nat → Bool := fun q => @decide (a.Reach q ∧ a.Live q) (Classical.propDecidable _)
noncomputable def Aut.trim (a : Aut) : Aut := a.keep a.tkeep
end Go.Proofs.Ytbanccfdojgocaa

namespace Go.Proofs.Ytbanccfdojgocaa
open Go
structure NextI (a : Aut) (k : Nat) (G : List (List Int)) : Prop where
  len : G.length = a.acc.length
  mem : ∀ x (hx : x < G.length) z, z ∈ G[x] ↔ ∃ e ∈ a.edges.take k, e.frm = x ∧ e.to = z
  le : ∀ x (hx : x < G.length), G[x].length ≤ k
theorem NextI.zero {a : Aut} : NextI a 0 (List.replicate a.acc.length []) := ⟨by simp, by simp, by simp⟩
theorem NextI.step {a : Aut} {k : Nat} {G : List (List Int)} (h : NextI a k G) (hk : k < a.edges.length) {f t : Nat} (hf : a.edges[k].frm = f) (ht : a.edges[k].to = t) (hfG : f < G.length) : NextI a (k + 1) (G.set f (G[f] ++ [(t : Int)])) := by
  refine ⟨by simp [h.len], ?_, ?_⟩
  · intro x hx z
    have hx' : x < G.length := by simpa using hx
    rw [List.getElem_set, List.take_add_one, List.getElem?_eq_getElem hk]
    simp only [Option.toList_some, List.mem_append, List.mem_singleton]
    by_cases e : f = x
    · subst e
      simp only [if_true, List.mem_append, List.mem_singleton, h.mem f hx']
      constructor
      · rintro (⟨e, h1, h2⟩ | rfl)
        · exact ⟨e, .inl h1, h2⟩
        · exact ⟨_, .inr rfl, hf, ht⟩
      · rintro ⟨e, h1 | rfl, h2, h3⟩
        · exact .inl ⟨e, h1, h2, h3⟩
        · exact .inr (by rw [← h3, ht])
    · rw [if_neg e, h.mem x hx']
      constructor
      · rintro ⟨e, h1, h2⟩; exact ⟨e, .inl h1, h2⟩
      · rintro ⟨e', h1 | rfl, h2, h3⟩
        · exact ⟨e', h1, h2, h3⟩
        · rw [hf] at h2; omega
  · intro x hx
    have hx' : x < G.length := by simpa using hx
    rw [List.getElem_set]
    have := h.le x hx'
    split
    · rename_i e; subst e; simp; omega
    · omega
theorem NextI.skip {a : Aut} {k : Nat} {G : List (List Int)} (h : NextI a k G) (hk : k < a.edges.length) {f t : Nat} (hf : a.edges[k].frm = f) (ht : a.edges[k].to = t) (hfG : f < G.length) (hm : (t : Int) ∈ G[f]) : NextI a (k + 1) G := by
  refine ⟨h.len, ?_, fun x hx => by have := h.le x hx; omega⟩
  intro x hx z
  rw [List.take_add_one, List.getElem?_eq_getElem hk, h.mem x hx]
  simp only [Option.toList_some, List.mem_append, List.mem_singleton]
  constructor
  · rintro ⟨e, h1, h2⟩; exact ⟨e, .inl h1, h2⟩
  · rintro ⟨e', h1 | rfl, h2, h3⟩
    · exact ⟨e', h1, h2, h3⟩
    · rw [hf] at h2
      obtain rfl : f = x := by omega
      rw [← h3, ht]
      exact (h.mem f hfG _).1 hm
theorem NextI.done {a : Aut} {k : Nat} {G : List (List Int)} (ha : a.Ok) (h : NextI a k G) (hk : a.edges.length ≤ k) : Adj a.E G := by
  refine ⟨fun x y hxy => by rw [h.len]; exact a.E_lt ha x y hxy, fun x hx z => ?_⟩
  rw [h.mem x hx, List.take_of_length_le hk]
  constructor
  · rintro ⟨e, he, h1, h2⟩
    have h3 := ha.2.2.2 e he
    unfold Tr.Ok at h3
    exact ⟨e.to.toNat, by omega, e, he, h1, by omega⟩
  · rintro ⟨y, rfl, e, he, h1, h2⟩
    exact ⟨e, he, h1, h2⟩
end Go.Proofs.Ytbanccfdojgocaa

namespace Go.Proofs.Ytbanccfdojgocaa
open Go
theorem incr_iff {n : Int} : ∀ {lo : Int} {l : List Int}, incr n lo l ↔ l.Pairwise (· < ·) ∧ ∀ x ∈ l, lo < x ∧ x < n
  | lo, [] => by simp [incr]
  | lo, x :: l => by
    rw [show incr n lo (x :: l) ↔ lo < x ∧ x < n ∧ incr n x l from Iff.rfl, incr_iff, List.pairwise_cons]
    constructor
    · rintro ⟨h1, h2, h3, h4⟩
      refine ⟨⟨fun y hy => (h4 y hy).1, h3⟩, fun y hy => ?_⟩
      rcases List.mem_cons.1 hy with rfl | hy
      · exact ⟨h1, h2⟩
      · have := h4 y hy; omega
    · rintro ⟨⟨h1, h2⟩, h3⟩
      exact ⟨(h3 x (by simp)).1, (h3 x (by simp)).2, h2, fun y hy => ⟨h1 y hy, (h3 y (by simp [hy])).2⟩⟩
theorem pairwise_ext : ∀ {l l' : List Int}, l.Pairwise (· < ·) → l'.Pairwise (· < ·) → (∀ x, x ∈ l ↔ x ∈ l') → l = l'
  | [], [], _, _, _ => rfl
  | [], y :: l', _, _, h => by have := (h y).2 (by simp); simp at this
  | x :: l, [], _, _, h => by have := (h x).1 (by simp); simp at this
  | x :: l, y :: l', h1, h2, h => by
    rw [List.pairwise_cons] at h1 h2
    have hxy : x = y := by
      have a1 := (h x).1 (by simp)
      have a2 := (h y).2 (by simp)
      rcases List.mem_cons.1 a1 with a1 | a1
      · exact a1
      · rcases List.mem_cons.1 a2 with a2 | a2
        · exact a2.symm
        · have b1 := h2.1 x a1
          have b2 := h1.1 y a2
          omega
    subst hxy
    congr 1
    refine pairwise_ext h1.2 h2.2 fun z => ?_
    constructor
    · intro hz
      rcases List.mem_cons.1 ((h z).1 (by simp [hz])) with rfl | h3
      · have := h1.1 z hz; omega
      · exact h3
    · intro hz
      rcases List.mem_cons.1 ((h z).2 (by simp [hz])) with rfl | h3
      · have := h2.1 z hz; omega
      · exact h3
theorem incr_ext {n : Int} {lo lo' : Int} {l l' : List Int} (h : incr n lo l) (h' : incr n lo' l') (hm : ∀ x, x ∈ l ↔ x ∈ l') : l = l' :=
  pairwise_ext (incr_iff.1 h).1 (incr_iff.1 h').1 hm
def memL (K : Nat → Bool) (i : Nat) : List Int := ((List.range i).filter K).map fun (q : Nat) => (q : Int)
theorem memL_succ {K : Nat → Bool} {i : Nat} : memL K (i + 1) = memL K i ++ if K i then [(i : Int)] else [] := by
  simp only [memL, List.range_succ, List.filter_append, List.map_append, List.filter_cons, List.filter_nil]
  congr 1
  split <;> simp
theorem memL_mem {K : Nat → Bool} {i : Nat} {x : Int} : x ∈ memL K i ↔ ∃ q : Nat, x = q ∧ q < i ∧ K q = true := by
  simp only [memL, List.mem_map, List.mem_filter, List.mem_range]
  constructor
  · rintro ⟨q, ⟨h1, h2⟩, rfl⟩; exact ⟨q, rfl, h1, h2⟩
  · rintro ⟨q, rfl, h1, h2⟩; exact ⟨q, ⟨h1, h2⟩, rfl⟩
theorem memL_incr {K : Nat → Bool} {n : Nat} : ∀ {i : Nat}, i ≤ n → incr n (-1) (memL K i)
  | 0, _ => trivial
  | i + 1, h => by
    rw [memL_succ]
    have ih := incr_iff.1 (memL_incr (K := K) (n := n) (i := i) (by omega))
    split
    · rw [incr_iff, List.pairwise_append]
      refine ⟨⟨ih.1, List.pairwise_singleton _ _, fun x hx y hy => ?_⟩, fun x hx => ?_⟩
      · obtain ⟨q, rfl, hq, _⟩ := memL_mem.1 hx
        have : y = i := by simpa using hy
        omega
      · rcases List.mem_append.1 hx with hx | hx
        · exact ih.2 x hx
        · have : x = i := by simpa using hx
          omega
    · simpa using incr_iff.2 ih
def Aut.beg (a : Aut) (q : Nat) : Prop := (q : Int) ∈ a.init ∧ a.Live q
def Aut.aft (a : Aut) (S : Nat → Prop) (letter : Int) (t : Nat) : Prop := a.Live t ∧ ∃ e ∈ a.edges, S e.frm.toNat ∧ e.to = t ∧ e.on letter = true
def Aut.behind (a : Aut) (w : List Int) : Nat → Prop := w.foldl a.aft a.beg
noncomputable def Aut.states (a : Aut) (w : List Int) : List Int := memL (fun q => @decide (a.behind w q) (Classical.propDecidable _)) a.acc.length
def Wok (w : List Int) : Prop := w.length ≤ 200 ∧ ∀ x ∈ w, 0 ≤ x ∧ x ≤ 7
instance (w : List Int) : Decidable (Wok w) := by unfold Wok; infer_instance
structure InsI (l : List Int) (y : Int) (i : Nat) (dn : Bool) (o : List Int) : Prop where
  no : ∀ j (hj : j < l.length), j < i → l[j] ≠ y
  len : o.length ≤ i + 1
  ff : dn = false → o = l.take i ∧ ∀ x ∈ l.take i, x < y
  tt : dn = true → ∃ k, k ≤ i ∧ o = l.take k ++ y :: (l.take i).drop k ∧ (∀ x ∈ l.take k, x < y) ∧ ∀ x ∈ l.drop k, y < x
theorem InsI.zero {l : List Int} {y : Int} : InsI l y 0 false [] := ⟨by simp, by simp, by simp, by simp⟩
theorem InsI.more {l : List Int} {y : Int} {i : Nat} {o : List Int} (h : InsI l y i true o) (hi : i < l.length) (hy : l[i] ≠ y) : InsI l y (i + 1) true (o ++ [l[i]]) := by
  obtain ⟨k, h1, h2, h3, h4⟩ := h.tt rfl
  refine ⟨?_, ?_, by simp, fun _ => ⟨k, by omega, ?_, h3, h4⟩⟩
  · intro j hj hji
    by_cases e : j = i
    · subst e; exact hy
    · exact h.no j hj (by omega)
  · rw [h2]; simp; omega
  · rw [h2, List.take_add_one, List.getElem?_eq_getElem hi, List.drop_append_of_le_length (by simp; omega)]
    simp
theorem InsI.small {l : List Int} {y : Int} {i : Nat} {o : List Int} (h : InsI l y i false o) (hi : i < l.length) (hy : l[i] < y) : InsI l y (i + 1) false (o ++ [l[i]]) := by
  obtain ⟨h1, h2⟩ := h.ff rfl
  refine ⟨?_, ?_, fun _ => ⟨?_, ?_⟩, by simp⟩
  · intro j hj hji
    by_cases e : j = i
    · subst e; omega
    · exact h.no j hj (by omega)
  · rw [h1]; simp; omega
  · rw [h1, List.take_add_one, List.getElem?_eq_getElem hi]; simp
  · intro x hx
    rw [List.take_add_one, List.getElem?_eq_getElem hi] at hx
    rcases List.mem_append.1 hx with hx | hx
    · exact h2 x hx
    · have : x = l[i] := by simpa using hx
      omega
theorem InsI.result {n : Int} {lo : Int} {l : List Int} {y : Int} {i : Nat} {dn : Bool} {o : List Int} (hl : incr n lo l) (hy : lo < y ∧ y < n) (h : InsI l y i dn o) (hi : l.length ≤ i) : incr n lo (if dn then o else o ++ [y]) ∧ ∀ x, x ∈ (if dn then o else o ++ [y]) ↔ x ∈ l ∨ x = y := by
  obtain ⟨g1, g2⟩ := incr_iff.1 hl
  cases dn with
  | false =>
    obtain ⟨h1, h2⟩ := h.ff rfl
    rw [List.take_of_length_le hi] at h1 h2
    subst h1
    simp only [Bool.false_eq_true, if_false, incr_iff, List.pairwise_append, List.mem_append, List.mem_singleton]
    refine ⟨⟨⟨g1, List.pairwise_singleton _ _, fun a ha b hb => hb ▸ h2 a ha⟩, fun x hx => ?_⟩, fun _ => trivial⟩
    rcases hx with hx | rfl
    · exact g2 x hx
    · exact hy
  | true =>
    obtain ⟨k, _, h2, h3, h4⟩ := h.tt rfl
    rw [List.take_of_length_le hi] at h2
    have h5 : l = l.take k ++ l.drop k := (List.take_append_drop _ _).symm
    have hm : ∀ x, x ∈ o ↔ x ∈ l ∨ x = y := by
      intro x
      rw [h2, List.mem_append, List.mem_cons]
      conv => rhs; rw [h5, List.mem_append]
      constructor
      · rintro (h | h | h)
        · exact .inl (.inl h)
        · exact .inr h
        · exact .inl (.inr h)
      · rintro ((h | h) | h)
        · exact .inl h
        · exact .inr (.inr h)
        · exact .inr (.inl h)
    simp only [if_true]
    refine ⟨incr_iff.2 ⟨?_, fun x hx => ?_⟩, hm⟩
    · rw [h5, List.pairwise_append] at g1
      rw [h2, List.pairwise_append, List.pairwise_cons]
      refine ⟨g1.1, ⟨h4, g1.2.1⟩, fun a ha b hb => ?_⟩
      rcases List.mem_cons.1 hb with rfl | hb
      · exact h3 a ha
      · exact g1.2.2 a ha b hb
    · rcases (hm x).1 hx with hx | rfl
      · exact g2 x hx
      · exact hy
end Go.Proofs.Ytbanccfdojgocaa

namespace Go.Proofs.Ytbanccfdojgocaa
open Go
def EdgeB (es : List Tr) (i l j : Nat) : Prop := ∃ e ∈ es, e.frm = i ∧ e.to = j ∧ e.on l = true
def Tab (es : List Tr) (n : Nat) (T : List W8) : Prop := T.length = n ∧ ∀ i l k, i < n → l < 8 → k < 64 → (((T.getD i W8.zero).at l).getLsbD k = true ↔ EdgeB es i l k)
def Tab2 (es : List Tr) (e : Tr) (m : Nat) (n : Nat) (T : List W8) : Prop := T.length = n ∧ ∀ i l k, i < n → l < 8 → k < 64 → (((T.getD i W8.zero).at l).getLsbD k = true ↔ EdgeB es i l k ∨ (l < m ∧ e.frm = i ∧ e.to = k ∧ e.on l = true))
theorem Tab.zero (n : Nat) : Tab [] n (List.replicate n W8.zero) := by
  refine ⟨by simp, fun i l k hi hl hk => ?_⟩
  have h1 : (List.replicate n W8.zero).getD i W8.zero = W8.zero := by
    rw [List.getD_eq_getElem?_getD, List.getElem?_replicate]; split <;> rfl
  rw [h1]
  have h2 : W8.zero.at l = 0 := by
    simp only [W8.at, W8.zero, List.getD_eq_getElem?_getD, List.getElem?_replicate]; split <;> rfl
  rw [h2]
  simp [EdgeB]
theorem Tab.start {es : List Tr} {n : Nat} {T : List W8} (h : Tab es n T) (e : Tr) : Tab2 es e 0 n T :=
  ⟨h.1, fun i l k hi hl hk => by rw [h.2 i l k hi hl hk]; simp⟩
theorem Tab2.skip {es : List Tr} {n m : Nat} {T : List W8} {e : Tr} (h : Tab2 es e m n T) (ho : e.on m = false) : Tab2 es e (m + 1) n T := by
  refine ⟨h.1, fun i l k hi hl hk => ?_⟩
  rw [h.2 i l k hi hl hk]
  by_cases hm : l = m
  · subst hm; simp [ho]
  · have : l < m ↔ l < m + 1 := by omega
    rw [this]
theorem Tab2.put {es : List Tr} {n m : Nat} {T : List W8} {e : Tr} (h : Tab2 es e m n T) (ho : e.on m = true) (hm : m < 8) {f t : Nat} (hf : e.frm = f) (ht : e.to = t) (hfn : f < n) (htn : t < 64) :
    Tab2 es e (m + 1) n (T.set f ((T[f]'(h.1 ▸ hfn)).put m (setB ((T[f]'(h.1 ▸ hfn)).at m) t))) := by
  have hfl : f < T.length := h.1 ▸ hfn
  refine ⟨by simpa using h.1, fun i l k hi hl hk => ?_⟩
  have h1 := h.2 i l k hi hl hk
  rw [List.getD_eq_getElem?_getD, List.getElem?_set]
  rw [List.getD_eq_getElem?_getD] at h1
  by_cases hfi : f = i
  · subst hfi
    simp only [hfl, List.getElem?_eq_getElem, Option.getD_some, if_true] at h1 ⊢
    rw [W8.put_at _ hm]
    by_cases hlm : l = m
    · subst hlm
      rw [if_pos rfl, setB_get htn]
      simp only [Bool.or_eq_true, h1, decide_eq_true_eq]
      have : l < l + 1 := by omega
      constructor
      · rintro ((h2 | h2) | h2)
        · exact .inl h2
        · omega
        · exact .inr ⟨this, hf, by rw [ht, h2], ho⟩
      · rintro (h2 | ⟨_, _, h2, _⟩)
        · exact .inl (.inl h2)
        · exact .inr (by rw [ht] at h2; omega)
    · rw [if_neg hlm, h1]
      have : l < m ↔ l < m + 1 := by omega
      rw [this]
  · rw [if_neg hfi, h1]
    constructor
    · rintro (h2 | ⟨h3, h4, h5⟩)
      · exact .inl h2
      · exact .inr ⟨by omega, h4, h5⟩
    · rintro (h2 | ⟨h3, h4, h5⟩)
      · exact .inl h2
      · rw [hf] at h4; omega
theorem Tab2.done {es : List Tr} {n : Nat} {T : List W8} {k : Nat} (hk : k < es.length) (h : Tab2 (es.take k) es[k] 8 n T) : Tab (es.take (k + 1)) n T := by
  refine ⟨h.1, fun i l j hi hl hj => ?_⟩
  rw [h.2 i l j hi hl hj, List.take_add_one, List.getElem?_eq_getElem hk]
  simp only [EdgeB, List.mem_append, Option.toList_some, List.mem_singleton]
  constructor
  · rintro (⟨e, h1, h2⟩ | ⟨_, h2⟩)
    · exact ⟨e, .inl h1, h2⟩
    · exact ⟨_, .inr rfl, h2⟩
  · rintro ⟨e, h1 | rfl, h2⟩
    · exact .inl ⟨e, h1, h2⟩
    · exact .inr ⟨hl, h2⟩
end Go.Proofs.Ytbanccfdojgocaa

namespace Go.Proofs.Ytbanccfdojgocaa
open Go
def grpS (e : Nat → Nat → Bool) : Nat → List Nat × Nat
  | 0 => ([], 0)
  | i + 1 => match (List.range i).find? (fun k => e i k) with
    | some k => ((grpS e i).1 ++ [(grpS e i).1.getD k 0], (grpS e i).2)
    | none => ((grpS e i).1 ++ [(grpS e i).2], (grpS e i).2 + 1)
theorem grpS_old {e : Nat → Nat → Bool} {i k : Nat} (h : (List.range i).find? (fun k => e i k) = some k) : grpS e (i + 1) = ((grpS e i).1 ++ [(grpS e i).1.getD k 0], (grpS e i).2) := by simp [grpS, h]
theorem grpS_new {e : Nat → Nat → Bool} {i : Nat} (h : (List.range i).find? (fun k => e i k) = none) : grpS e (i + 1) = ((grpS e i).1 ++ [(grpS e i).2], (grpS e i).2 + 1) := by simp [grpS, h]
theorem find_lt {p : Nat → Bool} {i k : Nat} (h : (List.range i).find? p = some k) : k < i := by
  have := List.mem_of_find?_eq_some h
  simpa using this
theorem grpS_len {e : Nat → Nat → Bool} : ∀ i, (grpS e i).1.length = i
  | 0 => rfl
  | i + 1 => by
    cases h : (List.range i).find? (fun k => e i k) with
    | some k => rw [grpS_old h]; simp [grpS_len i]
    | none => rw [grpS_new h]; simp [grpS_len i]
theorem grpS_le {e : Nat → Nat → Bool} : ∀ i, (grpS e i).2 ≤ i
  | 0 => Nat.le_refl _
  | i + 1 => by
    have := grpS_le (e := e) i
    cases h : (List.range i).find? (fun k => e i k) with
    | some k => rw [grpS_old h]; exact Nat.le_succ_of_le this
    | none => rw [grpS_new h]; exact Nat.succ_le_succ this
theorem grpS_pos {e : Nat → Nat → Bool} : ∀ i, 1 ≤ i → 1 ≤ (grpS e i).2
  | 0, h => by omega
  | i + 1, _ => by
    cases h : (List.range i).find? (fun k => e i k) with
    | some k =>
      rw [grpS_old h]
      exact grpS_pos i (by have := find_lt h; omega)
    | none => rw [grpS_new h]; exact Nat.succ_le_succ (Nat.zero_le _)
theorem grpS_lt {e : Nat → Nat → Bool} : ∀ i, ∀ x ∈ (grpS e i).1, x < (grpS e i).2
  | 0, x, hx => by simp [grpS] at hx
  | i + 1, x, hx => by
    cases h : (List.range i).find? (fun k => e i k) with
    | some k =>
      have hk := find_lt h
      rw [grpS_old h] at hx ⊢
      rcases List.mem_append.1 hx with hx | hx
      · exact grpS_lt i x hx
      · obtain rfl : x = (grpS e i).1.getD k 0 := by simpa using hx
        have hl := grpS_len (e := e) i
        rw [List.getD_eq_getElem?_getD, List.getElem?_eq_getElem (by omega)]
        exact grpS_lt i _ (List.getElem_mem (by omega))
    | none =>
      rw [grpS_new h] at hx ⊢
      rcases List.mem_append.1 hx with hx | hx
      · have := grpS_lt i x hx
        show x < (grpS e i).2 + 1
        omega
      · obtain rfl : x = (grpS e i).2 := by simpa using hx
        exact Nat.lt_succ_self _
def accG (a : Aut) (e : Nat → Nat → Bool) : Nat → List Bool
  | 0 => []
  | i + 1 => match (List.range i).find? (fun k => e i k) with
    | some _ => accG a e i
    | none => accG a e i ++ [a.acc.getD i false]
theorem accG_len {a : Aut} {e : Nat → Nat → Bool} : ∀ i, (accG a e i).length = (grpS e i).2
  | 0 => rfl
  | i + 1 => by
    cases h : (List.range i).find? (fun k => e i k) with
    | some k => rw [grpS_old h]; simp [accG, h, accG_len i]
    | none => rw [grpS_new h]; simp [accG, h, accG_len i]
def ded (l : List Tr) : List Tr := l.foldl (fun o f => if f ∈ o then o else o ++ [f]) []
theorem ded_mem {l : List Tr} {x : Tr} : x ∈ ded l ↔ x ∈ l := by
  have key : ∀ (l o : List Tr), x ∈ l.foldl (fun o f => if f ∈ o then o else o ++ [f]) o ↔ x ∈ o ∨ x ∈ l := by
    intro l
    induction l with
    | nil => simp
    | cons y l ih =>
      intro o
      rw [List.foldl_cons, ih]
      by_cases h : y ∈ o
      · rw [if_pos h]
        constructor
        · rintro (h1 | h1)
          · exact .inl h1
          · exact .inr (by simp [h1])
        · rintro (h1 | h1)
          · exact .inl h1
          · rcases List.mem_cons.1 h1 with rfl | h1
            · exact .inl h
            · exact .inr h1
      · rw [if_neg h]
        simp [or_assoc]
  have := key l []
  simpa [ded] using this
theorem ded_len {l : List Tr} : (ded l).length ≤ l.length := by
  have key : ∀ (l o : List Tr), (l.foldl (fun o f => if f ∈ o then o else o ++ [f]) o).length ≤ o.length + l.length := by
    intro l
    induction l with
    | nil => simp
    | cons y l ih =>
      intro o
      rw [List.foldl_cons]
      refine Nat.le_trans (ih _) ?_
      split <;> simp <;> omega
  have := key l []
  simpa [ded] using this
def gnm (e : Nat → Nat → Bool) (n : Nat) (x : Int) : Int := ((grpS e n).1.getD x.toNat 0 : Nat)
theorem gnm_lt {e : Nat → Nat → Bool} {n : Nat} {x : Int} (h0 : 0 ≤ x) (h1 : x < n) : 0 ≤ gnm e n x ∧ gnm e n x < (grpS e n).2 := by
  have hl := grpS_len (e := e) n
  have hx : x.toNat < (grpS e n).1.length := by omega
  have := grpS_lt (e := e) n _ (List.getElem_mem hx)
  unfold gnm
  rw [List.getD_eq_getElem?_getD, List.getElem?_eq_getElem hx]
  simp only [Option.getD_some]
  omega
def Aut.mergeE (a : Aut) (e : Nat → Nat → Bool) : Aut :=
  ⟨memL (fun b => a.init.any fun q => decide (gnm e a.acc.length q = (b : Int))) (grpS e a.acc.length).2, accG a e a.acc.length, ded (a.edges.map (Tr.ren (gnm e a.acc.length)))⟩
theorem Aut.mergeE_ok {a : Aut} (ha : a.Ok) (e : Nat → Nat → Bool) : (a.mergeE e).Ok := by
  have hn := ha.n
  have h1 := grpS_le (e := e) a.acc.length
  have h2 := grpS_pos (e := e) a.acc.length hn.1
  have h3 := accG_len (a := a) (e := e) a.acc.length
  have h4 := ded_len (l := a.edges.map (Tr.ren (gnm e a.acc.length)))
  simp only [List.length_map] at h4
  have h5 := ha.e
  refine ⟨⟨by show 1 ≤ (accG a e a.acc.length).length; omega, by show (accG a e a.acc.length).length ≤ 64; omega⟩, Nat.le_trans h4 h5, ?_, ?_⟩
  · show incr ((accG a e a.acc.length).length : Nat) (-1) _
    rw [h3]
    exact memL_incr (Nat.le_refl _)
  · intro t ht
    show t.Ok ((accG a e a.acc.length).length : Nat)
    rw [h3]
    have ht : t ∈ ded (a.edges.map (Tr.ren (gnm e a.acc.length))) := ht
    rw [ded_mem] at ht
    obtain ⟨x, hx, rfl⟩ := List.mem_map.1 ht
    have hx2 := ha.2.2.2 x hx
    unfold Tr.Ok at hx2 ⊢
    have g1 := gnm_lt (e := e) hx2.1 hx2.2.1
    have g2 := gnm_lt (e := e) hx2.2.2.1 hx2.2.2.2.1
    simp only [Tr.ren]
    exact ⟨g1.1, g1.2, g2.1, g2.2, hx2.2.2.2.2⟩
def eqv (R : Rl) : Nat → Nat → Bool := fun i k => R i k && R k i
noncomputable def Aut.mrg (a : Aut) : Aut := a.mergeE (eqv (@Classical.epsilon Rl ⟨fun _ _ => true⟩ (Great a)))
theorem Aut.mrg_ok {a : Aut} (ha : a.Ok) : a.mrg.Ok := Aut.mergeE_ok ha _
end Go.Proofs.Ytbanccfdojgocaa

namespace Go.Proofs.Ytbanccfdojgocaa
open Go
theorem kidx_all {K : Nat → Bool} : ∀ {n : Nat}, kidx K n = n → ∀ q, q < n → K q = true ∧ kidx K q = q
  | 0, _, q, hq => absurd hq (Nat.not_lt_zero q)
  | n + 1, h, q, hq => by
    rw [kidx_succ] at h
    have hl := kidx_le (K := K) (q := n)
    have hk : K n = true := by
      cases hk : K n with
      | true => rfl
      | false => rw [hk] at h; simp at h; omega
    rw [hk] at h
    simp only [if_true] at h
    have h1 : kidx K n = n := by omega
    by_cases e : q = n
    · subst e; exact ⟨hk, h1⟩
    · exact kidx_all h1 q (by omega)
theorem map_range_getD {l : List Bool} : ((List.range l.length).map fun q => l.getD q false) = l := by
  apply List.ext_getElem (by simp)
  intro i h1 h2
  simp [h2]
theorem Aut.ext3 {a b : Aut} (h1 : a.init = b.init) (h2 : a.acc = b.acc) (h3 : a.edges = b.edges) : a = b := by
  cases a; cases b; simp_all
theorem Aut.keep_full {a : Aut} (ha : a.Ok) {K : Nat → Bool} (h : kidx K a.acc.length = a.acc.length) : a.keep K = a := by
  have hn := ha.n
  have hall := kidx_all h
  unfold Aut.keep
  rw [if_neg (by omega)]
  refine Aut.ext3 ?_ ?_ ?_
  · show (a.init.filter _).map _ = _
    rw [List.filter_eq_self.2]
    · conv => rhs; rw [← List.map_id a.init]
      apply List.map_congr_left
      intro q hq
      have := incr_mem ha.i q hq
      have h1 := (hall q.toNat (by omega)).2
      simp only [kout, h1, id]
      omega
    · intro q hq
      have := incr_mem ha.i q hq
      exact (hall q.toNat (by omega)).1
  · show ((List.range a.acc.length).filter K).map _ = _
    rw [List.filter_eq_self.2]
    · exact map_range_getD
    · intro q hq
      exact (hall q (by simpa using hq)).1
  · show (a.edges.filter _).map _ = _
    rw [List.filter_eq_self.2]
    · conv => rhs; rw [← List.map_id a.edges]
      apply List.map_congr_left
      intro e he
      have hx := ha.2.2.2 e he
      unfold Tr.Ok at hx
      have h1 := (hall e.frm.toNat (by omega)).2
      have h2 := (hall e.to.toNat (by omega)).2
      have e1 : ((e.frm.toNat : Nat) : Int) = e.frm := by omega
      have e2 : ((e.to.toNat : Nat) : Int) = e.to := by omega
      simp only [Tr.ren, kout, h1, h2, id, e1, e2]
    · intro e he
      have hx := ha.2.2.2 e he
      unfold Tr.Ok at hx
      rw [(hall e.frm.toNat (by omega)).1, (hall e.to.toNat (by omega)).1]; rfl
theorem Aut.trim_len {a : Aut} (ha : a.Ok) : a.trim.acc.length ≤ a.acc.length ∧ (a.trim.acc.length = a.acc.length → a.trim = a ∨ (a.acc.length = 1 ∧ a.trim = ⟨[], [false], []⟩)) := by
  have hn := ha.n
  have hl := kidx_le (K := a.tkeep) (q := a.acc.length)
  by_cases h0 : kidx a.tkeep a.acc.length = 0
  · have ht : a.trim = ⟨[], [false], []⟩ := by unfold Aut.trim Aut.keep; rw [if_pos h0]
    rw [ht]
    exact ⟨hn.1, fun h => .inr ⟨h.symm, rfl⟩⟩
  · have hk : a.trim.acc.length = kidx a.tkeep a.acc.length := Aut.keep_len h0
    rw [hk]
    exact ⟨hl, fun h => .inl (Aut.keep_full ha h)⟩
theorem grpS_full {e : Nat → Nat → Bool} : ∀ {n : Nat}, (grpS e n).2 = n → (grpS e n).1 = List.range n ∧ ∀ i, i < n → (List.range i).find? (fun k => e i k) = none
  | 0, _ => ⟨rfl, fun i hi => absurd hi (Nat.not_lt_zero i)⟩
  | n + 1, h => by
    have hl := grpS_le (e := e) n
    cases hf : (List.range n).find? (fun k => e n k) with
    | some k =>
      rw [grpS_old hf] at h
      have h : (grpS e n).2 = n + 1 := h
      omega
    | none =>
      rw [grpS_new hf] at h ⊢
      have h : (grpS e n).2 + 1 = n + 1 := h
      have h1 : (grpS e n).2 = n := by omega
      obtain ⟨h2, h3⟩ := grpS_full h1
      refine ⟨by show (grpS e n).1 ++ [(grpS e n).2] = _; rw [h2, h1, List.range_succ], fun i hi => ?_⟩
      by_cases ei : i = n
      · subst ei; exact hf
      · exact h3 i (by omega)
theorem accG_full {a : Aut} {e : Nat → Nat → Bool} : ∀ {n : Nat}, (∀ i, i < n → (List.range i).find? (fun k => e i k) = none) → accG a e n = (List.range n).map fun q => a.acc.getD q false
  | 0, _ => rfl
  | n + 1, h => by
    have ih := accG_full (a := a) (e := e) (n := n) fun i hi => h i (by omega)
    simp only [accG, h n (by omega)]
    rw [ih, List.range_succ, List.map_append]
    rfl
theorem gnm_full {e : Nat → Nat → Bool} {n : Nat} (h : (grpS e n).1 = List.range n) {x : Int} (h0 : 0 ≤ x) (h1 : x < n) : gnm e n x = x := by
  unfold gnm
  rw [h]
  simp [show x.toNat < n by omega]
  omega
theorem memL_self {n : Nat} {l : List Int} (h : incr n (-1) l) {K : Nat → Bool} (hK : ∀ q, q < n → (K q = true ↔ (q : Int) ∈ l)) : memL K n = l := by
  refine incr_ext (memL_incr (Nat.le_refl _)) h fun x => ?_
  rw [memL_mem]
  constructor
  · rintro ⟨q, rfl, h1, h2⟩; exact (hK q h1).1 h2
  · intro hx
    have := incr_mem h x hx
    refine ⟨x.toNat, by omega, by omega, (hK _ (by omega)).2 ?_⟩
    rwa [Int.toNat_of_nonneg (by omega)]
theorem Aut.mergeE_full {a : Aut} (ha : a.Ok) {e : Nat → Nat → Bool} (h : (grpS e a.acc.length).2 = a.acc.length) : a.mergeE e = ⟨a.init, a.acc, ded a.edges⟩ := by
  obtain ⟨h1, h2⟩ := grpS_full h
  have hg : ∀ x : Int, 0 ≤ x → x < a.acc.length → gnm e a.acc.length x = x := fun x => gnm_full h1
  refine Aut.ext3 ?_ ?_ ?_
  · show memL _ (grpS e a.acc.length).2 = _
    rw [h]
    refine memL_self ha.i fun q hq => ?_
    simp only [List.any_eq_true, decide_eq_true_eq]
    constructor
    · rintro ⟨p, hp, h3⟩
      have := incr_mem ha.i p hp
      rw [hg p (by omega) (by omega)] at h3
      rw [← h3]; exact hp
    · intro hm
      exact ⟨q, hm, hg q (by omega) (by omega)⟩
  · show accG a e a.acc.length = _
    rw [accG_full h2, map_range_getD]
  · show ded (a.edges.map _) = ded a.edges
    congr 1
    conv => rhs; rw [← List.map_id a.edges]
    apply List.map_congr_left
    intro t ht
    have hx := ha.2.2.2 t ht
    unfold Tr.Ok at hx
    simp only [Tr.ren, hg t.frm hx.1 hx.2.1, hg t.to hx.2.2.1 hx.2.2.2.1, id]
theorem Aut.mrg_len {a : Aut} (ha : a.Ok) : a.mrg.acc.length ≤ a.acc.length ∧ (a.mrg.acc.length = a.acc.length → a.mrg = ⟨a.init, a.acc, ded a.edges⟩) := by
  have h1 : ∀ e, (a.mergeE e).acc.length = (grpS e a.acc.length).2 := fun e => accG_len a.acc.length
  unfold Aut.mrg
  rw [h1]
  exact ⟨grpS_le _, fun h => Aut.mergeE_full ha h⟩
theorem ded_same {l : List Tr} (h : l.length ≤ (ded l).length) : ded l = l := by
  have key : ∀ (l o : List Tr), (l.foldl (fun o f => if f ∈ o then o else o ++ [f]) o).length ≤ o.length + l.length ∧ (o.length + l.length ≤ (l.foldl (fun o f => if f ∈ o then o else o ++ [f]) o).length → l.foldl (fun o f => if f ∈ o then o else o ++ [f]) o = o ++ l) := by
    intro l
    induction l with
    | nil => simp
    | cons y l ih =>
      intro o
      rw [List.foldl_cons]
      by_cases hy : y ∈ o
      · rw [if_pos hy]
        obtain ⟨i1, i2⟩ := ih o
        refine ⟨by simp; omega, fun h => ?_⟩
        simp at h; omega
      · rw [if_neg hy]
        obtain ⟨i1, i2⟩ := ih (o ++ [y])
        simp only [List.length_append, List.length_cons, List.length_nil] at i1 i2
        refine ⟨by simp; omega, fun h => ?_⟩
        rw [i2 (by simp at h; omega)]
        simp
  have := (key l []).2 (by simpa [ded] using h)
  simpa [ded] using this
noncomputable def Aut.rnd (a : Aut) : Aut := a.trim.mrg
def Aut.mea (a : Aut) : Nat := a.acc.length * 4096 + a.acc.count true + a.init.length + a.edges.length
theorem Aut.trim_ok {a : Aut} (ha : a.Ok) : a.trim.Ok := Aut.keep_ok ha _
theorem Aut.rnd_ok {a : Aut} (ha : a.Ok) : a.rnd.Ok := Aut.mrg_ok (Aut.trim_ok ha)
theorem Aut.rnd_less {a : Aut} (ha : a.Ok) (hne : a.rnd ≠ a) : a.rnd.mea < a.mea := by
  have ht := Aut.trim_ok ha
  have hr := Aut.rnd_ok ha
  obtain ⟨t1, t2⟩ := Aut.trim_len ha
  obtain ⟨m1, m2⟩ := Aut.mrg_len ht
  have m1 : a.rnd.acc.length ≤ a.trim.acc.length := m1
  have b1 := hr.il
  have b2 := hr.e
  have b3 := List.count_le_length (a := true) (l := a.rnd.acc)
  have b4 := hr.n
  by_cases hlt : a.rnd.acc.length < a.acc.length
  · unfold Aut.mea
    omega
  · have e1 : a.trim.acc.length = a.acc.length := by omega
    have hm : a.rnd = ⟨a.trim.init, a.trim.acc, ded a.trim.edges⟩ := m2 (by show a.rnd.acc.length = _; omega)
    rcases t2 e1 with h | ⟨h1, h⟩
    · rw [h] at hm
      have hd := ded_len (l := a.edges)
      have hdl : (ded a.edges).length < a.edges.length := by
        rcases Nat.lt_or_ge (ded a.edges).length a.edges.length with h3 | h3
        · exact h3
        · exact absurd (by rw [hm, ded_same h3]) hne
      rw [hm]
      unfold Aut.mea
      show a.acc.length * 4096 + a.acc.count true + a.init.length + (ded a.edges).length < _
      omega
    · rw [h] at hm
      have hm : a.rnd = ⟨[], [false], []⟩ := hm
      rw [hm]
      have h3 : Aut.mea ⟨[], [false], []⟩ = 4096 := by rfl
      rw [h3]
      unfold Aut.mea
      rw [h1]
      have : a.acc.count true + a.init.length + a.edges.length ≠ 0 := by
        intro h4
        have g1 : a.init = [] := List.eq_nil_of_length_eq_zero (by omega)
        have g2 : a.edges = [] := List.eq_nil_of_length_eq_zero (by omega)
        have g3 : a.acc = [false] := by
          match hq : a.acc, h1 with
          | [x], _ =>
            rw [hq] at h4
            cases x with
            | false => rfl
            | true => simp at h4
        exact hne (by rw [hm]; exact (Aut.ext3 g1 g3 g2).symm)
      omega
inductive SmpR : Aut → Aut → Prop
  | stop {a : Aut} (h : a.rnd = a) : SmpR a a
  | more {a r : Aut} (h : a.rnd ≠ a) (hr : SmpR a.rnd r) : SmpR a r
theorem SmpR.fn {a r s : Aut} (h : SmpR a r) : SmpR a s → r = s := by
  induction h with
  | stop h =>
    intro h'
    cases h' with
    | stop _ => rfl
    | more h2 _ => exact absurd h h2
  | more h _ ih =>
    intro h'
    cases h' with
    | stop h2 => exact absurd h2 h
    | more _ h3 => exact ih h3
theorem SmpR.ex : ∀ (m : Nat) (a : Aut), a.mea ≤ m → a.Ok → ∃ r, SmpR a r ∧ r.Ok
  | 0, a, hm, ha => by
    have := ha.n
    unfold Aut.mea at hm
    omega
  | m + 1, a, hm, ha => by
    by_cases h : a.rnd = a
    · exact ⟨a, .stop h, ha⟩
    · have := Aut.rnd_less ha h
      obtain ⟨r, h1, h2⟩ := SmpR.ex m a.rnd (by omega) (Aut.rnd_ok ha)
      exact ⟨r, .more h h1, h2⟩
end Go.Proofs.Ytbanccfdojgocaa

namespace Go.Proofs.Ytbanccfdojgocaa
open Go
def Las.Ok (l : Las) : Prop := ((∀ x ∈ l.stem, 0 ≤ x ∧ x ≤ 7) ∧ ∀ x ∈ l.loop, 0 ≤ x ∧ x ≤ 7) ∧ l.stem.length ≤ 80 ∧ 1 ≤ l.loop.length ∧ l.loop.length ≤ 80
instance instDecLasOk (l : Las) : Decidable l.Ok := by unfold Las.Ok; infer_instance
def Las.size (l : Las) : Nat := l.stem.length + l.loop.length
def Las.all (l : Las) : List Int := l.stem ++ l.loop
def Las.nx (l : Las) (i : Nat) : Nat := if i + 1 = l.size then l.stem.length else i + 1
def Las.pos (l : Las) : Nat → Nat
  | 0 => 0
  | t + 1 => l.nx (l.pos t)
def Las.word (l : Las) (t : Nat) : Int := l.all.getD (l.pos t) 0
theorem Las.nx_lt {l : Las} (h : 1 ≤ l.loop.length) {i : Nat} (hi : i < l.size) : l.nx i < l.size := by
  unfold Las.nx Las.size at *
  split <;> omega
theorem Las.pos_lt {l : Las} (h : 1 ≤ l.loop.length) : ∀ t, l.pos t < l.size
  | 0 => by unfold Las.pos Las.size; omega
  | t + 1 => Las.nx_lt h (Las.pos_lt h t)
def StE (E : List Tr) (w : Nat → Int) (t p q : Nat) : Prop := ∃ e ∈ E, e.frm = p ∧ e.to = q ∧ e.on (w t) = true
inductive FR (E : List Tr) (w : Nat → Int) : Nat → Nat → Nat → Nat → Prop
  | refl (t p : Nat) : FR E w t p t p
  | step {t p q u r : Nat} (h : StE E w t p q) (k : FR E w (t + 1) q u r) : FR E w t p u r
section
variable {E : List Tr} {w : Nat → Int} {A : List Bool} {t p u q v r : Nat}
theorem FR.trans (h : FR E w t p u q) (k : FR E w u q v r) : FR E w t p v r := by
  induction h with
  | refl => exact k
  | step h _ ih => exact .step h (ih k)
theorem FR.le (h : FR E w t p u q) : t ≤ u := by
  induction h with
  | refl => exact Nat.le_refl _
  | step h _ ih => omega
theorem FR.one (h : StE E w t p q) : FR E w t p (t + 1) q := .step h (.refl _ _)
end
def Goes (A : List Bool) (E : List Tr) (w : Nat → Int) (C : Nat → Nat → Prop) : Prop := ∀ t p, C t p → ∃ u q, t < u ∧ FR E w t p u q ∧ tru A q ∧ C u q
def Run (A : List Bool) (E : List Tr) (w : Nat → Int) (t p : Nat) : Prop := ∃ C, C t p ∧ Goes A E w C
theorem Run.before {A : List Bool} {E : List Tr} {w : Nat → Int} {t p u q : Nat} (h : FR E w t p u q) (k : Run A E w u q) : Run A E w t p := by
  obtain ⟨C, hC, hG⟩ := k
  refine ⟨fun t' p' => (t' = t ∧ p' = p) ∨ C t' p', .inl ⟨rfl, rfl⟩, ?_⟩
  rintro t' p' (⟨rfl, rfl⟩ | h1)
  · obtain ⟨v, r, h2, h3, h4, h5⟩ := hG u q hC
    have := h.le
    exact ⟨v, r, by omega, h.trans h3, h4, .inr h5⟩
  · obtain ⟨v, r, h2, h3, h4, h5⟩ := hG t' p' h1
    exact ⟨v, r, h2, h3, h4, .inr h5⟩
theorem Run.sim {A A' : List Bool} {E E' : List Tr} {w : Nat → Int} (M : Nat → Nat → Prop)
    (hs : ∀ t p q p', M p p' → StE E w t p q → Run A E w (t + 1) q → ∃ q', StE E' w t p' q' ∧ M q q') (ha : ∀ p p', M p p' → tru A p → tru A' p') {t p p' : Nat} (h : Run A E w t p) (hm : M p p') : Run A' E' w t p' := by
  have fr : ∀ {t p u r : Nat}, FR E w t p u r → Run A E w u r → ∀ p', M p p' → ∃ r', FR E' w t p' u r' ∧ M r r' := by
    intro t p u r h
    induction h with
    | refl => intro _ p' hm; exact ⟨p', .refl _ _, hm⟩
    | step h k ih =>
      intro hr p' hm
      obtain ⟨q', h1, h2⟩ := hs _ _ _ _ hm h (hr.before k)
      obtain ⟨r', h3, h4⟩ := ih hr q' h2
      exact ⟨r', .step h1 h3, h4⟩
  obtain ⟨C, hC, hG⟩ := h
  refine ⟨fun t p' => ∃ p, C t p ∧ M p p', ⟨p, hC, hm⟩, ?_⟩
  rintro t p' ⟨p, hC, hm⟩
  obtain ⟨u, q, h2, h3, h4, h5⟩ := hG t p hC
  obtain ⟨q', h6, h7⟩ := fr h3 ⟨C, h5, hG⟩ p' hm
  exact ⟨u, q', h2, h6, ha _ _ h7 h4, q, h5, h7⟩
theorem fin_cyc {T : Nat → Nat → Prop} (tr : ∀ x y z, T x y → T y z → T x z) (N : Nat) : ∀ (m : Nat) (D : Nat → Prop), (((List.range N).filter fun x => @decide (D x) (Classical.propDecidable _)).length ≤ m) → (∀ x, D x → x < N) → (∃ x, D x) → (∀ x, D x → ∃ y, D y ∧ T x y) → ∃ x, D x ∧ T x x := by
  intro m
  induction m with
  | zero =>
    rintro D hm hN ⟨x, hx⟩ _
    exfalso
    have : x ∈ (List.range N).filter fun x => @decide (D x) (Classical.propDecidable _) := by
      rw [List.mem_filter]
      exact ⟨List.mem_range.2 (hN x hx), by simpa using hx⟩
    have := List.length_pos_of_mem this
    omega
  | succ m ih =>
    rintro D hm hN ⟨x, hx⟩ hT
    by_cases hxx : T x x
    · exact ⟨x, hx, hxx⟩
    obtain ⟨y, hy, hxy⟩ := hT x hx
    obtain ⟨z, ⟨hz, _⟩, hzz⟩ := ih (fun y => D y ∧ T x y) (by
      have := filter_lt_of (p := fun y => @decide (D y ∧ T x y) (Classical.propDecidable _)) (q := fun y => @decide (D y) (Classical.propDecidable _)) (fun y hy => by
        simp only [decide_eq_true_eq] at hy ⊢
        exact hy.1) (l := List.range N) ⟨x, List.mem_range.2 (hN x hx), by simp [hxx], by simpa using hx⟩
      omega) (fun y hy => hN y hy.1) ⟨y, hy, hxy⟩ (fun z hz => by
        obtain ⟨v, h1, h2⟩ := hT z hz.1
        exact ⟨v, ⟨h1, tr _ _ _ hz.2 h2⟩, h2⟩)
    exact ⟨z, hz, hzz⟩
def Rch1 (E : Nat → Nat → Prop) (x y : Nat) : Prop := ∃ z, E x z ∧ Rch E z y
theorem Rch1.trans {E : Nat → Nat → Prop} {x y z : Nat} (h : Rch1 E x y) (k : Rch1 E y z) : Rch1 E x z := by
  obtain ⟨u, h1, h2⟩ := h
  obtain ⟨v, h3, h4⟩ := k
  exact ⟨u, h1, h2.trans (.step h3 h4)⟩
theorem Rch1.rch {E : Nat → Nat → Prop} {x y : Nat} (h : Rch1 E x y) : Rch E x y := by
  obtain ⟨u, h1, h2⟩ := h
  exact .step h1 h2
theorem fin_rch {E : Nat → Nat → Prop} {N : Nat} {D : Nat → Prop} (hN : ∀ x, D x → x < N) (h0 : ∃ x, D x) (hT : ∀ x, D x → ∃ y, D y ∧ Rch1 E x y) : ∃ x, D x ∧ Cyc E x :=
  fin_cyc (T := Rch1 E) (fun _ _ _ h k => Rch1.trans h k) N _ D (Nat.le_refl _) hN h0 hT
def Aut.PE (a : Aut) (l : Las) (x y : Nat) : Prop := ∃ e ∈ a.edges, ∃ i, i < l.size ∧ x = i * a.acc.length + e.frm.toNat ∧ y = l.nx i * a.acc.length + e.to.toNat ∧ e.on (l.all.getD i 0) = true
section
variable {a : Aut} {l : Las}
theorem Aut.Ok.tr (ha : a.Ok) {e : Tr} (he : e ∈ a.edges) : ∃ f g : Nat, e.frm = f ∧ e.to = g ∧ f < a.acc.length ∧ g < a.acc.length := by
  have := ha.2.2.2 e he
  unfold Tr.Ok at this
  exact ⟨e.frm.toNat, e.to.toNat, by omega, by omega, by omega, by omega⟩
theorem Aut.Ok.st (ha : a.Ok) {w : Nat → Int} {t p q : Nat} (h : StE a.edges w t p q) : p < a.acc.length ∧ q < a.acc.length := by
  obtain ⟨e, he, h1, h2, _⟩ := h
  obtain ⟨f, g, h3, h4, h5, h6⟩ := ha.tr he
  exact ⟨by omega, by omega⟩
theorem PE.of (hl : 1 ≤ l.loop.length) {t p q : Nat} (h : StE a.edges l.word t p q) : a.PE l (l.pos t * a.acc.length + p) (l.pos (t + 1) * a.acc.length + q) := by
  obtain ⟨e, he, h1, h2, h3⟩ := h
  exact ⟨e, he, l.pos t, Las.pos_lt hl t, by rw [h1]; rfl, by rw [h2]; rfl, h3⟩
theorem PE.rch (hl : 1 ≤ l.loop.length) {t p u q : Nat} (h : FR a.edges l.word t p u q) : Rch (a.PE l) (l.pos t * a.acc.length + p) (l.pos u * a.acc.length + q) := by
  induction h with
  | refl => exact .refl _
  | step h _ ih => exact .step (PE.of hl h) ih
theorem PE.rch1 (hl : 1 ≤ l.loop.length) {t p u q : Nat} (h : FR a.edges l.word t p u q) (htu : t < u) : Rch1 (a.PE l) (l.pos t * a.acc.length + p) (l.pos u * a.acc.length + q) := by
  cases h with
  | refl => omega
  | step h k => exact ⟨_, PE.of hl h, PE.rch hl k⟩
theorem FR.lt (ha : a.Ok) {w : Nat → Int} {t p u q : Nat} (h : FR a.edges w t p u q) (hp : p < a.acc.length) : q < a.acc.length := by
  induction h with
  | refl => exact hp
  | step h _ ih => exact ih (ha.st h).2
end
theorem Run.live {a : Aut} (ha : a.Ok) {w : Nat → Int} {t p : Nat} (hp : p < a.acc.length) (h : Run a.acc a.edges w t p) : a.Live p := by
  have rch : ∀ {t p u q : Nat}, FR a.edges w t p u q → Rch a.E p q := by
    intro t p u q h
    induction h with
    | refl => exact .refl _
    | step h _ ih =>
      obtain ⟨e, he, h1, h2, _⟩ := h
      exact .step ⟨e, he, h1, h2⟩ ih
  have rch1 : ∀ {t p u q : Nat}, FR a.edges w t p u q → t < u → Rch1 a.E p q := by
    intro t p u q h hlt
    cases h with
    | refl => omega
    | step h k =>
      obtain ⟨e, he, h1, h2, _⟩ := h
      exact ⟨_, ⟨e, he, h1, h2⟩, rch k⟩
  obtain ⟨C, hC, hG⟩ := h
  obtain ⟨x, ⟨t, g1, g2, g3, g4⟩, hx⟩ := fin_rch (E := a.E) (N := a.acc.length) (D := fun x => ∃ t, C t x ∧ x < a.acc.length ∧ tru a.acc x ∧ Rch a.E p x)
    (by rintro x ⟨t, g1, g2, _⟩; exact g2)
    (by
      obtain ⟨u, q, h1, h2, h3, h4⟩ := hG t p hC
      exact ⟨q, u, h4, h2.lt ha hp, h3, rch h2⟩)
    (by
      rintro x ⟨t, g1, g2, g3, g4⟩
      obtain ⟨u, q, h1, h2, h3, h4⟩ := hG t x g1
      exact ⟨q, ⟨u, h4, h2.lt ha g2, h3, g4.trans (rch h2)⟩, rch1 h2 h1⟩)
  exact ⟨x, g4, hx, g3⟩
end Go.Proofs.Ytbanccfdojgocaa

namespace Go.Proofs.Ytbanccfdojgocaa
open Go
namespace Fm
mutual
def sat (w : Nat → Int) : Exq → Nat → Prop
  | .mk k v l, t => if k = 1 then True else if k = 2 then (w t).toNat.testBit v.toNat = true
    else if k = 3 then ¬ (satL w l).getD 0 (fun _ => False) t
    else if k = 4 then (satL w l).getD 0 (fun _ => False) t ∧ (satL w l).getD 1 (fun _ => False) t
    else if k = 5 then (satL w l).getD 0 (fun _ => False) t ∨ (satL w l).getD 1 (fun _ => False) t
    else if k = 6 then (satL w l).getD 0 (fun _ => False) (t + 1)
    else if k = 7 then ∃ u, t ≤ u ∧ (satL w l).getD 1 (fun _ => False) u ∧ ∀ v, t ≤ v → v < u → (satL w l).getD 0 (fun _ => False) v
    else if k = 8 then ∀ u, t ≤ u → (satL w l).getD 1 (fun _ => False) u ∨ ∃ v, t ≤ v ∧ v < u ∧ (satL w l).getD 0 (fun _ => False) v
    else if k = 9 then ∃ u, t ≤ u ∧ (satL w l).getD 0 (fun _ => False) u
    else ∀ u, t ≤ u → (satL w l).getD 0 (fun _ => False) u
def satL (w : Nat → Int) : List Exq → List (Nat → Prop)
  | [] => []
  | x :: l => sat w x :: satL w l
end
theorem satL_eq {w : Nat → Int} : ∀ l, satL w l = l.map (sat w)
  | [] => rfl
  | x :: l => by simp only [satL, List.map_cons, satL_eq l]
def sk (w : Nat → Int) (x : Exq) (j : Nat) : Nat → Prop := (x.kids.map (sat w)).getD j (fun _ => False)
theorem sk_at {w : Nat → Int} {x : Exq} {j : Nat} (hj : j < x.kids.length) : sk w x j = sat w x.kids[j] := by simp [sk, hj]
section
variable {w : Nat → Int}
theorem sat_eq (x : Exq) (t : Nat) : sat w x t = if x.kind = 1 then True else if x.kind = 2 then (w t).toNat.testBit x.val.toNat = true
    else if x.kind = 3 then ¬ sk w x 0 t else if x.kind = 4 then sk w x 0 t ∧ sk w x 1 t else if x.kind = 5 then sk w x 0 t ∨ sk w x 1 t
    else if x.kind = 6 then sk w x 0 (t + 1) else if x.kind = 7 then ∃ u, t ≤ u ∧ sk w x 1 u ∧ ∀ v, t ≤ v → v < u → sk w x 0 v
    else if x.kind = 8 then ∀ u, t ≤ u → sk w x 1 u ∨ ∃ v, t ≤ v ∧ v < u ∧ sk w x 0 v
    else if x.kind = 9 then ∃ u, t ≤ u ∧ sk w x 0 u else ∀ u, t ≤ u → sk w x 0 u := by
  cases x with
  | mk k v l => simp only [sat, satL_eq]; rfl
variable {x : Exq} {t : Nat}
theorem sat1 (h : x.kind = 1) : sat w x t := by rw [sat_eq]; simp [h]
theorem sat2 (h : x.kind = 2) : sat w x t ↔ (w t).toNat.testBit x.val.toNat = true := by rw [sat_eq]; simp [h]
theorem sat3 (h : x.kind = 3) : sat w x t ↔ ¬ sk w x 0 t := by rw [sat_eq]; simp [h]
theorem sat4 (h : x.kind = 4) : sat w x t ↔ sk w x 0 t ∧ sk w x 1 t := by rw [sat_eq]; simp [h]
theorem sat5 (h : x.kind = 5) : sat w x t ↔ sk w x 0 t ∨ sk w x 1 t := by rw [sat_eq]; simp [h]
theorem sat6 (h : x.kind = 6) : sat w x t ↔ sk w x 0 (t + 1) := by rw [sat_eq]; simp [h]
theorem sat7 (h : x.kind = 7) : sat w x t ↔ ∃ u, t ≤ u ∧ sk w x 1 u ∧ ∀ v, t ≤ v → v < u → sk w x 0 v := by rw [sat_eq]; simp [h]
theorem sat8 (h : x.kind = 8) : sat w x t ↔ ∀ u, t ≤ u → sk w x 1 u ∨ ∃ v, t ≤ v ∧ v < u ∧ sk w x 0 v := by rw [sat_eq]; simp [h]
theorem until_step {a b : Nat → Prop} {t : Nat} : (∃ u, t ≤ u ∧ b u ∧ ∀ v, t ≤ v → v < u → a v) ↔ b t ∨ (a t ∧ ∃ u, t + 1 ≤ u ∧ b u ∧ ∀ v, t + 1 ≤ v → v < u → a v) := by
  constructor
  · rintro ⟨u, h1, h2, h3⟩
    by_cases e : u = t
    · subst e; exact .inl h2
    · exact .inr ⟨h3 t (Nat.le_refl _) (by omega), u, by omega, h2, fun v hv hv2 => h3 v (by omega) hv2⟩
  · rintro (h | ⟨h, u, h1, h2, h3⟩)
    · exact ⟨t, Nat.le_refl _, h, fun v hv hv2 => by omega⟩
    · refine ⟨u, by omega, h2, fun v hv hv2 => ?_⟩
      by_cases e : v = t
      · subst e; exact h
      · exact h3 v (by omega) hv2
theorem release_step {a b : Nat → Prop} {t : Nat} : (∀ u, t ≤ u → b u ∨ ∃ v, t ≤ v ∧ v < u ∧ a v) ↔ b t ∧ (a t ∨ ∀ u, t + 1 ≤ u → b u ∨ ∃ v, t + 1 ≤ v ∧ v < u ∧ a v) := by
  constructor
  · intro h
    refine ⟨(h t (Nat.le_refl _)).elim id fun ⟨v, h1, h2, _⟩ => by omega, ?_⟩
    by_cases ha : a t
    · exact .inl ha
    · refine .inr fun u hu => ?_
      rcases h u (by omega) with h1 | ⟨v, h1, h2, h3⟩
      · exact .inl h1
      · by_cases e : v = t
        · subst e; exact absurd h3 ha
        · exact .inr ⟨v, by omega, h2, h3⟩
  · rintro ⟨h1, h2⟩ u hu
    by_cases e : u = t
    · subst e; exact .inl h1
    rcases h2 with h2 | h2
    · exact .inr ⟨t, Nat.le_refl _, by omega, h2⟩
    · rcases h2 u (by omega) with h3 | ⟨v, h3, h4, h5⟩
      · exact .inl h3
      · exact .inr ⟨v, by omega, h4, h5⟩
end
end Fm
end Go.Proofs.Ytbanccfdojgocaa

namespace Go.Proofs.Ytbanccfdojgocaa
open Go
namespace Fm
theorem bits_ex (b : Nat → Prop) : ∀ n, ∃ s, s < 2 ^ n ∧ ∀ i, i < n → (s.testBit i = true ↔ b i)
  | 0 => ⟨0, by simp, fun i hi => absurd hi (Nat.not_lt_zero i)⟩
  | n + 1 => by
    obtain ⟨s, h1, h2⟩ := bits_ex b n
    have hp : 2 ^ (n + 1) = 2 * 2 ^ n := by rw [Nat.pow_succ]; omega
    by_cases hb : b n
    · refine ⟨2 ^ n + s, by omega, fun i hi => ?_⟩
      by_cases e : i = n
      · subst e
        rw [Nat.testBit_two_pow_add_eq, Nat.testBit_lt_two_pow h1]
        simp [hb]
      · rw [Nat.testBit_two_pow_add_gt (by omega)]
        exact h2 i (by omega)
    · refine ⟨s, by omega, fun i hi => ?_⟩
      by_cases e : i = n
      · subst e
        rw [Nat.testBit_lt_two_pow h1]
        simp [hb]
      · exact h2 i (by omega)
theorem shl_bit {k a : Nat} : (1 <<< k).testBit a = decide (k = a) := by
  rw [Nat.one_shiftLeft, Nat.testBit_two_pow]
theorem ltc_bit {B : List Exq} {a : Nat} : ∀ n, n ≤ B.length → ((ltc B n).testBit a = true ↔ ∃ (i : Nat) (hi : i < B.length), i < n ∧ B[i].kind = 2 ∧ B[i].val.toNat = a)
  | 0, _ => by simp [ltc]
  | n + 1, hn => by
    have ih := ltc_bit (B := B) (a := a) n (by omega)
    have e : B.getD n Exq.zero = B[n]'(by omega) := by simp [show n < B.length by omega]
    rw [ltc, e]
    split
    · rename_i hk
      rw [Nat.testBit_or, Bool.or_eq_true, ih, shl_bit, decide_eq_true_iff]
      constructor
      · rintro (⟨i, hi, h1, h2, h3⟩ | h)
        · exact ⟨i, hi, by omega, h2, h3⟩
        · exact ⟨n, by omega, by omega, hk, h⟩
      · rintro ⟨i, hi, h1, h2, h3⟩
        by_cases e : i = n
        · subst e; exact .inr h3
        · exact .inl ⟨i, hi, by omega, h2, h3⟩
    · rename_i hk
      rw [ih]
      constructor
      · rintro ⟨i, hi, h1, h2, h3⟩; exact ⟨i, hi, by omega, h2, h3⟩
      · rintro ⟨i, hi, h1, h2, h3⟩
        by_cases e : i = n
        · subst e; exact absurd h2 hk
        · exact ⟨i, hi, by omega, h2, h3⟩
theorem ltv_bit {B : List Exq} {s a : Nat} : ∀ n, n ≤ B.length → ((ltv B s n).testBit a = true ↔ ∃ (i : Nat) (hi : i < B.length), i < n ∧ B[i].kind = 2 ∧ s.testBit i = true ∧ B[i].val.toNat = a)
  | 0, _ => by simp [ltv]
  | n + 1, hn => by
    have ih := ltv_bit (B := B) (s := s) (a := a) n (by omega)
    have e : B.getD n Exq.zero = B[n]'(by omega) := by simp [show n < B.length by omega]
    rw [ltv, e]
    split
    · rename_i hk
      rw [Nat.testBit_or, Bool.or_eq_true, ih, shl_bit, decide_eq_true_iff]
      constructor
      · rintro (⟨i, hi, h1, h2, h3⟩ | h)
        · exact ⟨i, hi, by omega, h2, h3⟩
        · exact ⟨n, by omega, by omega, hk.1, hk.2, h⟩
      · rintro ⟨i, hi, h1, h2, h3, h4⟩
        by_cases e : i = n
        · subst e; exact .inr h4
        · exact .inl ⟨i, hi, by omega, h2, h3, h4⟩
    · rename_i hk
      rw [ih]
      constructor
      · rintro ⟨i, hi, h1, h2, h3⟩; exact ⟨i, hi, by omega, h2, h3⟩
      · rintro ⟨i, hi, h1, h2, h3, h4⟩
        by_cases e : i = n
        · subst e; exact absurd ⟨h2, h3⟩ hk
        · exact ⟨i, hi, by omega, h2, h3, h4⟩
def Cl (B : List Exq) : Nat → Exq → Prop
  | 0, _ => False
  | n + 1, x => Nd x ∧ x.kind ≤ 8 ∧ (x.kind = 3 → ∀ y ∈ x.kids, y.kind = 1 ∨ y.kind = 2) ∧ (bas x = true → x ∈ B) ∧ ∀ y ∈ x.kids, Cl B n y
theorem Cl.shp {B : List Exq} : ∀ {n : Nat} {x : Exq}, Cl B n x → Shp n x
  | 0, _, h => h.elim
  | _ + 1, _, h => ⟨h.1, fun y hy => (h.2.2.2.2 y hy).shp⟩
theorem Cl.ex {B : List Exq} {n : Nat} {x : Exq} (h : Cl B n x) : ∃ m, n = m + 1 := by
  cases n with
  | zero => exact h.elim
  | succ n => exact ⟨n, rfl⟩
def Lm (B : List Exq) (s : Nat) (L : Int) : Prop := L.toNat &&& ltc B B.length = ltv B s B.length
theorem Lm_iff {B : List Exq} (hn : B.Nodup) (hB : ∀ y ∈ B, Shp 6 y) {s : Nat} {L : Int} : Lm B s L ↔ ∀ (i : Nat) (hi : i < B.length), B[i].kind = 2 → (L.toNat.testBit B[i].val.toNat = s.testBit i) := by
  have uniq : ∀ (i j : Nat) (hi : i < B.length) (hj : j < B.length), B[i].kind = 2 → B[j].kind = 2 → B[i].val.toNat = B[j].val.toNat → i = j := by
    intro i j hi hj h1 h2 h3
    have e1 := (hB _ (List.getElem_mem hi))
    have e2 := (hB _ (List.getElem_mem hj))
    have h4 := e1.nd.lo
    have h5 := e2.nd.lo
    have he : B[i] = B[j] := Exq.ext_iff'.2 ⟨by rw [h1, h2], by omega, by rw [e1.none (.inr h1), e2.none (.inr h2)]⟩
    have hp := List.pairwise_iff_getElem.1 hn
    rcases Nat.lt_trichotomy i j with h6 | h6 | h6
    · exact absurd he (hp i j hi hj h6)
    · exact h6
    · exact absurd he.symm (hp j i hj hi h6)
  constructor
  · intro h i hi hk
    have hb : (L.toNat &&& ltc B B.length).testBit B[i].val.toNat = (ltv B s B.length).testBit B[i].val.toNat := by rw [h]
    have hc : (ltc B B.length).testBit B[i].val.toNat = true := (ltc_bit _ (Nat.le_refl _)).2 ⟨i, hi, hi, hk, rfl⟩
    rw [Nat.testBit_and, hc, Bool.and_true] at hb
    rw [hb, Bool.eq_iff_iff, ltv_bit _ (Nat.le_refl _)]
    constructor
    · rintro ⟨j, hj, _, h2, h3, h4⟩
      obtain rfl := uniq j i hj hi h2 hk h4
      exact h3
    · exact fun h1 => ⟨i, hi, hi, hk, h1, rfl⟩
  · intro h
    refine Nat.eq_of_testBit_eq fun a => ?_
    rw [Nat.testBit_and, Bool.eq_iff_iff, Bool.and_eq_true, ltc_bit _ (Nat.le_refl _), ltv_bit _ (Nat.le_refl _)]
    constructor
    · rintro ⟨h1, i, hi, h2, h3, rfl⟩
      exact ⟨i, hi, h2, h3, by rw [← h i hi h3]; exact h1, rfl⟩
    · rintro ⟨i, hi, h2, h3, h4, rfl⟩
      exact ⟨by rw [h i hi h3]; exact h4, i, hi, h2, h3, rfl⟩
theorem val_bas {B : List Exq} {s : Nat} {x : Exq} (h : bas x = true) : val B s x = has s (fx B x) := by
  rw [val_eq]
  have h := of_decide_eq_true h
  rw [if_neg (by omega), if_neg (by omega), if_neg (by omega), if_neg (by omega)]
structure Gd (B : List Exq) (U : List Int) (w : Nat → Int) (σ : Nat → Nat) (π : Nat → Int) : Prop where
  fol : ∀ t, Fol B (σ t) (σ (t + 1))
  lm : ∀ t, Lm B (σ t) (w t)
  ph : ∀ t, π (t + 1) = (phs B U (σ t) (π t)).1
  ok : ∀ t, POk U (π t)
  acc : ∀ t, ∃ u, t ≤ u ∧ (phs B U (σ u) (π u)).2 = true
theorem Gd.ful {B : List Exq} {U : List Int} {w : Nat → Int} {σ : Nat → Nat} {π : Nat → Int} (h : Gd B U w σ π) {m : Nat} (hm : m < U.length) (t : Nat) : ∃ u, t ≤ u ∧ Fm.ful B (σ u) U[m] = true := by
  apply Classical.byContradiction
  intro hno
  have hno : ∀ u, t ≤ u → Fm.ful B (σ u) U[m] = false := fun u hu => by
    cases hf : Fm.ful B (σ u) U[m] with
    | false => rfl
    | true => exact absurd ⟨u, hu, hf⟩ hno
  have hU : ¬ U.length = 0 := by omega
  have hUp : (0 : Int) < U.length := by omega
  have hstep : ∀ u, t ≤ u → ∀ p : Nat, π u = p → p < U.length ∧ (phs B U (σ u) (π u) = if Fm.ful B (σ u) (U.getD p 0) = true then ((((p + 1) % U.length : Nat) : Int), decide (p = 0)) else ((p : Int), false)) := by
    intro u hu p hp
    have hk := h.ok u
    rw [hp] at hk
    have hpl : p < U.length := by rcases hk.2 with h1 | h1 <;> omega
    refine ⟨hpl, ?_⟩
    rw [phs, if_neg hU, hp, Int.toNat_natCast]
    split
    · congr 1
      simp
    · rfl
  have hnat : ∀ u, ∃ p : Nat, π u = p := fun u => ⟨(π u).toNat, by have := (h.ok u).1; omega⟩
  have hgm : U.getD m 0 = U[m] := by simp [hm]
  -- an accepting time
  obtain ⟨t1, h1, h2⟩ := h.acc t
  obtain ⟨p1, hp1⟩ := hnat t1
  obtain ⟨hp1l, hq1⟩ := hstep t1 h1 p1 hp1
  rw [hq1] at h2
  by_cases f1 : Fm.ful B (σ t1) (U.getD p1 0) = true
  case neg => rw [if_neg f1] at h2; simp at h2
  rw [if_pos f1] at h2 hq1
  have hp10 : p1 = 0 := of_decide_eq_true h2
  subst hp10
  have hm0 : m ≠ 0 := by
    rintro rfl
    rw [hgm, hno t1 h1] at f1
    simp at f1
  -- from then on the phase lies between
  have hbet : ∀ k, ∃ p : Nat, π (t1 + 1 + k) = p ∧ 1 ≤ p ∧ p ≤ m := by
    intro k
    induction k with
    | zero => exact ⟨1, by rw [Nat.add_zero, h.ph t1, hq1]; simp only [Nat.zero_add]; rw [Nat.mod_eq_of_lt (by omega)], by omega, by omega⟩
    | succ k ih =>
      obtain ⟨p, g1, g2, g3⟩ := ih
      obtain ⟨g4, g5⟩ := hstep _ (by omega) p g1
      by_cases f2 : Fm.ful B (σ (t1 + 1 + k)) (U.getD p 0) = true
      · rw [if_pos f2] at g5
        have hpm : p ≠ m := by
          rintro rfl
          rw [hgm, hno _ (by omega)] at f2
          simp at f2
        exact ⟨p + 1, by rw [← Nat.add_assoc, h.ph, g5]; simp only; rw [Nat.mod_eq_of_lt (by omega)], by omega, by omega⟩
      · rw [if_neg f2] at g5
        exact ⟨p, by rw [← Nat.add_assoc, h.ph, g5], g2, g3⟩
  obtain ⟨t2, h3, h4⟩ := h.acc (t1 + 1)
  obtain ⟨p, g1, g2, g3⟩ := hbet (t2 - (t1 + 1))
  rw [show t1 + 1 + (t2 - (t1 + 1)) = t2 by omega] at g1
  obtain ⟨_, g5⟩ := hstep t2 (by omega) p g1
  rw [g5] at h4
  split at h4
  · have := of_decide_eq_true h4
    omega
  · simp at h4
theorem unt_at {B : List Exq} : ∀ {n : Nat} {i : Nat}, i < n → (B.getD i Exq.zero).kind = 7 → (i : Int) ∈ unt B n
  | n + 1, i, hi, hk => by
    rw [unt]
    by_cases e : i = n
    · subst e
      rw [if_pos hk]
      simp
    · have := unt_at (B := B) (n := n) (i := i) (by omega) hk
      split
      · exact List.mem_append_left _ this
      · exact this
theorem Gd.sound {B : List Exq} {w : Nat → Int} {σ : Nat → Nat} {π : Nat → Int} (h : Gd B (unt B B.length) w σ π) (hn : B.Nodup) (hB : ∀ y ∈ B, Shp 6 y) : ∀ (x : Exq) {n : Nat}, Cl B n x → ∀ t, val B (σ t) x = true → sat w x t := by
  refine Exq.ind fun x ih n hc t hv => ?_
  obtain ⟨n, rfl⟩ := hc.ex
  have hs := hc.shp
  obtain ⟨hnd, hk8, h3, hbB, hkids⟩ := hc
  have hkd := hnd.kind
  have kid : ∀ j t, j < x.kids.length → kv B (σ t) x j = true → sk w x j t := by
    intro j t hj hv
    rw [kv_at hj] at hv
    rw [sk_at hj]
    exact ih _ (List.getElem_mem hj) (hkids _ (List.getElem_mem hj)) t hv
  by_cases c1 : x.kind = 1
  · exact sat1 c1
  have atom : ∀ {y : Exq} {t : Nat}, y.kind = 2 → y ∈ B → (val B (σ t) y = true ↔ sat w y t) := by
    intro y t hy hm
    obtain ⟨i, hi, e1, e2⟩ := fx_mem hm
    rw [val_bas (by simp [bas, hy]), e1, has_nat, sat2 hy, ← (Lm_iff hn hB).1 (h.lm t) i hi (by rw [e2]; exact hy), e2]
  by_cases c3 : x.kind = 3
  · have h1 := hs.one (.inl c3)
    have hl : 0 < x.kids.length := by omega
    rw [val_eq, if_neg c1, if_pos c3] at hv
    rw [sat3 c3, sk_at hl]
    rw [kv_at hl] at hv
    have hc2 := hkids _ (List.getElem_mem hl)
    rcases h3 c3 _ (List.getElem_mem hl) with hk | hk
    · rw [val_eq, if_pos hk] at hv
      simp at hv
    · obtain ⟨n', rfl⟩ := hc2.ex
      have hm := hc2.2.2.2.1 (by simp [bas, hk])
      rw [← atom hk hm]
      simpa using hv
  by_cases c4 : x.kind = 4
  · have h1 := hs.two (.inl c4)
    rw [val_eq, if_neg c1, if_neg c3, if_pos c4, Bool.and_eq_true] at hv
    rw [sat4 c4]
    exact ⟨kid _ _ (by omega) hv.1, kid _ _ (by omega) hv.2⟩
  by_cases c5 : x.kind = 5
  · have h1 := hs.two (.inr (.inl c5))
    rw [val_eq, if_neg c1, if_neg c3, if_neg c4, if_pos c5, Bool.or_eq_true] at hv
    rw [sat5 c5]
    exact hv.imp (kid _ _ (by omega)) (kid _ _ (by omega))
  have hb : bas x = true := decide_eq_true (by omega)
  have hm := hbB hb
  obtain ⟨i, hi, e1, e2⟩ := fx_mem hm
  have hvb : ∀ t, val B (σ t) x = (σ t).testBit i := fun t => by rw [val_bas hb, e1, has_nat]
  by_cases c2 : x.kind = 2
  · exact (atom c2 hm).1 hv
  have hfol : ∀ t, got B (σ t) (σ (t + 1)) i x = (σ t).testBit i := fun t => by have := h.fol t i hi; rwa [e2] at this
  rw [hvb] at hv
  by_cases c6 : x.kind = 6
  · have h1 := hs.one (.inr (.inl c6))
    have h2 := hfol t
    rw [got, if_pos c6, hv] at h2
    rw [sat6 c6]
    exact kid _ _ (by omega) h2
  by_cases c7 : x.kind = 7
  · have h1 := hs.two (.inr (.inr (.inl c7)))
    have hst : ∀ t, (σ t).testBit i = (kv B (σ t) x 1 || kv B (σ t) x 0 && (σ (t + 1)).testBit i) := fun t => by
      have h2 := hfol t
      rw [got, if_neg c6, if_pos c7] at h2
      exact h2.symm
    have hu := unt_at (B := B) (n := B.length) (i := i) hi (by rw [List.getD_eq_getElem?_getD, List.getElem?_eq_getElem hi, e2]; exact c7)
    obtain ⟨m, hml, hmu⟩ := List.mem_iff_getElem.1 hu
    obtain ⟨u0, g1, g2⟩ := h.ful hml t
    rw [hmu, Fm.ful, has_nat, Int.toNat_natCast, List.getD_eq_getElem?_getD, List.getElem?_eq_getElem hi, e2] at g2
    simp only [Option.getD_some, Bool.or_eq_true, Bool.not_eq_true'] at g2
    -- from t to there
    have key : ∀ d t, t + d = u0 → (σ t).testBit i = true → ∃ u, t ≤ u ∧ sk w x 1 u ∧ ∀ v, t ≤ v → v < u → sk w x 0 v := by
      intro d
      induction d with
      | zero =>
        intro t ht hb
        obtain rfl : t = u0 := by omega
        rcases g2 with g2 | g2
        · rw [hb] at g2; simp at g2
        · exact ⟨t, Nat.le_refl _, kid _ _ (by omega) g2, fun v hv hv2 => by omega⟩
      | succ d ihd =>
        intro t ht hb
        rw [hst t] at hb
        rw [until_step]
        cases hk1 : kv B (σ t) x 1 with
        | true => exact .inl (kid _ _ (by omega) hk1)
        | false =>
          rw [hk1, Bool.false_or, Bool.and_eq_true] at hb
          exact .inr ⟨kid _ _ (by omega) hb.1, ihd (t + 1) (by omega) hb.2⟩
    rw [sat7 c7]
    exact key (u0 - t) t (by omega) hv
  · have c8 : x.kind = 8 := by omega
    have h1 := hs.two (.inr (.inr (.inr c8)))
    have hst : ∀ t, (σ t).testBit i = (kv B (σ t) x 1 && (kv B (σ t) x 0 || (σ (t + 1)).testBit i)) := fun t => by
      have h2 := hfol t
      rw [got, if_neg c6, if_neg c7, if_pos c8] at h2
      exact h2.symm
    rw [sat8 c8]
    have key : ∀ d, (∃ v, t ≤ v ∧ v < t + d ∧ sk w x 0 v) ∨ (σ (t + d)).testBit i = true := by
      intro d
      induction d with
      | zero => exact .inr hv
      | succ d ihd =>
        rcases ihd with ⟨v, g1, g2, g3⟩ | hb
        · exact .inl ⟨v, g1, by omega, g3⟩
        · rw [hst, Bool.and_eq_true, Bool.or_eq_true] at hb
          rcases hb.2 with g | g
          · exact .inl ⟨t + d, by omega, by omega, kid _ _ (by omega) g⟩
          · exact .inr (by rw [← Nat.add_assoc]; exact g)
    intro u hu
    rcases key (u - t) with ⟨v, g1, g2, g3⟩ | g
    · exact .inr ⟨v, g1, by omega, g3⟩
    · rw [show t + (u - t) = u by omega, hst, Bool.and_eq_true] at g
      exact .inl (kid _ _ (by omega) g.1)
end Fm
end Go.Proofs.Ytbanccfdojgocaa

namespace Go.Proofs.Ytbanccfdojgocaa
open Go
namespace Fm
theorem ins_nodup {o : List Exq} {x : Exq} (h : o.Nodup) : (ins o x).Nodup := by
  unfold ins
  split
  · exact h
  · rename_i hx
    rw [List.nodup_append]
    exact ⟨h, by simp, fun a ha b hb => by simp at hb; subst hb; rintro rfl; exact hx ha⟩
theorem mem_ins {o : List Exq} {x y : Exq} : y ∈ ins o x ↔ y ∈ o ∨ y = x := by
  unfold ins
  split
  · rename_i hx
    exact ⟨.inl, fun h => h.elim id fun e => e ▸ hx⟩
  · simp
theorem nod_kid {x y : Exq} (h : y ∈ x.kids) : y.nod < x.nod := by
  obtain ⟨i, hi, rfl⟩ := List.mem_iff_getElem.1 h
  have e1 := Exq.nods_take hi
  have e2 := Exq.nods_le x.kids (i + 1)
  have e3 := x.nod_eq
  omega
theorem subs_nodup : ∀ (n : Nat) (x : Exq), x.nod ≤ n → ∀ (o : List Exq), o.Nodup → (subs x o).Nodup := by
  intro n
  induction n with
  | zero => intro x h; rw [Exq.nod_eq] at h; omega
  | succ n ih =>
    intro x hx o ho
    rw [subs_eq]
    have hl : ∀ (l : List Exq), (∀ z ∈ l, z.nod ≤ n) → ∀ (o : List Exq), o.Nodup → (l.foldl (fun o x => subs x o) o).Nodup := by
      intro l
      induction l with
      | nil => intro _ o ho; exact ho
      | cons z l ihl => intro hz o ho; exact ihl (fun w hw => hz w (by simp [hw])) _ (ih z (hz z (by simp)) o ho)
    exact ins_nodup (hl _ (fun z hz => by have := nod_kid hz; omega) o ho)
def Kc (o : List Exq) : Prop := ∀ y ∈ o, ∀ z ∈ y.kids, z ∈ o
theorem subs_kc : ∀ (n : Nat) (x : Exq), x.nod ≤ n → ∀ (o : List Exq), Kc o → Kc (subs x o) ∧ x ∈ subs x o ∧ ∀ y ∈ o, y ∈ subs x o := by
  intro n
  induction n with
  | zero => intro x h; rw [Exq.nod_eq] at h; omega
  | succ n ih =>
    intro x hx o ho
    rw [subs_eq]
    have hl : ∀ (l : List Exq), (∀ z ∈ l, z.nod ≤ n) → ∀ (o : List Exq), Kc o → Kc (l.foldl (fun o x => subs x o) o) ∧ (∀ y ∈ l, y ∈ l.foldl (fun o x => subs x o) o) ∧ ∀ y ∈ o, y ∈ l.foldl (fun o x => subs x o) o := by
      intro l
      induction l with
      | nil => intro _ o ho; exact ⟨ho, fun y hy => by simp at hy, fun y hy => hy⟩
      | cons z l ihl =>
        intro hz o ho
        obtain ⟨h1, h2, h3⟩ := ih z (hz z (by simp)) o ho
        obtain ⟨h4, h5, h6⟩ := ihl (fun w hw => hz w (by simp [hw])) _ h1
        rw [List.foldl_cons]
        refine ⟨h4, fun y hy => ?_, fun y hy => h6 _ (h3 y hy)⟩
        rcases List.mem_cons.1 hy with rfl | hy
        · exact h6 _ h2
        · exact h5 y hy
    obtain ⟨h1, h2, h3⟩ := hl x.kids (fun z hz => by have := nod_kid hz; omega) o ho
    refine ⟨fun y hy z hz => ?_, mem_ins.2 (.inr rfl), fun y hy => mem_ins.2 (.inl (h3 y hy))⟩
    rcases mem_ins.1 hy with hy | rfl
    · exact mem_ins.2 (.inl (h1 y hy z hz))
    · exact mem_ins.2 (.inl (h2 z hz))
def Nf : Nat → Exq → Prop
  | 0, _ => False
  | n + 1, x => x.kind ≤ 8 ∧ (x.kind = 3 → ∀ y ∈ x.kids, y.kind = 1 ∨ y.kind = 2) ∧ ∀ y ∈ x.kids, Nf n y
theorem Nf.kids {x : Exq} (h : ∃ n, Nf n x) : ∀ y ∈ x.kids, ∃ n, Nf n y := by
  obtain ⟨n, h⟩ := h
  cases n with
  | zero => exact h.elim
  | succ n => exact fun y hy => ⟨n, h.2.2 y hy⟩
theorem Nf.mono : ∀ {n : Nat} {x : Exq}, Nf n x → Nf (n + 1) x
  | 0, _, h => h.elim
  | n + 1, _, h => ⟨h.1, h.2.1, fun y hy => (h.2.2 y hy).mono⟩
theorem Nf.up {n m : Nat} {x : Exq} (h : Nf n x) (hm : n ≤ m) : Nf m x := by
  obtain ⟨k, rfl⟩ := Nat.exists_eq_add_of_le hm
  induction k with
  | zero => exact h
  | succ k ih => exact (ih (by omega)).mono
theorem nf_tru : Nf 3 tru := ⟨by decide, fun h => absurd h (by decide), fun y hy => by simp [tru] at hy⟩
theorem nf_neg {x : Exq} (h : x.kind = 1 ∨ x.kind = 2) (hk : x.kids = []) : Nf 3 (neg x) :=
  ⟨by simp [neg], fun _ y hy => by simp [neg] at hy; subst hy; exact h, fun y hy => by
    simp [neg] at hy; subst hy
    exact ⟨by omega, fun h3 => by omega, fun z hz => by rw [hk] at hz; simp at hz⟩⟩
theorem nf_push : ∀ (x : Exq) {n : Nat}, Shp n x → ∀ b, Nf (n + 3) (push x b) := by
  refine Exq.ind fun x ih n hs b => ?_
  obtain ⟨m, rfl⟩ : ∃ m, n = m + 1 := ⟨n - 1, by cases n with
    | zero => exact hs.elim
    | succ n => rfl⟩
  have hk : ∀ (b : Bool) (j : Nat), j < x.kids.length → Nf (m + 3) (kp x b j) := by
    intro b j hj
    rw [kp_at hj]
    exact ih _ (List.getElem_mem hj) (hs.kid hj) b
  have hkd := hs.nd.kind
  rw [push_eq]
  have e3 : m + 1 + 3 = (m + 3) + 1 := by omega
  split
  · rename_i h
    split
    · exact (nf_neg (x := .mk x.kind x.val []) h rfl).up (by omega)
    · exact ⟨by simp only [Exq.kind_mk]; omega, fun h3 => by simp only [Exq.kind_mk] at h3; omega, fun y hy => by simp at hy⟩
  split
  · rename_i h
    exact (hk _ 0 (by rw [hs.one (.inl h)]; omega)).mono
  split
  · rename_i h
    rw [e3]
    exact ⟨by simp, fun h3 => absurd h3 (by simp), fun y hy => by simp at hy; subst hy; exact hk _ 0 (by rw [hs.one (.inr (.inl h))]; omega)⟩
  split
  · rename_i h
    have h0 := hk b 0 (by rw [hs.one (.inr (.inr h))]; omega)
    split
    · rw [e3]
      refine ⟨by simp, fun h3 => absurd h3 (by simp), fun y hy => ?_⟩
      simp at hy
      rcases hy with rfl | rfl
      · exact nf_tru.up (by omega)
      · exact h0
    · rw [e3]
      refine ⟨by simp, fun h3 => absurd h3 (by simp), fun y hy => ?_⟩
      simp at hy
      rcases hy with rfl | rfl
      · exact (nf_neg (x := tru) (.inl rfl) rfl).up (by omega)
      · exact h0
  · have c : x.kind = 4 ∨ x.kind = 5 ∨ x.kind = 7 ∨ x.kind = 8 := by omega
    have hl := hs.two c
    have hd : (if b = true then dual x.kind else x.kind) = 4 ∨ (if b = true then dual x.kind else x.kind) = 5 ∨ (if b = true then dual x.kind else x.kind) = 7 ∨ (if b = true then dual x.kind else x.kind) = 8 := by
      unfold dual
      rcases c with c | c | c | c <;> (rw [c]; cases b <;> simp)
    rw [e3]
    refine ⟨by simp only [Exq.kind_mk]; omega, fun h3 => by simp only [Exq.kind_mk] at h3; omega, fun y hy => ?_⟩
    simp at hy
    rcases hy with rfl | rfl
    · exact hk _ 0 (by omega)
    · exact hk _ 1 (by omega)
theorem basics_nodup {x : Exq} : (basics x).Nodup := List.Pairwise.filter _ (subs_nodup _ _ (Nat.le_refl _) [] (by simp))
theorem basics_cl {x : Exq} (h : Ok x ∧ Ok (push x false)) : Cl (basics x) 6 (push x false) := by
  obtain ⟨h1, h2, _⟩ := subs_kc _ (push x false) (Nat.le_refl _) [] (fun y hy => by simp at hy)
  have hnf := subs_all (P := fun y => ∃ n, Nf n y) _ (push x false) (fun y hy => Nf.kids hy) (Nat.le_refl _) ⟨_, nf_push x h.1.1 false⟩ [] (fun y hy => by simp at hy)
  have key : ∀ (n : Nat) (y : Exq), y ∈ subs (push x false) [] → Shp n y → Cl (basics x) n y := by
    intro n
    induction n with
    | zero => intro y _ h; exact h.elim
    | succ n ih =>
      intro y hy hs
      obtain ⟨m, hm⟩ := hnf y hy
      cases m with
      | zero => exact hm.elim
      | succ m => exact ⟨hs.1, hm.1, hm.2.1, fun hb => List.mem_filter.2 ⟨hy, hb⟩, fun z hz => ih z (h1 y hy z hz) (hs.2 z hz)⟩
  exact key 6 _ h2 h.2.1
structure Ds (B : List Exq) (w : Nat → Int) (σ : Nat → Nat) : Prop where
  lt : ∀ t, σ t < 2 ^ B.length
  at_ : ∀ t (i : Nat) (hi : i < B.length), ((σ t).testBit i = true ↔ sat w B[i] t)
theorem Ds.ex (B : List Exq) (w : Nat → Int) : ∃ σ, Ds B w σ := by
  have h : ∀ t, ∃ s, s < 2 ^ B.length ∧ ∀ (i : Nat) (hi : i < B.length), (s.testBit i = true ↔ sat w B[i] t) := fun t => by
    obtain ⟨s, h1, h2⟩ := bits_ex (fun i => sat w (B.getD i Exq.zero) t) B.length
    exact ⟨s, h1, fun i hi => by rw [h2 i hi]; simp [hi]⟩
  exact ⟨fun t => Classical.choose (h t), fun t => (Classical.choose_spec (h t)).1, fun t => (Classical.choose_spec (h t)).2⟩
theorem Ds.val {B : List Exq} {w : Nat → Int} {σ : Nat → Nat} (h : Ds B w σ) (t : Nat) : ∀ (x : Exq) {n : Nat}, Cl B n x → (Fm.val B (σ t) x = true ↔ sat w x t) := by
  refine Exq.ind fun x ih n hc => ?_
  obtain ⟨n, rfl⟩ := hc.ex
  have hs := hc.shp
  obtain ⟨hnd, hk8, h3, hbB, hkids⟩ := hc
  have hkd := hnd.kind
  have kid : ∀ j, j < x.kids.length → (kv B (σ t) x j = true ↔ sk w x j t) := by
    intro j hj
    rw [kv_at hj, sk_at hj]
    exact ih _ (List.getElem_mem hj) (hkids _ (List.getElem_mem hj))
  by_cases hb : bas x = true
  · obtain ⟨i, hi, e1, e2⟩ := fx_mem (hbB hb)
    rw [val_bas hb, e1, has_nat, h.at_ t i hi, e2]
  have hb' : ¬ (x.kind = 2 ∨ x.kind = 6 ∨ x.kind = 7 ∨ x.kind = 8) := fun hh => hb (decide_eq_true hh)
  rw [val_eq]
  split
  · rename_i c; simp [sat1 c]
  split
  · rename_i c
    rw [sat3 c, ← kid 0 (by rw [hs.one (.inl c)]; omega)]
    simp
  split
  · rename_i c
    have := hs.two (.inl c)
    rw [sat4 c, ← kid 0 (by omega), ← kid 1 (by omega), Bool.and_eq_true]
  split
  · rename_i c
    have := hs.two (.inr (.inl c))
    rw [sat5 c, ← kid 0 (by omega), ← kid 1 (by omega), Bool.or_eq_true]
  · omega
def Bc (B : List Exq) : Prop := B.Nodup ∧ ∀ y ∈ B, Shp 6 y ∧ bas y = true ∧ ∃ n, Cl B n y
theorem Ds.fol {B : List Exq} {w : Nat → Int} {σ : Nat → Nat} (h : Ds B w σ) (hB : Bc B) (t : Nat) : Fol B (σ t) (σ (t + 1)) := by
  intro i hi
  obtain ⟨_, hb, n, hc⟩ := hB.2 _ (List.getElem_mem hi)
  obtain ⟨n, rfl⟩ := hc.ex
  have hs := hc.shp
  obtain ⟨hnd, hk8, h3, hbB, hkids⟩ := hc
  have hb := of_decide_eq_true hb
  have kid : ∀ t j, j < B[i].kids.length → (kv B (σ t) B[i] j = true ↔ sk w B[i] j t) := by
    intro t j hj
    rw [kv_at hj, sk_at hj]
    exact h.val t _ (hkids _ (List.getElem_mem hj))
  have at_ := fun t => h.at_ t i hi
  unfold got
  rw [Bool.eq_iff_iff]
  split
  · rename_i c
    rw [at_, sat6 c, kid _ _ (by rw [hs.one (.inr (.inl c))]; omega)]
  split
  · rename_i c
    have := hs.two (.inr (.inr (.inl c)))
    have h1 := at_ (t + 1)
    rw [sat7 c] at h1
    rw [at_, sat7 c, until_step, Bool.or_eq_true, Bool.and_eq_true, kid _ _ (by omega), kid _ _ (by omega), h1]
  split
  · rename_i c
    have := hs.two (.inr (.inr (.inr c)))
    have h1 := at_ (t + 1)
    rw [sat8 c] at h1
    rw [at_, sat8 c, release_step, Bool.and_eq_true, Bool.or_eq_true, kid _ _ (by omega), kid _ _ (by omega), h1]
  · rfl
theorem Ds.lm {B : List Exq} {w : Nat → Int} {σ : Nat → Nat} (h : Ds B w σ) (hB : Bc B) (t : Nat) : Lm B (σ t) (w t) := by
  rw [Lm_iff hB.1 fun y hy => (hB.2 y hy).1]
  intro i hi hk
  rw [Bool.eq_iff_iff, h.at_ t i hi, sat2 hk]
theorem Ds.ful {B : List Exq} {w : Nat → Int} {σ : Nat → Nat} (h : Ds B w σ) (hB : Bc B) {u : Int} (hu : u ∈ unt B B.length) (t : Nat) : ∃ v, t ≤ v ∧ Fm.ful B (σ v) u = true := by
  obtain ⟨i, rfl, hi, hk⟩ := unt_mem hu
  have e : B.getD i Exq.zero = B[i] := by simp [hi]
  rw [e] at hk
  obtain ⟨_, hb, n, hc⟩ := hB.2 _ (List.getElem_mem hi)
  obtain ⟨n, rfl⟩ := hc.ex
  have hs := hc.shp
  obtain ⟨hnd, hk8, h3, hbB, hkids⟩ := hc
  have h2 := hs.two (.inr (.inr (.inl hk)))
  simp only [Fm.ful, has_nat, Int.toNat_natCast, e, Bool.or_eq_true, Bool.not_eq_true']
  cases hb2 : (σ t).testBit i with
  | false => exact ⟨t, Nat.le_refl _, .inl hb2⟩
  | true =>
    have h4 := (h.at_ t i hi).1 hb2
    rw [sat7 hk] at h4
    obtain ⟨v, g1, g2, _⟩ := h4
    refine ⟨v, g1, .inr ?_⟩
    rw [kv_at (by omega), h.val v _ (hkids _ (List.getElem_mem (show 1 < B[i].kids.length by omega))), ← sk_at (by omega)]
    exact g2
noncomputable def phN (B : List Exq) (U : List Int) (σ : Nat → Nat) : Nat → Int
  | 0 => 0
  | t + 1 => (phs B U (σ t) (phN B U σ t)).1
theorem phN_ok {B : List Exq} {U : List Int} {σ : Nat → Nat} : ∀ t, POk U (phN B U σ t)
  | 0 => ⟨Int.le_refl _, .inr rfl⟩
  | t + 1 => phs_ok (phN_ok t)
theorem phN_acc {B : List Exq} {U : List Int} {σ : Nat → Nat} (hf : ∀ u ∈ U, ∀ t, ∃ v, t ≤ v ∧ ful B (σ v) u = true) (t : Nat) : ∃ u, t ≤ u ∧ (phs B U (σ u) (phN B U σ u)).2 = true := by
  by_cases hU : U.length = 0
  · exact ⟨t, Nat.le_refl _, by rw [phs, if_pos hU]⟩
  have hstep : ∀ u, ∃ p : Nat, phN B U σ u = p ∧ p < U.length ∧ phs B U (σ u) (phN B U σ u) = if ful B (σ u) (U.getD p 0) = true then ((((p + 1) % U.length : Nat) : Int), decide (p = 0)) else ((p : Int), false) := by
    intro u
    have hk := phN_ok (B := B) (U := U) (σ := σ) u
    obtain ⟨p, hp⟩ : ∃ p : Nat, phN B U σ u = p := ⟨(phN B U σ u).toNat, by have := hk.1; omega⟩
    rw [hp] at hk
    have hpl : p < U.length := by rcases hk.2 with h1 | h1 <;> omega
    refine ⟨p, hp, hpl, ?_⟩
    rw [phs, if_neg hU, hp, Int.toNat_natCast]
    split
    · congr 1
      simp
    · rfl
  -- a phase is left
  have leave : ∀ (p : Nat) (t : Nat), phN B U σ t = p → ∃ u, t ≤ u ∧ phN B U σ u = p ∧ ful B (σ u) (U.getD p 0) = true := by
    intro p t hp
    obtain ⟨q, h1, h2, _⟩ := hstep t
    obtain rfl : p = q := by omega
    obtain ⟨v, g1, g2⟩ := hf _ (List.getElem_mem h2) t
    have hgd : U.getD p 0 = U[p] := by simp [h2]
    -- the first time
    have key : ∀ d t, t + d = v → phN B U σ t = p → ∃ u, t ≤ u ∧ phN B U σ u = p ∧ ful B (σ u) (U.getD p 0) = true := by
      intro d
      induction d with
      | zero =>
        intro t ht hp
        obtain rfl : t = v := by omega
        exact ⟨t, Nat.le_refl _, hp, by rw [hgd]; exact g2⟩
      | succ d ih =>
        intro t ht hp
        by_cases hfu : ful B (σ t) (U.getD p 0) = true
        · exact ⟨t, Nat.le_refl _, hp, hfu⟩
        · obtain ⟨q, k1, k2, k3⟩ := hstep t
          obtain rfl : p = q := by omega
          rw [if_neg hfu] at k3
          obtain ⟨u, k4, k5⟩ := ih (t + 1) (by omega) (by rw [phN, k3])
          exact ⟨u, by omega, k5⟩
    exact key (v - t) t (by omega) hp
  -- each phase comes to the first one
  have down : ∀ d (p : Nat) (t : Nat), p + d = U.length → p < U.length → phN B U σ t = p → ∃ u, t ≤ u ∧ phN B U σ u = ((0 : Nat) : Int) := by
    intro d
    induction d with
    | zero => intro p t h1 h2; omega
    | succ d ih =>
      intro p t h1 h2 hp
      obtain ⟨u, g1, g2, g3⟩ := leave p t hp
      obtain ⟨q, k1, k2, k3⟩ := hstep u
      obtain rfl : p = q := by omega
      rw [if_pos g3] at k3
      by_cases e : p + 1 = U.length
      · exact ⟨u + 1, by omega, by rw [phN, k3, e]; simp⟩
      · obtain ⟨v, k4, k5⟩ := ih (p + 1) (u + 1) (by omega) (by omega) (by rw [phN, k3]; simp only; rw [Nat.mod_eq_of_lt (by omega)])
        exact ⟨v, by omega, k5⟩
  obtain ⟨p, h1, h2, _⟩ := hstep t
  obtain ⟨u, h3, h4⟩ := down (U.length - p) p t (by omega) h2 h1
  obtain ⟨v, h5, h6, h7⟩ := leave 0 u h4
  obtain ⟨q, k1, k2, k3⟩ := hstep v
  obtain rfl : q = 0 := by omega
  rw [if_pos h7] at k3
  exact ⟨v, by omega, by rw [k3]; rfl⟩
theorem Ds.gd {B : List Exq} {w : Nat → Int} {σ : Nat → Nat} (h : Ds B w σ) (hB : Bc B) : Gd B (unt B B.length) w σ (phN B (unt B B.length) σ) :=
  ⟨h.fol hB, h.lm hB, fun _ => rfl, phN_ok, phN_acc fun _ hu => h.ful hB hu⟩
theorem basics_bc {x : Exq} (h : bOk x) : Bc (basics x) := by
  refine ⟨basics_nodup, fun y hy => ⟨(basics_ok h y hy).1, (basics_ok h y hy).2, 6, ?_⟩⟩
  obtain ⟨h1, h2, _⟩ := subs_kc _ (push x false) (Nat.le_refl _) [] (fun y hy => by simp at hy)
  have hnf := subs_all (P := fun y => ∃ n, Nf n y) _ (push x false) (fun y hy => Nf.kids hy) (Nat.le_refl _) ⟨_, nf_push x h.1.1.1 false⟩ [] (fun y hy => by simp at hy)
  have key : ∀ (n : Nat) (y : Exq), y ∈ subs (push x false) [] → Shp n y → Cl (basics x) n y := by
    intro n
    induction n with
    | zero => intro y _ h; exact h.elim
    | succ n ih =>
      intro y hy hs
      obtain ⟨m, hm⟩ := hnf y hy
      cases m with
      | zero => exact hm.elim
      | succ m => exact ⟨hs.1, hm.1, hm.2.1, fun hb => List.mem_filter.2 ⟨hy, hb⟩, fun z hz => ih z (h1 y hy z hz) (hs.2 z hz)⟩
  exact key 6 _ (List.mem_filter.1 hy).1 (basics_ok h y hy).1
end Fm
end Go.Proofs.Ytbanccfdojgocaa

namespace Go.Proofs.Ytbanccfdojgocaa
open Go
theorem c_holds {B : List Exq} {s : Nat} (hB : ∀ y ∈ B, Fm.bas y = true) (hs : s < 4611686018427387904) : ∀ (x : Exq) {n : Nat} {h : Heap} {v bv : Value} {bt : Nat}, Fm.Cl B n x → Rep h v x → Rep h bv B → hload h (some (.pointer (some ⟨bt, 0, none⟩))) none = some bv →
    CallE Try.prog fn_impl_translator_holds [.pointer (some ⟨bt, 0, none⟩), v, .int .i64 s] h (fun u h' => h.le h' ∧ u = .bool (Fm.val B s x)) := by
  refine Exq.ind fun x ih n h v bv bt hc R RB ht => ?_
  obtain ⟨n, rfl⟩ := hc.ex
  have hsh := hc.shp
  obtain ⟨hnd, hk8, h3, hbB, hkids⟩ := hc
  have FX := R.aExq
  obtain ⟨w, rfl, k1, k2, R1⟩ := Rep_Exq.1 R
  have hv := Fm.val_eq (B := B) (s := s) x
  refine CallE.gen fun k hk => EN_impl_translator_holds rfl ?_
  rw [hv] at hk
  simp -implicitDefEqProofs (disch:=first|omega|(simp only[LnZ];omega))[wrap64, FX, ht]
  refine (c_formulaAt RB R).go ?_
  rintro _ h1 ⟨l1, rfl⟩
  by_cases hm : x ∈ B
  · obtain ⟨i, hi, e1, e2⟩ := Fm.fx_mem hm
    have hb := of_decide_eq_true (hB x hm)
    rw [if_neg (by omega), if_neg (by omega), if_neg (by omega), if_neg (by omega), e1] at hk
    have hBl := RB.lt
    have hi0 : ¬ (i : Int) < 0 := by omega
    have hq := has_eq (s := s) (i := (i : Int)) hs ⟨by omega, by omega⟩
    have hw : IntKind.u64.wrap (i : Int) = i := u64_pos (by omega) (by omega)
    rw [hw] at hq
    cases e : Fm.has s i with
    | true =>
      have q1 := hq.2 e
      rw [e] at hk
      simp -implicitDefEqProofs (disch:=first|omega|(simp only[LnZ];omega))[wrap64, e1, hi0, hw, q1]
      exact RetK.keep (hk _ _ ⟨l1, rfl⟩)
    | false =>
      have q1 : ¬ _ := fun hh => by have := hq.1 hh; rw [e] at this; simp at this
      rw [e] at hk
      simp -implicitDefEqProofs (disch:=first|omega|(simp only[LnZ];omega))[wrap64, e1, hi0, hw, q1]
      exact RetK.keep (hk _ _ ⟨l1, rfl⟩)
  have hnb : ¬ (x.kind = 2 ∨ x.kind = 6 ∨ x.kind = 7 ∨ x.kind = 8) := fun hh => hm (hbB (decide_eq_true hh))
  have hkd := hnd.kind
  have e1 := Fm.fx_not hm
  have ht1 := hload_le l1 ht
  have R1 := R1.le l1
  have kid : ∀ {j : Nat} (hj : j < x.kids.length), ∃ u, hload h1 (some (elp 3 w j)) (some 3) = some u ∧ Rep h1 u x.kids[j] ∧ Fm.kv B s x j = Fm.val B s x.kids[j] := fun {j} hj => by
    obtain ⟨u, hu, Ru⟩ := R1.ld hj
    exact ⟨u, hu, Ru, Fm.kv_at hj⟩
  by_cases c1 : x.kind = 1
  · rw [if_pos c1] at hk
    simp -implicitDefEqProofs (disch:=first|omega|(simp only[LnZ];omega))[wrap64, e1, c1]
    exact RetK.keep (hk _ _ ⟨l1, rfl⟩)
  rw [if_neg c1] at hk
  by_cases c3 : x.kind = 3
  · have hl := hsh.one (.inl c3)
    obtain ⟨u, hu, Ru, hkv⟩ := kid (j := 0) (by omega)
    change hload h1 (some (elp 3 w 0)) (some 3) = some u at hu
    rw [if_pos c3] at hk
    simp -implicitDefEqProofs (disch:=first|omega|(simp only[LnZ];omega))[wrap64, e1, c3, R1.X (n := 3) rfl, hu, Ru.aExq]
    refine (ih _ (List.getElem_mem (by omega)) (hkids _ (List.getElem_mem (by omega))) Ru (RB.le l1) ht1).go ?_
    rintro _ h2 ⟨l2, rfl⟩
    simp -implicitDefEqProofs (disch:=first|omega|(simp only[LnZ];omega))[wrap64]
    exact RetK.keep (hk _ _ ⟨l1.trans l2, by rw [← hkv]⟩)
  rw [if_neg c3] at hk
  by_cases c4 : x.kind = 4
  · have hl := hsh.two (.inl c4)
    obtain ⟨u, hu, Ru, hkv⟩ := kid (j := 0) (by omega)
    obtain ⟨u1, hu1, Ru1, hkv1⟩ := kid (j := 1) (by omega)
    change hload h1 (some (elp 3 w 0)) (some 3) = some u at hu
    change hload h1 (some (elp 3 w 1)) (some 3) = some u1 at hu1
    rw [if_pos c4, hkv, hkv1] at hk
    simp -implicitDefEqProofs (disch:=first|omega|(simp only[LnZ];omega))[wrap64, e1, c3, c4, R1.X (n := 3) rfl, hu, Ru.aExq]
    refine (ih _ (List.getElem_mem (by omega)) (hkids _ (List.getElem_mem (by omega))) Ru (RB.le l1) ht1).go ?_
    rintro _ h2 ⟨l2, rfl⟩
    cases e : Fm.val B s (x.kids[0]'(by omega)) with
    | false =>
      rw [e] at hk
      simp -implicitDefEqProofs (disch:=first|omega|(simp only[LnZ];omega))[wrap64]
      exact RetK.keep (hk _ _ ⟨l1.trans l2, rfl⟩)
    | true =>
      rw [e] at hk
      have hu2 := hload_le l2 hu1
      simp -implicitDefEqProofs (disch:=first|omega|(simp only[LnZ];omega))[wrap64, (R1.le l2).X (n := 3) rfl, hu2, Ru1.aExq]
      refine (ih _ (List.getElem_mem (by omega)) (hkids _ (List.getElem_mem (by omega))) (Ru1.le l2) (RB.le (l1.trans l2)) (hload_le l2 ht1)).go ?_
      rintro _ h3 ⟨l3, rfl⟩
      simp -implicitDefEqProofs (disch:=first|omega|(simp only[LnZ];omega))[wrap64]
      exact RetK.keep (hk _ _ ⟨l1.trans (l2.trans l3), by simp⟩)
  rw [if_neg c4] at hk
  by_cases c5 : x.kind = 5
  · have hl := hsh.two (.inr (.inl c5))
    obtain ⟨u, hu, Ru, hkv⟩ := kid (j := 0) (by omega)
    obtain ⟨u1, hu1, Ru1, hkv1⟩ := kid (j := 1) (by omega)
    change hload h1 (some (elp 3 w 0)) (some 3) = some u at hu
    change hload h1 (some (elp 3 w 1)) (some 3) = some u1 at hu1
    rw [if_pos c5, hkv, hkv1] at hk
    simp -implicitDefEqProofs (disch:=first|omega|(simp only[LnZ];omega))[wrap64, e1, c3, c4, c5, R1.X (n := 3) rfl, hu, Ru.aExq]
    refine (ih _ (List.getElem_mem (by omega)) (hkids _ (List.getElem_mem (by omega))) Ru (RB.le l1) ht1).go ?_
    rintro _ h2 ⟨l2, rfl⟩
    cases e : Fm.val B s (x.kids[0]'(by omega)) with
    | true =>
      rw [e] at hk
      simp -implicitDefEqProofs (disch:=first|omega|(simp only[LnZ];omega))[wrap64]
      exact RetK.keep (hk _ _ ⟨l1.trans l2, rfl⟩)
    | false =>
      rw [e] at hk
      have hu2 := hload_le l2 hu1
      simp -implicitDefEqProofs (disch:=first|omega|(simp only[LnZ];omega))[wrap64, (R1.le l2).X (n := 3) rfl, hu2, Ru1.aExq]
      refine (ih _ (List.getElem_mem (by omega)) (hkids _ (List.getElem_mem (by omega))) (Ru1.le l2) (RB.le (l1.trans l2)) (hload_le l2 ht1)).go ?_
      rintro _ h3 ⟨l3, rfl⟩
      simp -implicitDefEqProofs (disch:=first|omega|(simp only[LnZ];omega))[wrap64]
      exact RetK.keep (hk _ _ ⟨l1.trans (l2.trans l3), by simp⟩)
  omega
end Go.Proofs.Ytbanccfdojgocaa

namespace Go.Proofs.Ytbanccfdojgocaa
open Go
theorem c_spec_FormulaSame : ∀ (x : Exq) {h : Heap} {a b : Value} {y : Exq}, Rep h a x → Rep h b y → CallE Try.prog fn_spec_FormulaSame [a, b] h (fun u h' => h' = h ∧ u = .bool (decide (x = y))) := by
  refine Exq.ind fun x ih h a b y Ra Rb => ?_
  obtain ⟨w, rfl, k1, k2, R1⟩ := Rep_Exq.1 Ra
  obtain ⟨w2, rfl, k3, k4, R2⟩ := Rep_Exq.1 Rb
  have hL := R1.lt
  refine CallE.gen fun k hk => EN_spec_FormulaSame rfl ?_
  by_cases h1 : x.kind = y.kind
  case neg =>
    simp -implicitDefEqProofs (disch:=first|omega|(simp only[LnZ];omega))[wrap64, h1]
    exact RetK.keep (hk _ _ ⟨rfl, by simp [Exq.ext_iff', h1]⟩)
  by_cases h2 : x.val = y.val
  case neg =>
    simp -implicitDefEqProofs (disch:=first|omega|(simp only[LnZ];omega))[wrap64, h1, h2]
    exact RetK.keep (hk _ _ ⟨rfl, by simp [Exq.ext_iff', h2]⟩)
  by_cases h3 : (x.kids.length : Int) = y.kids.length
  case neg =>
    simp -implicitDefEqProofs (disch:=first|omega|(simp only[LnZ];omega))[wrap64, h1, h2, R1.len, R2.len, h3]
    exact RetK.keep (hk _ _ ⟨rfl, by rw [eq_comm, Value.bool.injEq, decide_eq_false_iff_not]; intro e; rw [e] at h3; exact h3 rfl⟩)
  simp -implicitDefEqProofs (disch:=first|omega|(simp only[LnZ];omega))[wrap64, h1, h2, R1.len, R2.len, h3]
  refine wp_count x.kids.length (fun i e h' => h' = h ∧ e = [none, none, some (.agg #[.int .i64 y.kind, .int .i64 y.val, w]), some (.agg #[.int .i64 y.kind, .int .i64 y.val, w2]), none, some (.int .i64 i)] ∧ x.kids.take i = y.kids.take i) ⟨rfl, by simp [h1, h2], rfl⟩ ?_
  rintro J i _ _ hJ hi ⟨rfl, rfl, hq⟩
  simp -implicitDefEqProofs (disch:=first|omega|(simp only[LnZ];omega))[wrap64, R1.len]
  refine IteW.mk (fun hlt => ?_) (fun hge => ?_)
  · have hlx : i < x.kids.length := by omega
    have hly : i < y.kids.length := by omega
    obtain ⟨u, hu, Ru⟩ := R1.ld hlx
    obtain ⟨t, ht, Rt⟩ := R2.ld hly
    change hload _ (some (elp 3 w i)) (some 3) = some u at hu
    change hload _ (some (elp 3 w2 i)) (some 3) = some t at ht
    simp -implicitDefEqProofs (disch:=first|omega|(simp only[LnZ];omega))[wrap64, R1.X (n := 3) rfl, R2.X (n := 3) rfl, hu, ht, Ru.aExq, Rt.aExq]
    refine (ih _ (List.getElem_mem hlx) Ru Rt).go ?_
    rintro _ _ ⟨rfl, rfl⟩
    by_cases he : x.kids[i] = y.kids[i]
    · simp -implicitDefEqProofs (disch:=first|omega|(simp only[LnZ];omega))[wrap64, he]
      exact hJ _ _ hlx ⟨rfl, by simp, take_step hq hlx hly he⟩
    · simp -implicitDefEqProofs (disch:=first|omega|(simp only[LnZ];omega))[wrap64, he]
      exact RetK.keep (hk _ _ ⟨rfl, by rw [eq_comm, Value.bool.injEq, decide_eq_false_iff_not]; intro e; subst e; exact he rfl⟩)
  · simp -implicitDefEqProofs (disch:=first|omega|(simp only[LnZ];omega))[wrap64]
    rw [List.take_of_length_le (by omega), List.take_of_length_le (by omega)] at hq
    exact RetK.keep (hk _ _ ⟨rfl, by simp [Exq.ext_iff', h1, h2, hq]⟩)
theorem c_l5Find {h : Heap} {v w : Value} {xs : List Exq} {x : Exq} (R : Rep h v xs) (Rx : Rep h w x) : CallE Try.prog fn_spec_l5Find [v, w] h (fun u h' => h' = h ∧ u = .int .i64 (Fm.fx xs x)) := by
  have hL := R.lt
  have FX := Rx.aExq
  refine CallE.gen fun k hk => EN_spec_l5Find rfl ?_
  simp -implicitDefEqProofs (disch:=first|omega|(simp only[LnZ];omega))[wrap64, FX]
  refine wp_count xs.length (fun i e h' => e = [some v, none, some w, none, some (.int .i64 i)] ∧ h' = h ∧ ∀ (j : Nat) (hj : j < xs.length), j < i → xs[j] ≠ x) ⟨by simp, rfl, fun j _ hj => absurd hj (Nat.not_lt_zero j)⟩ ?_
  rintro J i _ h hJ hi ⟨rfl, rfl, hn⟩
  simp -implicitDefEqProofs (disch:=first|omega|(simp only[LnZ];omega))[wrap64, R.len]
  refine IteW.mk (fun hlt => ?_) (fun hge => ?_)
  · have hlx : i < xs.length := by omega
    obtain ⟨u, hu, Ru⟩ := R.ld hlx
    change hload _ (some (elp 3 v i)) (some 3) = some u at hu
    simp -implicitDefEqProofs (disch:=first|omega|(simp only[LnZ];omega))[wrap64, R.X (n := 3) rfl, hu, FX, Ru.aExq]
    refine (c_spec_FormulaSame _ Ru Rx).go ?_
    rintro _ h ⟨rfl, rfl⟩
    by_cases e : xs[i] = x
    · simp -implicitDefEqProofs (disch:=first|omega|(simp only[LnZ];omega))[wrap64, e]
      exact RetK.keep (hk _ _ ⟨rfl, by rw [Fm.fx_at hlx e hn]⟩)
    · simp -implicitDefEqProofs (disch:=first|omega|(simp only[LnZ];omega))[wrap64, e]
      refine hJ _ _ hlx ⟨by simp, rfl, fun j hj hji => ?_⟩
      by_cases hji2 : j = i
      · subst hji2; exact e
      · exact hn j hj (by omega)
  · simp -implicitDefEqProofs (disch:=first|omega|(simp only[LnZ];omega))[wrap64]
    refine RetK.keep (hk _ _ ⟨rfl, ?_⟩)
    rw [Fm.fx_not]
    intro hm
    obtain ⟨j, hj, h1⟩ := List.mem_iff_getElem.1 hm
    exact hn j hj (by omega) h1
theorem nod_kid {x : Exq} {i : Nat} (hi : i < x.kids.length) : x.kids[i].nod + 1 ≤ x.nod := by
  have e1 := Exq.nods_take hi
  have e2 := Exq.nods_le x.kids (i + 1)
  rw [Exq.nod_eq x]
  omega
theorem nods_len : ∀ l : List Exq, l.length ≤ Exq.nods l
  | [] => by simp
  | x :: l => by
    have := nods_len l
    have := x.nod_eq
    simp only [List.length_cons, Exq.nods]
    omega
theorem c_l5Copy : ∀ (x : Exq) {h : Heap} {v : Value}, x.nod ≤ 1048576 → Rep h v x → CallE Try.prog fn_spec_l5Copy [v] h (fun u h' => HS h [ow u x] h') := by
  refine Exq.ind fun x ih h v hs R => ?_
  obtain ⟨w, rfl, k1, k2, R1⟩ := Rep_Exq.1 R
  have hL := R1.lt
  have hkl := nods_len x.kids
  have hne := x.nod_eq
  refine CallE.gen fun k hk => EN_spec_l5Copy rfl ?_
  simp -implicitDefEqProofs (disch:=first|omega|(simp only[LnZ];omega))[wrap64, setC]
  refine wp_count x.kids.length (fun i e h' => ∃ o : Value, e = [none, some (.agg #[.int .i64 x.kind, .int .i64 x.val, w]), some (.agg #[.int .i64 0, .int .i64 0, .slice none 0 0]), some (.agg #[.int .i64 x.kind, .int .i64 x.val, o]), some (.int .i64 i)] ∧ HS h [ow o (x.kids.take i)] h') ⟨.slice none 0 0, by simp, by simpa using HS.init.nil_ow (α := Exq)⟩ ?_
  rintro J i _ h2 hJ hi ⟨o, rfl, H⟩
  simp -implicitDefEqProofs (disch:=first|omega|(simp only[LnZ];omega))[wrap64, R1.len]
  refine IteW.mk (fun hlt => ?_) (fun hge => ?_)
  · have hlx : i < x.kids.length := by omega
    have hnk := nod_kid hlx
    obtain ⟨u, hu, Ru⟩ := R1.ld hlx
    have hu2 := hload_le H.base hu
    change hload _ (some (elp 3 w i)) (some 3) = some u at hu2
    simp -implicitDefEqProofs (disch:=first|omega|(simp only[LnZ];omega))[wrap64, R1.X (n := 3) rfl, hu2]
    refine (ih _ (List.getElem_mem hlx) (by omega) (Ru.on H)).go ?_
    intro y h3 G
    have H := G.app H
    have FG := G.rep.aExq
    obtain ⟨y1, rfl, _, _, _⟩ := G.unExq
    simp -implicitDefEqProofs (disch:=first|omega|(simp only[LnZ];omega))[wrap64, FG, setC]
    refine HS.appO (bytes := 40) H rfl rfl rfl rfl rfl (by simp; omega) (by simp; omega) fun o' h4 H => ?_
    simp -implicitDefEqProofs (disch:=first|omega|(simp only[LnZ];omega))[wrap64, H.rep.cells, H.rep.one, setC]
    refine hJ _ _ hlx ⟨o', by simp, ?_⟩
    rw [List.take_add_one, List.getElem?_eq_getElem hlx]
    exact H
  · simp -implicitDefEqProofs (disch:=first|omega|(simp only[LnZ];omega))[wrap64, H.rep.one, setC]
    rw [List.take_of_length_le (by omega)] at H
    exact RetK.keep (hk _ _ (H.mkExq k1 k2))
theorem c_l5Subs : ∀ (x : Exq) {g h : Heap} {Γ : List HP} {v o : Value} {out : List Exq}, out.length + x.nod ≤ 1048576 → Rep g v x → HS g (ow o out :: Γ) h →
    CallE Try.prog fn_spec_l5Subs [o, v] h (fun u h' => HS g (ow u (Fm.subs x out) :: Γ) h') := by
  refine Exq.ind fun x ih g h Γ v o out hs R H => ?_
  have R0 := R
  obtain ⟨w, rfl, k1, k2, R1⟩ := Rep_Exq.1 R
  have hL := R1.lt
  have hkl := nods_len x.kids
  have hne := x.nod_eq
  have hse := Fm.subs_eq x out
  refine CallE.gen fun k hk => EN_spec_l5Subs rfl ?_
  simp -implicitDefEqProofs (disch:=first|omega|(simp only[LnZ];omega))[wrap64]
  refine wp_count x.kids.length (fun i e h' => ∃ o : Value, e = [some o, none, some (.agg #[.int .i64 x.kind, .int .i64 x.val, w]), none, some (.int .i64 i)] ∧ HS g (ow o ((x.kids.take i).foldl (fun o x => Fm.subs x o) out) :: Γ) h') ⟨o, by simp, by simpa using H⟩ ?_
  clear H
  rintro J i _ h2 hJ hi ⟨o, rfl, H⟩
  simp -implicitDefEqProofs (disch:=first|omega|(simp only[LnZ];omega))[wrap64, R1.len]
  refine IteW.mk (fun hlt => ?_) (fun hge => ?_)
  · have hlx : i < x.kids.length := by omega
    have hnk := Exq.nods_take hlx
    have hnl := Exq.nods_le x.kids (i + 1)
    have hfl := Fm.subsL_len (x.kids.take i) (fun y _ o => Fm.subs_len y o) out
    have hft := foldl_tk (f := fun o x => Fm.subs x o) (b := out) hlx
    generalize (x.kids.take i).foldl (fun o x => Fm.subs x o) out = D at *
    obtain ⟨u, hu, Ru⟩ := R1.ld hlx
    have hu2 := hload_le H.base hu
    change hload _ (some (elp 3 w i)) (some 3) = some u at hu2
    simp -implicitDefEqProofs (disch:=first|omega|(simp only[LnZ];omega))[wrap64, R1.X (n := 3) rfl, hu2]
    refine (ih _ (List.getElem_mem hlx) (by omega) Ru H).go ?_
    intro o' h3 H
    simp -implicitDefEqProofs (disch:=first|omega|(simp only[LnZ];omega))[wrap64]
    exact hJ _ _ hlx ⟨o', by simp, by rw [hft]; exact H⟩
  have hfl := Fm.subsL_len x.kids (fun y _ o => Fm.subs_len y o) out
  rw [List.take_of_length_le (by omega)] at H
  generalize x.kids.foldl (fun o x => Fm.subs x o) out = D at *
  have FX := R0.aExq
  simp -implicitDefEqProofs (disch:=first|omega|(simp only[LnZ];omega))[wrap64, FX]
  refine (c_l5Find H.rep (R0.on H)).go ?_
  rintro _ h3 ⟨rfl, rfl⟩
  rw [hse] at hk
  by_cases hm : x ∈ D
  · have hf : ¬ Fm.fx D x < 0 := fun e => Fm.fx_neg.1 e hm
    simp -implicitDefEqProofs (disch:=first|omega|(simp only[LnZ];omega))[wrap64, hf]
    exact RetK.keep (hk _ _ (by rw [Fm.ins, if_pos hm]; exact H))
  · have hf := Fm.fx_neg.2 hm
    simp -implicitDefEqProofs (disch:=first|omega|(simp only[LnZ];omega))[wrap64, hf, FX]
    refine (c_l5Copy x (by omega) (R0.on H)).go ?_
    intro y h4 G
    have H := G.app H
    have FG := G.rep.aExq
    obtain ⟨y1, rfl, _, _, _⟩ := G.unExq
    simp -implicitDefEqProofs (disch:=first|omega|(simp only[LnZ];omega))[wrap64, FG, setC]
    refine HS.appO (bytes := 40) H rfl rfl rfl rfl rfl (by omega) (by omega) fun o' h5 H => ?_
    simp -implicitDefEqProofs (disch:=first|omega|(simp only[LnZ];omega))[wrap64]
    exact RetK.keep (hk _ _ (by rw [Fm.ins, if_neg hm]; exact H))
end Go.Proofs.Ytbanccfdojgocaa

namespace Go.Proofs.Ytbanccfdojgocaa
open Go
theorem c_l5True {h : Heap} : CallE Try.prog fn_spec_l5True [] h (fun u h' => h' = h ∧ u = .agg #[.int .i64 1, .int .i64 0, .slice none 0 0]) := by
  refine CallE.gen fun k hk => EN_spec_l5True rfl ?_
  simp -implicitDefEqProofs (disch:=first|omega|(simp only[LnZ];omega))[wrap64, setC]
  exact RetK.keep (hk _ _ ⟨rfl, rfl⟩)
theorem HS.leaf {g h : Heap} {Γ : List HP} (H : HS g Γ h) {k v : Int} (h1 : I64 k) (h2 : I64 v) : HS g (ow (.agg #[.int .i64 k, .int .i64 v, .slice none 0 0]) (Exq.mk k v []) :: Γ) h := HS.mkExq' H.nil_ow h1 h2
theorem c_l5Not {g h : Heap} {Γ : List HP} {v : Value} {x : Exq} (H : HS g (ow v x :: Γ) h) : CallE Try.prog fn_spec_l5Not [v] h (fun u h' => HS g (ow u (Fm.neg x) :: Γ) h') := by
  have FX := H.rep.aExq
  obtain ⟨w, rfl, k1, k2, H1⟩ := H.unExq
  refine CallE.gen fun k hk => EN_spec_l5Not rfl ?_
  simp -implicitDefEqProofs (disch:=first|omega|(simp only[LnZ];omega))[wrap64, FX]
  refine HS.blsO1 H rfl fun xs h2 H => ?_
  simp -implicitDefEqProofs (disch:=first|omega|(simp only[LnZ];omega))[wrap64, setC, H.rep.cells, H.rep.one]
  exact RetK.keep (hk _ _ (HS.mkExq' (kd := 3) (vl := 0) H ⟨by decide, by decide⟩ ⟨by decide, by decide⟩))
theorem c_l5Dual {h : Heap} {kd : Int} : CallE Try.prog fn_spec_l5Dual [.int .i64 kd] h (fun u h' => h' = h ∧ u = .int .i64 (Fm.dual kd)) := by
  refine CallE.gen fun k hk => EN_spec_l5Dual rfl ?_
  by_cases c4 : kd = 4
  · simp -implicitDefEqProofs (disch:=first|omega|(simp only[LnZ];omega))[wrap64, c4]
    exact RetK.keep (hk _ _ ⟨rfl, by simp [Fm.dual, c4]⟩)
  by_cases c5 : kd = 5
  · simp -implicitDefEqProofs (disch:=first|omega|(simp only[LnZ];omega))[wrap64, c4, c5]
    exact RetK.keep (hk _ _ ⟨rfl, by simp [Fm.dual, c5]⟩)
  by_cases c7 : kd = 7
  · simp -implicitDefEqProofs (disch:=first|omega|(simp only[LnZ];omega))[wrap64, c4, c5, c7]
    exact RetK.keep (hk _ _ ⟨rfl, by simp [Fm.dual, c7]⟩)
  simp -implicitDefEqProofs (disch:=first|omega|(simp only[LnZ];omega))[wrap64, c4, c5, c7]
  exact RetK.keep (hk _ _ ⟨rfl, by simp [Fm.dual, c4, c5, c7]⟩)
theorem i64c {k : Int} (h1 : -9223372036854775808 ≤ k := by decide) (h2 : k < 9223372036854775808 := by decide) : I64 k := ⟨h1, h2⟩
theorem Fm.dual_ok {k : Int} : I64 (Fm.dual k) := by
  unfold Fm.dual
  repeat' split
  all_goals exact ⟨by decide, by decide⟩
theorem c_l5Push : ∀ (n : Nat) {x : Exq} {h : Heap} {v : Value} {ng : Bool}, Fm.Shp n x → Rep h v x → CallE Try.prog fn_spec_l5Push [v, .bool ng] h (fun u h' => HS h [ow u (Fm.push x ng)] h') := by
  intro n
  induction n with
  | zero => intro x h v ng hs; exact hs.elim
  | succ n ih =>
  intro x h v ng hs R
  have FX := R.aExq
  obtain ⟨w, rfl, k1, k2, R1⟩ := Rep_Exq.1 R
  have hpe := Fm.push_eq x ng
  have hkd := hs.1.kind
  refine CallE.gen fun k hk => EN_spec_l5Push rfl ?_
  rw [hpe] at hk
  by_cases c12 : x.kind = 1 ∨ x.kind = 2
  · rw [if_pos c12] at hk
    cases ng with
    | true =>
      have H0 := (HS.init (h := h)).leaf k1 k2
      rcases c12 with c1 | c1
      all_goals
        rw [c1] at H0 hk
        simp -implicitDefEqProofs (disch:=first|omega|(simp only[LnZ];omega))[wrap64, c1, setC]
        refine (c_l5Not H0).go ?_
        intro u h1 H
        simp -implicitDefEqProofs (disch:=first|omega|(simp only[LnZ];omega))[wrap64, setC, H.rep.aExq]
        exact RetK.keep (hk _ _ H)
    | false =>
      have H0 := (HS.init (h := h)).leaf k1 k2
      rcases c12 with c1 | c1
      all_goals
        rw [c1] at H0 hk
        simp -implicitDefEqProofs (disch:=first|omega|(simp only[LnZ];omega))[wrap64, c1, setC]
        exact RetK.keep (hk _ _ H0)
  rw [if_neg c12] at hk
  have n1 : ¬ x.kind = 1 := fun e => c12 (.inl e)
  have n2 : ¬ x.kind = 2 := fun e => c12 (.inr e)
  have hkl : 0 < x.kids.length := by
    have h1 := hs.1.ar
    unfold Fm.arity at h1
    rw [if_neg c12] at h1
    split at h1
    · omega
    · split at h1 <;> omega
  obtain ⟨u0, hu0, Ru0⟩ := R1.ld hkl
  change hload _ (some (elp 3 w 0)) (some 3) = some u0 at hu0
  have hX := R1.X (n := 3) rfl
  have hkp := fun m => Fm.kp_at (n := m) hkl
  have hsk := hs.kid hkl
  by_cases c3 : x.kind = 3
  · rw [if_pos c3, hkp] at hk
    simp -implicitDefEqProofs (disch:=first|omega|(simp only[LnZ];omega))[wrap64, n1, n2, c3, hX, hu0]
    refine (ih hsk Ru0).go ?_
    intro u h1 H
    simp -implicitDefEqProofs (disch:=first|omega|(simp only[LnZ];omega))[wrap64, H.rep.aExq]
    exact RetK.keep (hk _ _ H)
  rw [if_neg c3] at hk
  by_cases c6 : x.kind = 6
  · rw [if_pos c6, hkp] at hk
    simp -implicitDefEqProofs (disch:=first|omega|(simp only[LnZ];omega))[wrap64, n1, n2, c3, c6, hX, hu0]
    refine (ih hsk Ru0).go ?_
    intro u h1 H
    have FU := H.rep.aExq
    obtain ⟨w1, rfl, _, _, _⟩ := H.unExq
    simp -implicitDefEqProofs (disch:=first|omega|(simp only[LnZ];omega))[wrap64, FU]
    refine HS.blsO1 H rfl fun xs h2 H => ?_
    simp -implicitDefEqProofs (disch:=first|omega|(simp only[LnZ];omega))[wrap64, setC, H.rep.cells, H.rep.one]
    exact RetK.keep (hk _ _ (HS.mkExq' (kd := 6) (vl := 0) H i64c i64c))
  rw [if_neg c6] at hk
  by_cases c9 : x.kind = 9 ∨ x.kind = 10
  · rw [if_pos c9, hkp] at hk
    have hx : ∃ b : Bool, decide (x.kind = 9) = b ∧ ((x.kind = 9 ∧ b = true) ∨ (¬ x.kind = 9 ∧ x.kind = 10 ∧ b = false)) := by
      rcases c9 with c9 | c9
      · exact ⟨true, by simp [c9], .inl ⟨c9, rfl⟩⟩
      · exact ⟨false, by simp [c9], .inr ⟨by omega, c9, rfl⟩⟩
    obtain ⟨b, hb, hbb⟩ := hx
    rw [hb] at hk
    rcases hbb with ⟨e9, rfl⟩ | ⟨e9, e10, rfl⟩
    all_goals
      first
        | simp -implicitDefEqProofs (disch:=first|omega|(simp only[LnZ];omega))[wrap64, n1, n2, c3, c6, e9, e10, hX, hu0]
        | simp -implicitDefEqProofs (disch:=first|omega|(simp only[LnZ];omega))[wrap64, n1, n2, c3, c6, e9, hX, hu0]
      refine (ih hsk Ru0).go ?_
      intro u h1 H
      have FU := H.rep.aExq
      obtain ⟨w1, rfl, _, _, HW⟩ := H.unExq
      have hO := HW.rep.one
      cases ng
      all_goals
        simp -implicitDefEqProofs (disch:=first|omega|(simp only[LnZ];omega))[wrap64, e9, FU, setC, hO]
        refine c_l5True.go ?_
        rintro _ h1 ⟨rfl, rfl⟩
        have H0 : HS h (ow _ Fm.tru :: _) h1 := H.leaf (k := 1) (v := 0) i64c i64c
        simp -implicitDefEqProofs (disch:=first|omega|(simp only[LnZ];omega))[wrap64, FU, setC, hO]
        first
          | refine HS.blsO2 H0 rfl fun xs h2 H => ?_
            simp -implicitDefEqProofs (disch:=first|omega|(simp only[LnZ];omega))[wrap64, setC, H.rep.cells, H.rep.one]
            exact RetK.keep (hk _ _ (HS.mkExq' (kd := 7) (vl := 0) H i64c i64c))
          | refine (c_l5Not H0).go ?_
            intro u2 h2 H
            have FV := H.rep.aExq
            obtain ⟨w2, rfl, _, _, _⟩ := H.unExq
            simp -implicitDefEqProofs (disch:=first|omega|(simp only[LnZ];omega))[wrap64, FV, FU, hO]
            refine HS.blsO2 H rfl fun xs h3 H => ?_
            simp -implicitDefEqProofs (disch:=first|omega|(simp only[LnZ];omega))[wrap64, setC, H.rep.cells, H.rep.one]
            exact RetK.keep (hk _ _ (HS.mkExq' (kd := 8) (vl := 0) H i64c i64c))
  rw [if_neg c9] at hk
  have n9 : ¬ x.kind = 9 := fun e => c9 (.inl e)
  have n10 : ¬ x.kind = 10 := fun e => c9 (.inr e)
  have hkl2 : 1 < x.kids.length := by
    have := hs.two (by omega)
    omega
  obtain ⟨u1, hu1, Ru1⟩ := R1.ld hkl2
  change hload _ (some (elp 3 w 1)) (some 3) = some u1 at hu1
  have hkp2 := Fm.kp_at (n := ng) hkl2
  have hsk2 := hs.kid hkl2
  rw [hkp, hkp2] at hk
  have fin : ∀ (kd : Int), I64 kd → (∀ u h', HS h [ow u (Exq.mk kd 0 [Fm.push x.kids[0] ng, Fm.push x.kids[1] ng])] h' → k u h') → True := fun _ _ _ => trivial
  cases ng with
  | true =>
    simp -implicitDefEqProofs (disch:=first|omega|(simp only[LnZ];omega))[wrap64, n1, n2, c3, c6, n9, n10]
    refine c_l5Dual.go ?_
    rintro _ _ ⟨rfl, rfl⟩
    simp -implicitDefEqProofs (disch:=first|omega|(simp only[LnZ];omega))[wrap64, hX, hu0, hu1]
    refine (ih hsk Ru0).go ?_
    intro u h1 H
    have FU := H.rep.aExq
    obtain ⟨w1, rfl, _, _, _⟩ := H.unExq
    have hu1' := hload_le H.base hu1
    simp -implicitDefEqProofs (disch:=first|omega|(simp only[LnZ];omega))[wrap64, hX, hu1', FU]
    refine (ih hsk2 (Ru1.on H)).go ?_
    intro u2 h2 G
    have H := G.app H
    have FV := G.rep.aExq
    obtain ⟨w2, rfl, _, _, _⟩ := G.unExq
    simp -implicitDefEqProofs (disch:=first|omega|(simp only[LnZ];omega))[wrap64, FU, FV]
    refine HS.blsO2 H.sw1 rfl fun xs h2 H => ?_
    simp -implicitDefEqProofs (disch:=first|omega|(simp only[LnZ];omega))[wrap64, setC, H.rep.cells, H.rep.one]
    exact RetK.keep (hk _ _ (HS.mkExq' (vl := 0) H Fm.dual_ok i64c))
  | false =>
    simp -implicitDefEqProofs (disch:=first|omega|(simp only[LnZ];omega))[wrap64, n1, n2, c3, c6, n9, n10, hX, hu0, hu1]
    refine (ih hsk Ru0).go ?_
    intro u h1 H
    have FU := H.rep.aExq
    obtain ⟨w1, rfl, _, _, _⟩ := H.unExq
    have hu1' := hload_le H.base hu1
    simp -implicitDefEqProofs (disch:=first|omega|(simp only[LnZ];omega))[wrap64, hX, hu1', FU]
    refine (ih hsk2 (Ru1.on H)).go ?_
    intro u2 h2 G
    have H := G.app H
    have FV := G.rep.aExq
    obtain ⟨w2, rfl, _, _, _⟩ := G.unExq
    simp -implicitDefEqProofs (disch:=first|omega|(simp only[LnZ];omega))[wrap64, FU, FV]
    refine HS.blsO2 H.sw1 rfl fun xs h2 H => ?_
    simp -implicitDefEqProofs (disch:=first|omega|(simp only[LnZ];omega))[wrap64, setC, H.rep.cells, H.rep.one]
    exact RetK.keep (hk _ _ (HS.mkExq' (vl := 0) H k1 i64c))
end Go.Proofs.Ytbanccfdojgocaa

namespace Go.Proofs.Ytbanccfdojgocaa
open Go
theorem c_spec_NormalForm {h : Heap} {v : Value} {x : Exq} (R : Rep h v x) : CallE Try.prog fn_spec_NormalForm [v] h (fun u h' => ∃ w, u = .tuple #[w, .bool (decide (Fm.Ok x ∧ Fm.Ok (Fm.push x false)))] ∧ HS h [ow w (Fm.nfR x)] h') := by
  have FX := R.aExq
  have z0 : ∀ {h'}, h.le h' → ¬ (Fm.Ok x ∧ Fm.Ok (Fm.push x false)) → HS h [ow (.agg #[.int .i64 0, .int .i64 0, .slice none 0 0]) (Fm.nfR x)] h' := fun hl hn => by
    rw [Fm.nfR, if_neg hn]
    exact HS.leaf (Γ := []) hl i64c i64c
  refine CallE.gen fun k hk => EN_spec_NormalForm rfl ?_
  simp -implicitDefEqProofs (disch:=first|omega|(simp only[LnZ];omega))[wrap64, FX]
  refine (c_spec_FormulaValid R).go ?_
  rintro _ _ ⟨rfl, rfl⟩
  by_cases q1 : Fm.Ok x
  case neg =>
    simp -implicitDefEqProofs (disch:=first|omega|(simp only[LnZ];omega))[wrap64, q1, setC]
    exact RetK.keep (hk _ _ ⟨_, by rw [decide_eq_false (fun hh => q1 hh.1)], z0 (Heap.le.refl _) (fun hh => q1 hh.1)⟩)
  simp -implicitDefEqProofs (disch:=first|omega|(simp only[LnZ];omega))[wrap64, q1, FX]
  refine (c_l5Push 6 q1.1 R).go ?_
  intro u h1 H
  have FU := H.rep.aExq
  simp -implicitDefEqProofs (disch:=first|omega|(simp only[LnZ];omega))[wrap64, FU]
  refine (c_spec_FormulaValid H.rep).go ?_
  rintro _ _ ⟨rfl, rfl⟩
  by_cases q2 : Fm.Ok (Fm.push x false)
  case neg =>
    simp -implicitDefEqProofs (disch:=first|omega|(simp only[LnZ];omega))[wrap64, q2, setC]
    exact RetK.keep (hk _ _ ⟨_, by rw [decide_eq_false (fun hh => q2 hh.2)], z0 H.base (fun hh => q2 hh.2)⟩)
  simp -implicitDefEqProofs (disch:=first|omega|(simp only[LnZ];omega))[wrap64, q2, FU, setC]
  exact RetK.keep (hk _ _ ⟨_, by rw [decide_eq_true ⟨q1, q2⟩], by rw [Fm.nfR, if_pos ⟨q1, q2⟩]; exact H⟩)
theorem c_l7Basic {h : Heap} {v : Value} {x : Exq} (R : Rep h v x) : CallE Try.prog fn_spec_l7Basic [v] h (fun u h' => h' = h ∧ u = .bool (Fm.bas x)) := by
  obtain ⟨w, rfl, k1, k2, R1⟩ := Rep_Exq.1 R
  refine CallE.gen fun k hk => EN_spec_l7Basic rfl ?_
  by_cases c2 : x.kind = 2
  · simp -implicitDefEqProofs (disch:=first|omega|(simp only[LnZ];omega))[wrap64, c2]
    exact RetK.keep (hk _ _ ⟨rfl, by simp [Fm.bas, c2]⟩)
  by_cases c6 : x.kind = 6
  · simp -implicitDefEqProofs (disch:=first|omega|(simp only[LnZ];omega))[wrap64, c2, c6]
    exact RetK.keep (hk _ _ ⟨rfl, by simp [Fm.bas, c6]⟩)
  by_cases c7 : x.kind = 7
  · simp -implicitDefEqProofs (disch:=first|omega|(simp only[LnZ];omega))[wrap64, c2, c6, c7]
    exact RetK.keep (hk _ _ ⟨rfl, by simp [Fm.bas, c7]⟩)
  simp -implicitDefEqProofs (disch:=first|omega|(simp only[LnZ];omega))[wrap64, c2, c6, c7]
  exact RetK.keep (hk _ _ ⟨rfl, by simp [Fm.bas, c2, c6, c7]⟩)
theorem c_l6Has {h : Heap} {s : Nat} {i : Int} (hs : s < 4611686018427387904) (hi : I64 i) : CallE Try.prog fn_spec_l6Has [.int .i64 s, .int .i64 i] h (fun u h' => h' = h ∧ u = .bool (Fm.has s i)) := by
  have he := has_eq hs hi
  refine CallE.gen fun k hk => EN_spec_l6Has rfl ?_
  cases hh : Fm.has s i with
  | true =>
    have e := he.2 hh
    simp -implicitDefEqProofs (disch:=first|omega|(simp only[LnZ];omega))[wrap64, u64_nn, e]
    exact RetK.keep (hk _ _ ⟨rfl, by rw [hh]⟩)
  | false =>
    have e : ¬ (andI .i64 (shrI .i64 (s : Int) (IntKind.u64.wrap i)) 1 = 1) := fun e => by rw [he.1 e] at hh; exact absurd hh (by decide)
    simp -implicitDefEqProofs (disch:=first|omega|(simp only[LnZ];omega))[wrap64, u64_nn, e]
    exact RetK.keep (hk _ _ ⟨rfl, by rw [hh]⟩)
theorem Fm.fx_i64 {l : List Exq} {x : Exq} (h : l.length < 4611686018427387904) : I64 (Fm.fx l x) := by
  by_cases hm : x ∈ l
  · obtain ⟨i, hi, e, _⟩ := Fm.fx_mem hm
    rw [e]
    exact ⟨by omega, by omega⟩
  · rw [Fm.fx_not hm]
    exact ⟨by decide, by decide⟩
theorem c_l7Value : ∀ (n : Nat) {x : Exq} {h : Heap} {v w : Value} {B : List Exq} {s : Nat}, s < 4611686018427387904 → Fm.Shp n x → Rep h w B → Rep h v x → CallE Try.prog fn_spec_l7Value [w, .int .i64 s, v] h (fun u h' => h' = h ∧ u = .bool (Fm.val B s x)) := by
  intro n
  induction n with
  | zero => intro x h v w B s _ hs; exact hs.elim
  | succ n ih =>
  intro x h v w B s hsn hs RB R
  have FX := R.aExq
  have R0 := R
  have hL := RB.lt
  obtain ⟨wk, rfl, k1, k2, R1⟩ := Rep_Exq.1 R
  have hve := Fm.val_eq (B := B) (s := s) x
  refine CallE.gen fun k hk => EN_spec_l7Value rfl ?_
  rw [hve] at hk
  by_cases c1 : x.kind = 1
  · simp -implicitDefEqProofs (disch:=first|omega|(simp only[LnZ];omega))[wrap64, c1]
    exact RetK.keep (hk _ _ ⟨rfl, by rw [if_pos c1]⟩)
  rw [if_neg c1] at hk
  have kid : ∀ {j : Nat} (hj : j < x.kids.length), ∃ u, hload h (some (elp 3 wk j)) (some 3) = some u ∧ Rep h u x.kids[j] := fun hj => R1.ld hj
  have hX := R1.X (n := 3) rfl
  by_cases c3 : x.kind = 3
  · rw [if_pos c3] at hk
    have hl := hs.one (.inl c3)
    obtain ⟨u0, hu0, Ru0⟩ := kid (j := 0) (by omega)
    rw [Fm.kv_at (j := 0) (by omega)] at hk
    simp -implicitDefEqProofs (disch:=first|omega|(simp only[LnZ];omega))[wrap64, c1, c3, hX, hu0]
    refine (ih hsn (hs.kid (i := 0) (by omega)) RB Ru0).go ?_
    rintro _ _ ⟨rfl, rfl⟩
    simp -implicitDefEqProofs (disch:=first|omega|(simp only[LnZ];omega))[wrap64]
    exact RetK.keep (hk _ _ ⟨rfl, rfl⟩)
  rw [if_neg c3] at hk
  by_cases c45 : x.kind = 4 ∨ x.kind = 5
  · have hl := hs.two (by omega)
    obtain ⟨u0, hu0, Ru0⟩ := kid (j := 0) (by omega)
    obtain ⟨u1, hu1, Ru1⟩ := kid (j := 1) (by omega)
    rw [Fm.kv_at (j := 0) (by omega), Fm.kv_at (j := 1) (by omega)] at hk
    have i0 : ∀ {k : Value → Heap → Prop}, (∀ u h', h' = h ∧ u = Value.bool (Fm.val B s x.kids[0]) → k u h') → CallE Try.prog fn_spec_l7Value [w, .int .i64 s, u0] h k := fun hk => (ih hsn (hs.kid (i := 0) (by omega)) RB Ru0).mono hk
    cases hv0 : Fm.val B s x.kids[0]
    all_goals
      rw [hv0] at hk
      rcases c45 with c4 | c4
      all_goals
        simp -implicitDefEqProofs (disch:=first|omega|(simp only[LnZ];omega))[wrap64, c1, c3, c4, hX, hu0]
        refine (ih hsn (hs.kid (i := 0) (by omega)) RB Ru0).go ?_
        rintro _ _ ⟨rfl, rfl⟩
        simp -implicitDefEqProofs (disch:=first|omega|(simp only[LnZ];omega))[wrap64, hv0, c4, hX, hu1]
        first
          | exact RetK.keep (hk _ _ ⟨rfl, by simp [c4]⟩)
          | (refine (ih hsn (hs.kid (i := 1) (by omega)) RB Ru1).go ?_
             rintro _ _ ⟨rfl, rfl⟩
             simp -implicitDefEqProofs (disch:=first|omega|(simp only[LnZ];omega))[wrap64]
             exact RetK.keep (hk _ _ ⟨rfl, by simp [c4]⟩))
  have c4 : ¬ x.kind = 4 := fun e => c45 (.inl e)
  have c5 : ¬ x.kind = 5 := fun e => c45 (.inr e)
  rw [if_neg c4, if_neg c5] at hk
  simp -implicitDefEqProofs (disch:=first|omega|(simp only[LnZ];omega))[wrap64, c1, c3, c4, c5, FX]
  refine (c_l5Find RB R0).go ?_
  rintro _ _ ⟨rfl, rfl⟩
  simp -implicitDefEqProofs (disch:=first|omega|(simp only[LnZ];omega))[wrap64]
  refine (c_l6Has hsn (Fm.fx_i64 hL)).go ?_
  rintro _ _ ⟨rfl, rfl⟩
  simp -implicitDefEqProofs (disch:=first|omega|(simp only[LnZ];omega))[wrap64]
  exact RetK.keep (hk _ _ ⟨rfl, rfl⟩)
end Go.Proofs.Ytbanccfdojgocaa

namespace Go.Proofs.Ytbanccfdojgocaa
open Go
theorem flt_take {α : Type} {p : α → Bool} {l : List α} {i : Nat} (hi : i < l.length) : (l.take (i + 1)).filter p = (l.take i).filter p ++ if p l[i] then [l[i]] else [] := by
  rw [List.take_add_one, List.getElem?_eq_getElem hi, List.filter_append]
  cases hp : p l[i] <;> simp [hp]
theorem flt_len {α : Type} {p : α → Bool} {l : List α} {i : Nat} : ((l.take i).filter p).length ≤ l.length := by
  have h1 := List.length_filter_le p (l.take i)
  have h2 : (l.take i).length ≤ l.length := by rw [List.length_take]; omega
  omega
theorem c_spec_BasicFormulas {h : Heap} {v : Value} {x : Exq} (R : Rep h v x) : CallE Try.prog fn_spec_BasicFormulas [v] h (fun u h' => ∃ w, u = .tuple #[w, .bool (decide (Fm.bOk x))] ∧ h.le h' ∧ Rep h' w (Fm.basR x)) := by
  have FX := R.aExq
  refine CallE.gen fun k hk => EN_spec_BasicFormulas rfl ?_
  simp -implicitDefEqProofs (disch:=first|omega|(simp only[LnZ];omega))[wrap64, FX]
  refine (c_spec_NormalForm R).go ?_
  rintro _ h1 ⟨w, rfl, H⟩
  have FW := H.rep.aExq
  by_cases q1 : Fm.Ok x ∧ Fm.Ok (Fm.push x false)
  case neg =>
    simp -implicitDefEqProofs (disch:=first|omega|(simp only[LnZ];omega))[wrap64, q1, FW, setC]
    refine H.bls0 Exq fun o h2 H => ?_
    simp -implicitDefEqProofs (disch:=first|omega|(simp only[LnZ];omega))[wrap64]
    exact RetK.keep (hk _ _ ⟨o, by rw [decide_eq_false (fun hh => q1 hh.1)], H.base, by rw [Fm.basR, if_neg (fun hh => q1 hh.1)]; exact H.rep⟩)
  rw [Fm.nfR, if_pos q1] at H
  simp -implicitDefEqProofs (disch:=first|omega|(simp only[LnZ];omega))[wrap64, q1, FW, setC]
  refine H.bls0 (Mix Exq) fun o h2 H => ?_
  simp -implicitDefEqProofs (disch:=first|omega|(simp only[LnZ];omega))[wrap64, FW]
  have hnd := q1.2.2
  refine (c_l5Subs (Fm.push x false) (g := h2) (Γ := []) (out := []) (by simp; omega) H.sw1.rep (HS.init.nil_ow)).go ?_
  intro ls h3 G
  have H := G.app H
  have hsl := Fm.subs_len (Fm.push x false) []
  have hbd : Fm.basics x = (Fm.subs (Fm.push x false) []).filter Fm.bas := rfl
  obtain ⟨g1, H1, H2⟩ := HS.rebase (Δ := [ow o ([] : List (Mix Exq))]) (Γ := [ow ls (Fm.subs (Fm.push x false) []), ow w (Fm.push x false)]) H.sw1
  have lb := H1.base
  have RL := H1.rep
  clear H1 H G
  generalize Fm.subs (Fm.push x false) [] = S at *
  simp only [List.length_nil, Nat.zero_add] at hsl
  simp -implicitDefEqProofs (disch:=first|omega|(simp only[LnZ];omega))[wrap64]
  refine wp_count S.length (fun i e h' => ∃ (o : Value) (N : List (Mix Exq)), e = [none, none, none, none, none, none, some o, some ls, some (.int .i64 i)] ∧ HS g1 [ow o N] h' ∧ Raws g1 ((S.take i).filter Fm.bas) N) ⟨o, [], by simp, H2, by simpa using Raws.nil⟩ ?_
  clear H2
  rintro J i _ h4 hJ hi ⟨o, N, rfl, H, hN⟩
  simp -implicitDefEqProofs (disch:=first|omega|(simp only[LnZ];omega))[wrap64, (RL.on H).len]
  refine IteW.mk (fun hlt => ?_) (fun hge => ?_)
  · have hlx : i < S.length := by omega
    obtain ⟨u, hu, Ru⟩ := RL.ld hlx
    have hu' := hload_le H.base hu
    change hload _ (some (elp 3 ls i)) (some 3) = some u at hu'
    have hX := RL.X (n := 3) rfl
    have FU := Ru.aExq
    have hft := flt_take (p := Fm.bas) hlx
    have hNl : N.length ≤ 64 := by
      rw [hN.len]
      have := flt_len (p := Fm.bas) (l := S) (i := i)
      omega
    simp -implicitDefEqProofs (disch:=first|omega|(simp only[LnZ];omega))[wrap64, hX, hu', FU]
    refine (c_l7Basic (Ru.on H)).go ?_
    rintro _ _ ⟨rfl, rfl⟩
    cases hb : Fm.bas S[i] with
    | false =>
      simp -implicitDefEqProofs (disch:=first|omega|(simp only[LnZ];omega))[wrap64]
      exact hJ _ _ hlx ⟨o, N, by simp, H, by rw [hft, hb]; simpa using hN⟩
    | true =>
      obtain ⟨wq, rfl, kk1, kk2, Rq⟩ := Rep_Exq.1 Ru
      have hcs : Ty.rep g1 [.int .i64 S[i].kind, .int .i64 S[i].val, wq] S[i] := repExq.2 ⟨wq, rfl, kk1, kk2, Rq⟩
      have hOq := Rq.one
      simp -implicitDefEqProofs (disch:=first|omega|(simp only[LnZ];omega))[wrap64, hX, hu', setC, hOq]
      refine HS.appO (α := Mix Exq) (bytes := 40) (H.rawO hcs) rfl rfl rfl rfl rfl (by omega) (by omega) fun o' h5 H => ?_
      simp -implicitDefEqProofs (disch:=first|omega|(simp only[LnZ];omega))[wrap64]
      refine hJ _ _ hlx ⟨o', _, by simp, H, ?_⟩
      rw [hft, hb, if_pos rfl]
      exact hN.push hcs
  rw [List.take_of_length_le (by omega), ← hbd] at hN
  have hNl := hN.len
  by_cases q2 : (Fm.basics x).length ≤ 5
  · have bok : Fm.bOk x := ⟨q1, q2⟩
    have hlt : ¬ (5 : Int) < N.length := by omega
    simp -implicitDefEqProofs (disch:=first|omega|(simp only[LnZ];omega))[wrap64, H.rep.len, hlt]
    exact RetK.keep (hk _ _ ⟨o, by rw [decide_eq_true bok], lb.trans H.base, by rw [Fm.basR, if_pos bok]; exact H.rep.raws (hN.le H.base)⟩)
  · have nok : ¬ Fm.bOk x := fun hh => q2 hh.2
    have hlt : (5 : Int) < N.length := by omega
    simp -implicitDefEqProofs (disch:=first|omega|(simp only[LnZ];omega))[wrap64, H.rep.len, hlt]
    refine H.bls0 Exq fun o2 h5 H => ?_
    simp -implicitDefEqProofs (disch:=first|omega|(simp only[LnZ];omega))[wrap64]
    exact RetK.keep (hk _ _ ⟨o2, by rw [decide_eq_false nok], lb.trans H.base, by rw [Fm.basR, if_neg nok]; exact H.rep⟩)
structure Bas (B : List Exq) : Prop where
  n5 : B.length ≤ 5
  ok : ∀ y ∈ B, Fm.Shp 6 y ∧ Fm.bas y = true
theorem Bas.at {B : List Exq} (h : Bas B) {i : Nat} (hi : i < B.length) : Fm.Shp 6 B[i] := (h.ok _ (List.getElem_mem hi)).1
theorem c_l7Follows {h : Heap} {w : Value} {B : List Exq} {s t : Nat} (hB : Bas B) (hs : s < 4611686018427387904) (ht : t < 4611686018427387904) (R : Rep h w B) : CallE Try.prog fn_spec_l7Follows [w, .int .i64 s, .int .i64 t] h (fun u h' => h' = h ∧ u = .bool (decide (Fm.Fol B s t))) := by
  have hL := R.lt
  have hn5 := hB.n5
  refine CallE.gen fun k hk => EN_spec_l7Follows rfl ?_
  simp -implicitDefEqProofs (disch:=first|omega|(simp only[LnZ];omega))[wrap64]
  refine wp_count B.length (fun i e h' => e = [some w, some (.int .i64 s), some (.int .i64 t), none, some (.int .i64 i), none, none, none, none] ∧ h' = h ∧ ∀ (j : Nat) (hj : j < B.length), j < i → Fm.got B s t j B[j] = s.testBit j) ⟨by simp, rfl, fun j _ hj => absurd hj (Nat.not_lt_zero j)⟩ ?_
  rintro J i _ h hJ hi ⟨rfl, rfl, hq⟩
  simp -implicitDefEqProofs (disch:=first|omega|(simp only[LnZ];omega))[wrap64, R.len]
  refine IteW.mk (fun hlt => ?_) (fun hge => ?_)
  · have hlx : i < B.length := by omega
    have hy : Fm.got B s t i B[i] = s.testBit i → J [some w, some (.int .i64 s), some (.int .i64 t), none, some (.int .i64 ((i + 1 : Nat) : Int)), none, none, none, none] h := fun e => hJ _ _ hlx ⟨rfl, rfl, fun j hj hji => by
      by_cases e2 : j = i
      · subst e2; exact e
      · exact hq j hj (by omega)⟩
    have hno : ¬ Fm.got B s t i B[i] = s.testBit i → k (.bool false) h := fun e => hk _ _ ⟨rfl, by rw [decide_eq_false (fun hh : Fm.Fol B s t => e (hh i hlx))]⟩
    have hsp := hB.at hlx
    obtain ⟨y, hyd⟩ : ∃ y, y = B[i] := ⟨_, rfl⟩
    obtain ⟨u, hu, Ru⟩ := R.ld hlx
    change hload _ (some (elp 3 w i)) (some 3) = some u at hu
    rw [← hyd] at hy hno hsp Ru
    obtain ⟨wk, rfl, k1, k2, R1⟩ := Rep_Exq.1 Ru
    have hX := R.X (n := 3) rfl
    have kO := R1.one
    have hi64 : I64 (i : Int) := ⟨by omega, by omega⟩
    have kid : ∀ {j : Nat} (hj : j < y.kids.length), ∃ u, hload h (some (elp 3 wk j)) (some 3) = some u ∧ Rep h u y.kids[j] := fun hj => R1.ld hj
    have hY := R1.X (n := 3) rfl
    have V : ∀ {j : Nat} (hj : j < y.kids.length) {u : Value} {s : Nat}, s < 4611686018427387904 → Rep h u y.kids[j] → CallE Try.prog fn_spec_l7Value [w, .int .i64 s, u] h (fun u h' => h' = h ∧ u = .bool (Fm.val B s y.kids[j])) := fun hj _ _ hs r => c_l7Value 5 hs (hsp.kid hj) R r
    simp -implicitDefEqProofs (disch:=first|omega|(simp only[LnZ];omega))[wrap64, hX, hu, setC, kO]
    refine (c_l6Has hs hi64).go ?_
    rintro _ _ ⟨rfl, rfl⟩
    rw [Fm.has_nat]
    unfold Fm.got at hy hno
    by_cases c6 : y.kind = 6
    · have hl := hsp.one (by omega)
      obtain ⟨u0, hu0, Ru0⟩ := kid (j := 0) (by omega)
      rw [if_pos c6, Fm.kv_at (j := 0) (by omega)] at hy hno
      simp -implicitDefEqProofs (disch:=first|omega|(simp only[LnZ];omega))[wrap64, c6, hY, hu0, setC, kO]
      refine (V (by omega) ht Ru0).go ?_
      rintro _ _ ⟨rfl, rfl⟩
      by_cases e : Fm.val B t y.kids[0] = s.testBit i
      · simp -implicitDefEqProofs (disch:=first|omega|(simp only[LnZ];omega))[wrap64, e]
        simpa using hy e
      · simp -implicitDefEqProofs (disch:=first|omega|(simp only[LnZ];omega))[wrap64, e]
        exact RetK.keep (hno e)
    rw [if_neg c6] at hy hno
    by_cases c7 : y.kind = 7
    · have hl := hsp.two (by omega)
      obtain ⟨u0, hu0, Ru0⟩ := kid (j := 0) (by omega)
      obtain ⟨u1, hu1, Ru1⟩ := kid (j := 1) (by omega)
      rw [if_pos c7, Fm.kv_at (j := 0) (by omega), Fm.kv_at (j := 1) (by omega)] at hy hno
      simp -implicitDefEqProofs (disch:=first|omega|(simp only[LnZ];omega))[wrap64, c6, c7, hY, hu1, setC, kO]
      refine (V (by omega) hs Ru1).go ?_
      rintro _ _ ⟨rfl, rfl⟩
      cases hv1 : Fm.val B s y.kids[1] with
      | true =>
        rw [hv1] at hy hno
        cases hw : s.testBit i with
        | true =>
          rw [hw] at hy
          simp -implicitDefEqProofs (disch:=first|omega|(simp only[LnZ];omega))[wrap64, hv1, hw]
          simpa using hy (by simp)
        | false =>
          rw [hw] at hno
          simp -implicitDefEqProofs (disch:=first|omega|(simp only[LnZ];omega))[wrap64, hv1, hw]
          exact RetK.keep (hno (by simp))
      | false =>
        rw [hv1] at hy hno
        simp -implicitDefEqProofs (disch:=first|omega|(simp only[LnZ];omega))[wrap64, hv1, hY, hu0]
        refine (V (by omega) hs Ru0).go ?_
        rintro _ _ ⟨rfl, rfl⟩
        cases hv0 : Fm.val B s y.kids[0] with
        | false =>
          rw [hv0] at hy hno
          cases hw : s.testBit i with
          | true =>
            rw [hw] at hno
            simp -implicitDefEqProofs (disch:=first|omega|(simp only[LnZ];omega))[wrap64, hv0, hw]
            exact RetK.keep (hno (by simp))
          | false =>
            rw [hw] at hy
            simp -implicitDefEqProofs (disch:=first|omega|(simp only[LnZ];omega))[wrap64, hv0, hw]
            simpa using hy (by simp)
        | true =>
          rw [hv0] at hy hno
          simp -implicitDefEqProofs (disch:=first|omega|(simp only[LnZ];omega))[wrap64, hv0]
          refine (c_l6Has ht hi64).go ?_
          rintro _ _ ⟨rfl, rfl⟩
          rw [Fm.has_nat]
          by_cases e : t.testBit i = s.testBit i
          · simp -implicitDefEqProofs (disch:=first|omega|(simp only[LnZ];omega))[wrap64, e]
            simpa using hy (by simpa using e)
          · simp -implicitDefEqProofs (disch:=first|omega|(simp only[LnZ];omega))[wrap64, e]
            exact RetK.keep (hno (by simpa using e))
    rw [if_neg c7] at hy hno
    by_cases c8 : y.kind = 8
    · have hl := hsp.two (by omega)
      obtain ⟨u0, hu0, Ru0⟩ := kid (j := 0) (by omega)
      obtain ⟨u1, hu1, Ru1⟩ := kid (j := 1) (by omega)
      rw [if_pos c8, Fm.kv_at (j := 0) (by omega), Fm.kv_at (j := 1) (by omega)] at hy hno
      simp -implicitDefEqProofs (disch:=first|omega|(simp only[LnZ];omega))[wrap64, c6, c7, c8, hY, hu1, setC, kO]
      refine (V (by omega) hs Ru1).go ?_
      rintro _ _ ⟨rfl, rfl⟩
      cases hv1 : Fm.val B s y.kids[1] with
      | false =>
        rw [hv1] at hy hno
        cases hw : s.testBit i with
        | true =>
          rw [hw] at hno
          simp -implicitDefEqProofs (disch:=first|omega|(simp only[LnZ];omega))[wrap64, hv1, hw]
          exact RetK.keep (hno (by simp))
        | false =>
          rw [hw] at hy
          simp -implicitDefEqProofs (disch:=first|omega|(simp only[LnZ];omega))[wrap64, hv1, hw]
          simpa using hy (by simp)
      | true =>
        rw [hv1] at hy hno
        simp -implicitDefEqProofs (disch:=first|omega|(simp only[LnZ];omega))[wrap64, hv1, hY, hu0]
        refine (V (by omega) hs Ru0).go ?_
        rintro _ _ ⟨rfl, rfl⟩
        cases hv0 : Fm.val B s y.kids[0] with
        | true =>
          rw [hv0] at hy hno
          cases hw : s.testBit i with
          | true =>
            rw [hw] at hy
            simp -implicitDefEqProofs (disch:=first|omega|(simp only[LnZ];omega))[wrap64, hv0, hw]
            simpa using hy (by simp)
          | false =>
            rw [hw] at hno
            simp -implicitDefEqProofs (disch:=first|omega|(simp only[LnZ];omega))[wrap64, hv0, hw]
            exact RetK.keep (hno (by simp))
        | false =>
          rw [hv0] at hy hno
          simp -implicitDefEqProofs (disch:=first|omega|(simp only[LnZ];omega))[wrap64, hv0]
          refine (c_l6Has ht hi64).go ?_
          rintro _ _ ⟨rfl, rfl⟩
          rw [Fm.has_nat]
          by_cases e : t.testBit i = s.testBit i
          · simp -implicitDefEqProofs (disch:=first|omega|(simp only[LnZ];omega))[wrap64, e]
            simpa using hy (by simpa using e)
          · simp -implicitDefEqProofs (disch:=first|omega|(simp only[LnZ];omega))[wrap64, e]
            exact RetK.keep (hno (by simpa using e))
    rw [if_neg c8] at hy hno
    simp -implicitDefEqProofs (disch:=first|omega|(simp only[LnZ];omega))[wrap64, c6, c7, c8]
    simpa using hy rfl
  · simp -implicitDefEqProofs (disch:=first|omega|(simp only[LnZ];omega))[wrap64]
    exact RetK.keep (hk _ _ ⟨rfl, by rw [decide_eq_true (show Fm.Fol B s t from fun j hj => hq j hj (by omega))]⟩)
theorem c_l7Fulfils {h : Heap} {w : Value} {B : List Exq} {s u : Nat} (hB : Bas B) (hs : s < 4611686018427387904) (hu : u < B.length) (hk7 : B[u].kind = 7) (R : Rep h w B) : CallE Try.prog fn_spec_l7Fulfils [w, .int .i64 s, .int .i64 u] h (fun v h' => h' = h ∧ v = .bool (Fm.ful B s u)) := by
  have hL := R.lt
  have hn5 := hB.n5
  have hi64 : I64 (u : Int) := ⟨by omega, by omega⟩
  have hsp := hB.at hu
  have hl := hsp.two (by omega)
  obtain ⟨q, hq, Rq⟩ := R.ld hu
  change hload _ (some (elp 3 w u)) (some 3) = some q at hq
  obtain ⟨wk, rfl, k1, k2, R1⟩ := Rep_Exq.1 Rq
  have hX := R.X (n := 3) rfl
  have hP := hld_parts (cs := [.int .i64 B[u].kind, .int .i64 B[u].val, wk]) hq
  obtain ⟨u1, hu1, Ru1⟩ := R1.ld (i := 1) (by omega)
  change hload _ (some (elp 3 wk 1)) (some 3) = some u1 at hu1
  have e : B.getD (u : Int).toNat Exq.zero = B[u] := by simp [hu]
  refine CallE.gen fun k hk => EN_spec_l7Fulfils rfl ?_
  simp -implicitDefEqProofs (disch:=first|omega|(simp only[LnZ];omega))[wrap64]
  refine (c_l6Has hs hi64).go ?_
  rintro _ _ ⟨rfl, rfl⟩
  rw [Fm.ful, e, Fm.kv_at (j := 1) (by omega)] at hk
  cases hh : Fm.has s u with
  | false =>
    rw [hh] at hk
    simp -implicitDefEqProofs (disch:=first|omega|(simp only[LnZ];omega))[wrap64, hh]
    exact RetK.keep (hk _ _ ⟨rfl, by simp⟩)
  | true =>
    rw [hh] at hk
    simp -implicitDefEqProofs (disch:=first|omega|(simp only[LnZ];omega))[wrap64, hh, hX, hP.1, hP.2.2.1, R1.X (n := 3) rfl, hu1]
    refine (c_l7Value 5 hs (hsp.kid (i := 1) (by omega)) R Ru1).go ?_
    rintro _ _ ⟨rfl, rfl⟩
    simp -implicitDefEqProofs (disch:=first|omega|(simp only[LnZ];omega))[wrap64]
    exact RetK.keep (hk _ _ ⟨rfl, by simp⟩)
end Go.Proofs.Ytbanccfdojgocaa

namespace Go.Proofs.Ytbanccfdojgocaa
open Go
theorem c_subs_1 {g : Heap} {bV bO : Nat} {fv : Value} (hbv : hload g (some (.pointer (some ⟨bV, 0, none⟩))) none = some fv) (hfv : fnOf fv = some (fn_impl_Formula_subformulas_1, [], [.pointer (some ⟨bV, 0, none⟩), .pointer (some ⟨bO, 0, none⟩)])) :
    ∀ (x : Exq) {h : Heap} {v vs : Value} {O : List Exq}, Sz.sz x ≤ 1048576 → O.length + x.nod ≤ 1048576 → Rep g v x → HS g [bx bO [vs], ow vs (O.map Mix.new)] h →
    CallE Try.prog fn_impl_Formula_subformulas_1 [v, .pointer (some ⟨bV, 0, none⟩), .pointer (some ⟨bO, 0, none⟩)] h (fun _ h' => ∃ vs', HS g [bx bO [vs'], ow vs' ((Fm.subs x O).map Mix.new)] h') := by
  refine Exq.ind fun x ih h v vs O hs hn R H => ?_
  have FX := R.aExq
  obtain ⟨w, rfl, k1, k2, R1⟩ := Rep_Exq.1 R
  have hnd := x.nod_eq
  have hkl := R1.lt
  have hlen : ∀ i, i ≤ x.kids.length → ((x.kids.take i).foldl (fun o y => Fm.subs y o) O).length + Exq.nods (x.kids.drop i) ≤ O.length + Exq.nods x.kids := by
    intro i hi
    have h1 := Fm.subsL_len (x.kids.take i) (fun y _ o => Fm.subs_len y o) O
    have h2 : Exq.nods (x.kids.take i) + Exq.nods (x.kids.drop i) = Exq.nods x.kids := by
      have key : ∀ a b : List Exq, Exq.nods a + Exq.nods b = Exq.nods (a ++ b) := by
        intro a b
        induction a with
        | nil => simp [Exq.nods]
        | cons y a ih => simp only [List.cons_append, Exq.nods]; omega
      rw [key, List.take_append_drop]
    omega
  refine CallE.gen fun k hk => EN_impl_Formula_subformulas_1 rfl ?_
  simp -implicitDefEqProofs (disch:=first|omega|(simp only[LnZ];omega))[wrap64, setC, FX, R1.len]
  refine wp_count x.kids.length (fun i e h' => e = [none, some (.pointer (some ⟨bV, 0, none⟩)), some (.pointer (some ⟨bO, 0, none⟩)), some (.agg #[.int .i64 x.kind, .int .i64 x.val, w]), none, some w, some (.int .i64 x.kids.length), some (.int .i64 i)] ∧
    ∃ vs, HS g [bx bO [vs], ow vs (((x.kids.take i).foldl (fun o y => Fm.subs y o) O).map Mix.new)] h') ⟨by simp, vs, by simpa using H⟩ ?_
  clear H
  rintro J i _ h1 hJ hi ⟨rfl, vs, H⟩
  simp -implicitDefEqProofs (disch:=first|omega|(simp only[LnZ];omega))[wrap64]
  refine IteW.mk (fun hlt => ?_) (fun hge => ?_)
  · have hlx : i < x.kids.length := by omega
    obtain ⟨u, hu, Ru⟩ := R1.ld hlx
    have hu2 := hload_le H.base hu
    have hb2 := hload_le H.base hbv
    change hload _ (some (elp 3 w i)) (some 3) = some u at hu2
    have hll := hlen i hi
    have hdr : Exq.nods (x.kids.drop i) = x.kids[i].nod + Exq.nods (x.kids.drop (i + 1)) := by rw [List.drop_eq_getElem_cons hlx, Exq.nods]
    simp -implicitDefEqProofs (disch:=first|omega|(simp only[LnZ];omega))[wrap64, R1.X (n := 3) rfl, hu2, hb2, Ru.aExq, setC, hfv]
    refine (ih _ (List.getElem_mem hlx) (by have := sz_kid hlx; omega) (by omega) Ru H).go ?_
    clear H
    rintro _ h2 ⟨vs', H⟩
    simp -implicitDefEqProofs (disch:=first|omega|(simp only[LnZ];omega))[wrap64]
    refine hJ _ _ hlx ⟨by simp, vs', ?_⟩
    rw [List.take_add_one, List.getElem?_eq_getElem hlx, List.foldl_append]
    exact H
  rw [List.take_of_length_le (by omega)] at H
  have hll := hlen x.kids.length (Nat.le_refl _)
  rw [List.take_length] at hll
  have hse := Fm.subs_eq x O
  generalize x.kids.foldl (fun o y => Fm.subs y o) O = Q at *
  have HM := H.sw1.mixed
  simp -implicitDefEqProofs (disch:=first|omega|(simp only[LnZ];omega))[wrap64, H.bxld0, FX]
  refine (c_formulaAt HM.rep (R.on H)).go ?_
  rintro _ h2 ⟨l2, rfl⟩
  have H := H.le l2
  clear HM
  by_cases hm : x ∈ Q
  · have hf : ¬ Fm.fx Q x < 0 := fun hh => Fm.fx_neg.1 hh hm
    simp -implicitDefEqProofs (disch:=first|omega|(simp only[LnZ];omega))[wrap64, hf]
    refine RetK.keep (hk _ _ ⟨vs, ?_⟩)
    rw [hse, Fm.ins, if_pos hm]
    exact H
  · have hf : Fm.fx Q x < 0 := Fm.fx_neg.2 hm
    rw [Fm.ins, if_neg hm] at hse
    simp -implicitDefEqProofs (disch:=first|omega|(simp only[LnZ];omega))[wrap64, hf, H.bxld0, FX, H.sw1.rep.len, setC]
    refine (c_Formula_copyOf x (R.on H) hs).go ?_
    intro u h3 G
    have H := G.app H
    have FU := G.rep.aExq
    simp -implicitDefEqProofs (disch:=first|omega|(simp only[LnZ];omega))[wrap64, H.sw1.bxld0]
    refine HS.appO (α := Mix Exq) (bytes := 40) ((H.sw2).rawO (c := [.int .i64 0, .int .i64 0, .slice none 0 0]) (y := Exq.zero) (h' := h) (repExq.2 ⟨_, rfl, i64_0, i64_0, Own_nils.rep.le fun _ _ h => by simp [Heap.nil] at h⟩)) rfl rfl rfl rfl rfl (by simp; omega) (by simp; omega) fun vs1 h4 H => ?_
    have hia := H.rep.X (n := 3) (α := Mix Exq) rfl
    simp -implicitDefEqProofs (disch:=first|omega|(simp only[LnZ];omega))[wrap64, hia]
    have H : HS g [ow u (Mix.new x), ow vs1 (Q.map Mix.new ++ [Mix.raw [.int .i64 0, .int .i64 0, .slice none 0 0]]), bx bO [vs]] h4 := H.sw1.newO
    have hset : (Q.map Mix.new ++ [Mix.raw [.int .i64 0, .int .i64 0, .slice none 0 0]]).set Q.length (Mix.new x) = (Q ++ [x]).map Mix.new := by
      rw [List.set_append_right _ _ (by simp)]
      simp
    constructor
    · simp -implicitDefEqProofs (disch:=first|omega|(simp only[LnZ];omega))[wrap64]
      refine HS.store (i := Q.length) H (by simp) rfl rfl rfl fun h5 H => ?_
      rw [hset] at H
      simp -implicitDefEqProofs (disch:=first|omega|(simp only[LnZ];omega))[wrap64]
      refine H.sw1.bxst (u := vs1) rfl rfl (by rw [H.rep.cells]; rfl) (by rw [H.rep.cells]; simp [H.rep.one]) (by simp [H.rep.cells]) fun h6 H => ?_
      simp -implicitDefEqProofs (disch:=first|omega|(simp only[LnZ];omega))[wrap64]
      refine RetK.keep (hk _ _ ⟨vs1, ?_⟩)
      rw [hse]
      simpa [setC, H.sw1.rep.cells] using H
    · simp -implicitDefEqProofs (disch:=first|omega|(simp only[LnZ];omega))[wrap64]
      refine H.sw2.bxst (u := vs1) rfl rfl (by rw [H.sw1.rep.cells]; rfl) (by rw [H.sw1.rep.cells]; simp [H.sw1.rep.one]) (by simp [H.sw1.rep.cells]) fun h6 H => ?_
      simp -implicitDefEqProofs (disch:=first|omega|(simp only[LnZ];omega))[wrap64]
      refine HS.store (i := Q.length) H.bk2 (by simp) rfl rfl rfl fun h5 H => ?_
      rw [hset] at H
      simp -implicitDefEqProofs (disch:=first|omega|(simp only[LnZ];omega))[wrap64]
      refine RetK.keep (hk _ _ ⟨vs1, ?_⟩)
      rw [hse]
      simpa [setC, H.rep.cells] using H.sw1
theorem c_subformulas {x : Exq} {h : Heap} {v : Value} (hs : Sz.sz x ≤ 1048576) (hn : x.nod ≤ 1048576) (R : Rep h v x) : CallE Try.prog fn_impl_Formula_subformulas [v] h (fun u h' => h.le h' ∧ Rep h' u (Fm.subs x [])) := by
  have FX := R.aExq
  refine CallE.gen fun k hk => EN_impl_Formula_subformulas rfl ?_
  simp -implicitDefEqProofs (disch:=first|omega|(simp only[LnZ];omega))[wrap64, setC, FX]
  refine HS.init.alloc rfl fun bO h1 H => ?_
  simp -implicitDefEqProofs (disch:=first|omega|(simp only[LnZ];omega))[wrap64]
  refine H.alloc rfl fun bV h2 H => ?_
  simp -implicitDefEqProofs (disch:=first|omega|(simp only[LnZ];omega))[wrap64]
  obtain ⟨fv, hfv⟩ : ∃ fv, fv = Value.func (.func fn_impl_Formula_subformulas_1) #[] #[.pointer (some ⟨bV, 0, none⟩), .pointer (some ⟨bO, 0, none⟩)] := ⟨_, rfl⟩
  have hfc : fv.cells = #[fv] := by rw [hfv]; rfl
  have hf1 : fv.oneCell' = true := by rw [hfv]; rfl
  have hfo : fnOf fv = some (fn_impl_Formula_subformulas_1, [], [.pointer (some ⟨bV, 0, none⟩), .pointer (some ⟨bO, 0, none⟩)]) := by rw [hfv]; rfl
  rw [← hfv]
  refine H.bxst (u := fv) rfl rfl (by rw [hfc]; rfl) (by rw [hfc]; simp [hf1]) (by simp) fun h3 H => ?_
  have H : HS h [bx bV [fv], bx bO [.slice none 0 0]] h3 := by simpa [setC, hfc] using H
  simp -implicitDefEqProofs (disch:=first|omega|(simp only[LnZ];omega))[wrap64, H.bxld0, hfo, FX]
  have H := (H.nil_ow (α := Mix Exq)).sw1
  obtain ⟨g1, H1, H2⟩ := HS.rebase (Δ := [bx bO [.slice none 0 0], ow (.slice none 0 0) ([] : List (Mix Exq))]) (Γ := [bx bV [fv]]) H.bk2.sw1
  have lb := H1.base
  refine (c_subs_1 H1.bxld0 hfo x (O := []) hs (by simpa using hn) (R.le lb) H2).go ?_
  clear H H2
  rintro _ h4 ⟨vs, H⟩
  simp -implicitDefEqProofs (disch:=first|omega|(simp only[LnZ];omega))[wrap64, H.bxld0]
  refine (c_Clip_impl_Formula H.sw1).go ?_
  intro u h5 H
  simp -implicitDefEqProofs (disch:=first|omega|(simp only[LnZ];omega))[wrap64]
  exact RetK.keep (hk _ _ ⟨lb.trans H.base, H.mixed.rep⟩)
theorem c_basics {x : Exq} {h : Heap} {v : Value} (hs : Sz.sz x ≤ 1048576) (hn : x.nod ≤ 64) (R : Rep h v x) : CallE Try.prog fn_impl_basics [v] h (fun u h' => h.le h' ∧ Rep h' u ((Fm.subs x []).filter Fm.bas)) := by
  have FX := R.aExq
  have hsl := Fm.subs_len x []
  refine CallE.gen fun k hk => EN_impl_basics rfl ?_
  simp -implicitDefEqProofs (disch:=first|omega|(simp only[LnZ];omega))[wrap64, setC, FX]
  refine (c_subformulas hs (by omega) R).go ?_
  intro ls h3 ⟨l3, RL⟩
  generalize Fm.subs x [] = S at *
  simp only [List.length_nil, Nat.zero_add] at hsl
  simp -implicitDefEqProofs (disch:=first|omega|(simp only[LnZ];omega))[wrap64, RL.len]
  refine wp_count S.length (fun i e h' => ∃ (o : Value) (N : List (Mix Exq)), e = [none, none, none, some o, none, some ls, some (.int .i64 S.length), some (.int .i64 i)] ∧ HS h3 [ow o N] h' ∧ Raws h3 ((S.take i).filter Fm.bas) N) ⟨.slice none 0 0, [], by simp, HS.init.nil_ow, by simpa using Raws.nil⟩ ?_
  rintro J i _ h4 hJ hi ⟨o, N, rfl, H, hN⟩
  simp -implicitDefEqProofs (disch:=first|omega|(simp only[LnZ];omega))[wrap64]
  refine IteW.mk (fun hlt => ?_) (fun hge => ?_)
  · have hlx : i < S.length := by omega
    obtain ⟨u, hu, Ru⟩ := RL.ld hlx
    have hu' := hload_le H.base hu
    change hload _ (some (elp 3 ls i)) (some 3) = some u at hu'
    have hX := RL.X (n := 3) rfl
    have FU := Ru.aExq
    have hft := flt_take (p := Fm.bas) hlx
    have hNl : N.length ≤ 64 := by
      rw [hN.len]
      have := flt_len (p := Fm.bas) (l := S) (i := i)
      omega
    obtain ⟨wq, rfl, kk1, kk2, Rq⟩ := Rep_Exq.1 Ru
    have hcs : Ty.rep h3 [.int .i64 S[i].kind, .int .i64 S[i].val, wq] S[i] := repExq.2 ⟨wq, rfl, kk1, kk2, Rq⟩
    have hOq := Rq.one
    have hyes : Fm.bas S[i] = true → ∀ (o' : Value) (h5 : Heap), HS h3 [ow o' (N ++ [Mix.raw [.int .i64 S[i].kind, .int .i64 S[i].val, wq]])] h5 → J [none, none, none, some o', none, some ls, some (.int .i64 S.length), some (.int .i64 ((i + 1 : Nat) : Int))] h5 := fun hb o' h5 H =>
      hJ _ _ hlx ⟨o', _, by simp, H, by rw [hft, hb, if_pos rfl]; exact hN.push hcs⟩
    have hno : Fm.bas S[i] = false → J [none, none, none, some o, none, some ls, some (.int .i64 S.length), some (.int .i64 ((i + 1 : Nat) : Int))] h4 := fun hb =>
      hJ _ _ hlx ⟨o, N, by simp, H, by rw [hft, hb]; simpa using hN⟩
    have hbd : Fm.bas S[i] = decide (S[i].kind = 2 ∨ S[i].kind = 6 ∨ S[i].kind = 7 ∨ S[i].kind = 8) := rfl
    obtain ⟨kd, hkd⟩ : ∃ kd, S[i].kind = kd := ⟨_, rfl⟩
    rw [hkd] at hcs hyes hbd hu'
    by_cases c2 : kd = 2
    · subst c2
      simp -implicitDefEqProofs (disch:=first|omega|(simp only[LnZ];omega))[wrap64, hX, hu', setC, hOq]
      refine HS.appO (α := Mix Exq) (bytes := 40) (H.rawO hcs) rfl rfl rfl rfl rfl (by omega) (by omega) fun o' h5 H => ?_
      simp -implicitDefEqProofs (disch:=first|omega|(simp only[LnZ];omega))[wrap64]
      simpa using hyes (by rw [hbd]; simp) o' h5 H
    by_cases c6 : kd = 6
    · subst c6
      simp -implicitDefEqProofs (disch:=first|omega|(simp only[LnZ];omega))[wrap64, hX, hu', setC, hOq]
      refine HS.appO (α := Mix Exq) (bytes := 40) (H.rawO hcs) rfl rfl rfl rfl rfl (by omega) (by omega) fun o' h5 H => ?_
      simp -implicitDefEqProofs (disch:=first|omega|(simp only[LnZ];omega))[wrap64]
      simpa using hyes (by rw [hbd]; simp) o' h5 H
    by_cases c7 : kd = 7
    · subst c7
      simp -implicitDefEqProofs (disch:=first|omega|(simp only[LnZ];omega))[wrap64, hX, hu', setC, hOq]
      refine HS.appO (α := Mix Exq) (bytes := 40) (H.rawO hcs) rfl rfl rfl rfl rfl (by omega) (by omega) fun o' h5 H => ?_
      simp -implicitDefEqProofs (disch:=first|omega|(simp only[LnZ];omega))[wrap64]
      simpa using hyes (by rw [hbd]; simp) o' h5 H
    by_cases c8 : kd = 8
    · subst c8
      simp -implicitDefEqProofs (disch:=first|omega|(simp only[LnZ];omega))[wrap64, hX, hu', setC, hOq]
      refine HS.appO (α := Mix Exq) (bytes := 40) (H.rawO hcs) rfl rfl rfl rfl rfl (by omega) (by omega) fun o' h5 H => ?_
      simp -implicitDefEqProofs (disch:=first|omega|(simp only[LnZ];omega))[wrap64]
      simpa using hyes (by rw [hbd]; simp) o' h5 H
    simp -implicitDefEqProofs (disch:=first|omega|(simp only[LnZ];omega))[wrap64, hX, hu', setC, hOq, c2, c6, c7, c8]
    simpa using hno (by rw [hbd]; simp [c2, c6, c7, c8])
  rw [List.take_of_length_le (by omega)] at hN
  simp -implicitDefEqProofs (disch:=first|omega|(simp only[LnZ];omega))[wrap64]
  refine (c_Clip_impl_Formula H).go ?_
  intro u h5 H
  simp -implicitDefEqProofs (disch:=first|omega|(simp only[LnZ];omega))[wrap64]
  exact RetK.keep (hk _ _ ⟨l3.trans H.base, H.rep.raws (hN.le H.base)⟩)
theorem c_BasicFormulas {h : Heap} {v : Value} {x : Exq} (R : Rep h v x) : CallE Try.prog fn_impl_BasicFormulas [v] h (fun u h' => ∃ w, u = .tuple #[w, .bool (decide (Fm.bOk x))] ∧ h.le h' ∧ Rep h' w (Fm.basR x)) := by
  have FX := R.aExq
  have Rn : ∀ h, Rep h (.slice none 0 0) ([] : List Exq) := fun h => Own_nils.rep.le fun _ _ h => by simp [Heap.nil] at h
  refine CallE.gen fun k hk => EN_impl_BasicFormulas rfl ?_
  simp -implicitDefEqProofs (disch:=first|omega|(simp only[LnZ];omega))[wrap64, FX]
  refine (c_NormalForm R).go ?_
  rintro _ h1 ⟨w, rfl, l1, Rg⟩
  have FW := Rg.aExq
  by_cases q1 : Fm.Ok x ∧ Fm.Ok (Fm.push x false)
  case neg =>
    simp -implicitDefEqProofs (disch:=first|omega|(simp only[LnZ];omega))[wrap64, q1, FW, setC]
    exact RetK.keep (hk _ _ ⟨_, by rw [decide_eq_false (fun hh => q1 hh.1)], l1, by rw [Fm.basR, if_neg (fun hh => q1 hh.1)]; exact Rn _⟩)
  rw [Fm.nfR, if_pos q1] at Rg
  simp -implicitDefEqProofs (disch:=first|omega|(simp only[LnZ];omega))[wrap64, q1, FW, setC]
  refine (c_basics (by have := q1.2.sz; omega) (by have := q1.2.2; omega) Rg).go ?_
  intro o h2 ⟨l2, Ro⟩
  have hbd : Fm.basics x = (Fm.subs (Fm.push x false) []).filter Fm.bas := rfl
  rw [← hbd] at Ro
  by_cases q2 : (Fm.basics x).length ≤ 5
  · have bok : Fm.bOk x := ⟨q1, q2⟩
    have hlt : ¬ (5 : Int) < (Fm.basics x).length := by omega
    simp -implicitDefEqProofs (disch:=first|omega|(simp only[LnZ];omega))[wrap64, Ro.len, hlt]
    exact RetK.keep (hk _ _ ⟨o, by rw [decide_eq_true bok], l1.trans l2, by rw [Fm.basR, if_pos bok]; exact Ro⟩)
  · have nok : ¬ Fm.bOk x := fun hh => q2 hh.2
    have hlt : (5 : Int) < (Fm.basics x).length := by omega
    simp -implicitDefEqProofs (disch:=first|omega|(simp only[LnZ];omega))[wrap64, Ro.len, hlt]
    exact RetK.keep (hk _ _ ⟨_, by rw [decide_eq_false nok], l1.trans l2, by rw [Fm.basR, if_neg nok]; exact Rn _⟩)
end Go.Proofs.Ytbanccfdojgocaa

namespace Go.Proofs.Ytbanccfdojgocaa
open Go
theorem has_p {s i : Nat} (hs : s < 4611686018427387904) (hi : i < 64) : (andI .i64 (shrI .i64 (s : Int) (i : Int)) 1 = 1) = (s.testBit i = true) := by
  have h := has_eq (s := s) (i := (i : Int)) hs ⟨by omega, by omega⟩
  rw [u64_pos (by omega) (by omega), Fm.has_nat] at h
  exact propext h
theorem has_z {s i : Nat} (hs : s < 4611686018427387904) (hi : i < 64) : (andI .i64 (shrI .i64 (s : Int) (i : Int)) 1 = 0) = (s.testBit i = false) := by
  have h := has_p hs hi
  have h1 : s / 2 ^ (min i 64) ≤ s := Nat.div_le_self _ _
  have h2 : andI .i64 (shrI .i64 (s : Int) (i : Int)) 1 = 0 ∨ andI .i64 (shrI .i64 (s : Int) (i : Int)) 1 = 1 := by
    rw [i64_shr, show (1 : Int) = ((1 : Nat) : Int) from rfl, i64_and (by omega) (by omega), Nat.and_one_is_mod]
    omega
  rcases h2 with h2 | h2
  · rw [h2] at h ⊢
    cases e : s.testBit i with
    | false => simp
    | true => rw [e] at h; simp at h
  · rw [h2] at h ⊢
    cases e : s.testBit i with
    | false => rw [e] at h; simp at h
    | true => simp
theorem Bc_bas {B : List Exq} (h : Fm.Bc B) : ∀ y ∈ B, Fm.bas y = true := fun y hy => (h.2 y hy).2.1
theorem Bc_kid {B : List Exq} (h : Fm.Bc B) {y : Exq} (hy : y ∈ B) : ∃ m, ∀ z ∈ y.kids, Fm.Cl B m z := by
  obtain ⟨_, _, n, hc⟩ := h.2 y hy
  obtain ⟨m, rfl⟩ := hc.ex
  exact ⟨m, hc.2.2.2.2⟩
theorem c_follows {h : Heap} {w : Value} {B : List Exq} {bt s t : Nat} (hB : Fm.Bc B) (hn5 : B.length ≤ 5) (hs : s < 4611686018427387904) (ht : t < 4611686018427387904) (R : Rep h w B) (hbt : hload h (some (.pointer (some ⟨bt, 0, none⟩))) none = some w) :
    CallE Try.prog fn_impl_translator_follows [.pointer (some ⟨bt, 0, none⟩), .int .i64 s, .int .i64 t] h (fun u h' => h.le h' ∧ u = .bool (decide (Fm.Fol B s t))) := by
  have hL := R.lt
  refine CallE.gen fun k hk => EN_impl_translator_follows rfl ?_
  simp -implicitDefEqProofs (disch:=first|omega|(simp only[LnZ];omega))[wrap64, hbt, R.len]
  refine wp_count B.length (fun i e h' => e = [some (.pointer (some ⟨bt, 0, none⟩)), some (.int .i64 s), some (.int .i64 t), none, none, none, none, none, none, some w, some (.int .i64 B.length), some (.int .i64 i), none] ∧ h.le h' ∧ ∀ (j : Nat) (hj : j < B.length), j < i → Fm.got B s t j B[j] = s.testBit j) ⟨by simp, Heap.le.refl _, fun j _ hj => absurd hj (Nat.not_lt_zero j)⟩ ?_
  rintro J i _ h1 hJ hi ⟨rfl, l1, hq⟩
  simp -implicitDefEqProofs (disch:=first|omega|(simp only[LnZ];omega))[wrap64]
  refine IteW.mk (fun hlt => ?_) (fun hge => ?_)
  · have hlx : i < B.length := by omega
    have R := R.le l1
    have hbt := hload_le l1 hbt
    have hy : Fm.got B s t i B[i] = s.testBit i → ∀ h2, h1.le h2 → J [some (.pointer (some ⟨bt, 0, none⟩)), some (.int .i64 s), some (.int .i64 t), none, none, none, none, none, none, some w, some (.int .i64 B.length), some (.int .i64 ((i + 1 : Nat) : Int)), none] h2 := fun e h2 l2 => hJ _ _ hlx ⟨rfl, l1.trans l2, fun j hj hji => by
      by_cases e2 : j = i
      · subst e2; exact e
      · exact hq j hj (by omega)⟩
    have hno : ¬ Fm.got B s t i B[i] = s.testBit i → ∀ h2, h1.le h2 → k (.bool false) h2 := fun e h2 l2 => hk _ _ ⟨l1.trans l2, by rw [decide_eq_false (fun hh : Fm.Fol B s t => e (hh i hlx))]⟩
    have hsp := (hB.2 _ (List.getElem_mem hlx)).1
    obtain ⟨m, hkc⟩ := Bc_kid hB (List.getElem_mem hlx)
    obtain ⟨y, hyd⟩ : ∃ y, y = B[i] := ⟨_, rfl⟩
    obtain ⟨u, hu, Ru⟩ := R.ld hlx
    change hload _ (some (elp 3 w i)) (some 3) = some u at hu
    rw [← hyd] at hy hno hsp Ru hkc
    obtain ⟨wk, rfl, k1, k2, R1⟩ := Rep_Exq.1 Ru
    have hX := R.X (n := 3) rfl
    have kO := R1.one
    have hi0 : ¬ (i : Int) < 0 := by omega
    have hw : IntKind.u64.wrap (i : Int) = i := u64_pos (by omega) (by omega)
    have hp1 := has_p (i := i) hs (by omega)
    have hp2 := has_p (i := i) ht (by omega)
    have kid : ∀ {j : Nat} (hj : j < y.kids.length), ∃ u, hload h1 (some (elp 3 wk j)) (some 3) = some u ∧ Rep h1 u y.kids[j] := fun hj => R1.ld hj
    have hY := R1.X (n := 3) rfl
    have V : ∀ {j : Nat} (hj : j < y.kids.length) {u : Value} {s : Nat} {h2 : Heap}, h1.le h2 → s < 4611686018427387904 → Rep h1 u y.kids[j] → CallE Try.prog fn_impl_translator_holds [.pointer (some ⟨bt, 0, none⟩), u, .int .i64 s] h2 (fun u h' => h2.le h' ∧ u = .bool (Fm.val B s y.kids[j])) := fun hj _ _ _ l2 hs r => c_holds (Bc_bas hB) hs _ (hkc _ (List.getElem_mem hj)) (r.le l2) (R.le l2) (hload_le l2 hbt)
    unfold Fm.got at hy hno
    by_cases c6 : y.kind = 6
    · have hl := hsp.one (by omega)
      obtain ⟨u0, hu0, Ru0⟩ := kid (j := 0) (by omega)
      rw [if_pos c6, Fm.kv_at (j := 0) (by omega)] at hy hno
      have hbs : Fm.bas y = true := Bc_bas hB y (hyd ▸ List.getElem_mem hlx)
      change hload _ (some (elp 3 wk 0)) (some 3) = some u0 at hu0
      simp -implicitDefEqProofs (disch:=first|omega|(simp only[LnZ];omega))[wrap64, hX, hu, hi0, hw, hp1, hp2, c6, hY, hu0, setC, kO, Ru0.aExq]
      refine (V (by omega) (Heap.le.refl _) ht Ru0).go ?_
      rintro _ h2 ⟨l2, rfl⟩
      by_cases e : Fm.val B t y.kids[0] = s.testBit i
      · simp -implicitDefEqProofs (disch:=first|omega|(simp only[LnZ];omega))[wrap64, e]
        simpa using hy e _ l2
      · simp -implicitDefEqProofs (disch:=first|omega|(simp only[LnZ];omega))[wrap64, e, Ne.symm e]
        exact RetK.keep (hno e _ l2)
    rw [if_neg c6] at hy hno
    by_cases c7 : y.kind = 7
    · have hl := hsp.two (by omega)
      obtain ⟨u0, hu0, Ru0⟩ := kid (j := 0) (by omega)
      obtain ⟨u1, hu1, Ru1⟩ := kid (j := 1) (by omega)
      change hload _ (some (elp 3 wk 0)) (some 3) = some u0 at hu0
      change hload _ (some (elp 3 wk 1)) (some 3) = some u1 at hu1
      rw [if_pos c7, Fm.kv_at (j := 0) (by omega), Fm.kv_at (j := 1) (by omega)] at hy hno
      simp -implicitDefEqProofs (disch:=first|omega|(simp only[LnZ];omega))[wrap64, hX, hu, hi0, hw, hp1, hp2, c6, c7, hY, hu1, setC, kO, Ru1.aExq]
      refine (V (by omega) (Heap.le.refl _) hs Ru1).go ?_
      rintro _ h2 ⟨l2, rfl⟩
      cases hv1 : Fm.val B s y.kids[1] with
      | true =>
        rw [hv1] at hy hno
        cases hw : s.testBit i with
        | true =>
          rw [hw] at hy
          simp -implicitDefEqProofs (disch:=first|omega|(simp only[LnZ];omega))[wrap64, hv1, hw]
          simpa using hy (by simp) _ l2
        | false =>
          rw [hw] at hno
          simp -implicitDefEqProofs (disch:=first|omega|(simp only[LnZ];omega))[wrap64, hv1, hw]
          exact RetK.keep (hno (by simp) _ l2)
      | false =>
        rw [hv1] at hy hno
        have hu0 := hload_le l2 hu0
        simp -implicitDefEqProofs (disch:=first|omega|(simp only[LnZ];omega))[wrap64, hv1, (R1.le l2).X (n := 3) rfl, hu0, Ru0.aExq]
        refine (V (by omega) l2 hs Ru0).go ?_
        rintro _ h3 ⟨l3, rfl⟩
        have l3 := l2.trans l3
        cases hv0 : Fm.val B s y.kids[0] with
        | false =>
          rw [hv0] at hy hno
          cases hw : s.testBit i with
          | false =>
            rw [hw] at hy
            simp -implicitDefEqProofs (disch:=first|omega|(simp only[LnZ];omega))[wrap64, hv0, hw]
            simpa using hy (by simp) _ l3
          | true =>
            rw [hw] at hno
            simp -implicitDefEqProofs (disch:=first|omega|(simp only[LnZ];omega))[wrap64, hv0, hw]
            exact RetK.keep (hno (by simp) _ l3)
        | true =>
          rw [hv0] at hy hno
          by_cases e : t.testBit i = s.testBit i
          · simp -implicitDefEqProofs (disch:=first|omega|(simp only[LnZ];omega))[wrap64, hv0, e]
            simpa using hy (by simpa using e) _ l3
          · simp -implicitDefEqProofs (disch:=first|omega|(simp only[LnZ];omega))[wrap64, hv0, e, Ne.symm e]
            exact RetK.keep (hno (by simpa using e) _ l3)
    rw [if_neg c7] at hy hno
    by_cases c8 : y.kind = 8
    · have hl := hsp.two (by omega)
      obtain ⟨u0, hu0, Ru0⟩ := kid (j := 0) (by omega)
      obtain ⟨u1, hu1, Ru1⟩ := kid (j := 1) (by omega)
      change hload _ (some (elp 3 wk 0)) (some 3) = some u0 at hu0
      change hload _ (some (elp 3 wk 1)) (some 3) = some u1 at hu1
      rw [if_pos c8, Fm.kv_at (j := 0) (by omega), Fm.kv_at (j := 1) (by omega)] at hy hno
      simp -implicitDefEqProofs (disch:=first|omega|(simp only[LnZ];omega))[wrap64, hX, hu, hi0, hw, hp1, hp2, c6, c7, c8, hY, hu1, setC, kO, Ru1.aExq]
      refine (V (by omega) (Heap.le.refl _) hs Ru1).go ?_
      rintro _ h2 ⟨l2, rfl⟩
      cases hv1 : Fm.val B s y.kids[1] with
      | false =>
        rw [hv1] at hy hno
        cases hw : s.testBit i with
        | false =>
          rw [hw] at hy
          simp -implicitDefEqProofs (disch:=first|omega|(simp only[LnZ];omega))[wrap64, hv1, hw]
          simpa using hy (by simp) _ l2
        | true =>
          rw [hw] at hno
          simp -implicitDefEqProofs (disch:=first|omega|(simp only[LnZ];omega))[wrap64, hv1, hw]
          exact RetK.keep (hno (by simp) _ l2)
      | true =>
        rw [hv1] at hy hno
        have hu0 := hload_le l2 hu0
        simp -implicitDefEqProofs (disch:=first|omega|(simp only[LnZ];omega))[wrap64, hv1, (R1.le l2).X (n := 3) rfl, hu0, Ru0.aExq]
        refine (V (by omega) l2 hs Ru0).go ?_
        rintro _ h3 ⟨l3, rfl⟩
        have l3 := l2.trans l3
        cases hv0 : Fm.val B s y.kids[0] with
        | true =>
          rw [hv0] at hy hno
          cases hw : s.testBit i with
          | true =>
            rw [hw] at hy
            simp -implicitDefEqProofs (disch:=first|omega|(simp only[LnZ];omega))[wrap64, hv0, hw]
            simpa using hy (by simp) _ l3
          | false =>
            rw [hw] at hno
            simp -implicitDefEqProofs (disch:=first|omega|(simp only[LnZ];omega))[wrap64, hv0, hw]
            exact RetK.keep (hno (by simp) _ l3)
        | false =>
          rw [hv0] at hy hno
          by_cases e : t.testBit i = s.testBit i
          · simp -implicitDefEqProofs (disch:=first|omega|(simp only[LnZ];omega))[wrap64, hv0, e]
            simpa using hy (by simpa using e) _ l3
          · simp -implicitDefEqProofs (disch:=first|omega|(simp only[LnZ];omega))[wrap64, hv0, e, Ne.symm e]
            exact RetK.keep (hno (by simpa using e) _ l3)
    rw [if_neg c8] at hy hno
    simp -implicitDefEqProofs (disch:=first|omega|(simp only[LnZ];omega))[wrap64, hX, hu, hi0, hw, hp1, hp2, c6, c7, c8, setC, kO]
    simpa using hy rfl _ (Heap.le.refl _)
  · simp -implicitDefEqProofs (disch:=first|omega|(simp only[LnZ];omega))[wrap64]
    exact RetK.keep (hk _ _ ⟨l1, by rw [decide_eq_true (show Fm.Fol B s t from fun j hj => hq j hj (by omega))]⟩)
theorem c_fulfils {h : Heap} {w uv : Value} {B : List Exq} {U : List Int} {bt s p u : Nat} (hB : Fm.Bc B) (hn5 : B.length ≤ 5) (hs : s < 4611686018427387904) (hp : p < U.length) (hUp : U[p] = (u : Int)) (hu : u < B.length) (hk7 : B[u].kind = 7) (R : Rep h w B) (RU : Rep h uv U)
    (hbt : hload h (some (.pointer (some ⟨bt, 0, none⟩))) none = some w) (hbu : hload h (some (.pointer (some ⟨bt, 1, none⟩))) none = some uv) :
    CallE Try.prog fn_impl_translator_fulfils [.pointer (some ⟨bt, 0, none⟩), .int .i64 s, .int .i64 p] h (fun v h' => h.le h' ∧ v = .bool (Fm.ful B s u)) := by
  have hL := R.lt
  have hsp := (hB.2 _ (List.getElem_mem hu)).1
  obtain ⟨m, hkc⟩ := Bc_kid hB (List.getElem_mem hu)
  have hl := hsp.two (by omega)
  obtain ⟨q, hq, Rq⟩ := R.ld hu
  change hload _ (some (elp 3 w u)) (some 3) = some q at hq
  obtain ⟨wk, rfl, k1, k2, R1⟩ := Rep_Exq.1 Rq
  have hX := R.X (n := 3) rfl
  have hP := hld_parts (cs := [.int .i64 B[u].kind, .int .i64 B[u].val, wk]) hq
  obtain ⟨u1, hu1, Ru1⟩ := R1.ld (i := 1) (by omega)
  change hload _ (some (elp 3 wk 1)) (some 3) = some u1 at hu1
  have e : B.getD (u : Int).toNat Exq.zero = B[u] := by simp [hu]
  have hi0 : ¬ (u : Int) < 0 := by omega
  have hw : IntKind.u64.wrap (u : Int) = u := u64_pos (by omega) (by omega)
  have hz := has_z (i := u) hs (by omega)
  refine CallE.gen fun k hk => EN_impl_translator_fulfils rfl ?_
  rw [Fm.ful, e, Fm.kv_at (j := 1) (by omega), Fm.has_nat] at hk
  cases hh : s.testBit u with
  | false =>
    rw [hh] at hk
    simp -implicitDefEqProofs (disch:=first|omega|(simp only[LnZ];omega))[wrap64, hbt, hbu, RU.I, hUp, hi0, hw, hz, hh]
    exact RetK.keep (hk _ _ ⟨Heap.le.refl _, by simp⟩)
  | true =>
    rw [hh] at hk
    simp -implicitDefEqProofs (disch:=first|omega|(simp only[LnZ];omega))[wrap64, hbt, hbu, RU.I, hUp, hi0, hw, hz, hh, hX, hP.1, hP.2.2.1, R1.X (n := 3) rfl, hu1, Ru1.aExq]
    refine (c_holds (Bc_bas hB) hs _ (hkc _ (List.getElem_mem (by omega))) Ru1 R hbt).go ?_
    rintro _ h2 ⟨l2, rfl⟩
    simp -implicitDefEqProofs (disch:=first|omega|(simp only[LnZ];omega))[wrap64]
    exact RetK.keep (hk _ _ ⟨l2, by simp⟩)
end Go.Proofs.Ytbanccfdojgocaa

namespace Go.Proofs.Ytbanccfdojgocaa
open Go
theorem c_l7Letter {h : Heap} {w : Value} {B : List Exq} {s : Nat} (hB : Bas B) (hs : s < 4611686018427387904) (R : Rep h w B) : CallE Try.prog fn_spec_l7Letter [w, .int .i64 s] h (fun u h' => h' = h ∧ u = .tuple #[.int .i64 ((Fm.ltc B B.length : Nat) : Int), .int .i64 ((Fm.ltv B s B.length : Nat) : Int)]) := by
  have hL := R.lt
  have hn5 := hB.n5
  have hall : ∀ y ∈ B, Fm.Shp 6 y := fun y hy => (hB.ok y hy).1
  refine CallE.gen fun k hk => EN_spec_l7Letter rfl ?_
  simp -implicitDefEqProofs (disch:=first|omega|(simp only[LnZ];omega))[wrap64]
  refine wp_count B.length (fun i e h' => e = [some w, some (.int .i64 s), none, none, some (.int .i64 ((Fm.ltc B i : Nat) : Int)), some (.int .i64 ((Fm.ltv B s i : Nat) : Int)), some (.int .i64 i)] ∧ h' = h) ⟨by simp [Fm.ltc, Fm.ltv], rfl⟩ ?_
  rintro J i _ h hJ hi ⟨rfl, rfl⟩
  simp -implicitDefEqProofs (disch:=first|omega|(simp only[LnZ];omega))[wrap64, R.len]
  refine IteW.mk (fun hlt => ?_) (fun hge => ?_)
  · have hlx : i < B.length := by omega
    have hc := Fm.ltc_lt hall i (by omega)
    have hv := Fm.ltv_lt (s := s) hall i (by omega)
    have e : B.getD i Exq.zero = B[i] := by simp [hlx]
    have hc1 : Fm.ltc B (i + 1) = if B[i].kind = 2 then Fm.ltc B i ||| 1 <<< B[i].val.toNat else Fm.ltc B i := by rw [Fm.ltc, e]
    have hv1 : Fm.ltv B s (i + 1) = if B[i].kind = 2 ∧ s.testBit i = true then Fm.ltv B s i ||| 1 <<< B[i].val.toNat else Fm.ltv B s i := by rw [Fm.ltv, e]
    have hsp := hB.at hlx
    obtain ⟨u, hu, Ru⟩ := R.ld hlx
    change hload _ (some (elp 3 w i)) (some 3) = some u at hu
    obtain ⟨wk, rfl, k1, k2, R1⟩ := Rep_Exq.1 Ru
    have hX := R.X (n := 3) rfl
    have hP := hld_parts (cs := [.int .i64 B[i].kind, .int .i64 B[i].val, wk]) hu
    have hlo := hsp.nd.lo
    have hhi := hsp.nd.hi
    obtain ⟨q, hq⟩ : ∃ q : Nat, B[i].val = q := ⟨_, (Int.toNat_of_nonneg hlo).symm⟩
    have hq3 : q < 3 := by omega
    have hpl : (0 : Int) ≤ B[i].val := hlo
    have hsl : shlI .i64 1 (q : Int) = ((1 <<< q : Nat) : Int) := i64_shl1 (by omega)
    have hs8 := Fm.sh3 hq3
    have huq : IntKind.u64.wrap (q : Int) = q := u64_pos (by omega) (by omega)
    have hq0 : ¬ (q : Int) < 0 := by omega
    have ho1 : orI .i64 ((Fm.ltc B i : Nat) : Int) ((1 <<< q : Nat) : Int) = ((Fm.ltc B i ||| 1 <<< q : Nat) : Int) := i64_or (by omega) (by omega)
    have ho2 : orI .i64 ((Fm.ltv B s i : Nat) : Int) ((1 <<< q : Nat) : Int) = ((Fm.ltv B s i ||| 1 <<< q : Nat) : Int) := i64_or (by omega) (by omega)
    rw [hq, Int.toNat_natCast] at hc1 hv1
    by_cases c2 : B[i].kind = 2
    case neg =>
      rw [if_neg c2] at hc1
      rw [if_neg (fun hh => c2 hh.1)] at hv1
      simp -implicitDefEqProofs (disch:=first|omega|(simp only[LnZ];omega))[wrap64, hX, hP.1, hP.2.2.1, c2]
      exact hJ _ _ hlx ⟨by simp [hc1, hv1], rfl⟩
    rw [if_pos c2] at hc1
    generalize hA : 1 <<< q = A at *
    have hi64 : I64 (i : Int) := ⟨by omega, by omega⟩
    simp -implicitDefEqProofs (disch:=first|omega|(simp only[LnZ];omega))[wrap64, hX, hP.1, hP.2.2.1, c2, hq, huq, hq0, hsl, ho1]
    refine (c_l6Has hs hi64).go ?_
    rintro _ _ ⟨rfl, rfl⟩
    rw [Fm.has_nat]
    cases hb : s.testBit i with
    | false =>
      rw [if_neg (fun hh => by rw [hb] at hh; exact absurd hh.2 (by decide))] at hv1
      simp -implicitDefEqProofs (disch:=first|omega|(simp only[LnZ];omega))[wrap64, hb]
      exact hJ _ _ hlx ⟨by simp [hc1, hv1], rfl⟩
    | true =>
      rw [if_pos ⟨c2, hb⟩] at hv1
      simp -implicitDefEqProofs (disch:=first|omega|(simp only[LnZ];omega))[wrap64, hb, hX, hP.1, hP.2.2.1, hq, huq, hq0, hsl, ho2]
      exact hJ _ _ hlx ⟨by simp [hc1, hv1], rfl⟩
  · obtain rfl : i = B.length := by omega
    simp -implicitDefEqProofs (disch:=first|omega|(simp only[LnZ];omega))[wrap64]
    exact RetK.keep (hk _ _ ⟨rfl, rfl⟩)
theorem c_l7Untils {h : Heap} {w : Value} {B : List Exq} (hB : Bas B) (R : Rep h w B) : CallE Try.prog fn_spec_l7Untils [w] h (fun u h' => HS h [ow u (Fm.unt B B.length)] h') := by
  have hL := R.lt
  have hn5 := hB.n5
  refine CallE.gen fun k hk => EN_spec_l7Untils rfl ?_
  simp -implicitDefEqProofs (disch:=first|omega|(simp only[LnZ];omega))[wrap64]
  refine HS.init.bls0 Int fun o h1 H => ?_
  simp -implicitDefEqProofs (disch:=first|omega|(simp only[LnZ];omega))[wrap64]
  refine wp_count B.length (fun i e h' => ∃ o, e = [some w, none, some o, some (.int .i64 i)] ∧ HS h [ow o (Fm.unt B i)] h') ⟨o, by simp, by simpa [Fm.unt] using H⟩ ?_
  clear H
  rintro J i _ h2 hJ hi ⟨o, rfl, H⟩
  simp -implicitDefEqProofs (disch:=first|omega|(simp only[LnZ];omega))[wrap64, (R.on H).len]
  refine IteW.mk (fun hlt => ?_) (fun hge => ?_)
  · have hlx : i < B.length := by omega
    have e : B.getD i Exq.zero = B[i] := by simp [hlx]
    have hu1 : Fm.unt B (i + 1) = if B[i].kind = 7 then Fm.unt B i ++ [(i : Int)] else Fm.unt B i := by rw [Fm.unt, e]
    have hul := Fm.unt_len (B := B) i
    obtain ⟨u, hu, Ru⟩ := R.ld hlx
    have hu' := hload_le H.base hu
    change hload _ (some (elp 3 w i)) (some 3) = some u at hu'
    obtain ⟨wk, rfl, k1, k2, R1⟩ := Rep_Exq.1 Ru
    have hX := R.X (n := 3) rfl
    have hP := hld_parts (cs := [.int .i64 B[i].kind, .int .i64 B[i].val, wk]) hu'
    by_cases c7 : B[i].kind = 7
    · rw [if_pos c7] at hu1
      simp -implicitDefEqProofs (disch:=first|omega|(simp only[LnZ];omega))[wrap64, hX, hP.1, hP.2.2.1, c7]
      refine HS.app1 (bytes := 8) H (i : Int) rfl rfl rfl ⟨by omega, by omega⟩ rfl rfl (by omega) (by omega) fun o' h3 H => ?_
      simp -implicitDefEqProofs (disch:=first|omega|(simp only[LnZ];omega))[wrap64]
      exact hJ _ _ hlx ⟨o', by simp, by rw [hu1]; exact H⟩
    · rw [if_neg c7] at hu1
      simp -implicitDefEqProofs (disch:=first|omega|(simp only[LnZ];omega))[wrap64, hX, hP.1, hP.2.2.1, c7]
      exact hJ _ _ hlx ⟨o, by simp, by rw [hu1]; exact H⟩
  · obtain rfl : i = B.length := by omega
    simp -implicitDefEqProofs (disch:=first|omega|(simp only[LnZ];omega))[wrap64]
    exact RetK.keep (hk _ _ H)
theorem c_l7Phase {h : Heap} {w v : Value} {B : List Exq} {s : Nat} {p : Int} (hB : Bas B) (hs : s < 4611686018427387904) (R : Rep h w B) (RU : Rep h v (Fm.unt B B.length)) (hp : Fm.POk (Fm.unt B B.length) p) :
    CallE Try.prog fn_spec_l7Phase [w, v, .int .i64 s, .int .i64 p] h (fun u h' => h' = h ∧ u = .tuple #[.int .i64 (Fm.phs B (Fm.unt B B.length) s p).1, .bool (Fm.phs B (Fm.unt B B.length) s p).2]) := by
  have hul := Fm.unt_len (B := B) B.length
  have hum : ∀ {u : Int}, u ∈ Fm.unt B B.length → _ := fun h => Fm.unt_mem h
  have hn5 := hB.n5
  refine CallE.gen fun k hk => EN_spec_l7Phase rfl ?_
  unfold Fm.phs at hk
  generalize Fm.unt B B.length = U at *
  by_cases q0 : U.length = 0
  · rw [if_pos q0] at hk
    have q0' : U = [] := List.length_eq_zero_iff.1 q0
    simp -implicitDefEqProofs (disch:=first|omega|(simp only[LnZ];omega))[wrap64, RU.len, q0, q0']
    exact RetK.keep (hk _ _ ⟨rfl, rfl⟩)
  rw [if_neg q0] at hk
  have q0' : ¬ U = [] := fun e => q0 (by rw [e]; rfl)
  have q0i : ¬ (U.length : Int) = 0 := by omega
  obtain ⟨n, rfl⟩ : ∃ n : Nat, p = n := ⟨p.toNat, (Int.toNat_of_nonneg hp.1).symm⟩
  have hnU : n < U.length := by have := hp.2; omega
  obtain ⟨m, hm1, hm2, hm3⟩ := hum (List.getElem_mem hnU)
  have e1 : U.getD (n : Int).toNat 0 = (m : Int) := by rw [Int.toNat_natCast, List.getD_eq_getElem?_getD, List.getElem?_eq_getElem hnU, ← hm1]; rfl
  have hm3' : B[m].kind = 7 := by rw [← hm3]; simp [hm2]
  rw [e1] at hk
  have hRU := RU.I
  simp -implicitDefEqProofs (disch:=first|omega|(simp only[LnZ];omega))[wrap64, RU.len, q0, q0', q0i, hRU, hm1]
  refine (c_l7Fulfils hB hs hm2 hm3' R).go ?_
  rintro _ _ ⟨rfl, rfl⟩
  cases hf : Fm.ful B s m with
  | true =>
    rw [hf] at hk
    simp -implicitDefEqProofs (disch:=first|omega|(simp only[LnZ];omega))[wrap64, hf, RU.len, q0i, q0']
    exact RetK.keep (hk _ _ ⟨rfl, by simp⟩)
  | false =>
    rw [hf] at hk
    simp -implicitDefEqProofs (disch:=first|omega|(simp only[LnZ];omega))[wrap64, hf]
    exact RetK.keep (hk _ _ ⟨rfl, by simp⟩)
theorem c_l2IntsM {h : Heap} {a b : Value} {x y : List Int} (Ra : Rep h a x) (Rb : Rep h b y) : CallE Try.prog fn_spec_l2Ints [a, b] h (fun u h' => h' = h ∧ u = .bool (decide (x = y))) := by
  have hL := Ra.lt
  refine CallE.gen fun k hk => EN_spec_l2Ints rfl ?_
  by_cases hl : (x.length : Int) = y.length
  case neg =>
    simp -implicitDefEqProofs (disch:=first|omega|(simp only[LnZ];omega))[wrap64, Ra.len, Rb.len, hl]
    exact RetK.keep (hk _ _ ⟨rfl, by congr 1; rw [eq_comm, decide_eq_false_iff_not]; intro e; subst e; exact hl rfl⟩)
  simp -implicitDefEqProofs (disch:=first|omega|(simp only[LnZ];omega))[wrap64, Ra.len, Rb.len, hl]
  refine wp_count x.length (fun i e h' => e = [some a, some b, none, some (.int .i64 i)] ∧ h' = h ∧ x.take i = y.take i) ⟨by simp, rfl, rfl⟩ ?_
  rintro J i _ h1 hJ hi ⟨rfl, rfl, hq⟩
  simp -implicitDefEqProofs (disch:=first|omega|(simp only[LnZ];omega))[wrap64, Ra.len]
  refine IteW.mk (fun hlt => ?_) (fun hge => ?_)
  · have hlx : i < x.length := by omega
    have hly : i < y.length := by omega
    by_cases he : x[i] = y[i]
    · simp -implicitDefEqProofs (disch:=first|omega|(simp only[LnZ];omega))[wrap64, Ra.I, Rb.I, he]
      exact hJ _ _ hlx ⟨rfl, rfl, take_step hq hlx hly he⟩
    · simp -implicitDefEqProofs (disch:=first|omega|(simp only[LnZ];omega))[wrap64, Ra.I, Rb.I, he]
      exact RetK.keep (hk _ _ ⟨rfl, by congr 1; rw [eq_comm, decide_eq_false_iff_not]; intro e; subst e; exact he rfl⟩)
  · simp -implicitDefEqProofs (disch:=first|omega|(simp only[LnZ];omega))[wrap64]
    rw [List.take_of_length_le (by omega), List.take_of_length_le (by omega)] at hq
    exact RetK.keep (hk _ _ ⟨rfl, by simp [hq]⟩)
theorem c_l7Pair {g h : Heap} {Γ : List HP} {v w : Value} {L : List (List Int)} {p : List Int} (H : HS g (ow w p :: ow v L :: Γ) h) (hl : L.length ≤ 1048576) : CallE Try.prog fn_spec_l7Pair [v, w] h (fun u h' => ∃ v', u = .tuple #[v', .int .i64 (Fm.atL L p)] ∧ HS g (ow v' (Fm.adL L p) :: Γ) h') := by
  have RL := H.sw1.rep
  have Rp := H.rep
  refine CallE.gen fun k hk => EN_spec_l7Pair rfl ?_
  simp -implicitDefEqProofs (disch:=first|omega|(simp only[LnZ];omega))[wrap64]
  refine wp_count L.length (fun i e h' => e = [some v, some w, none, none, some (.int .i64 i)] ∧ h' = h ∧ ∀ (j : Nat) (hj : j < L.length), j < i → L[j] ≠ p) ⟨by simp, rfl, fun j _ hj => absurd hj (Nat.not_lt_zero j)⟩ ?_
  rintro J i _ h hJ hi ⟨rfl, rfl, hn⟩
  simp -implicitDefEqProofs (disch:=first|omega|(simp only[LnZ];omega))[wrap64, RL.len]
  refine IteW.mk (fun hlt => ?_) (fun hge => ?_)
  · have hlx : i < L.length := by omega
    obtain ⟨u, hu, Ru⟩ := RL.ldL hlx
    simp -implicitDefEqProofs (disch:=first|omega|(simp only[LnZ];omega))[wrap64, RL.X (n := 1) rfl, hu]
    refine (c_l2IntsM Ru Rp).go ?_
    rintro _ h ⟨rfl, rfl⟩
    by_cases e : L[i] = p
    · simp -implicitDefEqProofs (disch:=first|omega|(simp only[LnZ];omega))[wrap64, e]
      have hm : p ∈ L := e ▸ List.getElem_mem hlx
      exact RetK.keep (hk _ _ ⟨v, by rw [Fm.atL_at hlx e hn], by rw [Fm.adL, if_pos hm]; exact H.drop⟩)
    · simp -implicitDefEqProofs (disch:=first|omega|(simp only[LnZ];omega))[wrap64, e]
      refine hJ _ _ hlx ⟨by simp, rfl, fun j hj hji => ?_⟩
      by_cases hji2 : j = i
      · subst hji2; exact e
      · exact hn j hj (by omega)
  · have hm : p ∉ L := fun hm => by
      obtain ⟨j, hj, h1⟩ := List.mem_iff_getElem.1 hm
      exact hn j hj (by omega) h1
    have hcl := Rp.cells
    simp -implicitDefEqProofs (disch:=first|omega|(simp only[LnZ];omega))[wrap64, setC, hcl, Rp.one, RL.len]
    refine HS.appO (bytes := 24) H rfl rfl (by rw [hcl]) rfl rfl (by omega) (by omega) fun v' h2 H => ?_
    simp -implicitDefEqProofs (disch:=first|omega|(simp only[LnZ];omega))[wrap64, RL.len]
    exact RetK.keep (hk _ _ ⟨v', by rw [Fm.atL_not hm], by rw [Fm.adL, if_neg hm]; exact H⟩)
end Go.Proofs.Ytbanccfdojgocaa
