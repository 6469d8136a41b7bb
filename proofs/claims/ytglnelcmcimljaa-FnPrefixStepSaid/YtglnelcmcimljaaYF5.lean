/-
  Texts of this proof, one behind the other.
-/
import Derived.Test.YtglnelcmcimljaaYF4
set_option linter.all false
set_option linter.unusedVariables false
set_option linter.unusedSimpArgs false
set_option linter.defProp false
set_option maxRecDepth 1000000
namespace Go.Proofs.Ytglnelcmcimljaa
open Go
set_option maxHeartbeats 1000000 in
theorem c_l7Mutate {b : Nat} {sl v : Value} {l : List (BitVec 8)} {g h : Heap} {Γ : List HP} {p : Int} {a : Aut} (R : Rep g sl l) (Ra : Rep g v a) (hs : ASz a 16384) (H : HS g (rb b sl p :: Γ) h) (hp : 0 ≤ p) (hp2 : p ≤ 900000000000) :
    CallE Try.prog fn_spec_l7Mutate [.pointer (some ⟨b, 0, none⟩), v] h (fun u h' => ∃ (a' : Aut) (p' : Int), HS g (ow u a' :: rb b sl p' :: Γ) h' ∧ (ASz a' 16385 ∧ a'.acc.length ≤ a.acc.length ∧ a'.edges.length ≤ a.edges.length) ∧ p ≤ p' ∧ p' ≤ p + 10) := by
  obtain ⟨v1, v2, v3, rfl, R1, R2, R3⟩ := Rep_Aut.1 Ra
  have s1 := hs.i
  have s2 := hs.a
  have s3 := hs.e
  refine CallE.gen fun k hk => EN_spec_l7Mutate rfl ?_
  simp -implicitDefEqProofs (disch:=first|omega|(simp only[LnZ];omega))[wrap64]
  refine H.appPL (α := Int) (l2 := a.init) rfl rfl (R1.on H) rfl rfl (by omega) fun u1 h1 H => ?_
  simp -implicitDefEqProofs (disch:=first|omega|(simp only[LnZ];omega))[wrap64]
  refine H.appPL (α := Bool) (l2 := a.acc) rfl rfl (R2.on H) rfl rfl (by omega) fun u2 h2 H => ?_
  simp -implicitDefEqProofs (disch:=first|omega|(simp only[LnZ];omega))[wrap64]
  refine H.appPL (α := Tr) (l2 := a.edges) rfl rfl (R3.on H) rfl rfl (by omega) fun u3 h3 H => ?_
  have c1 := H.sw2.rep.cells
  have c2 := H.sw1.rep.cells
  have c3 := H.rep.cells
  have o1 := H.sw2.rep.one
  have o2 := H.sw1.rep.one
  have o3 := H.rep.one
  simp -implicitDefEqProofs (disch:=first|omega|(simp only[LnZ];omega))[wrap64, setC, c1, c2, c3, o1, o2, o3]
  refine (c_pick (n := 40) R H.sw3 (by omega) (by omega) i64c).go ?_
  rintro _ h4 ⟨r, rfl, orr, z0, y0, H⟩
  have done : ∀ {h : Heap} {q : Int} {I : List Int} {A : List Bool} {E : List Tr} {w1 w2 w3 : Value}, HS g (rb b sl q :: ow w3 E :: ow w2 A :: ow w1 I :: Γ) h → I.length ≤ 16385 → A.length ≤ a.acc.length → E.length ≤ a.edges.length → p ≤ q → q ≤ p + 10 → k (.agg #[w1, w2, w3]) h := fun {h q I A E w1 w2 w3} H e1 e2 e3 e4 e5 => by
    have H2 : HS g (ow w1 I :: ow w2 A :: ow w3 E :: rb b sl q :: Γ) h := (H.sw3.under fun _ H => H.sw2.under fun _ H => H.sw1)
    exact hk _ _ ⟨⟨I, A, E⟩, q, HS.mkAut (a := ⟨I, A, E⟩) H2, ⟨⟨e1, by simp only; omega, by simp only; omega⟩, e2, e3⟩, e4, e5⟩
  by_cases q0 : r = 0
  · simp -implicitDefEqProofs (disch:=first|omega|(simp only[LnZ];omega))[wrap64, q0, setC, o1, o2, o3]
    refine H.bls [(0 : Int), -1, 64, 3] rfl rfl (okL (by decide)) (by decide) fun w h5 H => ?_
    simp -implicitDefEqProofs (disch:=first|omega|(simp only[LnZ];omega))[wrap64]
    refine (c_num R H (by omega) (by omega) (by simp)).go ?_
    rintro _ h6 ⟨r2, rfl, o, _, H⟩
    simp -implicitDefEqProofs (disch:=first|omega|(simp only[LnZ];omega))[wrap64, setC]
    refine HS.app1 (bytes := 8) H.sw3 r2 rfl rfl rfl o rfl rfl (by omega) (by omega) fun u1' h7 H => ?_
    simp -implicitDefEqProofs (disch:=first|omega|(simp only[LnZ];omega))[wrap64, setC, H.rep.cells, H.rep.one, o1, o2, o3]
    have H2 : HS g (rb b sl (p + 1 + 1) :: ow u3 a.edges :: ow u2 a.acc :: ow u1' (a.init ++ [r2]) :: Γ) h7 := H.bk3
    exact RetK.keep (done H2 (by simp; omega) (by omega) (by omega) (by omega) (by omega))
  by_cases q1 : r = 1
  · by_cases ql : (0 : Int) < a.edges.length
    case neg =>
      have ql' : a.edges = [] := List.length_eq_zero_iff.1 (by omega)
      simp -implicitDefEqProofs (disch:=first|omega|(simp only[LnZ];omega))[wrap64, q0, q1, setC, o1, o2, o3, H.sw1.rep.len, ql, ql']
      exact RetK.keep (done H (by omega) (by omega) (by omega) (by omega) (by omega))
    have ql' : 0 < a.edges.length := by omega
    simp -implicitDefEqProofs (disch:=first|omega|(simp only[LnZ];omega))[wrap64, q0, q1, setC, o1, o2, o3, H.sw1.rep.len, ql, ql']
    refine H.bls [(8 : Int), -1, 7] rfl rfl (okL (by decide)) (by decide) fun w h5 H => ?_
    simp -implicitDefEqProofs (disch:=first|omega|(simp only[LnZ];omega))[wrap64]
    refine (c_num R H (by omega) (by omega) (by simp)).go ?_
    rintro _ h6 ⟨r2, rfl, o, _, H⟩
    have hok := Tr.ok_iff.1 (H.sw1.rep.okF (i := 0) (by omega))
    simp -implicitDefEqProofs (disch:=first|omega|(simp only[LnZ];omega))[wrap64, H.sw1.rep.xTr, H.sw1.rep.fTr]
    refine HS.storeFld (α := Tr) (i := 0) H.sw1 ⟨a.edges[0].frm, a.edges[0].care, r2, a.edges[0].to⟩ (by omega) rfl rfl rfl rfl (by decide) rfl (Tr.ok_iff.2 ⟨hok.frm, hok.care, o, hok.to⟩) fun h7 H => ?_
    simp -implicitDefEqProofs (disch:=first|omega|(simp only[LnZ];omega))[wrap64, setC, o1, o2, o3]
    exact RetK.keep (done H.sw1 (by omega) (by omega) (by simp) (by omega) (by omega))
  by_cases q2 : r = 2
  · by_cases ql : (0 : Int) < a.edges.length
    case neg =>
      have ql' : a.edges = [] := List.length_eq_zero_iff.1 (by omega)
      simp -implicitDefEqProofs (disch:=first|omega|(simp only[LnZ];omega))[wrap64, q0, q1, q2, setC, o1, o2, o3, H.sw1.rep.len, ql, ql']
      exact RetK.keep (done H (by omega) (by omega) (by omega) (by omega) (by omega))
    have ql' : 0 < a.edges.length := by omega
    simp -implicitDefEqProofs (disch:=first|omega|(simp only[LnZ];omega))[wrap64, q0, q1, q2, setC, o1, o2, o3, H.sw1.rep.len, ql, ql']
    refine H.bls [(-1 : Int), 0, 64, 9223372036854775807] rfl rfl (okL (by decide)) (by decide) fun w h5 H => ?_
    simp -implicitDefEqProofs (disch:=first|omega|(simp only[LnZ];omega))[wrap64]
    refine (c_num R H (by omega) (by omega) (by simp)).go ?_
    rintro _ h6 ⟨r2, rfl, o, _, H⟩
    have hok := Tr.ok_iff.1 (H.sw1.rep.okF (i := 0) (by omega))
    simp -implicitDefEqProofs (disch:=first|omega|(simp only[LnZ];omega))[wrap64, H.sw1.rep.xTr, H.sw1.rep.fTr]
    refine HS.storeFld (α := Tr) (i := 0) H.sw1 ⟨a.edges[0].frm, a.edges[0].care, a.edges[0].value, r2⟩ (by omega) rfl rfl rfl rfl (by decide) rfl (Tr.ok_iff.2 ⟨hok.frm, hok.care, hok.value, o⟩) fun h7 H => ?_
    simp -implicitDefEqProofs (disch:=first|omega|(simp only[LnZ];omega))[wrap64, setC, o1, o2, o3]
    exact RetK.keep (done H.sw1 (by omega) (by omega) (by simp) (by omega) (by omega))
  by_cases q3 : r = 3
  · simp -implicitDefEqProofs (disch:=first|omega|(simp only[LnZ];omega))[wrap64, q0, q1, q2, q3, setC]
    exact RetK.keep (hk _ _ ⟨⟨[], [], []⟩, p + 1, zero_Aut (H.under fun _ H => H.drop.drop.drop), ⟨⟨by simp, by simp, by simp⟩, by simp, by simp⟩, by omega, by omega⟩)
  by_cases q4 : r = 4
  · by_cases ql : (0 : Int) < a.edges.length
    case neg =>
      have ql' : a.edges = [] := List.length_eq_zero_iff.1 (by omega)
      simp -implicitDefEqProofs (disch:=first|omega|(simp only[LnZ];omega))[wrap64, q0, q1, q2, q3, q4, setC, o1, o2, o3, H.sw1.rep.len, ql, ql']
      exact RetK.keep (done H (by omega) (by omega) (by omega) (by omega) (by omega))
    have ql' : 0 < a.edges.length := by omega
    obtain ⟨n, hn⟩ : ∃ n : Nat, (a.edges.length : Int) - 1 = n := ⟨a.edges.length - 1, by omega⟩
    have hnl : n < a.edges.length := by omega
    simp -implicitDefEqProofs (disch:=first|omega|(simp only[LnZ];omega))[wrap64, q0, q1, q2, q3, q4, setC, o1, o2, o3, H.sw1.rep.len, ql, ql', hn]
    refine H.bls [(8 : Int), -1, 0] rfl rfl (okL (by decide)) (by decide) fun w h5 H => ?_
    simp -implicitDefEqProofs (disch:=first|omega|(simp only[LnZ];omega))[wrap64]
    refine (c_num R H (by omega) (by omega) (by simp)).go ?_
    rintro _ h6 ⟨r2, rfl, o, _, H⟩
    have hok := Tr.ok_iff.1 (H.sw1.rep.okF (i := n) (by omega))
    simp -implicitDefEqProofs (disch:=first|omega|(simp only[LnZ];omega))[wrap64, H.sw1.rep.xTr, H.sw1.rep.fTr]
    refine HS.storeFld (α := Tr) (i := n) H.sw1 ⟨a.edges[n].frm, r2, a.edges[n].value, a.edges[n].to⟩ (by omega) rfl rfl rfl rfl (by decide) rfl (Tr.ok_iff.2 ⟨hok.frm, o, hok.value, hok.to⟩) fun h7 H => ?_
    simp -implicitDefEqProofs (disch:=first|omega|(simp only[LnZ];omega))[wrap64, setC, o1, o2, o3]
    exact RetK.keep (done H.sw1 (by omega) (by omega) (by simp) (by omega) (by omega))
  simp -implicitDefEqProofs (disch:=first|omega|(simp only[LnZ];omega))[wrap64, q0, q1, q2, q3, q4, setC, o1, o2, o3]
  exact RetK.keep (done H (by omega) (by omega) (by omega) (by omega) (by omega))
end Go.Proofs.Ytglnelcmcimljaa

namespace Go.Proofs.Ytglnelcmcimljaa
open Go
theorem c_l6Word {b : Nat} {sl : Value} {l : List (BitVec 8)} {g h : Heap} {Γ : List HP} {p : Int} {n : Nat} (R : Rep g sl l) (H : HS g (rb b sl p :: Γ) h) (hp : 0 ≤ p) (hp2 : p ≤ 900000000000) (hn : n ≤ 1000) :
    CallE Try.prog fn_spec_l6Word [.pointer (some ⟨b, 0, none⟩), .int .i64 n] h (fun u h' => ∃ (W : List Int) (p' : Int), HS g (ow u W :: rb b sl p' :: Γ) h' ∧ W.length = n ∧ p ≤ p' ∧ p' ≤ p + 2 * n) := by
  refine CallE.gen fun k hk => EN_spec_l6Word rfl ?_
  simp -implicitDefEqProofs (disch:=first|omega|(simp only[LnZ];omega))[wrap64]
  refine H.bls0 Int fun o h1 H => ?_
  simp -implicitDefEqProofs (disch:=first|omega|(simp only[LnZ];omega))[wrap64]
  refine wp_count n (fun i e h' => ∃ (o : Value) (W : List Int) (p' : Int), e = [some (.pointer (some ⟨b, 0, none⟩)), some (.int .i64 n), none, some o, some (.int .i64 i)] ∧ HS g (ow o W :: rb b sl p' :: Γ) h' ∧ W.length = i ∧ p ≤ p' ∧ p' ≤ p + 2 * i) ⟨o, [], p, by simp, H, rfl, by omega, by omega⟩ ?_
  clear H
  rintro J i _ h2 hJ hi ⟨o, W, p', rfl, H, hW, h3, h4⟩
  simp -implicitDefEqProofs (disch:=first|omega|(simp only[LnZ];omega))[wrap64]
  refine IteW.mk (fun hlt => ?_) (fun hge => ?_)
  · have hin : i < n := by omega
    simp -implicitDefEqProofs (disch:=first|omega|(simp only[LnZ];omega))[wrap64]
    refine H.bls [(0 : Int), 1, 2, 3, 1, 0, 5, 4, 7] rfl rfl (okL (by decide)) (by decide) fun v h5 H => ?_
    simp -implicitDefEqProofs (disch:=first|omega|(simp only[LnZ];omega))[wrap64]
    refine (c_num R (H.under fun _ H => H.sw1) (by omega) (by omega) (by simp)).go ?_
    rintro _ h6 ⟨r, rfl, o1, _, H⟩
    simp -implicitDefEqProofs (disch:=first|omega|(simp only[LnZ];omega))[wrap64, setC]
    refine HS.app1 (bytes := 8) H.sw1 r rfl rfl rfl o1 rfl rfl (by omega) (by omega) fun o' h7 H => ?_
    simp -implicitDefEqProofs (disch:=first|omega|(simp only[LnZ];omega))[wrap64]
    exact hJ _ _ hin ⟨o', _, _, by simp, H, by simp [hW], by omega, by push_cast; omega⟩
  obtain rfl : i = n := by omega
  simp -implicitDefEqProofs (disch:=first|omega|(simp only[LnZ];omega))[wrap64]
  exact RetK.keep (hk _ _ ⟨W, p', H, hW, h3, h4⟩)
end Go.Proofs.Ytglnelcmcimljaa

namespace Go.Proofs.Ytglnelcmcimljaa
open Go
theorem c_l12Letters {b : Nat} {sl : Value} {l : List (BitVec 8)} {g h : Heap} {Γ : List HP} {p : Int} (R : Rep g sl l) (H : HS g (rb b sl p :: Γ) h) (hp : 0 ≤ p) (hp2 : p ≤ 800000000000) :
    CallE Try.prog fn_spec_l12Letters [.pointer (some ⟨b, 0, none⟩)] h (fun u h' => ∃ (W : List Int) (p' : Int), HS g (ow u W :: rb b sl p' :: Γ) h' ∧ W.length ≤ 300) := by
  refine CallE.gen fun k hk => EN_spec_l12Letters rfl ?_
  simp -implicitDefEqProofs (disch:=first|omega|(simp only[LnZ];omega))[wrap64]
  refine H.bls [(3 : Int), 2, 4, 1, 0, 6] rfl rfl (okL (by decide)) (by decide) fun v h1 H => ?_
  simp -implicitDefEqProofs (disch:=first|omega|(simp only[LnZ];omega))[wrap64]
  refine (c_num R H (by omega) (by omega) (by simp)).go ?_
  rintro _ h2 ⟨r, rfl, orr, hr, H⟩
  obtain ⟨n, rfl, hn5⟩ : ∃ n : Nat, r = n ∧ n ≤ 6 := by
    simp at hr
    exact ⟨r.toNat, by omega, by omega⟩
  simp -implicitDefEqProofs (disch:=first|omega|(simp only[LnZ];omega))[wrap64]
  refine (c_l6Word R H (by omega) (by omega) (by omega)).go ?_
  rintro s1 h3 ⟨S, p1, H, hS, h4, h5⟩
  simp -implicitDefEqProofs (disch:=first|omega|(simp only[LnZ];omega))[wrap64]
  refine (c_pick (n := 40) R H.sw1 (by omega) (by omega) i64c).go ?_
  rintro _ h11 ⟨r, rfl, o3, z3, y3, H⟩
  by_cases q0 : r = 0
  · simp -implicitDefEqProofs (disch:=first|omega|(simp only[LnZ];omega))[wrap64, q0]
    refine H.bls [(8 : Int), -1, 9223372036854775807] rfl rfl (okL (by decide)) (by decide) fun w k5 H => ?_
    simp -implicitDefEqProofs (disch:=first|omega|(simp only[LnZ];omega))[wrap64]
    refine (c_num R H (by omega) (by omega) (by simp)).go ?_
    rintro _ k6 ⟨r2, rfl, o, _, H⟩
    simp -implicitDefEqProofs (disch:=first|omega|(simp only[LnZ];omega))[wrap64, setC]
    refine HS.app1 (bytes := 8) H.sw1 r2 rfl rfl rfl o rfl rfl (by omega) (by omega) fun w1 k7 H => ?_
    simp -implicitDefEqProofs (disch:=first|omega|(simp only[LnZ];omega))[wrap64]
    exact RetK.keep (hk _ _ ⟨_, _, H, by simp; omega⟩)
  by_cases q1 : r = 1
  · simp -implicitDefEqProofs (disch:=first|omega|(simp only[LnZ];omega))[wrap64, q0, q1]
    refine wp_while (σ := Nat) (fun j e h' => ∃ (w : Value) (T : List Int) (q : Int), e = [some (.pointer (some ⟨b, 0, none⟩)), none, some w, none] ∧ HS g (ow w T :: rb b sl q :: Γ) h' ∧ T.length = S.length + j ∧ T.length ≤ 202 ∧ p ≤ q ∧ q ≤ p + 200 + j) (fun j => 300 - j) 0 ⟨s1, S, _, by simp, H.sw1, by omega, by omega, by omega, by omega⟩ ?_
    clear H
    rintro J j _ k5 hJ ⟨w, T, q, rfl, H, hT, hT2, hq1, hq2⟩
    simp -implicitDefEqProofs (disch:=first|omega|(simp only[LnZ];omega))[wrap64, H.rep.len]
    refine (c_pick (n := 2) R H.sw1 (by omega) (by omega) i64c).go ?_
    rintro _ k6 ⟨r2, rfl, o, z2, y2, H⟩
    by_cases c : (T.length : Int) < 200 + r2
    · simp -implicitDefEqProofs (disch:=first|omega|(simp only[LnZ];omega))[wrap64, c, setC]
      refine HS.app1 (bytes := 8) H.sw1 (1 : Int) rfl rfl rfl ⟨by omega, by omega⟩ rfl rfl (by omega) (by omega) fun w1 k7 H => ?_
      simp -implicitDefEqProofs (disch:=first|omega|(simp only[LnZ];omega))[wrap64]
      exact hJ (j + 1) _ _ (by omega) ⟨w1, _, _, by simp, H, by simp; omega, by simp; omega, by omega, by push_cast; omega⟩
    · simp -implicitDefEqProofs (disch:=first|omega|(simp only[LnZ];omega))[wrap64, c]
      exact RetK.keep (hk _ _ ⟨_, _, H.sw1, by omega⟩)
  simp -implicitDefEqProofs (disch:=first|omega|(simp only[LnZ];omega))[wrap64, q0, q1]
  exact RetK.keep (hk _ _ ⟨_, _, H.sw1, by omega⟩)
theorem c_DrawPrefixStates {h : Heap} {v : Value} {l : List (BitVec 8)} (R : Rep h v l) : CallE Try.prog fn_spec_DrawPrefixStates [v] h (fun u h' => ∃ (u1 u2 : Value) (a : Aut) (W : List Int), u = .tuple #[u1, u2] ∧ h.le h' ∧ Rep h' u1 a ∧ Rep h' u2 W ∧ ASz a 16385 ∧ W.length ≤ 300) := by
  refine CallE.gen fun k hk => EN_spec_DrawPrefixStates rfl ?_
  simp -implicitDefEqProofs (disch:=first|omega|(simp only[LnZ];omega))[wrap64]
  refine (c_l16Open R).go ?_
  rintro _ h1 ⟨b, sl, l', rfl, R', H⟩
  simp -implicitDefEqProofs (disch:=first|omega|(simp only[LnZ];omega))[wrap64]
  refine (c_l7Automaton R' H (by omega) (by omega)).go ?_
  rintro w h2 ⟨a, p1, H, b1, b2, b3, b4, b5⟩
  obtain ⟨g1, H1, H2⟩ := HS.rebase (Δ := [rb b sl p1]) H.sw1
  have FA := H.rep.aAut
  simp -implicitDefEqProofs (disch:=first|omega|(simp only[LnZ];omega))[wrap64, FA]
  refine (c_l7Mutate (R'.on H1) H1.rep ⟨by have := b3.1.i; omega, by have := b3.1.a; omega, by have := b3.1.e; omega⟩ H2 (by omega) (by omega)).go ?_
  rintro u h3 ⟨a', p2, H3, c1, c2, c3⟩
  have H := H3.app H1
  have FA2 := H3.rep.aAut
  simp -implicitDefEqProofs (disch:=first|omega|(simp only[LnZ];omega))[wrap64, FA2, setC]
  refine (c_l12Letters R' H.sw1 (by omega) (by omega)).go ?_
  rintro y h4 ⟨W, p3, H, d1⟩
  have FA3 := H.sw2.rep.aAut
  simp -implicitDefEqProofs (disch:=first|omega|(simp only[LnZ];omega))[wrap64, FA3, setC]
  exact RetK.keep (hk _ _ ⟨u, y, a', W, rfl, H.base, H.sw2.rep, H.rep, c1.1, d1⟩)
end Go.Proofs.Ytglnelcmcimljaa

namespace Go.Proofs.Ytglnelcmcimljaa
open Go
def incr (n : Int) : Int → List Int → Prop
  | _, [] => True
  | lo, x :: l => lo < x ∧ x < n ∧ incr n x l
instance decIncr (n : Int) : ∀ (lo : Int) (l : List Int), Decidable (incr n lo l)
  | _, [] => inferInstanceAs (Decidable True)
  | lo, x :: l => @instDecidableAnd _ _ _ (@instDecidableAnd _ _ _ (decIncr n x l))
theorem incr_len {n : Int} : ∀ {lo : Int} {l : List Int}, incr n lo l → lo < n → lo + l.length < n
  | lo, [], _, h => by simpa using h
  | lo, x :: l, h, _ => by
    have := incr_len h.2.2 h.2.1
    have := h.1
    simp; omega
theorem incr_mem {n : Int} : ∀ {lo : Int} {l : List Int}, incr n lo l → ∀ x ∈ l, lo < x ∧ x < n
  | lo, y :: l, h, x, hx => by
    rcases List.mem_cons.1 hx with rfl | hx
    · exact ⟨h.1, h.2.1⟩
    · have := incr_mem h.2.2 x hx
      have := h.1
      omega
def Tr.Ok (n : Int) (t : Tr) : Prop := 0 ≤ t.frm ∧ t.frm < n ∧ 0 ≤ t.to ∧ t.to < n ∧ 0 ≤ t.care ∧ t.care ≤ 7 ∧ 0 ≤ t.value ∧ andI .i64 t.value t.care = t.value
instance instDecTrOk (n : Int) (t : Tr) : Decidable (t.Ok n) := by unfold Tr.Ok; infer_instance
def Aut.Ok (a : Aut) : Prop := (1 ≤ a.acc.length ∧ a.acc.length ≤ 64) ∧ a.edges.length ≤ 2048 ∧ incr a.acc.length (-1) a.init ∧ ∀ t ∈ a.edges, t.Ok a.acc.length
instance instDecAutOk (a : Aut) : Decidable a.Ok := by unfold Aut.Ok; infer_instance
theorem Aut.Ok.n {a : Aut} (h : a.Ok) : 1 ≤ a.acc.length ∧ a.acc.length ≤ 64 := h.1
theorem Aut.Ok.e {a : Aut} (h : a.Ok) : a.edges.length ≤ 2048 := h.2.1
theorem Aut.Ok.i {a : Aut} (h : a.Ok) : incr a.acc.length (-1) a.init := h.2.2.1
theorem Aut.Ok.t {a : Aut} (h : a.Ok) {i : Nat} (hi : i < a.edges.length) : a.edges[i].Ok a.acc.length := h.2.2.2 _ (List.getElem_mem hi)
theorem Aut.Ok.il {a : Aut} (h : a.Ok) : a.init.length ≤ 64 := by
  have h1 := incr_len h.i (by have := h.n; omega)
  have := h.n
  omega
theorem Aut.Ok.im {a : Aut} (h : a.Ok) {i : Nat} (hi : i < a.init.length) : 0 ≤ a.init[i] ∧ a.init[i] < a.acc.length := by
  have h1 := incr_mem h.i _ (List.getElem_mem hi)
  omega
def Tr.on (t : Tr) (letter : Int) : Bool := decide (andI .i64 letter t.care = t.value)
def Tr.shift (n : Int) (t : Tr) : Tr := ⟨t.frm + n, t.care, t.value, t.to + n⟩
def Aut.empty : Aut := ⟨[], [], []⟩
def Aut.unite (a b : Aut) : Aut := ⟨a.init ++ b.init.map (· + (a.acc.length : Int)), a.acc ++ b.acc, a.edges ++ b.edges.map (Tr.shift a.acc.length)⟩
abbrev Rl := Nat → Nat → Bool
def Ans (a : Aut) (R : Rl) (i j : Nat) : Prop := ∀ l : Nat, l < 8 → ∀ e ∈ a.edges, e.frm = i → e.on l = true → ∃ f ∈ a.edges, f.frm = j ∧ f.on l = true ∧ R e.to.toNat f.to.toNat = true
def AccR (a : Aut) (R : Rl) : Prop := ∀ i j, i < a.acc.length → j < a.acc.length → R i j = true → a.acc.getD i false = true → a.acc.getD j false = true
def Simu (a : Aut) (R : Rl) : Prop := AccR a R ∧ ∀ i j, i < a.acc.length → j < a.acc.length → R i j = true → Ans a R i j
def Upper (a : Aut) (R : Rl) : Prop := ∀ S, Simu a S → ∀ i j, i < a.acc.length → j < a.acc.length → S i j = true → R i j = true
structure Great (a : Aut) (R : Rl) : Prop where
  simu : Simu a R
  upper : Upper a R
theorem Great.eq {a : Aut} {R S : Rl} (hR : Great a R) (hS : Great a S) {i j : Nat} (hi : i < a.acc.length) (hj : j < a.acc.length) : R i j = S i j := by
  cases h1 : R i j <;> cases h2 : S i j <;> try rfl
  · exact absurd (hR.upper S hS.simu i j hi hj h2) (by simp [h1])
  · exact absurd (hS.upper R hR.simu i j hi hj h1) (by simp [h2])
def Rl.rem (R : Rl) (i j : Nat) : Rl := fun x y => R x y && !(decide (x = i) && decide (y = j))
theorem Rl.rem_le {R : Rl} {i j x y : Nat} (h : R.rem i j x y = true) : R x y = true := by
  simp only [Rl.rem, Bool.and_eq_true] at h; exact h.1
theorem Ans.mono {a : Aut} {R S : Rl} (ha : a.Ok) {i j : Nat} (hRS : ∀ x y, x < a.acc.length → y < a.acc.length → R x y = true → S x y = true) (h : Ans a R i j) : Ans a S i j := by
  intro l hl e he hi ho
  obtain ⟨f, hf, h1, h2, h3⟩ := h l hl e he hi ho
  have h4 := ha.2.2.2 e he
  have h5 := ha.2.2.2 f hf
  unfold Tr.Ok at h4 h5
  exact ⟨f, hf, h1, h2, hRS _ _ (by omega) (by omega) h3⟩
theorem Upper.rem {a : Aut} {R : Rl} (ha : a.Ok) (hR : Upper a R) {i j : Nat} (hn : ¬ Ans a R i j) : Upper a (R.rem i j) := by
  intro S hS x y hx hy h
  have h1 := hR S hS x y hx hy h
  by_cases hxy : x = i ∧ y = j
  · obtain ⟨rfl, rfl⟩ := hxy
    exact absurd ((hS.2 x y hx hy h).mono ha fun u v hu hv huv => hR S hS u v hu hv huv) hn
  · simp only [Rl.rem, h1, Bool.true_and, Bool.not_eq_true', Bool.and_eq_false_imp, decide_eq_true_eq, decide_eq_false_iff_not]
    exact fun h2 h3 => hxy ⟨h2, h3⟩
theorem AccR.rem {a : Aut} {R : Rl} (h : AccR a R) (i j : Nat) : AccR a (R.rem i j) := fun x y hx hy hr => h x y hx hy (Rl.rem_le hr)
theorem Great.congr {a : Aut} {R S : Rl} (ha : a.Ok) (h : Great a R) (he : ∀ x y, x < a.acc.length → y < a.acc.length → R x y = S x y) : Great a S :=
  ⟨⟨fun i j hi hj hr => h.simu.1 i j hi hj (by rw [he i j hi hj]; exact hr),
    fun i j hi hj hr => (h.simu.2 i j hi hj (by rw [he i j hi hj]; exact hr)).mono ha fun x y hx hy hxy => by rw [← he x y hx hy]; exact hxy⟩,
   fun T hT i j hi hj hr => by rw [← he i j hi hj]; exact h.upper T hT i j hi hj hr⟩
def cnt2 (n : Nat) (R : Rl) : Nat := ((List.range n).map fun i => ((List.range n).filter fun j => R i j).length).sum
theorem sum_lt_of {α : Type} {f g : α → Nat} : ∀ {l : List α}, (∀ x ∈ l, f x ≤ g x) → (∃ x ∈ l, f x < g x) → (l.map f).sum < (l.map g).sum
  | [], _, h => by obtain ⟨x, hx, _⟩ := h; simp at hx
  | y :: l, h, ⟨x, hx, hlt⟩ => by
    have hy := h y (by simp)
    have hle : (l.map f).sum ≤ (l.map g).sum := by
      have : ∀ l : List α, (∀ x ∈ l, f x ≤ g x) → (l.map f).sum ≤ (l.map g).sum := by
        intro l
        induction l with
        | nil => simp
        | cons z l ih =>
          intro h
          have h1 := h z (by simp)
          have h2 := ih fun x hx => h x (by simp [hx])
          simp; omega
      exact this l fun x hx => h x (by simp [hx])
    rcases List.mem_cons.1 hx with rfl | hx
    · simp; omega
    · have := sum_lt_of (l := l) (fun x hx => h x (by simp [hx])) ⟨x, hx, hlt⟩
      simp; omega
theorem filter_le_of {α : Type} {p q : α → Bool} (h : ∀ x, p x = true → q x = true) : ∀ l : List α, (l.filter p).length ≤ (l.filter q).length
  | [] => by simp
  | x :: l => by
    have := filter_le_of h l
    cases hp : p x
    · cases hq : q x <;> simp [List.filter_cons, hp, hq] <;> omega
    · simp [List.filter_cons, hp, h x hp]; omega
theorem filter_lt_of {α : Type} {p q : α → Bool} (h : ∀ x, p x = true → q x = true) : ∀ {l : List α}, (∃ x ∈ l, p x = false ∧ q x = true) → (l.filter p).length < (l.filter q).length
  | [], hx => by obtain ⟨x, hx, _⟩ := hx; simp at hx
  | y :: l, ⟨x, hx, h1, h2⟩ => by
    rcases List.mem_cons.1 hx with rfl | hx
    · have := filter_le_of h l
      simp [List.filter_cons, h1, h2]; omega
    · have := filter_lt_of h (l := l) ⟨x, hx, h1, h2⟩
      cases hp : p y
      · cases hq : q y <;> simp [List.filter_cons, hp, hq] <;> omega
      · simp [List.filter_cons, hp, h y hp]; omega
theorem cnt2_rem {n : Nat} {R : Rl} {i j : Nat} (hi : i < n) (hj : j < n) (h : R i j = true) : cnt2 n (R.rem i j) < cnt2 n R := by
  refine sum_lt_of ?_ ⟨i, by simpa using hi, ?_⟩
  · intro x _
    exact filter_le_of (fun y hy => Rl.rem_le hy) _
  · exact filter_lt_of (fun y hy => Rl.rem_le hy) ⟨j, by simpa using hj, by simp [Rl.rem], h⟩
structure Pass (a : Aut) (R0 R : Rl) (c : Bool) (i j : Nat) : Prop where
  acc : AccR a R
  upper : Upper a R
  less : c = true → cnt2 a.acc.length R < cnt2 a.acc.length R0
  same : c = false → R = R0 ∧ ∀ x y, x < a.acc.length → y < a.acc.length → (x < i ∨ (x = i ∧ y < j)) → R x y = true → Ans a R x y
theorem Pass.start {a : Aut} {R : Rl} (h1 : AccR a R) (h2 : Upper a R) : Pass a R R false 0 0 := ⟨h1, h2, by simp, fun _ => ⟨rfl, fun x y _ _ h => by omega⟩⟩
theorem Pass.keep {a : Aut} {R0 R : Rl} {c : Bool} {i j : Nat} (h : Pass a R0 R c i j) (hk : R i j = true → Ans a R i j) : Pass a R0 R c i (j + 1) :=
  ⟨h.acc, h.upper, h.less, fun hc => ⟨(h.same hc).1, fun x y hx hy hxy hr => by
    by_cases h2 : x = i ∧ y = j
    · obtain ⟨rfl, rfl⟩ := h2; exact hk hr
    · exact (h.same hc).2 x y hx hy (by omega) hr⟩⟩
theorem Pass.rem {a : Aut} {R0 R : Rl} {c : Bool} {i j : Nat} (ha : a.Ok) (h : Pass a R0 R c i j) (hi : i < a.acc.length) (hj : j < a.acc.length) (hr : R i j = true) (hn : ¬ Ans a R i j) : Pass a R0 (R.rem i j) true i (j + 1) :=
  ⟨h.acc.rem i j, h.upper.rem ha hn, fun _ => by
    have h1 := cnt2_rem hi hj hr
    cases hc : c
    · rw [← (h.same hc).1]; exact h1
    · exact Nat.lt_trans h1 (h.less hc), by simp⟩
theorem Pass.next {a : Aut} {R0 R : Rl} {c : Bool} {i j : Nat} (h : Pass a R0 R c i j) (hj : a.acc.length ≤ j) : Pass a R0 R c (i + 1) 0 :=
  ⟨h.acc, h.upper, h.less, fun hc => ⟨(h.same hc).1, fun x y hx hy hxy hr => (h.same hc).2 x y hx hy (by omega) hr⟩⟩
theorem Pass.done {a : Aut} {R0 R : Rl} {i j : Nat} (h : Pass a R0 R false i j) (hi : a.acc.length ≤ i) : Great a R :=
  ⟨⟨h.acc, fun x y hx hy hr => (h.same rfl).2 x y hx hy (by omega) hr⟩, h.upper⟩
end Go.Proofs.Ytglnelcmcimljaa

namespace Go.Proofs.Ytglnelcmcimljaa
open Go
inductive Rch (E : Nat → Nat → Prop) : Nat → Nat → Prop
  | refl (x : Nat) : Rch E x x
  | step {x y z : Nat} (h : E x y) (r : Rch E y z) : Rch E x z
theorem Rch.one {E : Nat → Nat → Prop} {x y : Nat} (h : E x y) : Rch E x y := .step h (.refl y)
theorem Rch.trans {E : Nat → Nat → Prop} {x y z : Nat} (h1 : Rch E x y) (h2 : Rch E y z) : Rch E x z := by
  induction h1 with
  | refl => exact h2
  | step h _ ih => exact .step h (ih h2)
theorem Rch.closed {E : Nat → Nat → Prop} {C : Nat → Prop} (hC : ∀ x y, C x → E x y → C y) {x y : Nat} (h : Rch E x y) (hx : C x) : C y := by
  induction h with
  | refl => exact hx
  | step h _ ih => exact ih (hC _ _ hx h)
def Cyc (E : Nat → Nat → Prop) (x : Nat) : Prop := ∃ y, E x y ∧ Rch E y x
def Scc (E : Nat → Nat → Prop) (x y : Nat) : Prop := Rch E x y ∧ Rch E y x
theorem Cyc.iff {E : Nat → Nat → Prop} {x : Nat} : Cyc E x ↔ E x x ∨ ∃ y, y ≠ x ∧ Scc E x y := by
  constructor
  · rintro ⟨y, h1, h2⟩
    by_cases h : y = x
    · subst h; exact .inl h1
    · exact .inr ⟨y, h, .one h1, h2⟩
  · rintro (h | ⟨y, h, h1, h2⟩)
    · exact ⟨x, h, .refl x⟩
    · cases h1 with
      | refl => exact absurd rfl h
      | step h3 h4 => exact ⟨_, h3, h4.trans h2⟩
structure TS where
  num : Nat → Int
  low : Nat → Int
  part : Nat → Int
  stk : List Nat
  cnt : Int
  prt : Int
def fput (f : Nat → Int) (i : Nat) (v : Int) : Nat → Int := fun x => if x = i then v else f x
@[simp] theorem fput_self {f : Nat → Int} {i : Nat} {v : Int} : fput f i v i = v := by simp [fput]
theorem fput_ne {f : Nat → Int} {i x : Nat} {v : Int} (h : x ≠ i) : fput f i v x = f x := by simp [fput, h]
structure TI (n : Nat) (E : Nat → Nat → Prop) (gr : Nat → Prop) (s : TS) : Prop where
  num : ∀ x, x < n → 0 ≤ s.num x ∧ s.num x ≤ s.cnt
  cnt : 0 ≤ s.prt ∧ s.prt + s.stk.length ≤ s.cnt
  mem : ∀ x, x ∈ s.stk ↔ x < n ∧ s.num x ≠ 0 ∧ s.part x < 0
  ord : s.stk.Pairwise fun x y => s.num x < s.num y
  new : ∀ x, x < n → s.num x = 0 → s.part x < 0
  done : ∀ x y, x < n → 0 ≤ s.part x → E x y → 0 ≤ s.part y
  bnd : ∀ x, x < n → -1 ≤ s.part x ∧ s.part x < s.prt
  scc : ∀ x y, x < n → y < n → 0 ≤ s.part x → 0 ≤ s.part y → (s.part x = s.part y ↔ Scc E x y)
  s1 : ∀ x y, x ∈ s.stk → y ∈ s.stk → s.num x ≤ s.num y → Rch E x y
  s2 : ∀ x, x ∈ s.stk → ∃ g, gr g ∧ g ∈ s.stk ∧ s.num g ≤ s.num x ∧ Rch E x g
structure TV (n : Nat) (E : Nat → Nat → Prop) (gr : Nat → Prop) (s : TS) (a : Nat) (s' : TS) : Prop where
  inv : TI n E gr s'
  num : ∀ x, x < n → s.num x ≠ 0 → s'.num x = s.num x ∧ s'.low x = s.low x
  part : ∀ x, x < n → 0 ≤ s.part x → s'.part x = s.part x
  stk : ∃ w, s'.stk = s.stk ++ w ∧ ∀ x ∈ w, s.num x = 0
  vis : s'.num a ≠ 0
  cnt : s.cnt ≤ s'.cnt
  fresh : ∀ x, x < n → s.num x = 0 → s'.num x ≠ 0 → s.cnt < s'.num x
  black : ∀ x, x < n → s.num x = 0 → s'.num x ≠ 0 → ∀ y, E x y → s'.num y ≠ 0
  low : s'.low a = s'.num a ∨ ∃ y ∈ s.stk, s'.low a = s.num y ∧ Rch E a y
  min : ∀ x ∈ s'.stk, s.num x = 0 → ∀ y ∈ s.stk, E x y → s'.low a ≤ s.num y
structure TL (n : Nat) (E : Nat → Nat → Prop) (gr : Nat → Prop) (s : TS) (a : Nat) (sc : Nat → Prop) (s' : TS) : Prop where
  inv : TI n E (fun g => gr g ∨ g = a) s'
  num : ∀ x, x < n → s.num x ≠ 0 → s'.num x = s.num x ∧ s'.low x = s.low x
  part : ∀ x, x < n → 0 ≤ s.part x → s'.part x = s.part x
  stk : ∃ w, s'.stk = s.stk ++ a :: w ∧ ∀ x ∈ w, s.num x = 0 ∧ x ≠ a
  na : s'.num a = s.cnt + 1
  cnt : s.cnt + 1 ≤ s'.cnt
  fresh : ∀ x, x < n → s.num x = 0 → s'.num x ≠ 0 → x ≠ a → s.cnt + 1 < s'.num x
  black : ∀ x, x < n → x ≠ a → s.num x = 0 → s'.num x ≠ 0 → ∀ y, E x y → s'.num y ≠ 0
  lowa : s'.low a ≤ s.cnt + 1
  low : s'.low a = s'.num a ∨ ∃ y ∈ s.stk, s'.low a = s.num y ∧ Rch E a y
  min : ∀ x ∈ s'.stk, x ≠ a → s.num x = 0 → ∀ y ∈ s.stk, E x y → s'.low a ≤ s.num y
  proc : ∀ y, sc y → y < n ∧ s'.num y ≠ 0 ∧ (y ∈ s.stk → s'.low a ≤ s.num y)
def TS.push (s : TS) (a : Nat) : TS := { s with num := fput s.num a (s.cnt + 1), low := fput s.low a (s.cnt + 1), stk := s.stk ++ [a], cnt := s.cnt + 1 }
def TS.lower (s : TS) (a : Nat) (v : Int) : TS := { s with low := fput s.low a (min (s.low a) v) }
def TS.pop (s : TS) (st : List Nat) (c : List Nat) : TS := { s with part := fun x => if x ∈ c then s.prt else s.part x, stk := st, prt := s.prt + 1 }
section
variable {n : Nat} {E : Nat → Nat → Prop} {gr : Nat → Prop} {s s1 s2 : TS} {a b : Nat} {sc : Nat → Prop}
theorem TI.stk_lt (h : TI n E gr s) {x : Nat} (hx : x ∈ s.stk) : x < n := ((h.mem x).1 hx).1
theorem TI.stk_num (h : TI n E gr s) {x : Nat} (hx : x ∈ s.stk) : s.num x ≠ 0 := ((h.mem x).1 hx).2.1
theorem TL.start (hE : ∀ x y, E x y → x < n ∧ y < n) (h : TI n E gr s) (ha : a < n) (h0 : s.num a = 0) (hg : ∀ g, gr g → g ∈ s.stk → Rch E g a) : TL n E gr s a (fun _ => False) (s.push a) := by
  have hc := h.cnt
  have hns : ∀ x, x ∈ s.stk → x ≠ a := fun x hx e => h.stk_num hx (e ▸ h0)
  refine ⟨⟨?_, ?_, ?_, ?_, ?_, h.done, h.bnd, h.scc, ?_, ?_⟩, ?_, fun _ _ _ => rfl, ⟨[], by simp [TS.push], by simp⟩, by simp [TS.push], by simp [TS.push], ?_, ?_, by simp [TS.push], .inl (by simp [TS.push]), ?_, fun y hy => hy.elim⟩
  · intro x hx
    have := h.num x hx
    by_cases e : x = a
    · subst e; simp [TS.push]; omega
    · simp [TS.push, fput_ne e]; omega
  · simp [TS.push]; omega
  · intro x
    by_cases e : x = a
    · subst e
      simp only [TS.push, List.mem_append, List.mem_singleton, or_true, fput_self, true_iff]
      exact ⟨ha, by omega, h.new _ ha h0⟩
    · simp only [TS.push, List.mem_append, List.mem_singleton, e, or_false, fput_ne e]
      exact h.mem x
  · simp only [TS.push, List.pairwise_append]
    refine ⟨h.ord.imp_of_mem ?_, List.pairwise_singleton _ _, ?_⟩
    · intro x y hx hy hxy
      rw [fput_ne (hns x hx), fput_ne (hns y hy)]; exact hxy
    · intro x hx y hy
      obtain rfl : y = a := by simpa using hy
      rw [fput_ne (hns x hx)]
      have := h.num x (h.stk_lt hx)
      simp; omega
  · intro x hx hx0
    by_cases e : x = a
    · subst e; exact h.new _ hx h0
    · simp only [TS.push, fput_ne e] at hx0; exact h.new _ hx hx0
  · intro x y hx hy hxy
    simp only [TS.push, List.mem_append, List.mem_singleton] at hx hy hxy
    rcases hx with hx | rfl
    · rcases hy with hy | rfl
      · rw [fput_ne (hns x hx), fput_ne (hns y hy)] at hxy
        exact h.s1 x y hx hy hxy
      · obtain ⟨g, g1, g2, _, g4⟩ := h.s2 x hx
        exact g4.trans (hg g g1 g2)
    · rcases hy with hy | rfl
      · rw [fput_self, fput_ne (hns y hy)] at hxy
        have := h.num y (h.stk_lt hy)
        omega
      · exact .refl _
  · intro x hx
    simp only [TS.push, List.mem_append, List.mem_singleton] at hx ⊢
    rcases hx with hx | rfl
    · obtain ⟨g, g1, g2, g3, g4⟩ := h.s2 x hx
      exact ⟨g, .inl g1, .inl g2, by rw [fput_ne (hns g g2), fput_ne (hns x hx)]; exact g3, g4⟩
    · exact ⟨x, .inr rfl, .inr rfl, Int.le_refl _, .refl _⟩
  · intro x hx hx0
    have e : x ≠ a := fun e => hx0 (e ▸ h0)
    simp [TS.push, fput_ne e]
  · intro x hx hx0 hx1 e
    simp only [TS.push, fput_ne e] at hx1; exact absurd hx0 hx1
  · intro x hx e hx0 hx1
    simp only [TS.push, fput_ne e] at hx1; exact absurd hx0 hx1
  · intro x hx e hx0
    simp only [TS.push, List.mem_append, List.mem_singleton, e, or_false] at hx
    exact absurd hx0 (h.stk_num hx)
theorem TL.lower (h : TL n E gr s a sc s1) {v : Int} (hab : E a b) (hE : ∀ x y, E x y → x < n ∧ y < n) (ha0 : s.num a = 0) (hi : TI n E gr s)
    (hb : s1.num b ≠ 0) (hv : v < s1.low a → ∃ y ∈ s.stk, v = s.num y ∧ Rch E b y) (hsb : b ∈ s.stk → v ≤ s.num b) : TL n E gr s a (fun y => sc y ∨ y = b) (s1.lower a v) := by
  refine ⟨⟨h.inv.num, h.inv.cnt, h.inv.mem, h.inv.ord, h.inv.new, h.inv.done, h.inv.bnd, h.inv.scc, h.inv.s1, h.inv.s2⟩, ?_, h.part, h.stk, h.na, h.cnt, h.fresh, h.black, ?_, ?_, ?_, ?_⟩
  · intro x hx hx0
    have e : x ≠ a := fun e => hx0 (e ▸ ha0)
    exact ⟨(h.num x hx hx0).1, by simp only [TS.lower, fput_ne e]; exact (h.num x hx hx0).2⟩
  · have := h.lowa; simp [TS.lower]; omega
  · simp only [TS.lower, fput_self]
    by_cases hlt : v < s1.low a
    · obtain ⟨y, h1, h2, h3⟩ := hv hlt
      exact .inr ⟨y, h1, by omega, .step hab h3⟩
    · rw [Int.min_eq_left (by omega)]; exact h.low
  · intro x hx e hx0 y hy hxy
    have := h.min x hx e hx0 y hy hxy
    simp only [TS.lower, fput_self]; omega
  · rintro y (hy | rfl)
    · have := h.proc y hy
      exact ⟨this.1, this.2.1, fun hm => by have := this.2.2 hm; simp only [TS.lower, fput_self]; omega⟩
    · exact ⟨(hE _ _ hab).2, hb, fun hm => by have := hsb hm; simp only [TS.lower, fput_self]; omega⟩
theorem TL.skip (h : TL n E gr s a sc s1) (hi : TI n E gr s) (hbn : b < n) (hb : s1.num b ≠ 0) (hp : 0 ≤ s1.part b) : TL n E gr s a (fun y => sc y ∨ y = b) s1 := by
  refine ⟨h.inv, h.num, h.part, h.stk, h.na, h.cnt, h.fresh, h.black, h.lowa, h.low, h.min, ?_⟩
  rintro y (hy | rfl)
  · exact h.proc y hy
  · refine ⟨hbn, hb, fun hm => ?_⟩
    obtain ⟨w, hw, _⟩ := h.stk
    have : y ∈ s1.stk := by rw [hw]; simp [hm]
    have := ((h.inv.mem y).1 this).2.2
    omega
theorem TL.seen (h : TL n E gr s a sc s1) (hab : E a b) (hE : ∀ x y, E x y → x < n ∧ y < n) (ha0 : s.num a = 0) (hi : TI n E gr s) (hb : s1.num b ≠ 0) (hp : s1.part b < 0) : TL n E gr s a (fun y => sc y ∨ y = b) (s1.lower a (s1.num b)) := by
  have hbn := (hE _ _ hab).2
  refine h.lower hab hE ha0 hi hb ?_ ?_
  · intro hlt
    have hm : b ∈ s1.stk := (h.inv.mem b).2 ⟨hbn, hb, hp⟩
    obtain ⟨w, hw, hw2⟩ := h.stk
    rw [hw] at hm
    have hl := h.lowa
    rcases List.mem_append.1 hm with hm | hm
    · exact ⟨b, hm, (h.num b hbn (hi.stk_num hm)).1, .refl _⟩
    · exfalso
      rcases List.mem_cons.1 hm with rfl | hm
      · have := h.na; omega
      · have h1 := hw2 b hm
        have := h.fresh b hbn h1.1 hb h1.2
        omega
  · intro hm
    rw [(h.num b hbn (hi.stk_num hm)).1]; exact Int.le_refl _
theorem TL.gray (h : TL n E gr s a sc s1) (hab : E a b) (hi : TI n E gr s) (hgr : ∀ g, gr g → g < n ∧ s.num g ≠ 0) (han : a < n) : (∀ g, (gr g ∨ g = a) → g ∈ s1.stk → Rch E g b) ∧ (∀ g, (gr g ∨ g = a) → g < n ∧ s1.num g ≠ 0) ∧ a ∈ s1.stk := by
  obtain ⟨w, hw, hw2⟩ := h.stk
  have ha : a ∈ s1.stk := by rw [hw]; simp
  have hna := h.na
  have hc := hi.cnt
  refine ⟨?_, ?_, ha⟩
  · rintro g (hg | rfl) hm
    · refine (h.inv.s1 g a hm ha ?_).trans (.one hab)
      rw [(h.num g (h.inv.stk_lt hm) (hgr g hg).2).1, hna]
      have := hi.num g (h.inv.stk_lt hm)
      omega
    · exact .one hab
  · rintro g (hg | rfl)
    · have h1 := hgr g hg
      rw [(h.num g h1.1 h1.2).1]; exact h1
    · exact ⟨han, by omega⟩
theorem TL.visit (h : TL n E gr s a sc s1) (hab : E a b) (hE : ∀ x y, E x y → x < n ∧ y < n) (ha0 : s.num a = 0) (hi : TI n E gr s) (hb0 : s1.num b = 0) (hv : TV n E (fun g => gr g ∨ g = a) s1 b s2) :
    TL n E gr s a (fun y => sc y ∨ y = b) (s2.lower a (s2.low b)) := by
  have han := (hE _ _ hab).1
  have hbn := (hE _ _ hab).2
  have hna := h.na
  have hc := hi.cnt
  have hc1 := h.inv.cnt
  obtain ⟨w, hw, hw2⟩ := h.stk
  obtain ⟨w2, hw3, hw4⟩ := hv.stk
  have ha1 : s1.num a ≠ 0 := by omega
  have hkeep : ∀ x, x < n → s.num x ≠ 0 → s1.num x ≠ 0 := fun x hx h0 => by rw [(h.num x hx h0).1]; exact h0
  have hb00 : s.num b = 0 := by
    by_cases h0 : s.num b = 0
    · exact h0
    · exact absurd hb0 (hkeep b hbn h0)
  have hva := hv.num a han ha1
  have hla : (s2.lower a (s2.low b)).low a = Min.min (s1.low a) (s2.low b) := by simp [TS.lower, hva.2]
  have hlow : s2.low b < s1.low a → ∃ y ∈ s.stk, s2.low b = s.num y ∧ Rch E b y := by
    intro hlt
    have hl := h.lowa
    rcases hv.low with h1 | ⟨y, hy, h2, h3⟩
    · have := hv.fresh b hbn hb0 hv.vis
      have := h.cnt
      omega
    · rw [hw] at hy
      rcases List.mem_append.1 hy with hm | hm
      · exact ⟨y, hm, by rw [h2, (h.num y (hi.stk_lt hm) (hi.stk_num hm)).1], h3⟩
      · exfalso
        rcases List.mem_cons.1 hm with rfl | hm
        · omega
        · have h4 := hw2 y hm
          have hyn : y < n := h.inv.stk_lt (by rw [hw]; simp [hm])
          have := h.fresh y hyn h4.1 (h.inv.stk_num (by rw [hw]; simp [hm])) h4.2
          omega
  refine ⟨⟨hv.inv.num, hv.inv.cnt, hv.inv.mem, hv.inv.ord, hv.inv.new, hv.inv.done, hv.inv.bnd, hv.inv.scc, hv.inv.s1, hv.inv.s2⟩, ?_, ?_, ⟨w ++ w2, by show s2.stk = _; rw [hw3, hw]; simp, ?_⟩, by show s2.num a = _; rw [hva.1]; exact hna, Int.le_trans h.cnt hv.cnt, ?_, ?_, by have := h.lowa; rw [hla]; omega, ?_, ?_, ?_⟩
  · intro x hx hx0
    have e1 := h.num x hx hx0
    have e2 := hv.num x hx (hkeep x hx hx0)
    have e : x ≠ a := fun e => hx0 (e ▸ ha0)
    exact ⟨by show s2.num x = _; rw [e2.1, e1.1], by simp only [TS.lower, fput_ne e]; rw [e2.2, e1.2]⟩
  · intro x hx hx0
    have e1 := h.part x hx hx0
    show s2.part x = _
    rw [hv.part x hx (by rw [e1]; exact hx0), e1]
  · intro x hx
    rcases List.mem_append.1 hx with hx | hx
    · exact hw2 x hx
    · have h1 := hw4 x hx
      have hxn : x < n := hv.inv.stk_lt (by rw [hw3]; simp [hx])
      refine ⟨?_, fun e => ha1 (e ▸ h1)⟩
      by_cases h0 : s.num x = 0
      · exact h0
      · exact absurd h1 (hkeep x hxn h0)
  · intro x hx hx0 hx2 e
    show s.cnt + 1 < s2.num x
    by_cases h1 : s1.num x = 0
    · have := hv.fresh x hx h1 hx2
      have := h.cnt
      omega
    · have := h.fresh x hx hx0 h1 e
      rw [(hv.num x hx h1).1]; exact this
  · intro x hx e hx0 hx2 y hxy
    show s2.num y ≠ 0
    by_cases h1 : s1.num x = 0
    · exact hv.black x hx h1 hx2 y hxy
    · have h3 := h.black x hx e hx0 h1 y hxy
      rw [(hv.num y (hE _ _ hxy).2 h3).1]; exact h3
  · rw [hla]
    by_cases hlt : s2.low b < s1.low a
    · obtain ⟨y, h1, h2, h3⟩ := hlow hlt
      exact .inr ⟨y, h1, by rw [Int.min_eq_right (Int.le_of_lt hlt)]; exact h2, .step hab h3⟩
    · rw [Int.min_eq_left (Int.not_lt.1 hlt)]
      rcases h.low with h1 | h1
      · exact .inl (by rw [h1]; exact hva.1.symm)
      · exact .inr h1
  · intro x hx e hx0 y hy hxy
    rw [hla]
    clear hlow
    by_cases h1 : s1.num x = 0
    · have h3 := hv.min x hx h1 y (by rw [hw]; simp [hy]) hxy
      rw [(h.num y (hi.stk_lt hy) (hi.stk_num hy)).1] at h3
      omega
    · have h3 := h.min x (by
        have hx : x ∈ s2.stk := hx
        rw [hw3] at hx
        rcases List.mem_append.1 hx with hx | hx
        · exact hx
        · exact absurd (hw4 x hx) h1) e hx0 y hy hxy
      omega
  · clear hlow
    rintro y (hy | rfl)
    · have h1 := h.proc y hy
      refine ⟨h1.1, ?_, fun hm => ?_⟩
      · show s2.num y ≠ 0
        rw [(hv.num y h1.1 h1.2.1).1]; exact h1.2.1
      · have := h1.2.2 hm
        rw [hla]; omega
    · exact ⟨hbn, hv.vis, fun hm => absurd hb00 (hi.stk_num hm)⟩
theorem TL.vis_of (h : TL n E gr s a sc s1) (hall : ∀ y, E a y → sc y) {x y : Nat} (hx : x < n) (hx0 : s.num x = 0) (hx1 : s1.num x ≠ 0) (hxy : E x y) : s1.num y ≠ 0 := by
  by_cases e : x = a
  · subst e; exact (h.proc y (hall y hxy)).2.1
  · exact h.black x hx e hx0 hx1 y hxy
theorem TL.end1 (h : TL n E gr s a sc s1) (hall : ∀ y, E a y → sc y) (han : a < n) (ha0 : s.num a = 0) (hi : TI n E gr s) (hne : s1.low a ≠ s1.num a) : TV n E gr s a s1 := by
  obtain ⟨w, hw, hw2⟩ := h.stk
  have hna := h.na
  have hc := hi.cnt
  obtain ⟨y, hy, hly, hry⟩ : ∃ y ∈ s.stk, s1.low a = s.num y ∧ Rch E a y := h.low.resolve_left hne
  have hyn := hi.num y (hi.stk_lt hy)
  have hy1 := h.num y (hi.stk_lt hy) (hi.stk_num hy)
  refine ⟨⟨h.inv.num, h.inv.cnt, h.inv.mem, h.inv.ord, h.inv.new, h.inv.done, h.inv.bnd, h.inv.scc, h.inv.s1, ?_⟩, h.num, h.part, ⟨a :: w, hw, ?_⟩, by omega, by have := h.cnt; omega, ?_, ?_, h.low, ?_⟩
  · intro x hx
    obtain ⟨g, h1 | rfl, h2, h3, h4⟩ := h.inv.s2 x hx
    · exact ⟨g, h1, h2, h3, h4⟩
    · obtain ⟨g', k1, k2, k3, k4⟩ := hi.s2 y hy
      have hg' := h.num g' (hi.stk_lt k2) (hi.stk_num k2)
      exact ⟨g', k1, by rw [hw]; simp [k2], by omega, h4.trans (hry.trans k4)⟩
  · intro x hx
    rcases List.mem_cons.1 hx with rfl | hx
    · exact ha0
    · exact (hw2 x hx).1
  · intro x hx hx0 hx1
    by_cases e : x = a
    · subst e; omega
    · have := h.fresh x hx hx0 hx1 e; omega
  · intro x hx hx0 hx1 y hxy
    exact h.vis_of hall hx hx0 hx1 hxy
  · intro x hx hx0 y hy hxy
    by_cases e : x = a
    · subst e; exact (h.proc y (hall y hxy)).2.2 hy
    · exact h.min x hx e hx0 y hy hxy
theorem TL.end2 (h : TL n E gr s a sc s1) (hE : ∀ x y, E x y → x < n ∧ y < n) (hall : ∀ y, E a y → sc y) (han : a < n) (ha0 : s.num a = 0) (hi : TI n E gr s) (hgr : ∀ g, gr g → g < n ∧ s.num g ≠ 0) (he : s1.low a = s1.num a) {w : List Nat} (hw : s1.stk = s.stk ++ a :: w) : TV n E gr s a (s1.pop s.stk (a :: w)) := by
  have hw2 : ∀ x ∈ w, s.num x = 0 ∧ x ≠ a := by
    obtain ⟨w', hw', hw2⟩ := h.stk
    rw [hw] at hw'
    have : w = w' := by simpa using hw'
    subst this; exact hw2
  have hna := h.na
  have hc := hi.cnt
  have hc1 := h.inv.cnt
  have hcm : ∀ x, x ∈ a :: w → x ∈ s1.stk := fun x hx => by rw [hw]; exact List.mem_append_right _ hx
  have hC0 : ∀ x ∈ a :: w, s.num x = 0 := fun x hx => by
    rcases List.mem_cons.1 hx with rfl | hx
    · exact ha0
    · exact (hw2 x hx).1
  have hso : ∀ x ∈ s.stk, x ∉ a :: w := fun x hx hx2 => hi.stk_num hx (hC0 x hx2)
  have ham : a ∈ s1.stk := hcm a (by simp)
  -- the component and what is done are closed
  have hclo : ∀ x y, (x ∈ a :: w ∨ (x < n ∧ 0 ≤ s1.part x)) → E x y → (y ∈ a :: w ∨ (y < n ∧ 0 ≤ s1.part y)) := by
    rintro x y (hx | hx) hxy
    · have hyn := (hE _ _ hxy).2
      have hxs := hcm x hx
      have hyv := h.vis_of hall (h.inv.stk_lt hxs) (hC0 x hx) (h.inv.stk_num hxs) hxy
      by_cases hp : 0 ≤ s1.part y
      · exact .inr ⟨hyn, hp⟩
      · have hys : y ∈ s1.stk := (h.inv.mem y).2 ⟨hyn, hyv, by omega⟩
        rw [hw] at hys
        rcases List.mem_append.1 hys with hy2 | hy2
        · exfalso
          have hle : s1.low a ≤ s.num y := by
            by_cases e : x = a
            · subst e; exact (h.proc y (hall y hxy)).2.2 hy2
            · exact h.min x hxs e (hC0 x hx) y hy2 hxy
          have := hi.num y (hi.stk_lt hy2)
          omega
        · exact .inl hy2
    · exact .inr ⟨(hE _ _ hxy).2, h.inv.done x y hx.1 hx.2 hxy⟩
  have hreach : ∀ x y, x ∈ a :: w → Rch E x y → (y ∈ a :: w ∨ (y < n ∧ 0 ≤ s1.part y)) := fun x y hx hr => hr.closed hclo (.inl hx)
  have hdone : ∀ x y, x < n → 0 ≤ s1.part x → Rch E x y → 0 ≤ s1.part y ∧ y < n := fun x y hx hp hr =>
    hr.closed (C := fun z => 0 ≤ s1.part z ∧ z < n) (fun u v hu huv => ⟨h.inv.done u v hu.2 hu.1 huv, (hE _ _ huv).2⟩) ⟨hp, hx⟩
  have hpn : ∀ x ∈ a :: w, s1.part x < 0 := fun x hx => ((h.inv.mem x).1 (hcm x hx)).2.2
  have hnum : ∀ x ∈ a :: w, s1.num a ≤ s1.num x := by
    intro x hx
    rcases List.mem_cons.1 hx with rfl | hx
    · exact Int.le_refl _
    · have h1 := hw2 x hx
      have hm := hcm x (by simp [hx])
      have := h.fresh x (h.inv.stk_lt hm) h1.1 (h.inv.stk_num hm) h1.2
      omega
  have hto : ∀ x ∈ a :: w, Rch E a x := fun x hx => h.inv.s1 a x ham (hcm x hx) (hnum x hx)
  have hfrom : ∀ x ∈ a :: w, Rch E x a := by
    intro x hx
    obtain ⟨g, h1 | rfl, h2, h3, h4⟩ := h.inv.s2 x (hcm x hx)
    · exfalso
      have hg := hgr g h1
      rcases hreach x g hx h4 with h5 | h5
      · exact hg.2 (hC0 g h5)
      · have := ((h.inv.mem g).1 h2).2.2
        omega
    · exact h4
  have hCC : ∀ x y, x ∈ a :: w → y ∈ a :: w → Scc E x y := fun x y hx hy => ⟨(hfrom x hx).trans (hto y hy), (hfrom y hy).trans (hto x hx)⟩
  have hpart : ∀ x, (s1.pop s.stk (a :: w)).part x = if x ∈ a :: w then s1.prt else s1.part x := fun x => rfl
  have hsl : s1.stk.length = s.stk.length + 1 + w.length := by rw [hw]; simp; omega
  refine ⟨⟨h.inv.num, ?_, ?_, ?_, ?_, ?_, ?_, ?_, ?_, ?_⟩, h.num, ?_, ⟨[], by simp [TS.pop], by simp⟩, by show s1.num a ≠ 0; omega, by show s.cnt ≤ s1.cnt; have := h.cnt; omega, ?_, ?_, .inl he, ?_⟩
  · show 0 ≤ s1.prt + 1 ∧ s1.prt + 1 + (s.stk.length : Int) ≤ s1.cnt
    omega
  · intro x
    rw [hpart]
    show x ∈ s.stk ↔ x < n ∧ s1.num x ≠ 0 ∧ _
    constructor
    · intro hx
      have h1 := hso x hx
      rw [if_neg h1]
      exact (h.inv.mem x).1 (by rw [hw]; exact List.mem_append_left _ hx)
    · rintro ⟨h1, h2, h3⟩
      split at h3
      · omega
      · rename_i hno
        have := (h.inv.mem x).2 ⟨h1, h2, h3⟩
        rw [hw] at this
        exact (List.mem_append.1 this).resolve_right hno
  · show s.stk.Pairwise fun x y => s1.num x < s1.num y
    have := h.inv.ord
    rw [hw] at this
    exact (List.pairwise_append.1 this).1
  · intro x hx hx0
    rw [hpart, if_neg]
    · exact h.inv.new x hx hx0
    · intro hm; exact h.inv.stk_num (hcm x hm) hx0
  · intro x y hx hp hxy
    rw [hpart] at hp ⊢
    have h2 : y ∈ a :: w ∨ (y < n ∧ 0 ≤ s1.part y) := by
      split at hp
      · rename_i hm; exact hclo x y (.inl hm) hxy
      · exact hclo x y (.inr ⟨hx, hp⟩) hxy
    rcases h2 with h2 | h2
    · rw [if_pos h2]; omega
    · split
      · omega
      · exact h2.2
  · intro x hx
    rw [hpart]
    have := h.inv.bnd x hx
    show _ ∧ _ < s1.prt + 1
    split <;> omega
  · intro x y hx hy hpx hpy
    rw [hpart] at hpx hpy ⊢
    rw [hpart]
    by_cases hxc : x ∈ a :: w
    · by_cases hyc : y ∈ a :: w
      · rw [if_pos hxc, if_pos hyc]
        simp [hCC x y hxc hyc]
      · rw [if_neg hyc] at hpy
        rw [if_pos hxc, if_neg hyc]
        have := h.inv.bnd y hy
        constructor
        · intro e; omega
        · rintro ⟨_, h2⟩
          have h3 := hdone y x hy hpy h2
          have := hpn x hxc
          omega
    · rw [if_neg hxc] at hpx
      by_cases hyc : y ∈ a :: w
      · rw [if_neg hxc, if_pos hyc]
        have := h.inv.bnd x hx
        constructor
        · intro e; omega
        · rintro ⟨h2, _⟩
          have h3 := hdone x y hx hpx h2
          have := hpn y hyc
          omega
      · rw [if_neg hyc] at hpy
        rw [if_neg hxc, if_neg hyc]
        exact h.inv.scc x y hx hy hpx hpy
  · intro x y hx hy hxy
    exact h.inv.s1 x y (by rw [hw]; exact List.mem_append_left _ hx) (by rw [hw]; exact List.mem_append_left _ hy) hxy
  · intro x hx
    have hx : x ∈ s.stk := hx
    obtain ⟨g, k1, k2, k3, k4⟩ := hi.s2 x hx
    have e1 := h.num g (hi.stk_lt k2) (hi.stk_num k2)
    have e2 := h.num x (hi.stk_lt hx) (hi.stk_num hx)
    exact ⟨g, k1, k2, by show s1.num g ≤ s1.num x; omega, k4⟩
  · intro x hx hp
    have e1 := h.part x hx hp
    rw [hpart, if_neg, e1]
    intro hm
    have := hpn x hm
    omega
  · intro x hx hx0 hx1
    show s.cnt < s1.num x
    have hx1 : s1.num x ≠ 0 := hx1
    by_cases e : x = a
    · subst e; omega
    · have := h.fresh x hx hx0 hx1 e; omega
  · intro x hx hx0 hx1 y hxy
    exact h.vis_of hall hx hx0 hx1 hxy
  · intro x hx hx0
    have hx : x ∈ s.stk := hx
    exact absurd hx0 (hi.stk_num hx)
theorem TI.done_all (h : TI n E (fun _ => False) s) : s.stk = [] := by
  cases hs : s.stk with
  | nil => rfl
  | cons x l =>
    obtain ⟨g, hg, _⟩ := h.s2 x (by rw [hs]; simp)
    exact hg.elim
theorem TI.start (h0 : ∀ x, x < n → s.num x = 0) (h1 : ∀ x, x < n → s.part x = -1) (h2 : s.stk = []) (h3 : s.cnt = 0) (h4 : s.prt = 0) : TI n E (fun _ => False) s := by
  refine ⟨fun x hx => by rw [h0 x hx, h3]; omega, by rw [h2, h3, h4]; simp, fun x => ?_, by rw [h2]; simp, fun x hx _ => by rw [h1 x hx]; omega, fun x y hx hp => by rw [h1 x hx] at hp; omega, fun x hx => by rw [h1 x hx, h4]; omega, fun x y hx _ hp => by rw [h1 x hx] at hp; omega, fun x y hx => by rw [h2] at hx; simp at hx, fun x hx => by rw [h2] at hx; simp at hx⟩
  rw [h2]
  constructor
  · intro h; simp at h
  · rintro ⟨h5, h6, _⟩; exact absurd (h0 x h5) h6
theorem TI.result (h : TI n E (fun _ => False) s) (hall : ∀ x, x < n → s.num x ≠ 0) : (∀ x, x < n → 0 ≤ s.part x) ∧ ∀ x y, x < n → y < n → (s.part x = s.part y ↔ Scc E x y) := by
  have h1 : ∀ x, x < n → 0 ≤ s.part x := by
    intro x hx
    have := h.mem x
    rw [h.done_all] at this
    by_cases hp : 0 ≤ s.part x
    · exact hp
    · have h2 := this.2 ⟨hx, hall x hx, by omega⟩
      simp at h2
  exact ⟨h1, fun x y hx hy => h.scc x y hx hy (h1 x hx) (h1 y hy)⟩
end
structure Srch (E : Nat → Nat → Prop) (S B td : Nat → Prop) : Prop where
  sound : ∀ x, B x → ∃ s, S s ∧ Rch E s x
  start : ∀ s, S s → B s
  closed : ∀ x y, B x → ¬ td x → E x y → B y
theorem Rch.snoc {E : Nat → Nat → Prop} {x y z : Nat} (h : Rch E x y) (e : E y z) : Rch E x z := h.trans (.one e)
section
variable {E : Nat → Nat → Prop} {S B B' td td' : Nat → Prop}
theorem Srch.done (h : Srch E S B td) (h0 : ∀ x, ¬ td x) {x : Nat} : B x ↔ ∃ s, S s ∧ Rch E s x :=
  ⟨h.sound x, fun ⟨s, hs, hr⟩ => hr.closed (fun u v hu huv => h.closed u v hu (h0 u) huv) (h.start s hs)⟩
theorem Srch.add (h : Srch E S B td) {x y : Nat} (hx : B x) (hxy : E x y) (hB : ∀ z, B' z ↔ B z ∨ z = y) (ht : ∀ z, td' z ↔ td z ∨ z = y) : Srch E S B' td' := by
  refine ⟨fun z hz => ?_, fun s hs => (hB s).2 (.inl (h.start s hs)), fun u v hu htd huv => ?_⟩
  · rcases (hB z).1 hz with hz | rfl
    · exact h.sound z hz
    · obtain ⟨s, hs, hr⟩ := h.sound x hx
      exact ⟨s, hs, hr.snoc hxy⟩
  · rw [ht] at htd
    rcases (hB u).1 hu with hu | rfl
    · exact (hB v).2 (.inl (h.closed u v hu (fun h => htd (.inl h)) huv))
    · exact absurd (.inr rfl) htd
theorem Srch.drop (h : Srch E S B td) {x : Nat} (hx : ∀ y, E x y → B y) (ht : ∀ z, td z → td' z ∨ z = x) : Srch E S B td' := by
  refine ⟨h.sound, h.start, fun u v hu htd huv => ?_⟩
  by_cases e : u = x
  · subst e; exact hx v huv
  · exact h.closed u v hu (fun h1 => (ht u h1).elim htd e) huv
theorem Srch.init (hB : ∀ x, B x ↔ S x) (ht : ∀ x, S x → td x) : Srch E S B td :=
  ⟨fun x hx => ⟨x, (hB x).1 hx, .refl x⟩, fun s hs => (hB s).2 hs, fun x y hx hn _ => absurd (ht x ((hB x).1 hx)) hn⟩
theorem Srch.congr (h : Srch E S B td) (hB : ∀ x, B x ↔ B' x) (ht : ∀ x, td x ↔ td' x) : Srch E S B' td' :=
  ⟨fun x hx => h.sound x ((hB x).2 hx), fun s hs => (hB s).1 (h.start s hs), fun x y hx hn hxy => (hB y).1 (h.closed x y ((hB x).2 hx) (fun ht' => hn ((ht x).1 ht')) hxy)⟩
end
def tru (B : List Bool) (x : Nat) : Prop := B.getD x false = true
theorem tru_set {B : List Bool} {i : Nat} (hi : i < B.length) {x : Nat} : tru (B.set i true) x ↔ tru B x ∨ x = i := by
  simp only [tru, List.getD_eq_getElem?_getD, List.getElem?_set]
  by_cases h : i = x
  · subst h; simp [hi]
  · simp [h, Ne.symm h]
theorem tru_get {B : List Bool} {i : Nat} (hi : i < B.length) : tru B i ↔ B[i] = true := by simp [tru, hi]
theorem tru_lt {B : List Bool} {x : Nat} (h : tru B x) : x < B.length := by
  by_cases hx : x < B.length
  · exact hx
  · simp [tru, List.getElem?_eq_none (Nat.le_of_not_lt hx)] at h
theorem count_set {B : List Bool} {i : Nat} (hi : i < B.length) (hb : B[i] = false) : (B.set i true).count false + 1 = B.count false := by
  rw [List.count_set hi, hb]
  have : 0 < B.count false := List.count_pos_iff.2 (hb ▸ List.getElem_mem hi)
  simp; omega
theorem tru_replicate {n x : Nat} : ¬ tru (List.replicate n false) x := by
  simp only [tru, List.getD_eq_getElem?_getD, List.getElem?_replicate]
  split <;> simp
structure Adj (E : Nat → Nat → Prop) (G : List (List Int)) : Prop where
  lt : ∀ x y, E x y → x < G.length ∧ y < G.length
  mem : ∀ x (hx : x < G.length) z, z ∈ G[x] ↔ ∃ y : Nat, z = y ∧ E x y
theorem Adj.get {E : Nat → Nat → Prop} {G : List (List Int)} (h : Adj E G) {x j : Nat} (hx : x < G.length) (hj : j < G[x].length) : ∃ y : Nat, G[x][j] = (y : Int) ∧ E x y ∧ y < G.length := by
  obtain ⟨y, h1, h2⟩ := (h.mem x hx _).1 (List.getElem_mem hj)
  exact ⟨y, h1, h2, (h.lt x y h2).2⟩
theorem Adj.of {E : Nat → Nat → Prop} {G : List (List Int)} (h : Adj E G) {x y : Nat} (hxy : E x y) : ∃ (hx : x < G.length) (j : Nat) (hj : j < G[x].length), G[x][j] = (y : Int) := by
  have hx := (h.lt x y hxy).1
  obtain ⟨j, hj, h1⟩ := List.mem_iff_getElem.1 ((h.mem x hx y).2 ⟨y, rfl, hxy⟩)
  exact ⟨hx, j, hj, h1⟩
theorem Adj.all {E : Nat → Nat → Prop} {G : List (List Int)} (h : Adj E G) {x : Nat} (hx : x < G.length) {C : Nat → Prop} (hC : ∀ j (hj : j < G[x].length), ∀ y : Nat, G[x][j] = (y : Int) → C y) {y : Nat} (hxy : E x y) : C y := by
  obtain ⟨_, j, hj, h1⟩ := h.of hxy
  exact hC j hj y h1
theorem part_cycle {n : Nat} {E : Nat → Nat → Prop} {P : Nat → Int} (hP : ∀ x y, x < n → y < n → (P x = P y ↔ Scc E x y)) (hE : ∀ x y, E x y → x < n ∧ y < n) {x : Nat} (hx : x < n) :
    Cyc E x ↔ 1 < ((List.range n).filter fun y => P y = P x).length ∨ E x x := by
  rw [Cyc.iff, or_comm]
  have key : (∃ y, y ≠ x ∧ Scc E x y) ↔ 1 < ((List.range n).filter fun y => P y = P x).length := by
    constructor
    · rintro ⟨y, hne, hs⟩
      have hy : y < n := by
        have := hs.2
        cases this with
        | refl => exact hx
        | step h _ => exact (hE _ _ h).1
      have h1 : x ∈ (List.range n).filter fun y => P y = P x := by simp [hx]
      have h2 : y ∈ (List.range n).filter fun y => P y = P x := by simp [hy, ((hP x y hx hy).2 hs).symm]
      generalize (List.range n).filter (fun y => decide (P y = P x)) = l at h1 h2
      match l, h1, h2 with
      | [z], h1, h2 => simp at h1 h2; exact absurd (h2.trans h1.symm) hne
      | _ :: _ :: _, _, _ => simp
    · intro hlt
      have hnd : ((List.range n).filter fun y => P y = P x).Nodup := List.Pairwise.filter _ List.nodup_range
      have hm : ∀ y ∈ (List.range n).filter fun y => P y = P x, y < n ∧ P y = P x := by simp
      generalize (List.range n).filter (fun y => decide (P y = P x)) = l at hlt hnd hm
      match l, hlt, hnd, hm with
      | u :: v :: _, _, hnd, hm =>
        have huv : u ≠ v := by
          intro e; subst e; simp at hnd
        have hu := hm u (by simp)
        have hv := hm v (by simp)
        by_cases e : u = x
        · exact ⟨v, fun e2 => huv (e.trans e2.symm), (hP x v hx hv.1).1 hv.2.symm⟩
        · exact ⟨u, e, (hP x u hx hu.1).1 hu.2.symm⟩
  rw [key]
def Aut.E (a : Aut) (x y : Nat) : Prop := ∃ e ∈ a.edges, e.frm = x ∧ e.to = y
theorem Aut.E_lt {a : Aut} (ha : a.Ok) (x y : Nat) (h : a.E x y) : x < a.acc.length ∧ y < a.acc.length := by
  obtain ⟨e, he, h1, h2⟩ := h
  have := ha.2.2.2 e he
  unfold Tr.Ok at this
  omega
def Aut.Reach (a : Aut) (q : Nat) : Prop := ∃ s : Nat, (s : Int) ∈ a.init ∧ Rch a.E s q
def Aut.Live (a : Aut) (q : Nat) : Prop := ∃ t, Rch a.E q t ∧ Cyc a.E t ∧ tru a.acc t
def kidx (K : Nat → Bool) (q : Nat) : Nat := ((List.range q).filter K).length
theorem kidx_succ {K : Nat → Bool} {q : Nat} : kidx K (q + 1) = kidx K q + if K q then 1 else 0 := by
  simp only [kidx, List.range_succ, List.filter_append, List.length_append, List.filter_cons, List.filter_nil]
  split <;> simp
theorem kidx_le {K : Nat → Bool} {q : Nat} : kidx K q ≤ q := by
  have := List.length_filter_le K (List.range q)
  simpa [kidx] using this
def Tr.ren (f : Int → Int) (e : Tr) : Tr := ⟨f e.frm, e.care, e.value, f e.to⟩
def kout (K : Nat → Bool) (x : Int) : Int := kidx K x.toNat
def Aut.keep (a : Aut) (K : Nat → Bool) : Aut :=
  if kidx K a.acc.length = 0 then ⟨[], [false], []⟩ else
    ⟨(a.init.filter fun q => K q.toNat).map (kout K), ((List.range a.acc.length).filter K).map fun q => a.acc.getD q false,
     (a.edges.filter fun e => K e.frm.toNat && K e.to.toNat).map (Tr.ren (kout K))⟩
theorem incr_map {n m : Int} {K : Nat → Bool} : ∀ {lo lo' : Int} {l : List Int}, incr n lo l → (∀ x ∈ l, K x.toNat = true) → -1 ≤ lo → (0 ≤ lo → lo' < kidx K (lo.toNat + 1)) → (lo < 0 → lo' < 0) → (∀ x ∈ l, (kidx K (x.toNat + 1) : Int) ≤ m) → incr m lo' (l.map (kout K))
  | lo, lo', [], _, _, _, _, _, _ => trivial
  | lo, lo', x :: l, h, hK, h0, h1, h2, hm => by
    have hx := hK x (by simp)
    have hlx := h.1
    have mono : ∀ p q : Nat, p ≤ q → kidx K p ≤ kidx K q := by
      intro p q hpq
      induction hpq with
      | refl => exact Nat.le_refl _
      | step _ ih => rw [kidx_succ]; omega
    have hs := kidx_succ (K := K) (q := x.toNat)
    rw [if_pos hx] at hs
    have hmx := hm x (by simp)
    refine ⟨?_, ?_, incr_map h.2.2 (fun y hy => hK y (by simp [hy])) (by omega) (fun _ => ?_) (fun hneg => ?_) (fun y hy => hm y (by simp [hy]))⟩
    · unfold kout
      by_cases hl : 0 ≤ lo
      · have := h1 hl
        have := mono (lo.toNat + 1) x.toNat (by omega)
        omega
      · have := h2 (by omega); omega
    · unfold kout; omega
    · unfold kout; omega
    · omega
theorem incr_filter {n : Int} {p : Int → Bool} : ∀ {lo : Int} {l : List Int}, incr n lo l → incr n lo (l.filter p)
  | _, [], _ => trivial
  | lo, x :: l, h => by
    have weak : ∀ {lo lo' : Int} {l : List Int}, lo' ≤ lo → incr n lo l → incr n lo' l := by
      intro lo lo' l hle h
      cases l with
      | nil => trivial
      | cons y l => exact ⟨by have := h.1; omega, h.2.1, h.2.2⟩
    by_cases hp : p x = true
    · rw [List.filter_cons_of_pos hp]; exact ⟨h.1, h.2.1, incr_filter h.2.2⟩
    · rw [List.filter_cons_of_neg hp]; exact weak (by have := h.1; omega) (incr_filter h.2.2)
theorem kidx_mono {K : Nat → Bool} {p q : Nat} (hpq : p ≤ q) : kidx K p ≤ kidx K q := by
  induction hpq with
  | refl => exact Nat.le_refl _
  | step _ ih => rw [kidx_succ]; omega
theorem kout_lt {K : Nat → Bool} {n : Nat} {x : Int} (h0 : 0 ≤ x) (hx : x < n) (hK : K x.toNat = true) : kout K x < kidx K n := by
  have h1 := kidx_succ (K := K) (q := x.toNat)
  rw [if_pos hK] at h1
  have h2 := kidx_mono (K := K) (show x.toNat + 1 ≤ n by omega)
  unfold kout; omega
theorem Aut.keep_len {a : Aut} {K : Nat → Bool} (h : kidx K a.acc.length ≠ 0) : (a.keep K).acc.length = kidx K a.acc.length := by
  unfold Aut.keep
  rw [if_neg h]
  simp [kidx]
theorem Aut.keep_ok {a : Aut} (ha : a.Ok) (K : Nat → Bool) : (a.keep K).Ok := by
  by_cases h0 : kidx K a.acc.length = 0
  · simp [Aut.keep, h0, Aut.Ok, incr]
  have hl := Aut.keep_len h0
  have hn := ha.n
  refine ⟨?_, ?_, ?_, ?_⟩
  · rw [hl]
    have := kidx_le (K := K) (q := a.acc.length)
    omega
  · simp only [Aut.keep, h0, if_false, List.length_map]
    exact Nat.le_trans (List.length_filter_le _ _) ha.e
  · rw [hl]
    simp only [Aut.keep, h0, if_false]
    refine incr_map (incr_filter ha.i) (fun x hx => (List.mem_filter.1 hx).2) (by omega) (by omega) (by omega) ?_
    intro x hx
    have h1 := incr_mem ha.i x (List.mem_filter.1 hx).1
    have := kidx_mono (K := K) (show x.toNat + 1 ≤ a.acc.length by omega)
    omega
  · rw [hl]
    simp only [Aut.keep, h0, if_false]
    intro t ht
    obtain ⟨e, he, rfl⟩ := List.mem_map.1 ht
    obtain ⟨he, hk⟩ := List.mem_filter.1 he
    simp only [Bool.and_eq_true] at hk
    have h1 := ha.2.2.2 e he
    unfold Tr.Ok at h1 ⊢
    have h2 := kout_lt h1.1 h1.2.1 hk.1
    have h3 := kout_lt h1.2.2.1 h1.2.2.2.1 hk.2
    simp only [Tr.ren]
    refine ⟨?_, h2, ?_, h3, h1.2.2.2.2⟩ <;> (unfold kout; omega)
noncomputable def Aut.tkeep (a : Aut) : Nat → Bool := fun q => @decide (a.Reach q ∧ a.Live q) (Classical.propDecidable _)
theorem Aut.tkeep_iff {a : Aut} {q : Nat} : a.tkeep q = true ↔ a.Reach q ∧ a.Live q := by simp [Aut.tkeep]
noncomputable def Aut.trim (a : Aut) : Aut := a.keep a.tkeep
end Go.Proofs.Ytglnelcmcimljaa

namespace Go.Proofs.Ytglnelcmcimljaa
open Go
structure NextI (a : Aut) (k : Nat) (G : List (List Int)) : Prop where
  len : G.length = a.acc.length
  mem : ∀ x (hx : x < G.length) z, z ∈ G[x] ↔ ∃ e ∈ a.edges.take k, e.frm = x ∧ e.to = z
  le : ∀ x (hx : x < G.length), G[x].length ≤ k
theorem NextI.zero {a : Aut} : NextI a 0 (List.replicate a.acc.length []) := ⟨by simp, by simp, by simp⟩
theorem NextI.step {a : Aut} {k : Nat} {G : List (List Int)} (h : NextI a k G) (hk : k < a.edges.length) {f t : Nat} (hf : a.edges[k].frm = f) (ht : a.edges[k].to = t) (hfG : f < G.length) : NextI a (k + 1) (G.set f (G[f] ++ [(t : Int)])) := by
  refine ⟨by simp [h.len], ?_, ?_⟩
  · intro x hx z
    have hx' : x < G.length := by simpa using hx
    rw [List.getElem_set, List.take_add_one, List.getElem?_eq_getElem hk]
    simp only [Option.toList_some, List.mem_append, List.mem_singleton]
    by_cases e : f = x
    · subst e
      simp only [if_true, List.mem_append, List.mem_singleton, h.mem f hx']
      constructor
      · rintro (⟨e, h1, h2⟩ | rfl)
        · exact ⟨e, .inl h1, h2⟩
        · exact ⟨_, .inr rfl, hf, ht⟩
      · rintro ⟨e, h1 | rfl, h2, h3⟩
        · exact .inl ⟨e, h1, h2, h3⟩
        · exact .inr (by rw [← h3, ht])
    · rw [if_neg e, h.mem x hx']
      constructor
      · rintro ⟨e, h1, h2⟩; exact ⟨e, .inl h1, h2⟩
      · rintro ⟨e', h1 | rfl, h2, h3⟩
        · exact ⟨e', h1, h2, h3⟩
        · rw [hf] at h2; omega
  · intro x hx
    have hx' : x < G.length := by simpa using hx
    rw [List.getElem_set]
    have := h.le x hx'
    split
    · rename_i e; subst e; simp; omega
    · omega
theorem NextI.skip {a : Aut} {k : Nat} {G : List (List Int)} (h : NextI a k G) (hk : k < a.edges.length) {f t : Nat} (hf : a.edges[k].frm = f) (ht : a.edges[k].to = t) (hfG : f < G.length) (hm : (t : Int) ∈ G[f]) : NextI a (k + 1) G := by
  refine ⟨h.len, ?_, fun x hx => by have := h.le x hx; omega⟩
  intro x hx z
  rw [List.take_add_one, List.getElem?_eq_getElem hk, h.mem x hx]
  simp only [Option.toList_some, List.mem_append, List.mem_singleton]
  constructor
  · rintro ⟨e, h1, h2⟩; exact ⟨e, .inl h1, h2⟩
  · rintro ⟨e', h1 | rfl, h2, h3⟩
    · exact ⟨e', h1, h2, h3⟩
    · rw [hf] at h2
      obtain rfl : f = x := by omega
      rw [← h3, ht]
      exact (h.mem f hfG _).1 hm
theorem NextI.done {a : Aut} {k : Nat} {G : List (List Int)} (ha : a.Ok) (h : NextI a k G) (hk : a.edges.length ≤ k) : Adj a.E G := by
  refine ⟨fun x y hxy => by rw [h.len]; exact a.E_lt ha x y hxy, fun x hx z => ?_⟩
  rw [h.mem x hx, List.take_of_length_le hk]
  constructor
  · rintro ⟨e, he, h1, h2⟩
    have h3 := ha.2.2.2 e he
    unfold Tr.Ok at h3
    exact ⟨e.to.toNat, by omega, e, he, h1, by omega⟩
  · rintro ⟨y, rfl, e, he, h1, h2⟩
    exact ⟨e, he, h1, h2⟩
end Go.Proofs.Ytglnelcmcimljaa

namespace Go.Proofs.Ytglnelcmcimljaa
open Go
theorem incr_iff {n : Int} : ∀ {lo : Int} {l : List Int}, incr n lo l ↔ l.Pairwise (· < ·) ∧ ∀ x ∈ l, lo < x ∧ x < n
  | lo, [] => by simp [incr]
  | lo, x :: l => by
    rw [show incr n lo (x :: l) ↔ lo < x ∧ x < n ∧ incr n x l from Iff.rfl, incr_iff, List.pairwise_cons]
    constructor
    · rintro ⟨h1, h2, h3, h4⟩
      refine ⟨⟨fun y hy => (h4 y hy).1, h3⟩, fun y hy => ?_⟩
      rcases List.mem_cons.1 hy with rfl | hy
      · exact ⟨h1, h2⟩
      · have := h4 y hy; omega
    · rintro ⟨⟨h1, h2⟩, h3⟩
      exact ⟨(h3 x (by simp)).1, (h3 x (by simp)).2, h2, fun y hy => ⟨h1 y hy, (h3 y (by simp [hy])).2⟩⟩
theorem pairwise_ext : ∀ {l l' : List Int}, l.Pairwise (· < ·) → l'.Pairwise (· < ·) → (∀ x, x ∈ l ↔ x ∈ l') → l = l'
  | [], [], _, _, _ => rfl
  | [], y :: l', _, _, h => by have := (h y).2 (by simp); simp at this
  | x :: l, [], _, _, h => by have := (h x).1 (by simp); simp at this
  | x :: l, y :: l', h1, h2, h => by
    rw [List.pairwise_cons] at h1 h2
    have hxy : x = y := by
      have a1 := (h x).1 (by simp)
      have a2 := (h y).2 (by simp)
      rcases List.mem_cons.1 a1 with a1 | a1
      · exact a1
      · rcases List.mem_cons.1 a2 with a2 | a2
        · exact a2.symm
        · have b1 := h2.1 x a1
          have b2 := h1.1 y a2
          omega
    subst hxy
    congr 1
    refine pairwise_ext h1.2 h2.2 fun z => ?_
    constructor
    · intro hz
      rcases List.mem_cons.1 ((h z).1 (by simp [hz])) with rfl | h3
      · have := h1.1 z hz; omega
      · exact h3
    · intro hz
      rcases List.mem_cons.1 ((h z).2 (by simp [hz])) with rfl | h3
      · have := h2.1 z hz; omega
      · exact h3
theorem incr_ext {n : Int} {lo lo' : Int} {l l' : List Int} (h : incr n lo l) (h' : incr n lo' l') (hm : ∀ x, x ∈ l ↔ x ∈ l') : l = l' :=
  pairwise_ext (incr_iff.1 h).1 (incr_iff.1 h').1 hm
def memL (K : Nat → Bool) (i : Nat) : List Int := ((List.range i).filter K).map fun (q : Nat) => (q : Int)
theorem memL_succ {K : Nat → Bool} {i : Nat} : memL K (i + 1) = memL K i ++ if K i then [(i : Int)] else [] := by
  simp only [memL, List.range_succ, List.filter_append, List.map_append, List.filter_cons, List.filter_nil]
  congr 1
  split <;> simp
theorem memL_mem {K : Nat → Bool} {i : Nat} {x : Int} : x ∈ memL K i ↔ ∃ q : Nat, x = q ∧ q < i ∧ K q = true := by
  simp only [memL, List.mem_map, List.mem_filter, List.mem_range]
  constructor
  · rintro ⟨q, ⟨h1, h2⟩, rfl⟩; exact ⟨q, rfl, h1, h2⟩
  · rintro ⟨q, rfl, h1, h2⟩; exact ⟨q, ⟨h1, h2⟩, rfl⟩
theorem memL_incr {K : Nat → Bool} {n : Nat} : ∀ {i : Nat}, i ≤ n → incr n (-1) (memL K i)
  | 0, _ => trivial
  | i + 1, h => by
    rw [memL_succ]
    have ih := incr_iff.1 (memL_incr (K := K) (n := n) (i := i) (by omega))
    split
    · rw [incr_iff, List.pairwise_append]
      refine ⟨⟨ih.1, List.pairwise_singleton _ _, fun x hx y hy => ?_⟩, fun x hx => ?_⟩
      · obtain ⟨q, rfl, hq, _⟩ := memL_mem.1 hx
        have : y = i := by simpa using hy
        omega
      · rcases List.mem_append.1 hx with hx | hx
        · exact ih.2 x hx
        · have : x = i := by simpa using hx
          omega
    · simpa using incr_iff.2 ih
theorem memL_length {K : Nat → Bool} {i : Nat} : (memL K i).length ≤ i := by
  have := List.length_filter_le K (List.range i)
  simpa [memL] using this
def Aut.beg (a : Aut) (q : Nat) : Prop := (q : Int) ∈ a.init ∧ a.Live q
def Aut.aft (a : Aut) (S : Nat → Prop) (letter : Int) (t : Nat) : Prop := a.Live t ∧ ∃ e ∈ a.edges, S e.frm.toNat ∧ e.to = t ∧ e.on letter = true
def Aut.behind (a : Aut) (w : List Int) : Nat → Prop := w.foldl a.aft a.beg
theorem foldl_take {α β : Type} {f : β → α → β} {b : β} {l : List α} {i : Nat} (hi : i < l.length) : (l.take (i + 1)).foldl f b = f ((l.take i).foldl f b) l[i] := by
  rw [List.take_add_one, List.getElem?_eq_getElem hi, List.foldl_append]; rfl
noncomputable def Aut.states (a : Aut) (w : List Int) : List Int := memL (fun q => @decide (a.behind w q) (Classical.propDecidable _)) a.acc.length
theorem Aut.states_incr {a : Aut} {w : List Int} : incr a.acc.length (-1) (a.states w) := memL_incr (Nat.le_refl _)
theorem Aut.states_eq {a : Aut} {w : List Int} {l : List Int} (h : incr a.acc.length (-1) l) (hm : ∀ q : Nat, (q : Int) ∈ l ↔ q < a.acc.length ∧ a.behind w q) : l = a.states w := by
  refine incr_ext h a.states_incr fun x => ?_
  rw [Aut.states, memL_mem]
  simp only [decide_eq_true_eq]
  constructor
  · intro hx
    have := incr_mem h x hx
    obtain ⟨q, rfl⟩ : ∃ q : Nat, x = q := ⟨x.toNat, by omega⟩
    exact ⟨q, rfl, (hm q).1 hx⟩
  · rintro ⟨q, rfl, h1, h2⟩
    exact (hm q).2 ⟨h1, h2⟩
def Wok (w : List Int) : Prop := w.length ≤ 200 ∧ ∀ x ∈ w, 0 ≤ x ∧ x ≤ 7
instance (w : List Int) : Decidable (Wok w) := by unfold Wok; infer_instance
structure InsI (l : List Int) (y : Int) (i : Nat) (dn : Bool) (o : List Int) : Prop where
  no : ∀ j (hj : j < l.length), j < i → l[j] ≠ y
  len : o.length ≤ i + 1
  ff : dn = false → o = l.take i ∧ ∀ x ∈ l.take i, x < y
  tt : dn = true → ∃ k, k ≤ i ∧ o = l.take k ++ y :: (l.take i).drop k ∧ (∀ x ∈ l.take k, x < y) ∧ ∀ x ∈ l.drop k, y < x
theorem InsI.zero {l : List Int} {y : Int} : InsI l y 0 false [] := ⟨by simp, by simp, by simp, by simp⟩
theorem InsI.big {l : List Int} {y : Int} {i : Nat} {o : List Int} (hp : l.Pairwise (· < ·)) (h : InsI l y i false o) (hi : i < l.length) (hy : y < l[i]) : InsI l y (i + 1) true (o ++ [y] ++ [l[i]]) := by
  obtain ⟨h1, h2⟩ := h.ff rfl
  have hl := h.len
  refine ⟨?_, ?_, by simp, fun _ => ⟨i, by omega, ?_, h2, ?_⟩⟩
  · intro j hj hji
    by_cases e : j = i
    · subst e; omega
    · exact h.no j hj (by omega)
  · rw [h1]; simp; omega
  · rw [h1, List.take_add_one, List.getElem?_eq_getElem hi, List.drop_append, List.drop_take]
    simp [Nat.min_eq_left (Nat.le_of_lt hi)]
  · intro x hx
    rw [List.drop_eq_getElem_cons hi] at hx
    rcases List.mem_cons.1 hx with rfl | hx
    · exact hy
    · have h3 : l = l.take (i + 1) ++ l.drop (i + 1) := (List.take_append_drop _ _).symm
      rw [h3, List.pairwise_append] at hp
      have h4 := hp.2.2 l[i] (by rw [List.take_add_one, List.getElem?_eq_getElem hi]; exact List.mem_append_right _ (by simp)) x hx
      omega
theorem InsI.more {l : List Int} {y : Int} {i : Nat} {o : List Int} (h : InsI l y i true o) (hi : i < l.length) (hy : l[i] ≠ y) : InsI l y (i + 1) true (o ++ [l[i]]) := by
  obtain ⟨k, h1, h2, h3, h4⟩ := h.tt rfl
  refine ⟨?_, ?_, by simp, fun _ => ⟨k, by omega, ?_, h3, h4⟩⟩
  · intro j hj hji
    by_cases e : j = i
    · subst e; exact hy
    · exact h.no j hj (by omega)
  · rw [h2]; simp; omega
  · rw [h2, List.take_add_one, List.getElem?_eq_getElem hi, List.drop_append_of_le_length (by simp; omega)]
    simp
theorem InsI.small {l : List Int} {y : Int} {i : Nat} {o : List Int} (h : InsI l y i false o) (hi : i < l.length) (hy : l[i] < y) : InsI l y (i + 1) false (o ++ [l[i]]) := by
  obtain ⟨h1, h2⟩ := h.ff rfl
  refine ⟨?_, ?_, fun _ => ⟨?_, ?_⟩, by simp⟩
  · intro j hj hji
    by_cases e : j = i
    · subst e; omega
    · exact h.no j hj (by omega)
  · rw [h1]; simp; omega
  · rw [h1, List.take_add_one, List.getElem?_eq_getElem hi]; simp
  · intro x hx
    rw [List.take_add_one, List.getElem?_eq_getElem hi] at hx
    rcases List.mem_append.1 hx with hx | hx
    · exact h2 x hx
    · have : x = l[i] := by simpa using hx
      omega
theorem InsI.result {n : Int} {lo : Int} {l : List Int} {y : Int} {i : Nat} {dn : Bool} {o : List Int} (hl : incr n lo l) (hy : lo < y ∧ y < n) (h : InsI l y i dn o) (hi : l.length ≤ i) : incr n lo (if dn then o else o ++ [y]) ∧ ∀ x, x ∈ (if dn then o else o ++ [y]) ↔ x ∈ l ∨ x = y := by
  obtain ⟨g1, g2⟩ := incr_iff.1 hl
  cases dn with
  | false =>
    obtain ⟨h1, h2⟩ := h.ff rfl
    rw [List.take_of_length_le hi] at h1 h2
    subst h1
    simp only [Bool.false_eq_true, if_false, incr_iff, List.pairwise_append, List.mem_append, List.mem_singleton]
    refine ⟨⟨⟨g1, List.pairwise_singleton _ _, fun a ha b hb => hb ▸ h2 a ha⟩, fun x hx => ?_⟩, fun _ => trivial⟩
    rcases hx with hx | rfl
    · exact g2 x hx
    · exact hy
  | true =>
    obtain ⟨k, _, h2, h3, h4⟩ := h.tt rfl
    rw [List.take_of_length_le hi] at h2
    have h5 : l = l.take k ++ l.drop k := (List.take_append_drop _ _).symm
    have hm : ∀ x, x ∈ o ↔ x ∈ l ∨ x = y := by
      intro x
      rw [h2, List.mem_append, List.mem_cons]
      conv => rhs; rw [h5, List.mem_append]
      constructor
      · rintro (h | h | h)
        · exact .inl (.inl h)
        · exact .inr h
        · exact .inl (.inr h)
      · rintro ((h | h) | h)
        · exact .inl h
        · exact .inr (.inr h)
        · exact .inr (.inl h)
    simp only [if_true]
    refine ⟨incr_iff.2 ⟨?_, fun x hx => ?_⟩, hm⟩
    · rw [h5, List.pairwise_append] at g1
      rw [h2, List.pairwise_append, List.pairwise_cons]
      refine ⟨g1.1, ⟨h4, g1.2.1⟩, fun a ha b hb => ?_⟩
      rcases List.mem_cons.1 hb with rfl | hb
      · exact h3 a ha
      · exact g1.2.2 a ha b hb
    · rcases (hm x).1 hx with hx | rfl
      · exact g2 x hx
      · exact hy
end Go.Proofs.Ytglnelcmcimljaa

namespace Go.Proofs.Ytglnelcmcimljaa
open Go
def EdgeB (es : List Tr) (i l j : Nat) : Prop := ∃ e ∈ es, e.frm = i ∧ e.to = j ∧ e.on l = true
def matR (M : List (List Bool)) : Rl := fun i j => (M.getD i []).getD j false
theorem matR_get {M : List (List Bool)} {i j : Nat} (hi : i < M.length) (hj : j < M[i].length) : matR M i j = M[i][j] := by
  simp [matR, hi, hj]
def Tab (es : List Tr) (n : Nat) (T : List W8) : Prop := T.length = n ∧ ∀ i l k, i < n → l < 8 → k < 64 → (((T.getD i W8.zero).at l).getLsbD k = true ↔ EdgeB es i l k)
def Tab2 (es : List Tr) (e : Tr) (m : Nat) (n : Nat) (T : List W8) : Prop := T.length = n ∧ ∀ i l k, i < n → l < 8 → k < 64 → (((T.getD i W8.zero).at l).getLsbD k = true ↔ EdgeB es i l k ∨ (l < m ∧ e.frm = i ∧ e.to = k ∧ e.on l = true))
theorem Tab.zero (n : Nat) : Tab [] n (List.replicate n W8.zero) := by
  refine ⟨by simp, fun i l k hi hl hk => ?_⟩
  have h1 : (List.replicate n W8.zero).getD i W8.zero = W8.zero := by
    rw [List.getD_eq_getElem?_getD, List.getElem?_replicate]; split <;> rfl
  rw [h1]
  have h2 : W8.zero.at l = 0 := by
    simp only [W8.at, W8.zero, List.getD_eq_getElem?_getD, List.getElem?_replicate]; split <;> rfl
  rw [h2]
  simp [EdgeB]
theorem Tab.start {es : List Tr} {n : Nat} {T : List W8} (h : Tab es n T) (e : Tr) : Tab2 es e 0 n T :=
  ⟨h.1, fun i l k hi hl hk => by rw [h.2 i l k hi hl hk]; simp⟩
theorem Tab2.skip {es : List Tr} {n m : Nat} {T : List W8} {e : Tr} (h : Tab2 es e m n T) (ho : e.on m = false) : Tab2 es e (m + 1) n T := by
  refine ⟨h.1, fun i l k hi hl hk => ?_⟩
  rw [h.2 i l k hi hl hk]
  by_cases hm : l = m
  · subst hm; simp [ho]
  · have : l < m ↔ l < m + 1 := by omega
    rw [this]
theorem Tab2.put {es : List Tr} {n m : Nat} {T : List W8} {e : Tr} (h : Tab2 es e m n T) (ho : e.on m = true) (hm : m < 8) {f t : Nat} (hf : e.frm = f) (ht : e.to = t) (hfn : f < n) (htn : t < 64) :
    Tab2 es e (m + 1) n (T.set f ((T[f]'(h.1 ▸ hfn)).put m (setB ((T[f]'(h.1 ▸ hfn)).at m) t))) := by
  have hfl : f < T.length := h.1 ▸ hfn
  refine ⟨by simpa using h.1, fun i l k hi hl hk => ?_⟩
  have h1 := h.2 i l k hi hl hk
  rw [List.getD_eq_getElem?_getD, List.getElem?_set]
  rw [List.getD_eq_getElem?_getD] at h1
  by_cases hfi : f = i
  · subst hfi
    simp only [hfl, List.getElem?_eq_getElem, Option.getD_some, if_true] at h1 ⊢
    rw [W8.put_at _ hm]
    by_cases hlm : l = m
    · subst hlm
      rw [if_pos rfl, setB_get htn]
      simp only [Bool.or_eq_true, h1, decide_eq_true_eq]
      have : l < l + 1 := by omega
      constructor
      · rintro ((h2 | h2) | h2)
        · exact .inl h2
        · omega
        · exact .inr ⟨this, hf, by rw [ht, h2], ho⟩
      · rintro (h2 | ⟨_, _, h2, _⟩)
        · exact .inl (.inl h2)
        · exact .inr (by rw [ht] at h2; omega)
    · rw [if_neg hlm, h1]
      have : l < m ↔ l < m + 1 := by omega
      rw [this]
  · rw [if_neg hfi, h1]
    constructor
    · rintro (h2 | ⟨h3, h4, h5⟩)
      · exact .inl h2
      · exact .inr ⟨by omega, h4, h5⟩
    · rintro (h2 | ⟨h3, h4, h5⟩)
      · exact .inl h2
      · rw [hf] at h4; omega
theorem Tab2.done {es : List Tr} {n : Nat} {T : List W8} {k : Nat} (hk : k < es.length) (h : Tab2 (es.take k) es[k] 8 n T) : Tab (es.take (k + 1)) n T := by
  refine ⟨h.1, fun i l j hi hl hj => ?_⟩
  rw [h.2 i l j hi hl hj, List.take_add_one, List.getElem?_eq_getElem hk]
  simp only [EdgeB, List.mem_append, Option.toList_some, List.mem_singleton]
  constructor
  · rintro (⟨e, h1, h2⟩ | ⟨_, h2⟩)
    · exact ⟨e, .inl h1, h2⟩
    · exact ⟨_, .inr rfl, h2⟩
  · rintro ⟨e, h1 | rfl, h2⟩
    · exact .inl ⟨e, h1, h2⟩
    · exact .inr ⟨hl, h2⟩
end Go.Proofs.Ytglnelcmcimljaa

namespace Go.Proofs.Ytglnelcmcimljaa
open Go
def grpS (e : Nat → Nat → Bool) : Nat → List Nat × Nat
  | 0 => ([], 0)
  | i + 1 => match (List.range i).find? (fun k => e i k) with
    | some k => ((grpS e i).1 ++ [(grpS e i).1.getD k 0], (grpS e i).2)
    | none => ((grpS e i).1 ++ [(grpS e i).2], (grpS e i).2 + 1)
theorem grpS_old {e : Nat → Nat → Bool} {i k : Nat} (h : (List.range i).find? (fun k => e i k) = some k) : grpS e (i + 1) = ((grpS e i).1 ++ [(grpS e i).1.getD k 0], (grpS e i).2) := by simp [grpS, h]
theorem grpS_new {e : Nat → Nat → Bool} {i : Nat} (h : (List.range i).find? (fun k => e i k) = none) : grpS e (i + 1) = ((grpS e i).1 ++ [(grpS e i).2], (grpS e i).2 + 1) := by simp [grpS, h]
theorem find_none {p : Nat → Bool} {i : Nat} (hn : ∀ j, j < i → p j = false) : (List.range i).find? p = none := by
  rw [List.find?_eq_none]
  intro x hx
  simp [hn x (by simpa using hx)]
theorem find_lt {p : Nat → Bool} {i k : Nat} (h : (List.range i).find? p = some k) : k < i := by
  have := List.mem_of_find?_eq_some h
  simpa using this
theorem grpS_len {e : Nat → Nat → Bool} : ∀ i, (grpS e i).1.length = i
  | 0 => rfl
  | i + 1 => by
    cases h : (List.range i).find? (fun k => e i k) with
    | some k => rw [grpS_old h]; simp [grpS_len i]
    | none => rw [grpS_new h]; simp [grpS_len i]
theorem grpS_le {e : Nat → Nat → Bool} : ∀ i, (grpS e i).2 ≤ i
  | 0 => Nat.le_refl _
  | i + 1 => by
    have := grpS_le (e := e) i
    cases h : (List.range i).find? (fun k => e i k) with
    | some k => rw [grpS_old h]; exact Nat.le_succ_of_le this
    | none => rw [grpS_new h]; exact Nat.succ_le_succ this
theorem grpS_pos {e : Nat → Nat → Bool} : ∀ i, 1 ≤ i → 1 ≤ (grpS e i).2
  | 0, h => by omega
  | i + 1, _ => by
    cases h : (List.range i).find? (fun k => e i k) with
    | some k =>
      rw [grpS_old h]
      exact grpS_pos i (by have := find_lt h; omega)
    | none => rw [grpS_new h]; exact Nat.succ_le_succ (Nat.zero_le _)
theorem grpS_lt {e : Nat → Nat → Bool} : ∀ i, ∀ x ∈ (grpS e i).1, x < (grpS e i).2
  | 0, x, hx => by simp [grpS] at hx
  | i + 1, x, hx => by
    cases h : (List.range i).find? (fun k => e i k) with
    | some k =>
      have hk := find_lt h
      rw [grpS_old h] at hx ⊢
      rcases List.mem_append.1 hx with hx | hx
      · exact grpS_lt i x hx
      · obtain rfl : x = (grpS e i).1.getD k 0 := by simpa using hx
        have hl := grpS_len (e := e) i
        rw [List.getD_eq_getElem?_getD, List.getElem?_eq_getElem (by omega)]
        exact grpS_lt i _ (List.getElem_mem (by omega))
    | none =>
      rw [grpS_new h] at hx ⊢
      rcases List.mem_append.1 hx with hx | hx
      · have := grpS_lt i x hx
        show x < (grpS e i).2 + 1
        omega
      · obtain rfl : x = (grpS e i).2 := by simpa using hx
        exact Nat.lt_succ_self _
theorem grpS_get {e : Nat → Nat → Bool} {n : Nat} : ∀ {i q : Nat}, q < i → i ≤ n → (grpS e n).1.getD q 0 = (grpS e i).1.getD q 0 := by
  have key : ∀ m i q, q < i → (grpS e (i + m)).1.getD q 0 = (grpS e i).1.getD q 0 := by
    intro m
    induction m with
    | zero => intros; rfl
    | succ m ih =>
      intro i q hq
      have hl := grpS_len (e := e) (i + m)
      rw [← ih i q hq, show i + (m + 1) = (i + m) + 1 by omega]
      cases h : (List.range (i + m)).find? (fun k => e (i + m) k) with
      | some k =>
        rw [grpS_old h]
        simp only [List.getD_eq_getElem?_getD]
        rw [List.getElem?_append_left (by omega)]
      | none =>
        rw [grpS_new h]
        simp only [List.getD_eq_getElem?_getD]
        rw [List.getElem?_append_left (by omega)]
  intro i q hq hi
  have := key (n - i) i q hq
  rwa [show i + (n - i) = n by omega] at this
theorem grpS_congr {e e' : Nat → Nat → Bool} : ∀ {i : Nat}, (∀ x y, x < i → y < x → e x y = e' x y) → grpS e i = grpS e' i
  | 0, _ => rfl
  | i + 1, h => by
    have ih := grpS_congr (e := e) (e' := e') (i := i) fun x y hx hy => h x y (by omega) hy
    have hf : (List.range i).find? (fun k => e i k) = (List.range i).find? (fun k => e' i k) := by
      have hall : ∀ l : List Nat, (∀ k ∈ l, k < i) → l.find? (fun k => e i k) = l.find? (fun k => e' i k) := by
        intro l
        induction l with
        | nil => intro _; rfl
        | cons x l ihl =>
          intro hl
          rw [List.find?_cons, List.find?_cons, h i x (by omega) (hl x (by simp)), ihl fun k hk => hl k (by simp [hk])]
      exact hall _ fun k hk => by simpa using hk
    cases hc : (List.range i).find? (fun k => e i k) with
    | some k => rw [grpS_old hc, grpS_old (hf ▸ hc), ih]
    | none => rw [grpS_new hc, grpS_new (hf ▸ hc), ih]
def accG (a : Aut) (e : Nat → Nat → Bool) : Nat → List Bool
  | 0 => []
  | i + 1 => match (List.range i).find? (fun k => e i k) with
    | some _ => accG a e i
    | none => accG a e i ++ [a.acc.getD i false]
theorem accG_len {a : Aut} {e : Nat → Nat → Bool} : ∀ i, (accG a e i).length = (grpS e i).2
  | 0 => rfl
  | i + 1 => by
    cases h : (List.range i).find? (fun k => e i k) with
    | some k => rw [grpS_old h]; simp [accG, h, accG_len i]
    | none => rw [grpS_new h]; simp [accG, h, accG_len i]
theorem accG_congr {a : Aut} {e e' : Nat → Nat → Bool} : ∀ {i : Nat}, (∀ x y, x < i → y < x → e x y = e' x y) → accG a e i = accG a e' i
  | 0, _ => rfl
  | i + 1, h => by
    have ih := accG_congr (a := a) (e := e) (e' := e') (i := i) fun x y hx hy => h x y (by omega) hy
    have hf : (List.range i).find? (fun k => e i k) = (List.range i).find? (fun k => e' i k) := by
      have hall : ∀ l : List Nat, (∀ k ∈ l, k < i) → l.find? (fun k => e i k) = l.find? (fun k => e' i k) := by
        intro l
        induction l with
        | nil => intro _; rfl
        | cons x l ihl =>
          intro hl
          rw [List.find?_cons, List.find?_cons, h i x (by omega) (hl x (by simp)), ihl fun k hk => hl k (by simp [hk])]
      exact hall _ fun k hk => by simpa using hk
    simp only [accG, hf, ih]
def ded (l : List Tr) : List Tr := l.foldl (fun o f => if f ∈ o then o else o ++ [f]) []
theorem ded_mem {l : List Tr} {x : Tr} : x ∈ ded l ↔ x ∈ l := by
  have key : ∀ (l o : List Tr), x ∈ l.foldl (fun o f => if f ∈ o then o else o ++ [f]) o ↔ x ∈ o ∨ x ∈ l := by
    intro l
    induction l with
    | nil => simp
    | cons y l ih =>
      intro o
      rw [List.foldl_cons, ih]
      by_cases h : y ∈ o
      · rw [if_pos h]
        constructor
        · rintro (h1 | h1)
          · exact .inl h1
          · exact .inr (by simp [h1])
        · rintro (h1 | h1)
          · exact .inl h1
          · rcases List.mem_cons.1 h1 with rfl | h1
            · exact .inl h
            · exact .inr h1
      · rw [if_neg h]
        simp [or_assoc]
  have := key l []
  simpa [ded] using this
theorem ded_len {l : List Tr} : (ded l).length ≤ l.length := by
  have key : ∀ (l o : List Tr), (l.foldl (fun o f => if f ∈ o then o else o ++ [f]) o).length ≤ o.length + l.length := by
    intro l
    induction l with
    | nil => simp
    | cons y l ih =>
      intro o
      rw [List.foldl_cons]
      refine Nat.le_trans (ih _) ?_
      split <;> simp <;> omega
  have := key l []
  simpa [ded] using this
def gnm (e : Nat → Nat → Bool) (n : Nat) (x : Int) : Int := ((grpS e n).1.getD x.toNat 0 : Nat)
theorem gnm_lt {e : Nat → Nat → Bool} {n : Nat} {x : Int} (h0 : 0 ≤ x) (h1 : x < n) : 0 ≤ gnm e n x ∧ gnm e n x < (grpS e n).2 := by
  have hl := grpS_len (e := e) n
  have hx : x.toNat < (grpS e n).1.length := by omega
  have := grpS_lt (e := e) n _ (List.getElem_mem hx)
  unfold gnm
  rw [List.getD_eq_getElem?_getD, List.getElem?_eq_getElem hx]
  simp only [Option.getD_some]
  omega
def Aut.mergeE (a : Aut) (e : Nat → Nat → Bool) : Aut :=
  ⟨memL (fun b => a.init.any fun q => decide (gnm e a.acc.length q = (b : Int))) (grpS e a.acc.length).2, accG a e a.acc.length, ded (a.edges.map (Tr.ren (gnm e a.acc.length)))⟩
theorem Aut.mergeE_ok {a : Aut} (ha : a.Ok) (e : Nat → Nat → Bool) : (a.mergeE e).Ok := by
  have hn := ha.n
  have h1 := grpS_le (e := e) a.acc.length
  have h2 := grpS_pos (e := e) a.acc.length hn.1
  have h3 := accG_len (a := a) (e := e) a.acc.length
  have h4 := ded_len (l := a.edges.map (Tr.ren (gnm e a.acc.length)))
  simp only [List.length_map] at h4
  have h5 := ha.e
  refine ⟨⟨by show 1 ≤ (accG a e a.acc.length).length; omega, by show (accG a e a.acc.length).length ≤ 64; omega⟩, Nat.le_trans h4 h5, ?_, ?_⟩
  · show incr ((accG a e a.acc.length).length : Nat) (-1) _
    rw [h3]
    exact memL_incr (Nat.le_refl _)
  · intro t ht
    show t.Ok ((accG a e a.acc.length).length : Nat)
    rw [h3]
    have ht : t ∈ ded (a.edges.map (Tr.ren (gnm e a.acc.length))) := ht
    rw [ded_mem] at ht
    obtain ⟨x, hx, rfl⟩ := List.mem_map.1 ht
    have hx2 := ha.2.2.2 x hx
    unfold Tr.Ok at hx2 ⊢
    have g1 := gnm_lt (e := e) hx2.1 hx2.2.1
    have g2 := gnm_lt (e := e) hx2.2.2.1 hx2.2.2.2.1
    simp only [Tr.ren]
    exact ⟨g1.1, g1.2, g2.1, g2.2, hx2.2.2.2.2⟩
theorem Aut.mergeE_congr {a : Aut} {e e' : Nat → Nat → Bool} (h : ∀ x y, x < a.acc.length → y < x → e x y = e' x y) : a.mergeE e = a.mergeE e' := by
  have h1 := grpS_congr h
  have h2 := accG_congr (a := a) h
  have h3 : gnm e a.acc.length = gnm e' a.acc.length := by funext x; simp only [gnm, h1]
  simp only [Aut.mergeE, h1, h2, h3]
def eqv (R : Rl) : Nat → Nat → Bool := fun i k => R i k && R k i
noncomputable def Aut.mrg (a : Aut) : Aut := a.mergeE (eqv (@Classical.epsilon Rl ⟨fun _ _ => true⟩ (Great a)))
theorem Aut.mrg_eq {a : Aut} {R : Rl} (h : Great a R) : a.mergeE (eqv R) = a.mrg := by
  have h2 : Great a (@Classical.epsilon Rl ⟨fun _ _ => true⟩ (Great a)) := Classical.epsilon_spec_aux ⟨fun _ _ => true⟩ (Great a) ⟨R, h⟩
  refine Aut.mergeE_congr fun x y hx hy => ?_
  simp only [eqv]
  rw [h.eq h2 hx (by omega), h.eq h2 (i := y) (j := x) (by omega) hx]
theorem Aut.mrg_ok {a : Aut} (ha : a.Ok) : a.mrg.Ok := Aut.mergeE_ok ha _
end Go.Proofs.Ytglnelcmcimljaa

namespace Go.Proofs.Ytglnelcmcimljaa
open Go
theorem kidx_all {K : Nat → Bool} : ∀ {n : Nat}, kidx K n = n → ∀ q, q < n → K q = true ∧ kidx K q = q
  | 0, _, q, hq => absurd hq (Nat.not_lt_zero q)
  | n + 1, h, q, hq => by
    rw [kidx_succ] at h
    have hl := kidx_le (K := K) (q := n)
    have hk : K n = true := by
      cases hk : K n with
      | true => rfl
      | false => rw [hk] at h; simp at h; omega
    rw [hk] at h
    simp only [if_true] at h
    have h1 : kidx K n = n := by omega
    by_cases e : q = n
    · subst e; exact ⟨hk, h1⟩
    · exact kidx_all h1 q (by omega)
theorem map_range_getD {l : List Bool} : ((List.range l.length).map fun q => l.getD q false) = l := by
  apply List.ext_getElem (by simp)
  intro i h1 h2
  simp [h2]
theorem Aut.ext3 {a b : Aut} (h1 : a.init = b.init) (h2 : a.acc = b.acc) (h3 : a.edges = b.edges) : a = b := by
  cases a; cases b; simp_all
theorem Aut.keep_full {a : Aut} (ha : a.Ok) {K : Nat → Bool} (h : kidx K a.acc.length = a.acc.length) : a.keep K = a := by
  have hn := ha.n
  have hall := kidx_all h
  unfold Aut.keep
  rw [if_neg (by omega)]
  refine Aut.ext3 ?_ ?_ ?_
  · show (a.init.filter _).map _ = _
    rw [List.filter_eq_self.2]
    · conv => rhs; rw [← List.map_id a.init]
      apply List.map_congr_left
      intro q hq
      have := incr_mem ha.i q hq
      have h1 := (hall q.toNat (by omega)).2
      simp only [kout, h1, id]
      omega
    · intro q hq
      have := incr_mem ha.i q hq
      exact (hall q.toNat (by omega)).1
  · show ((List.range a.acc.length).filter K).map _ = _
    rw [List.filter_eq_self.2]
    · exact map_range_getD
    · intro q hq
      exact (hall q (by simpa using hq)).1
  · show (a.edges.filter _).map _ = _
    rw [List.filter_eq_self.2]
    · conv => rhs; rw [← List.map_id a.edges]
      apply List.map_congr_left
      intro e he
      have hx := ha.2.2.2 e he
      unfold Tr.Ok at hx
      have h1 := (hall e.frm.toNat (by omega)).2
      have h2 := (hall e.to.toNat (by omega)).2
      have e1 : ((e.frm.toNat : Nat) : Int) = e.frm := by omega
      have e2 : ((e.to.toNat : Nat) : Int) = e.to := by omega
      simp only [Tr.ren, kout, h1, h2, id, e1, e2]
    · intro e he
      have hx := ha.2.2.2 e he
      unfold Tr.Ok at hx
      rw [(hall e.frm.toNat (by omega)).1, (hall e.to.toNat (by omega)).1]; rfl
theorem Aut.trim_len {a : Aut} (ha : a.Ok) : a.trim.acc.length ≤ a.acc.length ∧ (a.trim.acc.length = a.acc.length → a.trim = a ∨ (a.acc.length = 1 ∧ a.trim = ⟨[], [false], []⟩)) := by
  have hn := ha.n
  have hl := kidx_le (K := a.tkeep) (q := a.acc.length)
  by_cases h0 : kidx a.tkeep a.acc.length = 0
  · have ht : a.trim = ⟨[], [false], []⟩ := by unfold Aut.trim Aut.keep; rw [if_pos h0]
    rw [ht]
    exact ⟨hn.1, fun h => .inr ⟨h.symm, rfl⟩⟩
  · have hk : a.trim.acc.length = kidx a.tkeep a.acc.length := Aut.keep_len h0
    rw [hk]
    exact ⟨hl, fun h => .inl (Aut.keep_full ha h)⟩
theorem grpS_full {e : Nat → Nat → Bool} : ∀ {n : Nat}, (grpS e n).2 = n → (grpS e n).1 = List.range n ∧ ∀ i, i < n → (List.range i).find? (fun k => e i k) = none
  | 0, _ => ⟨rfl, fun i hi => absurd hi (Nat.not_lt_zero i)⟩
  | n + 1, h => by
    have hl := grpS_le (e := e) n
    cases hf : (List.range n).find? (fun k => e n k) with
    | some k =>
      rw [grpS_old hf] at h
      have h : (grpS e n).2 = n + 1 := h
      omega
    | none =>
      rw [grpS_new hf] at h ⊢
      have h : (grpS e n).2 + 1 = n + 1 := h
      have h1 : (grpS e n).2 = n := by omega
      obtain ⟨h2, h3⟩ := grpS_full h1
      refine ⟨by show (grpS e n).1 ++ [(grpS e n).2] = _; rw [h2, h1, List.range_succ], fun i hi => ?_⟩
      by_cases ei : i = n
      · subst ei; exact hf
      · exact h3 i (by omega)
theorem accG_full {a : Aut} {e : Nat → Nat → Bool} : ∀ {n : Nat}, (∀ i, i < n → (List.range i).find? (fun k => e i k) = none) → accG a e n = (List.range n).map fun q => a.acc.getD q false
  | 0, _ => rfl
  | n + 1, h => by
    have ih := accG_full (a := a) (e := e) (n := n) fun i hi => h i (by omega)
    simp only [accG, h n (by omega)]
    rw [ih, List.range_succ, List.map_append]
    rfl
theorem gnm_full {e : Nat → Nat → Bool} {n : Nat} (h : (grpS e n).1 = List.range n) {x : Int} (h0 : 0 ≤ x) (h1 : x < n) : gnm e n x = x := by
  unfold gnm
  rw [h]
  simp [show x.toNat < n by omega]
  omega
theorem memL_self {n : Nat} {l : List Int} (h : incr n (-1) l) {K : Nat → Bool} (hK : ∀ q, q < n → (K q = true ↔ (q : Int) ∈ l)) : memL K n = l := by
  refine incr_ext (memL_incr (Nat.le_refl _)) h fun x => ?_
  rw [memL_mem]
  constructor
  · rintro ⟨q, rfl, h1, h2⟩; exact (hK q h1).1 h2
  · intro hx
    have := incr_mem h x hx
    refine ⟨x.toNat, by omega, by omega, (hK _ (by omega)).2 ?_⟩
    rwa [Int.toNat_of_nonneg (by omega)]
theorem Aut.mergeE_full {a : Aut} (ha : a.Ok) {e : Nat → Nat → Bool} (h : (grpS e a.acc.length).2 = a.acc.length) : a.mergeE e = ⟨a.init, a.acc, ded a.edges⟩ := by
  obtain ⟨h1, h2⟩ := grpS_full h
  have hg : ∀ x : Int, 0 ≤ x → x < a.acc.length → gnm e a.acc.length x = x := fun x => gnm_full h1
  refine Aut.ext3 ?_ ?_ ?_
  · show memL _ (grpS e a.acc.length).2 = _
    rw [h]
    refine memL_self ha.i fun q hq => ?_
    simp only [List.any_eq_true, decide_eq_true_eq]
    constructor
    · rintro ⟨p, hp, h3⟩
      have := incr_mem ha.i p hp
      rw [hg p (by omega) (by omega)] at h3
      rw [← h3]; exact hp
    · intro hm
      exact ⟨q, hm, hg q (by omega) (by omega)⟩
  · show accG a e a.acc.length = _
    rw [accG_full h2, map_range_getD]
  · show ded (a.edges.map _) = ded a.edges
    congr 1
    conv => rhs; rw [← List.map_id a.edges]
    apply List.map_congr_left
    intro t ht
    have hx := ha.2.2.2 t ht
    unfold Tr.Ok at hx
    simp only [Tr.ren, hg t.frm hx.1 hx.2.1, hg t.to hx.2.2.1 hx.2.2.2.1, id]
theorem Aut.mrg_len {a : Aut} (ha : a.Ok) : a.mrg.acc.length ≤ a.acc.length ∧ (a.mrg.acc.length = a.acc.length → a.mrg = ⟨a.init, a.acc, ded a.edges⟩) := by
  have h1 : ∀ e, (a.mergeE e).acc.length = (grpS e a.acc.length).2 := fun e => accG_len a.acc.length
  unfold Aut.mrg
  rw [h1]
  exact ⟨grpS_le _, fun h => Aut.mergeE_full ha h⟩
theorem ded_same {l : List Tr} (h : l.length ≤ (ded l).length) : ded l = l := by
  have key : ∀ (l o : List Tr), (l.foldl (fun o f => if f ∈ o then o else o ++ [f]) o).length ≤ o.length + l.length ∧ (o.length + l.length ≤ (l.foldl (fun o f => if f ∈ o then o else o ++ [f]) o).length → l.foldl (fun o f => if f ∈ o then o else o ++ [f]) o = o ++ l) := by
    intro l
    induction l with
    | nil => simp
    | cons y l ih =>
      intro o
      rw [List.foldl_cons]
      by_cases hy : y ∈ o
      · rw [if_pos hy]
        obtain ⟨i1, i2⟩ := ih o
        refine ⟨by simp; omega, fun h => ?_⟩
        simp at h; omega
      · rw [if_neg hy]
        obtain ⟨i1, i2⟩ := ih (o ++ [y])
        simp only [List.length_append, List.length_cons, List.length_nil] at i1 i2
        refine ⟨by simp; omega, fun h => ?_⟩
        rw [i2 (by simp at h; omega)]
        simp
  have := (key l []).2 (by simpa [ded] using h)
  simpa [ded] using this
noncomputable def Aut.rnd (a : Aut) : Aut := a.trim.mrg
def Aut.mea (a : Aut) : Nat := a.acc.length * 4096 + a.acc.count true + a.init.length + a.edges.length
theorem Aut.trim_ok {a : Aut} (ha : a.Ok) : a.trim.Ok := Aut.keep_ok ha _
theorem Aut.rnd_ok {a : Aut} (ha : a.Ok) : a.rnd.Ok := Aut.mrg_ok (Aut.trim_ok ha)
theorem Aut.rnd_less {a : Aut} (ha : a.Ok) (hne : a.rnd ≠ a) : a.rnd.mea < a.mea := by
  have ht := Aut.trim_ok ha
  have hr := Aut.rnd_ok ha
  obtain ⟨t1, t2⟩ := Aut.trim_len ha
  obtain ⟨m1, m2⟩ := Aut.mrg_len ht
  have m1 : a.rnd.acc.length ≤ a.trim.acc.length := m1
  have b1 := hr.il
  have b2 := hr.e
  have b3 := List.count_le_length (a := true) (l := a.rnd.acc)
  have b4 := hr.n
  by_cases hlt : a.rnd.acc.length < a.acc.length
  · unfold Aut.mea
    omega
  · have e1 : a.trim.acc.length = a.acc.length := by omega
    have hm : a.rnd = ⟨a.trim.init, a.trim.acc, ded a.trim.edges⟩ := m2 (by show a.rnd.acc.length = _; omega)
    rcases t2 e1 with h | ⟨h1, h⟩
    · rw [h] at hm
      have hd := ded_len (l := a.edges)
      have hdl : (ded a.edges).length < a.edges.length := by
        rcases Nat.lt_or_ge (ded a.edges).length a.edges.length with h3 | h3
        · exact h3
        · exact absurd (by rw [hm, ded_same h3]) hne
      rw [hm]
      unfold Aut.mea
      show a.acc.length * 4096 + a.acc.count true + a.init.length + (ded a.edges).length < _
      omega
    · rw [h] at hm
      have hm : a.rnd = ⟨[], [false], []⟩ := hm
      rw [hm]
      have h3 : Aut.mea ⟨[], [false], []⟩ = 4096 := by rfl
      rw [h3]
      unfold Aut.mea
      rw [h1]
      have : a.acc.count true + a.init.length + a.edges.length ≠ 0 := by
        intro h4
        have g1 : a.init = [] := List.eq_nil_of_length_eq_zero (by omega)
        have g2 : a.edges = [] := List.eq_nil_of_length_eq_zero (by omega)
        have g3 : a.acc = [false] := by
          match hq : a.acc, h1 with
          | [x], _ =>
            rw [hq] at h4
            cases x with
            | false => rfl
            | true => simp at h4
        exact hne (by rw [hm]; exact (Aut.ext3 g1 g3 g2).symm)
      omega
inductive SmpR : Aut → Aut → Prop
  | stop {a : Aut} (h : a.rnd = a) : SmpR a a
  | more {a r : Aut} (h : a.rnd ≠ a) (hr : SmpR a.rnd r) : SmpR a r
theorem SmpR.fn {a r s : Aut} (h : SmpR a r) : SmpR a s → r = s := by
  induction h with
  | stop h =>
    intro h'
    cases h' with
    | stop _ => rfl
    | more h2 _ => exact absurd h h2
  | more h _ ih =>
    intro h'
    cases h' with
    | stop h2 => exact absurd h2 h
    | more _ h3 => exact ih h3
theorem SmpR.ex : ∀ (m : Nat) (a : Aut), a.mea ≤ m → a.Ok → ∃ r, SmpR a r ∧ r.Ok
  | 0, a, hm, ha => by
    have := ha.n
    unfold Aut.mea at hm
    omega
  | m + 1, a, hm, ha => by
    by_cases h : a.rnd = a
    · exact ⟨a, .stop h, ha⟩
    · have := Aut.rnd_less ha h
      obtain ⟨r, h1, h2⟩ := SmpR.ex m a.rnd (by omega) (Aut.rnd_ok ha)
      exact ⟨r, .more h h1, h2⟩
end Go.Proofs.Ytglnelcmcimljaa

namespace Go.Proofs.Ytglnelcmcimljaa
open Go
theorem c_wpInts {h : Heap} {v w : Value} {a b : List Int} (Ra : Rep h v a) (Rb : Rep h w b) : CallE Try.prog fn_laws_wpInts [v, w] h (fun u h' => h' = h ∧ u = .bool (decide (a = b))) := by
  have hL := Ra.lt
  refine CallE.gen fun k hk => EN_laws_wpInts rfl ?_
  by_cases hl : (a.length : Int) = b.length
  case neg =>
    simp -implicitDefEqProofs (disch:=first|omega|(simp only[LnZ];omega))[wrap64, Ra.len, Rb.len, hl]
    exact RetK.keep (hk _ _ ⟨rfl, by congr 1; rw [eq_comm, decide_eq_false_iff_not]; intro e; subst e; exact hl rfl⟩)
  simp -implicitDefEqProofs (disch:=first|omega|(simp only[LnZ];omega))[wrap64, Ra.len, Rb.len, hl]
  refine wp_count a.length (fun i e h' => e = [some v, some w, none, some (.int .i64 i)] ∧ h' = h ∧ a.take i = b.take i) ⟨by simp, rfl, rfl⟩ ?_
  rintro J i _ h hJ hi ⟨rfl, rfl, hq⟩
  simp -implicitDefEqProofs (disch:=first|omega|(simp only[LnZ];omega))[wrap64, Ra.len]
  refine IteW.mk (fun hlt => ?_) (fun hge => ?_)
  · have hlx : i < a.length := by omega
    have hly : i < b.length := by omega
    by_cases he : a[i] = b[i]
    · simp -implicitDefEqProofs (disch:=first|omega|(simp only[LnZ];omega))[wrap64, Ra.I, Rb.I, he]
      exact hJ _ _ hlx ⟨rfl, rfl, take_step hq hlx hly he⟩
    · simp -implicitDefEqProofs (disch:=first|omega|(simp only[LnZ];omega))[wrap64, Ra.I, Rb.I, he]
      exact RetK.keep (hk _ _ ⟨rfl, by congr 1; rw [eq_comm, decide_eq_false_iff_not]; intro e; subst e; exact he rfl⟩)
  · simp -implicitDefEqProofs (disch:=first|omega|(simp only[LnZ];omega))[wrap64]
    rw [List.take_of_length_le (by omega), List.take_of_length_le (by omega)] at hq
    exact RetK.keep (hk _ _ ⟨rfl, by simp [hq]⟩)
theorem c_wpHas {h : Heap} {a : Value} {x : List Int} (Ra : Rep h a x) {n : Int} : CallE Try.prog fn_laws_wpHas [a, .int .i64 n] h (fun v h' => h' = h ∧ v = .bool (decide (n ∈ x))) := by
  have hL := Ra.lt
  refine CallE.gen fun k hk => EN_laws_wpHas rfl ?_
  simp -implicitDefEqProofs (disch:=first|omega|(simp only[LnZ];omega))[wrap64]
  refine wp_count x.length (fun i e h' => e = [some a, some (.int .i64 n), none, some (.int .i64 i)] ∧ h' = h ∧ ∀ (j : Nat) (hj : j < x.length), j < i → x[j] ≠ n) ⟨by simp, rfl, fun j _ hj => absurd hj (Nat.not_lt_zero j)⟩ ?_
  rintro J i _ h hJ hi ⟨rfl, rfl, hn⟩
  simp -implicitDefEqProofs (disch:=first|omega|(simp only[LnZ];omega))[wrap64, Ra.len]
  refine IteW.mk (fun hlt => ?_) (fun hge => ?_)
  · have hlx : i < x.length := by omega
    by_cases e : x[i] = n
    · simp -implicitDefEqProofs (disch:=first|omega|(simp only[LnZ];omega))[wrap64, Ra.I, e]
      exact RetK.keep (hk _ _ ⟨rfl, by rw [decide_eq_true]; exact e ▸ List.getElem_mem hlx⟩)
    · simp -implicitDefEqProofs (disch:=first|omega|(simp only[LnZ];omega))[wrap64, Ra.I, e]
      refine hJ _ _ hlx ⟨by simp, rfl, fun j hj hji => ?_⟩
      by_cases hji2 : j = i
      · subst hji2; exact e
      · exact hn j hj (by omega)
  · simp -implicitDefEqProofs (disch:=first|omega|(simp only[LnZ];omega))[wrap64]
    refine RetK.keep (hk _ _ ⟨rfl, ?_⟩)
    congr 1
    rw [eq_comm, decide_eq_false_iff_not]
    intro hm
    obtain ⟨j, hj, h1⟩ := List.mem_iff_getElem.1 hm
    exact hn j hj (by omega) h1
def wA (a b : Nat) : Nat → Nat
  | 0 => 0
  | j + 1 => wA a b j + if a / 2 ^ j % 2 = 1 ∧ b / 2 ^ j % 2 = 1 then 2 ^ j else 0
theorem wA_and : ∀ a < 8, ∀ b < 8, wA a b 3 = a &&& b := by decide
theorem wA_le {a b : Nat} : ∀ j, wA a b j ≤ 2 ^ j
  | 0 => by simp [wA]
  | j + 1 => by
    have := wA_le (a := a) (b := b) j
    unfold wA
    rw [Nat.pow_succ]
    split <;> omega
theorem c_wpAnd {h : Heap} {a b : Nat} (ha : a < 8) (hb : b < 8) : CallE Try.prog fn_laws_wpAnd [.int .i64 a, .int .i64 b] h (fun u h' => h' = h ∧ u = .int .i64 ((a &&& b : Nat) : Int)) := by
  refine CallE.gen fun k hk => EN_laws_wpAnd rfl ?_
  rw [← wA_and a ha b hb] at hk
  simp -implicitDefEqProofs (disch:=first|omega|(simp only[LnZ];omega))[wrap64]
  refine wp_while (σ := Nat) (fun j e h' => e = [some (.int .i64 a), some (.int .i64 b), none, some (.int .i64 (wA a b j : Nat)), some (.int .i64 ((2 ^ j : Nat) : Int))] ∧ h' = h ∧ j ≤ 3) (fun j => 4 - j) 0 ⟨by simp [wA], rfl, by omega⟩ ?_
  rintro J j _ h1 hJ ⟨rfl, rfl, hj⟩
  have hw := wA_le (a := a) (b := b) j
  have hstep : wA a b (j + 1) = wA a b j + if a / 2 ^ j % 2 = 1 ∧ b / 2 ^ j % 2 = 1 then 2 ^ j else 0 := rfl
  have hp : 2 ^ (j + 1) = 2 ^ j * 2 := Nat.pow_succ 2 j
  by_cases h3 : j = 3
  · subst h3
    simp -implicitDefEqProofs (disch:=first|omega|(simp only[LnZ];omega))[wrap64]
    exact RetK.keep (hk _ _ ⟨rfl, rfl⟩)
  have hlt : j = 0 ∨ j = 1 ∨ j = 2 := by omega
  have hd : ((2 ^ j : Nat) : Int) ≤ 7 := by rcases hlt with rfl | rfl | rfl <;> decide
  have hd0 : (1 : Int) ≤ ((2 ^ j : Nat) : Int) := by rcases hlt with rfl | rfl | rfl <;> decide
  generalize hB : 2 ^ j = B at *
  generalize wA a b j = X at *
  have ta : (a : Int).tdiv B = ((a / B : Nat) : Int) := by simp
  have tb : (b : Int).tdiv B = ((b / B : Nat) : Int) := by simp
  have sa : (a : Int) / B = ((a / B : Nat) : Int) := by simp
  have sb : (b : Int) / B = ((b / B : Nat) : Int) := by simp
  have lA := Nat.div_le_self a B
  have lC := Nat.div_le_self b B
  generalize hA : a / B = A at *
  generalize hC : b / B = C at *
  have hB0 : ¬ (B : Int) = 0 := by omega
  have hB0' : ¬ B = 0 := by omega
  by_cases c1 : A % 2 = 1
  case neg =>
    have c1i : ¬ (A : Int) % 2 = 1 := by omega
    have c1t : ¬ (A : Int).tmod 2 = 1 := by rw [Int.tmod_eq_emod_of_nonneg (by omega)]; exact c1i
    rw [if_neg (fun hh => c1 hh.1)] at hstep
    simp -implicitDefEqProofs (disch:=first|omega|(simp only[LnZ];omega))[wrap64, hd, hB0, hB0', ta, tb, sa, sb, c1, c1i, c1t]
    refine hJ (j + 1) _ _ (by omega) ⟨?_, rfl, by omega⟩
    rw [hstep, hp]; simp
  have c1i : (A : Int) % 2 = 1 := by omega
  have c1t : (A : Int).tmod 2 = 1 := by rw [Int.tmod_eq_emod_of_nonneg (by omega)]; exact c1i
  by_cases c2 : C % 2 = 1
  case neg =>
    have c2i : ¬ (C : Int) % 2 = 1 := by omega
    have c2t : ¬ (C : Int).tmod 2 = 1 := by rw [Int.tmod_eq_emod_of_nonneg (by omega)]; exact c2i
    rw [if_neg (fun hh => c2 hh.2)] at hstep
    simp -implicitDefEqProofs (disch:=first|omega|(simp only[LnZ];omega))[wrap64, hd, hB0, hB0', ta, tb, sa, sb, c1, c1i, c1t, c2, c2i, c2t]
    refine hJ (j + 1) _ _ (by omega) ⟨?_, rfl, by omega⟩
    rw [hstep, hp]; simp
  have c2i : (C : Int) % 2 = 1 := by omega
  have c2t : (C : Int).tmod 2 = 1 := by rw [Int.tmod_eq_emod_of_nonneg (by omega)]; exact c2i
  rw [if_pos ⟨c1, c2⟩] at hstep
  simp -implicitDefEqProofs (disch:=first|omega|(simp only[LnZ];omega))[wrap64, hd, hB0, hB0', ta, tb, sa, sb, c1, c1i, c1t, c2, c2i, c2t]
  refine hJ (j + 1) _ _ (by omega) ⟨?_, rfl, by omega⟩
  rw [hstep, hp]; simp
end Go.Proofs.Ytglnelcmcimljaa

namespace Go.Proofs.Ytglnelcmcimljaa
open Go
end Go.Proofs.Ytglnelcmcimljaa

namespace Go.Proofs.Ytglnelcmcimljaa
open Go
def H_impl_components : Hint := ⟨[(0, false), (1, false), (2, false), (3, false), (4, false), (5, false), (6, false), (7, false), (8, false), (9, false), (10, false), (11, false), (12, false), (13, false), (14, false), (15, false), (17, false), (27, false), (28, false), (36, false), (37, false), (50, false), (51, false), (52, false)], [[0, 2, 7, 8, 9, 10, 11, 12, 13, 14, 15, 16, 19, 20, 21, 22, 23], [0, 1, 2, 3, 5, 7, 8, 9, 10, 12, 13, 14, 15, 16, 17, 18, 21, 22, 23], [0, 1, 2, 3, 4, 5, 7, 8, 9, 10, 11, 12, 14, 15, 16, 17, 18, 19, 20]]⟩
def K153_1 : C := .seq (.pl <| .e 24 1 <|
 .l 24 6 <|
 .m 2 24 .done) (.ret)
@[simp] def W153_1 := C.w K153_1.eq_1
def K153_2 : C := .pl <| .e 24 1 <|
 .x 24 (.bin .add (.v 23) (.c (.int .i64 1))) <|
 .m 23 24 .done
@[simp] def W153_2 := C.w K153_2.eq_1
def K153_3 : Pl := .x 29 (.ia 1 (.v 24) (.v 25)) <|
 .o (.ex none (.store 1 (.v 29) (.v 28))) .done
@[simp] def W153_3 := Pl.w K153_3.eq_1
def K153_4 : C := .pl <| .e 24 6 <|
 .l 24 6 <|
 .m 25 14 <|
 .m 26 13 <|
 .m 27 15 <|
 .c 28 (.mget (.one .i) (.int .i64 0) false (.v 26) (.v 27)) K153_3
@[simp] def W153_4 := C.w K153_4.eq_1
def K153_5 : Pl := .o (.ex none (.mput (.one .i) (.v 24) (.v 25) (.v 27))) .done
@[simp] def W153_5 := Pl.w K153_5.eq_1
def K153_6 : C := .pl <| .e 24 4 <|
 .m 24 13 <|
 .m 25 15 <|
 .m 26 13 <|
 .c 27 (.mlen (.v 26)) K153_5
@[simp] def W153_6 := C.w K153_6.eq_1
def K153_7 : C := .cond 24 (.v 25) K153_6 (.skip)
@[simp] def W153_7 := C.w K153_7.eq_1
def K153_8 : C := .seq (.pl <| .e 24 2 <|
 .m 24 16 <|
 .x 25 (.un .not (.v 24)) .done) K153_7
@[simp] def W153_8 := C.w K153_8.eq_1
def K153_9 : Pl := .m 27 26 <|
 .x 28 (.extract 0 (.v 27)) <|
 .x 29 (.extract 1 (.v 27)) <|
 .m 30 28 <|
 .m 16 29 .done
@[simp] def W153_9 := Pl.w K153_9.eq_1
def K153_10 : C := .seq (.seq (.pl <| .e 24 7 <|
 .m 24 13 <|
 .m 25 15 <|
 .c 26 (.mget (.one .i) (.int .i64 0) true (.v 24) (.v 25)) K153_9) K153_8) K153_4
@[simp] def W153_10 := C.w K153_10.eq_1
def K153_11 : C := .seq (.block 5 (.seq (.pl <| .e 24 3 <|
 .m 24 23 <|
 .x 25 (.ia 1 (.v 21) (.v 23)) <|
 .l 26 25 <|
 .m 14 24 <|
 .m 15 26 .done) K153_10)) K153_2
@[simp] def W153_11 := C.w K153_11.eq_1
def K153_12 : C := .seq (.cond 24 (.v 24) (.skip) (.exit 4)) K153_11
@[simp] def W153_12 := C.w K153_12.eq_1
def K153_13 : C := .seq (.pl <| .e 24 1 <|
 .x 24 (.bin .lss (.v 23) (.v 22)) .done) K153_12
@[simp] def W153_13 := C.w K153_13.eq_1
def K153_14 : C := .block 4 (.loop 24 [0, 1, 2, 3, 4, 5, 7, 8, 9, 10, 11, 12, 14, 15, 16, 17, 18, 19, 20] K153_13)
@[simp] def W153_14 := C.w K153_14.eq_1
def K153_15 : C := .seq (.seq (.pl <| .e 24 0 <|
 .l 21 6 <|
 .x 22 (.lenV (.v 21)) <|
 .x 23 (.mv (.c (.int .i64 0))) .done) K153_14) K153_1
@[simp] def W153_15 := C.w K153_15.eq_1
def K153_16 : Pl := .m 13 24 .done
@[simp] def W153_16 := Pl.w K153_16.eq_1
def K153_17 : C := .seq (.pl <| .e 24 1 <|
 .c 24 (.mkm) K153_16) K153_15
@[simp] def W153_17 := C.w K153_17.eq_1
def K153_18 : C := .pl <| .e 24 1 <|
 .x 24 (.bin .add (.v 20) (.c (.int .i64 1))) <|
 .m 20 24 .done
@[simp] def W153_18 := C.w K153_18.eq_1
def K153_19 : C := .pl <| .e 24 3 <|
 .l 24 11 <|
 .m 25 12 <|
 .c 26 (.callv (.v 24) [.v 25]) .done
@[simp] def W153_19 := C.w K153_19.eq_1
def K153_20 : C := .cond 24 (.v 28) K153_19 (.skip)
@[simp] def W153_20 := C.w K153_20.eq_1
def K153_21 : C := .seq (.pl <| .e 24 5 <|
 .l 24 4 <|
 .m 25 12 <|
 .x 26 (.ia 1 (.v 24) (.v 25)) <|
 .l 27 26 <|
 .x 28 (.bin .eql (.v 27) (.c (.int .i64 0))) .done) K153_20
@[simp] def W153_21 := C.w K153_21.eq_1
def K153_22 : C := .seq (.block 3 (.seq (.pl <| .e 24 1 <|
 .m 24 20 <|
 .m 12 24 .done) K153_21)) K153_18
@[simp] def W153_22 := C.w K153_22.eq_1
def K153_23 : C := .seq (.cond 24 (.v 24) (.skip) (.exit 2)) K153_22
@[simp] def W153_23 := C.w K153_23.eq_1
def K153_24 : C := .seq (.pl <| .e 24 1 <|
 .x 24 (.bin .lss (.v 20) (.v 19)) .done) K153_23
@[simp] def W153_24 := C.w K153_24.eq_1
def K153_25 : C := .block 2 (.loop 24 [0, 1, 2, 3, 5, 7, 8, 9, 10, 12, 13, 14, 15, 16, 17, 18, 21, 22, 23] K153_24)
@[simp] def W153_25 := C.w K153_25.eq_1
def K153_26 : C := .seq (.seq (.pl <| .e 24 0 <|
 .m 19 3 <|
 .x 20 (.mv (.c (.int .i64 0))) .done) K153_25) K153_17
@[simp] def W153_26 := C.w K153_26.eq_1
def K153_27 : C := .seq (.pl <| .e 24 1 <|
 .x 24 (.mkf (.func fn_impl_components_1) [] [.v 9, .v 4, .v 5, .v 8, .v 1, .v 11, .v 6, .v 10]) <|
 .o (.ex none (.store 1 (.v 11) (.v 24))) .done) K153_26
@[simp] def W153_27 := C.w K153_27.eq_1
def K153_28 : C := .seq (.pl <| .e 24 0 <|
 .c 11 (.alloc (.c (.nilFunc))) .done) K153_27
@[simp] def W153_28 := C.w K153_28.eq_1
def K153_29 : Pl := .o (.ex none (.store 1 (.v 10) (.c (.int .i64 0)))) .done
@[simp] def W153_29 := Pl.w K153_29.eq_1
def K153_30 : Pl := .o (.ex none (.store 1 (.v 9) (.c (.int .i64 0)))) K153_29
@[simp] def W153_30 := Pl.w K153_30.eq_1
def K153_31 : Pl := .c 10 (.alloc (.c (.int .i64 0))) K153_30
@[simp] def W153_31 := Pl.w K153_31.eq_1
def K153_32 : C := .seq (.pl <| .e 24 0 <|
 .c 9 (.alloc (.c (.int .i64 0))) K153_31) K153_28
@[simp] def W153_32 := C.w K153_32.eq_1
def K153_33 : C := .seq (.pl <| .e 24 0 <|
 .c 8 (.alloc (.c (.slice none 0 0))) .done) K153_32
@[simp] def W153_33 := C.w K153_33.eq_1
def K153_34 : C := .pl <| .e 24 1 <|
 .x 24 (.bin .add (.v 18) (.c (.int .i64 1))) <|
 .m 18 24 .done
@[simp] def W153_34 := C.w K153_34.eq_1
def K153_35 : C := .pl <| .e 24 3 <|
 .l 24 6 <|
 .m 25 7 <|
 .x 26 (.ia 1 (.v 24) (.v 25)) <|
 .o (.ex none (.store 1 (.v 26) (.c (.int .i64 (-1))))) .done
@[simp] def W153_35 := C.w K153_35.eq_1
def K153_36 : C := .seq (.block 1 (.seq (.pl <| .e 24 1 <|
 .m 24 18 <|
 .m 7 24 .done) K153_35)) K153_34
@[simp] def W153_36 := C.w K153_36.eq_1
def K153_37 : C := .seq (.cond 24 (.v 24) (.skip) (.exit 0)) K153_36
@[simp] def W153_37 := C.w K153_37.eq_1
def K153_38 : C := .seq (.pl <| .e 24 1 <|
 .x 24 (.bin .lss (.v 18) (.v 17)) .done) K153_37
@[simp] def W153_38 := C.w K153_38.eq_1
def K153_39 : C := .block 0 (.loop 24 [0, 2, 7, 8, 9, 10, 11, 12, 13, 14, 15, 16, 19, 20, 21, 22, 23] K153_38)
@[simp] def W153_39 := C.w K153_39.eq_1
def K153_40 : C := .seq (.seq (.pl <| .e 24 1 <|
 .l 24 6 <|
 .x 17 (.lenV (.v 24)) <|
 .x 18 (.mv (.c (.int .i64 0))) .done) K153_39) K153_33
@[simp] def W153_40 := C.w K153_40.eq_1
def K153_41 : Pl := .o (.ex none (.store 1 (.v 6) (.v 29))) .done
@[simp] def W153_41 := Pl.w K153_41.eq_1
def K153_42 : Pl := .o (.ex none (.store 1 (.v 5) (.v 27))) K153_41
@[simp] def W153_42 := Pl.w K153_42.eq_1
def K153_43 : Pl := .o (.ex none (.store 1 (.v 4) (.v 25))) K153_42
@[simp] def W153_43 := Pl.w K153_43.eq_1
def K153_44 : Pl := .c 6 (.alloc (.c (.slice none 0 0))) K153_43
@[simp] def W153_44 := Pl.w K153_44.eq_1
def K153_45 : Pl := .c 5 (.alloc (.c (.slice none 0 0))) K153_44
@[simp] def W153_45 := Pl.w K153_45.eq_1
def K153_46 : Pl := .c 4 (.alloc (.c (.slice none 0 0))) K153_45
@[simp] def W153_46 := Pl.w K153_46.eq_1
def K153_47 : Pl := .m 28 3 <|
 .c 29 (.mks 8 1 [.int .i64 0] (.v 28) (.v 28)) K153_46
@[simp] def W153_47 := Pl.w K153_47.eq_1
def K153_48 : Pl := .m 26 3 <|
 .c 27 (.mks 8 1 [.int .i64 0] (.v 26) (.v 26)) K153_47
@[simp] def W153_48 := Pl.w K153_48.eq_1
def K153_49 : C := .seq (.pl <| .e 24 6 <|
 .m 24 3 <|
 .c 25 (.mks 8 1 [.int .i64 0] (.v 24) (.v 24)) K153_48) K153_40
@[simp] def W153_49 := C.w K153_49.eq_1
def K153_50 : C := .seq (.pl <| .e 24 2 <|
 .l 24 1 <|
 .x 25 (.lenV (.v 24)) <|
 .m 3 25 .done) K153_49
@[simp] def W153_50 := C.w K153_50.eq_1
def K153_51 : Pl := .x 2 (.mv (.c (.slice none 0 0))) .done
@[simp] def W153_51 := Pl.w K153_51.eq_1
def B_impl_components : C := .seq (.pl <| .e 24 0 <|
 .c 1 (.alloc (.v 0)) K153_51) K153_50
@[simp] def WB_impl_components := C.w B_impl_components.eq_1
def R_impl_components : FIR := ⟨B_impl_components, 24, [(2, none)]⟩
theorem IR_impl_components : cfun Try.prog H_impl_components Try.f153 = some R_impl_components := by kernel_rfl
theorem EN_impl_components : ENT Try.prog B_impl_components [(2, none)] 1 24 fn_impl_components := fun hargs hw => enter Try.func153 rfl IR_impl_components hargs hw
def H_impl_components_1 : Hint := ⟨[(0, false), (1, false), (2, false), (3, false), (4, false), (5, false), (6, false), (7, false), (8, false), (11, false), (12, false), (30, false), (31, false), (32, false)], [[1, 5, 9, 10], [1, 2, 3, 5, 6, 9, 11, 12, 13]]⟩
def K176_1 : C := .pl <| .e 14 2 <|
 .l 14 8 <|
 .x 15 (.bin .add (.v 14) (.c (.int .i64 1))) <|
 .o (.ex none (.store 1 (.v 8) (.v 15))) .done
@[simp] def W176_1 := C.w K176_1.eq_1
def K176_2 : C := .pl <| .e 14 4 <|
 .l 14 7 <|
 .m 15 10 <|
 .l 16 8 <|
 .x 17 (.ia 1 (.v 14) (.v 15)) <|
 .o (.ex none (.store 1 (.v 17) (.v 16))) .done
@[simp] def W176_2 := C.w K176_2.eq_1
def K176_3 : C := .seq (.pl <| .e 14 5 <|
 .l 14 4 <|
 .l 15 4 <|
 .x 16 (.lenV (.v 15)) <|
 .x 17 (.bin .sub (.v 16) (.c (.int .i64 1))) <|
 .x 18 (.sliceV 1 (.v 14) none (some (.v 17)) none) <|
 .o (.ex none (.store 1 (.v 4) (.v 18))) .done) K176_2
@[simp] def W176_3 := C.w K176_3.eq_1
def K176_4 : C := .block 4 (.seq (.pl <| .e 14 6 <|
 .l 14 4 <|
 .l 15 4 <|
 .x 16 (.lenV (.v 15)) <|
 .x 17 (.bin .sub (.v 16) (.c (.int .i64 1))) <|
 .x 18 (.ia 1 (.v 14) (.v 17)) <|
 .l 19 18 <|
 .m 10 19 .done) K176_3)
@[simp] def W176_4 := C.w K176_4.eq_1
def K176_5 : C := .cond 14 (.v 16) (.skip) (.exit 3)
@[simp] def W176_5 := C.w K176_5.eq_1
def K176_6 : C := .seq (.seq (.pl <| .e 14 3 <|
 .m 14 10 <|
 .m 15 0 <|
 .x 16 (.bin .neq (.v 14) (.v 15)) .done) K176_5) K176_4
@[simp] def W176_6 := C.w K176_6.eq_1
def K176_7 : C := .block 3 (.loop 14 [1, 2, 3, 5, 6, 9, 11, 12, 13] K176_6)
@[simp] def W176_7 := C.w K176_7.eq_1
def K176_8 : C := .seq (.seq (.pl <| .e 14 0 <|
 .x 10 (.mv (.c (.int .i64 (-1)))) .done) K176_7) K176_1
@[simp] def W176_8 := C.w K176_8.eq_1
def K176_9 : C := .cond 14 (.v 22) K176_8 (.skip)
@[simp] def W176_9 := C.w K176_9.eq_1
def K176_10 : C := .seq (.pl <| .e 14 9 <|
 .l 14 3 <|
 .m 15 0 <|
 .x 16 (.ia 1 (.v 14) (.v 15)) <|
 .l 17 16 <|
 .l 18 2 <|
 .m 19 0 <|
 .x 20 (.ia 1 (.v 18) (.v 19)) <|
 .l 21 20 <|
 .x 22 (.bin .eql (.v 17) (.v 21)) .done) K176_9
@[simp] def W176_10 := C.w K176_10.eq_1
def K176_11 : C := .pl <| .e 14 1 <|
 .x 14 (.bin .add (.v 13) (.c (.int .i64 1))) <|
 .m 13 14 .done
@[simp] def W176_11 := C.w K176_11.eq_1
def K176_12 : C := .pl <| .e 14 12 <|
 .l 14 3 <|
 .m 15 0 <|
 .l 16 3 <|
 .m 17 0 <|
 .x 18 (.ia 1 (.v 16) (.v 17)) <|
 .l 19 18 <|
 .l 20 3 <|
 .m 21 9 <|
 .x 22 (.ia 1 (.v 20) (.v 21)) <|
 .l 23 22 <|
 .x 24 (.minI (.v 19) (.v 23)) <|
 .x 25 (.ia 1 (.v 14) (.v 15)) <|
 .o (.ex none (.store 1 (.v 25) (.v 24))) .done
@[simp] def W176_12 := C.w K176_12.eq_1
def K176_13 : C := .seq (.pl <| .e 14 3 <|
 .l 14 6 <|
 .m 15 9 <|
 .c 16 (.callv (.v 14) [.v 15]) .done) K176_12
@[simp] def W176_13 := C.w K176_13.eq_1
def K176_14 : C := .pl <| .e 14 12 <|
 .l 14 3 <|
 .m 15 0 <|
 .l 16 3 <|
 .m 17 0 <|
 .x 18 (.ia 1 (.v 16) (.v 17)) <|
 .l 19 18 <|
 .l 20 2 <|
 .m 21 9 <|
 .x 22 (.ia 1 (.v 20) (.v 21)) <|
 .l 23 22 <|
 .x 24 (.minI (.v 19) (.v 23)) <|
 .x 25 (.ia 1 (.v 14) (.v 15)) <|
 .o (.ex none (.store 1 (.v 25) (.v 24))) .done
@[simp] def W176_14 := C.w K176_14.eq_1
def K176_15 : C := .cond 14 (.v 19) K176_14 (.skip)
@[simp] def W176_15 := C.w K176_15.eq_1
def K176_16 : C := .seq (.pl <| .e 14 6 <|
 .l 14 7 <|
 .m 15 9 <|
 .x 16 (.ia 1 (.v 14) (.v 15)) <|
 .l 17 16 <|
 .x 18 (.bin .lss (.v 17) (.c (.int .i64 0))) <|
 .m 19 18 .done) K176_15
@[simp] def W176_16 := C.w K176_16.eq_1
def K176_17 : C := .cond 14 (.v 19) K176_13 K176_16
@[simp] def W176_17 := C.w K176_17.eq_1
def K176_18 : C := .block 2 (.seq (.pl <| .e 14 6 <|
 .l 14 2 <|
 .m 15 9 <|
 .x 16 (.ia 1 (.v 14) (.v 15)) <|
 .l 17 16 <|
 .x 18 (.bin .eql (.v 17) (.c (.int .i64 0))) <|
 .m 19 18 .done) K176_17)
@[simp] def W176_18 := C.w K176_18.eq_1
def K176_19 : C := .seq (.block 1 (.seq (.pl <| .e 14 2 <|
 .x 14 (.ia 1 (.v 11) (.v 13)) <|
 .l 15 14 <|
 .m 9 15 .done) K176_18)) K176_11
@[simp] def W176_19 := C.w K176_19.eq_1
def K176_20 : C := .seq (.cond 14 (.v 14) (.skip) (.exit 0)) K176_19
@[simp] def W176_20 := C.w K176_20.eq_1
def K176_21 : C := .seq (.pl <| .e 14 1 <|
 .x 14 (.bin .lss (.v 13) (.v 12)) .done) K176_20
@[simp] def W176_21 := C.w K176_21.eq_1
def K176_22 : C := .block 0 (.loop 14 [1, 5, 9, 10] K176_21)
@[simp] def W176_22 := C.w K176_22.eq_1
def K176_23 : C := .seq (.seq (.pl <| .e 14 3 <|
 .l 14 5 <|
 .m 15 0 <|
 .x 16 (.ia 1 (.v 14) (.v 15)) <|
 .l 11 16 <|
 .x 12 (.lenV (.v 11)) <|
 .x 13 (.mv (.c (.int .i64 0))) .done) K176_22) K176_10
@[simp] def W176_23 := C.w K176_23.eq_1
def K176_24 : Pl := .o (.ex none (.store 1 (.v 4) (.v 17))) .done
@[simp] def W176_24 := Pl.w K176_24.eq_1
def K176_25 : C := .seq (.pl <| .e 14 4 <|
 .l 14 4 <|
 .m 15 0 <|
 .o (.psl 16 [.int .i64 0] [(0, 1, .v 15)]) <|
 .c 17 (.app 8 1 [.int .i64 0] (.o (.v 14)) (.p 1 16)) K176_24) K176_23
@[simp] def W176_25 := C.w K176_25.eq_1
def K176_26 : Pl := .st (.re 16 (.v 3) none none) <|
 .st (.re 19 (.v 1) none none) <|
 .x 21 (.ia 1 (.v 16) (.v 17)) <|
 .o (.ex none (.store 1 (.v 21) (.v 19))) .done
@[simp] def W176_26 := Pl.w K176_26.eq_1
def K176_27 : C := .seq (.pl <| .e 14 8 <|
 .l 14 2 <|
 .m 15 0 <|
 .l 16 3 <|
 .m 17 0 <|
 .l 18 1 <|
 .l 19 1 <|
 .x 20 (.ia 1 (.v 14) (.v 15)) <|
 .o (.ex none (.store 1 (.v 20) (.v 18))) K176_26) K176_25
@[simp] def W176_27 := C.w K176_27.eq_1
def B_impl_components_1 : C := .seq (.pl <| .e 14 2 <|
 .l 14 1 <|
 .x 15 (.bin .add (.v 14) (.c (.int .i64 1))) <|
 .o (.ex none (.store 1 (.v 1) (.v 15))) .done) K176_27
@[simp] def WB_impl_components_1 := C.w B_impl_components_1.eq_1
def R_impl_components_1 : FIR := ⟨B_impl_components_1, 14, []⟩
theorem IR_impl_components_1 : cfun Try.prog H_impl_components_1 Try.f176 = some R_impl_components_1 := by kernel_rfl
theorem EN_impl_components_1 : ENT Try.prog B_impl_components_1 [] 9 14 fn_impl_components_1 := fun hargs hw => enter Try.func176 rfl IR_impl_components_1 hargs hw
def H_impl_cyclic : Hint := ⟨[(0, false), (2, false), (3, false), (4, false), (6, false), (7, false), (8, false), (14, false), (15, false), (16, false), (31, false), (32, false)], [[1, 4, 5, 6, 10, 11], [1, 4, 6, 7, 8, 9]]⟩
def K113_1 : C := .seq (.pl <| .e 12 1 <|
 .m 12 5 <|
 .m 1 12 .done) (.ret)
@[simp] def W113_1 := C.w K113_1.eq_1
def K113_2 : C := .pl <| .e 12 1 <|
 .x 12 (.bin .add (.v 11) (.c (.int .i64 1))) <|
 .m 11 12 .done
@[simp] def W113_2 := C.w K113_2.eq_1
def K113_3 : Pl := .x 29 (.pick (.v 22) (.c (.bool true)) (.v 28)) <|
 .x 30 (.ia 1 (.v 12) (.v 13)) <|
 .o (.ex none (.store 1 (.v 30) (.v 29))) .done
@[simp] def W113_3 := Pl.w K113_3.eq_1
def K113_4 : C := .pl <| .e 12 19 <|
 .m 12 5 <|
 .m 13 6 <|
 .m 14 3 <|
 .m 15 2 <|
 .m 16 6 <|
 .x 17 (.ia 1 (.v 15) (.v 16)) <|
 .l 18 17 <|
 .x 19 (.ia 1 (.v 14) (.v 18)) <|
 .l 20 19 <|
 .x 21 (.bin .gtr (.v 20) (.c (.int .i64 1))) <|
 .m 22 21 <|
 .n 22 (.px (some 23) (.mv (.v 0))) <|
 .n 22 (.px (some 24) (.mv (.v 6))) <|
 .n 22 (.px (some 25) (.ia 1 (.v 23) (.v 24))) <|
 .n 22 (.ld (some 26) (.v 25) none) <|
 .n 22 (.px (some 27) (.mv (.v 6))) <|
 .st (.act (some (.v 22, false)) (.ex (some 28) (.call fn_slices_Contains_S_int_int [.v 26, .v 27]))) K113_3
@[simp] def W113_4 := C.w K113_4.eq_1
def K113_5 : C := .seq (.block 3 (.seq (.pl <| .e 12 1 <|
 .m 12 11 <|
 .m 6 12 .done) K113_4)) K113_2
@[simp] def W113_5 := C.w K113_5.eq_1
def K113_6 : C := .seq (.cond 12 (.v 12) (.skip) (.exit 2)) K113_5
@[simp] def W113_6 := C.w K113_6.eq_1
def K113_7 : C := .seq (.pl <| .e 12 1 <|
 .x 12 (.bin .lss (.v 11) (.v 10)) .done) K113_6
@[simp] def W113_7 := C.w K113_7.eq_1
def K113_8 : C := .block 2 (.loop 12 [1, 4, 6, 7, 8, 9] K113_7)
@[simp] def W113_8 := C.w K113_8.eq_1
def K113_9 : C := .seq (.seq (.pl <| .e 12 1 <|
 .m 12 0 <|
 .x 10 (.lenV (.v 12)) <|
 .x 11 (.mv (.c (.int .i64 0))) .done) K113_8) K113_1
@[simp] def W113_9 := C.w K113_9.eq_1
def K113_10 : Pl := .m 5 14 .done
@[simp] def W113_10 := Pl.w K113_10.eq_1
def K113_11 : C := .seq (.pl <| .e 12 3 <|
 .m 12 0 <|
 .x 13 (.lenV (.v 12)) <|
 .c 14 (.mks 1 1 [.bool false] (.v 13) (.v 13)) K113_10) K113_9
@[simp] def W113_11 := C.w K113_11.eq_1
def K113_12 : C := .pl <| .e 12 1 <|
 .x 12 (.bin .add (.v 9) (.c (.int .i64 1))) <|
 .m 9 12 .done
@[simp] def W113_12 := C.w K113_12.eq_1
def K113_13 : C := .pl <| .e 12 6 <|
 .m 12 3 <|
 .m 13 4 <|
 .x 14 (.ia 1 (.v 12) (.v 13)) <|
 .l 15 14 <|
 .x 16 (.bin .add (.v 15) (.c (.int .i64 1))) <|
 .x 17 (.ia 1 (.v 12) (.v 13)) <|
 .o (.ex none (.store 1 (.v 17) (.v 16))) .done
@[simp] def W113_13 := C.w K113_13.eq_1
def K113_14 : C := .seq (.block 1 (.seq (.pl <| .e 12 2 <|
 .x 12 (.ia 1 (.v 7) (.v 9)) <|
 .l 13 12 <|
 .m 4 13 .done) K113_13)) K113_12
@[simp] def W113_14 := C.w K113_14.eq_1
def K113_15 : C := .seq (.cond 12 (.v 12) (.skip) (.exit 0)) K113_14
@[simp] def W113_15 := C.w K113_15.eq_1
def K113_16 : C := .seq (.pl <| .e 12 1 <|
 .x 12 (.bin .lss (.v 9) (.v 8)) .done) K113_15
@[simp] def W113_16 := C.w K113_16.eq_1
def K113_17 : C := .block 0 (.loop 12 [1, 4, 5, 6, 10, 11] K113_16)
@[simp] def W113_17 := C.w K113_17.eq_1
def K113_18 : C := .seq (.seq (.pl <| .e 12 0 <|
 .m 7 2 <|
 .x 8 (.lenV (.v 7)) <|
 .x 9 (.mv (.c (.int .i64 0))) .done) K113_17) K113_11
@[simp] def W113_18 := C.w K113_18.eq_1
def K113_19 : Pl := .m 3 14 .done
@[simp] def W113_19 := Pl.w K113_19.eq_1
def K113_20 : C := .seq (.pl <| .e 12 3 <|
 .m 12 0 <|
 .x 13 (.lenV (.v 12)) <|
 .c 14 (.mks 8 1 [.int .i64 0] (.v 13) (.v 13)) K113_19) K113_18
@[simp] def W113_20 := C.w K113_20.eq_1
def K113_21 : Pl := .m 2 13 .done
@[simp] def W113_21 := Pl.w K113_21.eq_1
def K113_22 : C := .seq (.pl <| .e 12 2 <|
 .m 12 0 <|
 .c 13 (.call fn_impl_components [.v 12]) K113_21) K113_20
@[simp] def W113_22 := C.w K113_22.eq_1
def B_impl_cyclic : C := .seq (.pl <| .e 12 0 <|
 .x 1 (.mv (.c (.slice none 0 0))) .done) K113_22
@[simp] def WB_impl_cyclic := C.w B_impl_cyclic.eq_1
def R_impl_cyclic : FIR := ⟨B_impl_cyclic, 12, [(1, none)]⟩
theorem IR_impl_cyclic : cfun Try.prog H_impl_cyclic Try.f113 = some R_impl_cyclic := by kernel_rfl
theorem EN_impl_cyclic : ENT Try.prog B_impl_cyclic [(1, none)] 1 12 fn_impl_cyclic := fun hargs hw => enter Try.func113 rfl IR_impl_cyclic hargs hw
def H_impl_letters : Hint := ⟨[(0, false), (2, false)], []⟩
def K104_1 : Pl := .x 4 (.un .not (.v 3)) <|
 .m 1 4 .done
@[simp] def W104_1 := Pl.w K104_1.eq_1
def K104_2 : C := .seq (.pl <| .e 2 3 <|
 .m 2 0 <|
 .c 3 (.call fn_slices_ContainsFunc_S_int_int [.v 2, .c (.func (.func 150) #[] #[])]) K104_1) (.ret)
@[simp] def W104_2 := C.w K104_2.eq_1
def B_impl_letters : C := .seq (.pl <| .e 2 0 <|
 .x 1 (.mv (.c (.bool false))) .done) K104_2
@[simp] def WB_impl_letters := C.w B_impl_letters.eq_1
def R_impl_letters : FIR := ⟨B_impl_letters, 2, [(1, none)]⟩
theorem IR_impl_letters : cfun Try.prog H_impl_letters Try.f104 = some R_impl_letters := by kernel_rfl
theorem EN_impl_letters : ENT Try.prog B_impl_letters [(1, none)] 1 2 fn_impl_letters := fun hargs hw => enter Try.func104 rfl IR_impl_letters hargs hw
def H_impl_letters_1 : Hint := ⟨[(0, false), (2, false)], []⟩
def K150_1 : Pl := .x 4 (.un .not (.v 3)) <|
 .m 1 4 .done
@[simp] def W150_1 := Pl.w K150_1.eq_1
def K150_2 : C := .seq (.pl <| .e 2 3 <|
 .m 2 0 <|
 .c 3 (.call fn_impl_in [.v 2, .c (.int .i64 0), .c (.int .i64 7)]) K150_1) (.ret)
@[simp] def W150_2 := C.w K150_2.eq_1
def B_impl_letters_1 : C := .seq (.pl <| .e 2 0 <|
 .x 1 (.mv (.c (.bool false))) .done) K150_2
@[simp] def WB_impl_letters_1 := C.w B_impl_letters_1.eq_1
def R_impl_letters_1 : FIR := ⟨B_impl_letters_1, 2, [(1, none)]⟩
theorem IR_impl_letters_1 : cfun Try.prog H_impl_letters_1 Try.f150 = some R_impl_letters_1 := by kernel_rfl
theorem EN_impl_letters_1 : ENT Try.prog B_impl_letters_1 [(1, none)] 1 2 fn_impl_letters_1 := fun hargs hw => enter Try.func150 rfl IR_impl_letters_1 hargs hw
def H_impl_reachable : Hint := ⟨[(0, false), (1, false), (4, false), (5, false), (6, false), (8, false), (9, false), (11, false), (17, false), (18, false), (19, false), (44, false), (45, false), (46, false)], [[1, 2, 5, 6, 7, 11, 12, 13], [1, 2, 5, 6, 7, 8, 9, 10, 11, 12, 13], [1, 2, 5, 6, 7, 8, 9, 10]]⟩
def K114_1 : C := .seq (.pl <| .e 14 1 <|
 .m 14 3 <|
 .m 2 14 .done) (.ret)
@[simp] def W114_1 := C.w K114_1.eq_1
def K114_2 : C := .pl <| .e 14 1 <|
 .x 14 (.bin .add (.v 13) (.c (.int .i64 1))) <|
 .m 13 14 .done
@[simp] def W114_2 := C.w K114_2.eq_1
def K114_3 : Pl := .m 4 17 .done
@[simp] def W114_3 := Pl.w K114_3.eq_1
def K114_4 : C := .pl <| .e 14 4 <|
 .m 14 4 <|
 .m 15 7 <|
 .o (.psl 16 [.int .i64 0] [(0, 1, .v 15)]) <|
 .c 17 (.app 8 1 [.int .i64 0] (.o (.v 14)) (.p 1 16)) K114_3
@[simp] def W114_4 := C.w K114_4.eq_1
def K114_5 : C := .seq (.pl <| .e 14 3 <|
 .m 14 3 <|
 .m 15 7 <|
 .x 16 (.ia 1 (.v 14) (.v 15)) <|
 .o (.ex none (.store 1 (.v 16) (.c (.bool true)))) .done) K114_4
@[simp] def W114_5 := C.w K114_5.eq_1
def K114_6 : C := .cond 14 (.v 18) K114_5 (.skip)
@[simp] def W114_6 := C.w K114_6.eq_1
def K114_7 : C := .seq (.pl <| .e 14 5 <|
 .m 14 3 <|
 .m 15 7 <|
 .x 16 (.ia 1 (.v 14) (.v 15)) <|
 .l 17 16 <|
 .x 18 (.un .not (.v 17)) .done) K114_6
@[simp] def W114_7 := C.w K114_7.eq_1
def K114_8 : C := .seq (.block 5 (.seq (.pl <| .e 14 2 <|
 .x 14 (.ia 1 (.v 11) (.v 13)) <|
 .l 15 14 <|
 .m 7 15 .done) K114_7)) K114_2
@[simp] def W114_8 := C.w K114_8.eq_1
def K114_9 : C := .seq (.cond 14 (.v 14) (.skip) (.exit 4)) K114_8
@[simp] def W114_9 := C.w K114_9.eq_1
def K114_10 : C := .seq (.pl <| .e 14 1 <|
 .x 14 (.bin .lss (.v 13) (.v 12)) .done) K114_9
@[simp] def W114_10 := C.w K114_10.eq_1
def K114_11 : C := .block 4 (.loop 14 [1, 2, 5, 6, 7, 8, 9, 10] K114_10)
@[simp] def W114_11 := C.w K114_11.eq_1
def K114_12 : C := .seq (.pl <| .e 14 3 <|
 .m 14 0 <|
 .m 15 6 <|
 .x 16 (.ia 1 (.v 14) (.v 15)) <|
 .l 11 16 <|
 .x 12 (.lenV (.v 11)) <|
 .x 13 (.mv (.c (.int .i64 0))) .done) K114_11
@[simp] def W114_12 := C.w K114_12.eq_1
def K114_13 : C := .seq (.pl <| .e 14 5 <|
 .m 14 4 <|
 .m 15 4 <|
 .x 16 (.lenV (.v 15)) <|
 .x 17 (.bin .sub (.v 16) (.c (.int .i64 1))) <|
 .x 18 (.sliceV 1 (.v 14) none (some (.v 17)) none) <|
 .m 4 18 .done) K114_12
@[simp] def W114_13 := C.w K114_13.eq_1
def K114_14 : C := .block 3 (.seq (.pl <| .e 14 6 <|
 .m 14 4 <|
 .m 15 4 <|
 .x 16 (.lenV (.v 15)) <|
 .x 17 (.bin .sub (.v 16) (.c (.int .i64 1))) <|
 .x 18 (.ia 1 (.v 14) (.v 17)) <|
 .l 19 18 <|
 .m 6 19 .done) K114_13)
@[simp] def W114_14 := C.w K114_14.eq_1
def K114_15 : C := .cond 14 (.v 16) (.skip) (.exit 2)
@[simp] def W114_15 := C.w K114_15.eq_1
def K114_16 : C := .seq (.seq (.pl <| .e 14 3 <|
 .m 14 4 <|
 .x 15 (.lenV (.v 14)) <|
 .x 16 (.bin .gtr (.v 15) (.c (.int .i64 0))) .done) K114_15) K114_14
@[simp] def W114_16 := C.w K114_16.eq_1
def K114_17 : C := .seq (.block 2 (.loop 14 [1, 2, 5, 6, 7, 8, 9, 10, 11, 12, 13] K114_16)) K114_1
@[simp] def W114_17 := C.w K114_17.eq_1
def K114_18 : C := .pl <| .e 14 1 <|
 .x 14 (.bin .add (.v 10) (.c (.int .i64 1))) <|
 .m 10 14 .done
@[simp] def W114_18 := C.w K114_18.eq_1
def K114_19 : C := .pl <| .e 14 3 <|
 .m 14 3 <|
 .m 15 5 <|
 .x 16 (.ia 1 (.v 14) (.v 15)) <|
 .o (.ex none (.store 1 (.v 16) (.c (.bool true)))) .done
@[simp] def W114_19 := C.w K114_19.eq_1
def K114_20 : C := .seq (.block 1 (.seq (.pl <| .e 14 2 <|
 .x 14 (.ia 1 (.v 8) (.v 10)) <|
 .l 15 14 <|
 .m 5 15 .done) K114_19)) K114_18
@[simp] def W114_20 := C.w K114_20.eq_1
def K114_21 : C := .seq (.cond 14 (.v 14) (.skip) (.exit 0)) K114_20
@[simp] def W114_21 := C.w K114_21.eq_1
def K114_22 : C := .seq (.pl <| .e 14 1 <|
 .x 14 (.bin .lss (.v 10) (.v 9)) .done) K114_21
@[simp] def W114_22 := C.w K114_22.eq_1
def K114_23 : C := .block 0 (.loop 14 [1, 2, 5, 6, 7, 11, 12, 13] K114_22)
@[simp] def W114_23 := C.w K114_23.eq_1
def K114_24 : C := .seq (.seq (.pl <| .e 14 0 <|
 .m 8 1 <|
 .x 9 (.lenV (.v 8)) <|
 .x 10 (.mv (.c (.int .i64 0))) .done) K114_23) K114_17
@[simp] def W114_24 := C.w K114_24.eq_1
def K114_25 : Pl := .m 4 15 .done
@[simp] def W114_25 := Pl.w K114_25.eq_1
def K114_26 : C := .seq (.pl <| .e 14 2 <|
 .m 14 1 <|
 .c 15 (.call fn_impl_clone_int [.v 14]) K114_25) K114_24
@[simp] def W114_26 := C.w K114_26.eq_1
def K114_27 : Pl := .m 3 16 .done
@[simp] def W114_27 := Pl.w K114_27.eq_1
def K114_28 : C := .seq (.pl <| .e 14 3 <|
 .m 14 0 <|
 .x 15 (.lenV (.v 14)) <|
 .c 16 (.mks 1 1 [.bool false] (.v 15) (.v 15)) K114_27) K114_26
@[simp] def W114_28 := C.w K114_28.eq_1
def B_impl_reachable : C := .seq (.pl <| .e 14 0 <|
 .x 2 (.mv (.c (.slice none 0 0))) .done) K114_28
@[simp] def WB_impl_reachable := C.w B_impl_reachable.eq_1
def R_impl_reachable : FIR := ⟨B_impl_reachable, 14, [(2, none)]⟩
theorem IR_impl_reachable : cfun Try.prog H_impl_reachable Try.f114 = some R_impl_reachable := by kernel_rfl
theorem EN_impl_reachable : ENT Try.prog B_impl_reachable [(2, none)] 2 14 fn_impl_reachable := fun hargs hw => enter Try.func114 rfl IR_impl_reachable hargs hw
def H_slices_ContainsFunc_S_int_int : Hint := ⟨[(0, false), (1, false), (4, false)], []⟩
def K86_1 : Pl := .x 6 (.bin .geq (.v 5) (.c (.int .i64 0))) <|
 .m 2 6 .done
@[simp] def W86_1 := Pl.w K86_1.eq_1
def K86_2 : C := .seq (.pl <| .e 3 4 <|
 .m 3 0 <|
 .m 4 1 <|
 .c 5 (.call fn_slices_IndexFunc_S_int_int [.v 3, .v 4]) K86_1) (.ret)
@[simp] def W86_2 := C.w K86_2.eq_1
def B_slices_ContainsFunc_S_int_int : C := .seq (.pl <| .e 3 0 <|
 .x 2 (.mv (.c (.bool false))) .done) K86_2
@[simp] def WB_slices_ContainsFunc_S_int_int := C.w B_slices_ContainsFunc_S_int_int.eq_1
def R_slices_ContainsFunc_S_int_int : FIR := ⟨B_slices_ContainsFunc_S_int_int, 3, [(2, none)]⟩
theorem IR_slices_ContainsFunc_S_int_int : cfun Try.prog H_slices_ContainsFunc_S_int_int Try.f86 = some R_slices_ContainsFunc_S_int_int := by kernel_rfl
theorem EN_slices_ContainsFunc_S_int_int : ENT Try.prog B_slices_ContainsFunc_S_int_int [(2, none)] 2 3 fn_slices_ContainsFunc_S_int_int := fun hargs hw => enter Try.func86 rfl IR_slices_ContainsFunc_S_int_int hargs hw
def H_slices_Contains_S_int_int : Hint := ⟨[(0, false), (1, false), (4, false)], []⟩
def K154_1 : Pl := .x 6 (.bin .geq (.v 5) (.c (.int .i64 0))) <|
 .m 2 6 .done
@[simp] def W154_1 := Pl.w K154_1.eq_1
def K154_2 : C := .seq (.pl <| .e 3 4 <|
 .m 3 0 <|
 .m 4 1 <|
 .c 5 (.call fn_slices_Index_S_int_int [.v 3, .v 4]) K154_1) (.ret)
@[simp] def W154_2 := C.w K154_2.eq_1
def B_slices_Contains_S_int_int : C := .seq (.pl <| .e 3 0 <|
 .x 2 (.mv (.c (.bool false))) .done) K154_2
@[simp] def WB_slices_Contains_S_int_int := C.w B_slices_Contains_S_int_int.eq_1
def R_slices_Contains_S_int_int : FIR := ⟨B_slices_Contains_S_int_int, 3, [(2, none)]⟩
theorem IR_slices_Contains_S_int_int : cfun Try.prog H_slices_Contains_S_int_int Try.f154 = some R_slices_Contains_S_int_int := by kernel_rfl
theorem EN_slices_Contains_S_int_int : ENT Try.prog B_slices_Contains_S_int_int [(2, none)] 2 3 fn_slices_Contains_S_int_int := fun hargs hw => enter Try.func154 rfl IR_slices_Contains_S_int_int hargs hw
def H_slices_IndexFunc_S_int_int : Hint := ⟨[(0, false), (1, false), (4, false), (5, false), (7, false), (8, false)], [[2, 3]]⟩
def K134_1 : C := .seq (.pl <| .e 6 0 <|
 .x 2 (.mv (.c (.int .i64 (-1)))) .done) (.ret)
@[simp] def W134_1 := C.w K134_1.eq_1
def K134_2 : C := .pl <| .e 6 1 <|
 .x 6 (.bin .add (.v 5) (.c (.int .i64 1))) <|
 .m 5 6 .done
@[simp] def W134_2 := C.w K134_2.eq_1
def K134_3 : C := .seq (.pl <| .e 6 1 <|
 .m 6 3 <|
 .m 2 6 .done) (.ret)
@[simp] def W134_3 := C.w K134_3.eq_1
def K134_4 : C := .cond 6 (.v 11) K134_3 (.skip)
@[simp] def W134_4 := C.w K134_4.eq_1
def K134_5 : C := .seq (.pl <| .e 6 6 <|
 .m 6 1 <|
 .m 7 0 <|
 .m 8 3 <|
 .x 9 (.ia 1 (.v 7) (.v 8)) <|
 .l 10 9 <|
 .c 11 (.callv (.v 6) [.v 10]) .done) K134_4
@[simp] def W134_5 := C.w K134_5.eq_1
def K134_6 : C := .seq (.block 1 (.seq (.pl <| .e 6 1 <|
 .m 6 5 <|
 .m 3 6 .done) K134_5)) K134_2
@[simp] def W134_6 := C.w K134_6.eq_1
def K134_7 : C := .seq (.cond 6 (.v 6) (.skip) (.exit 0)) K134_6
@[simp] def W134_7 := C.w K134_7.eq_1
def K134_8 : C := .seq (.pl <| .e 6 1 <|
 .x 6 (.bin .lss (.v 5) (.v 4)) .done) K134_7
@[simp] def W134_8 := C.w K134_8.eq_1
def K134_9 : C := .block 0 (.loop 6 [2, 3] K134_8)
@[simp] def W134_9 := C.w K134_9.eq_1
def K134_10 : C := .seq (.seq (.pl <| .e 6 1 <|
 .m 6 0 <|
 .x 4 (.lenV (.v 6)) <|
 .x 5 (.mv (.c (.int .i64 0))) .done) K134_9) K134_1
@[simp] def W134_10 := C.w K134_10.eq_1
def B_slices_IndexFunc_S_int_int : C := .seq (.pl <| .e 6 0 <|
 .x 2 (.mv (.c (.int .i64 0))) .done) K134_10
@[simp] def WB_slices_IndexFunc_S_int_int := C.w B_slices_IndexFunc_S_int_int.eq_1
def R_slices_IndexFunc_S_int_int : FIR := ⟨B_slices_IndexFunc_S_int_int, 6, [(2, none)]⟩
theorem IR_slices_IndexFunc_S_int_int : cfun Try.prog H_slices_IndexFunc_S_int_int Try.f134 = some R_slices_IndexFunc_S_int_int := by kernel_rfl
theorem EN_slices_IndexFunc_S_int_int : ENT Try.prog B_slices_IndexFunc_S_int_int [(2, none)] 2 6 fn_slices_IndexFunc_S_int_int := fun hargs hw => enter Try.func134 rfl IR_slices_IndexFunc_S_int_int hargs hw
def H_slices_Index_S_int_int : Hint := ⟨[(0, false), (1, false), (4, false), (5, false), (7, false), (8, false)], [[2, 3]]⟩
def K177_1 : C := .seq (.pl <| .e 6 0 <|
 .x 2 (.mv (.c (.int .i64 (-1)))) .done) (.ret)
@[simp] def W177_1 := C.w K177_1.eq_1
def K177_2 : C := .pl <| .e 6 1 <|
 .x 6 (.bin .add (.v 5) (.c (.int .i64 1))) <|
 .m 5 6 .done
@[simp] def W177_2 := C.w K177_2.eq_1
def K177_3 : C := .seq (.pl <| .e 6 1 <|
 .m 6 3 <|
 .m 2 6 .done) (.ret)
@[simp] def W177_3 := C.w K177_3.eq_1
def K177_4 : C := .cond 6 (.v 11) K177_3 (.skip)
@[simp] def W177_4 := C.w K177_4.eq_1
def K177_5 : C := .seq (.pl <| .e 6 6 <|
 .m 6 1 <|
 .m 7 0 <|
 .m 8 3 <|
 .x 9 (.ia 1 (.v 7) (.v 8)) <|
 .l 10 9 <|
 .x 11 (.bin .eql (.v 6) (.v 10)) .done) K177_4
@[simp] def W177_5 := C.w K177_5.eq_1
def K177_6 : C := .seq (.block 1 (.seq (.pl <| .e 6 1 <|
 .m 6 5 <|
 .m 3 6 .done) K177_5)) K177_2
@[simp] def W177_6 := C.w K177_6.eq_1
def K177_7 : C := .seq (.cond 6 (.v 6) (.skip) (.exit 0)) K177_6
@[simp] def W177_7 := C.w K177_7.eq_1
def K177_8 : C := .seq (.pl <| .e 6 1 <|
 .x 6 (.bin .lss (.v 5) (.v 4)) .done) K177_7
@[simp] def W177_8 := C.w K177_8.eq_1
def K177_9 : C := .block 0 (.loop 6 [2, 3] K177_8)
@[simp] def W177_9 := C.w K177_9.eq_1
def K177_10 : C := .seq (.seq (.pl <| .e 6 1 <|
 .m 6 0 <|
 .x 4 (.lenV (.v 6)) <|
 .x 5 (.mv (.c (.int .i64 0))) .done) K177_9) K177_1
@[simp] def W177_10 := C.w K177_10.eq_1
def B_slices_Index_S_int_int : C := .seq (.pl <| .e 6 0 <|
 .x 2 (.mv (.c (.int .i64 0))) .done) K177_10
@[simp] def WB_slices_Index_S_int_int := C.w B_slices_Index_S_int_int.eq_1
def R_slices_Index_S_int_int : FIR := ⟨B_slices_Index_S_int_int, 6, [(2, none)]⟩
theorem IR_slices_Index_S_int_int : cfun Try.prog H_slices_Index_S_int_int Try.f177 = some R_slices_Index_S_int_int := by kernel_rfl
theorem EN_slices_Index_S_int_int : ENT Try.prog B_slices_Index_S_int_int [(2, none)] 2 6 fn_slices_Index_S_int_int := fun hargs hw => enter Try.func177 rfl IR_slices_Index_S_int_int hargs hw
end Go.Proofs.Ytglnelcmcimljaa

namespace Go.Proofs.Ytglnelcmcimljaa
open Go
def H_impl_Automaton_live : Hint := ⟨[(0, false), (1, true), (2, false), (3, false), (4, false), (5, false), (6, false), (7, false), (8, false), (17, false), (18, false), (24, false), (25, false), (26, false)], [[0, 2, 6, 7, 8, 11, 12, 13], [0, 2, 7, 8]]⟩
def K58_1 : C := .seq (.pl <| .e 14 1 <|
 .m 14 5 <|
 .m 2 14 .done) (.ret)
@[simp] def W58_1 := C.w K58_1.eq_1
def K58_2 : C := .pl <| .e 14 1 <|
 .x 14 (.bin .add (.v 10) (.c (.int .i64 1))) <|
 .m 10 14 .done
@[simp] def W58_2 := C.w K58_2.eq_1
def K58_3 : C := .pl <| .e 14 1 <|
 .x 14 (.bin .add (.v 13) (.c (.int .i64 1))) <|
 .m 13 14 .done
@[simp] def W58_3 := C.w K58_3.eq_1
def K58_4 : C := .pl <| .e 14 23 <|
 .m 14 5 <|
 .m 15 6 <|
 .m 16 5 <|
 .m 17 6 <|
 .x 18 (.ia 1 (.v 16) (.v 17)) <|
 .l 19 18 <|
 .m 20 19 <|
 .n 20 (.px (some 21) (.mv (.v 8))) <|
 .n 20 (.px (some 22) (.mv (.v 21))) <|
 .y 22 (.px (some 23) (.mv (.v 4))) <|
 .y 22 (.px (some 24) (.mv (.v 7))) <|
 .y 22 (.px (some 25) (.ia 1 (.v 23) (.v 24))) <|
 .y 22 (.ld (some 26) (.v 25) none) <|
 .n 20 (.px (some 27) (.pick (.v 22) (.v 26) (.c (.bool false)))) <|
 .n 20 (.px (some 28) (.mv (.v 27))) <|
 .y 28 (.als 29 none 1) <|
 .y 28 (.pget (some 30) (some 29) 1 1 none) <|
 .y 28 (.px (some 31) (.mv (.v 7))) <|
 .y 28 (.px (some 32) (.ia 1 (.v 30) (.v 31))) <|
 .y 28 (.ld (some 33) (.v 32) none) <|
 .n 20 (.px (some 34) (.pick (.v 28) (.v 33) (.c (.bool false)))) <|
 .x 35 (.pick (.v 20) (.c (.bool true)) (.v 34)) <|
 .x 36 (.ia 1 (.v 14) (.v 15)) <|
 .o (.ex none (.store 1 (.v 36) (.v 35))) .done
@[simp] def W58_4 := C.w K58_4.eq_1
def K58_5 : C := .seq (.block 3 (.seq (.pl <| .e 14 3 <|
 .m 14 13 <|
 .x 15 (.ia 1 (.v 11) (.v 13)) <|
 .l 16 15 <|
 .m 7 14 <|
 .m 8 16 .done) K58_4)) K58_3
@[simp] def W58_5 := C.w K58_5.eq_1
def K58_6 : C := .seq (.cond 14 (.v 14) (.skip) (.exit 2)) K58_5
@[simp] def W58_6 := C.w K58_6.eq_1
def K58_7 : C := .seq (.pl <| .e 14 1 <|
 .x 14 (.bin .lss (.v 13) (.v 12)) .done) K58_6
@[simp] def W58_7 := C.w K58_7.eq_1
def K58_8 : C := .block 2 (.loop 14 [0, 2, 7, 8] K58_7)
@[simp] def W58_8 := C.w K58_8.eq_1
def K58_9 : Pl := .x 12 (.lenV (.v 11)) <|
 .x 13 (.mv (.c (.int .i64 0))) .done
@[simp] def W58_9 := Pl.w K58_9.eq_1
def K58_10 : Pl := .c 11 (.call fn_impl_reachable [.v 14, .v 16]) K58_9
@[simp] def W58_10 := Pl.w K58_10.eq_1
def K58_11 : C := .seq (.pl <| .e 14 3 <|
 .m 14 3 <|
 .m 15 6 <|
 .c 16 (.bls 1 1 [.int .i64 0] [(0, 1, .v 15)]) K58_10) K58_8
@[simp] def W58_11 := C.w K58_11.eq_1
def K58_12 : C := .seq (.block 1 (.seq (.pl <| .e 14 1 <|
 .m 14 10 <|
 .m 6 14 .done) K58_11)) K58_2
@[simp] def W58_12 := C.w K58_12.eq_1
def K58_13 : C := .seq (.cond 14 (.v 14) (.skip) (.exit 0)) K58_12
@[simp] def W58_13 := C.w K58_13.eq_1
def K58_14 : C := .seq (.pl <| .e 14 1 <|
 .x 14 (.bin .lss (.v 10) (.v 9)) .done) K58_13
@[simp] def W58_14 := C.w K58_14.eq_1
def K58_15 : C := .block 0 (.loop 14 [0, 2, 6, 7, 8, 11, 12, 13] K58_14)
@[simp] def W58_15 := C.w K58_15.eq_1
def K58_16 : C := .seq (.seq (.pl <| .e 14 1 <|
 .m 14 3 <|
 .x 9 (.lenV (.v 14)) <|
 .x 10 (.mv (.c (.int .i64 0))) .done) K58_15) K58_1
@[simp] def W58_16 := C.w K58_16.eq_1
def K58_17 : Pl := .m 5 16 .done
@[simp] def W58_17 := Pl.w K58_17.eq_1
def K58_18 : C := .seq (.pl <| .e 14 3 <|
 .m 14 3 <|
 .x 15 (.lenV (.v 14)) <|
 .c 16 (.mks 1 1 [.bool false] (.v 15) (.v 15)) K58_17) K58_16
@[simp] def W58_18 := C.w K58_18.eq_1
def K58_19 : Pl := .m 4 15 .done
@[simp] def W58_19 := Pl.w K58_19.eq_1
def K58_20 : C := .seq (.pl <| .e 14 2 <|
 .m 14 3 <|
 .c 15 (.call fn_impl_cyclic [.v 14]) K58_19) K58_18
@[simp] def W58_20 := C.w K58_20.eq_1
def K58_21 : Pl := .m 3 15 .done
@[simp] def W58_21 := Pl.w K58_21.eq_1
def K58_22 : C := .seq (.pl <| .e 14 2 <|
 .o (.pget (some 14) none 1 0 (some 3)) <|
 .c 15 (.call fn_impl_Automaton_next [.v 14]) K58_21) K58_20
@[simp] def W58_22 := C.w K58_22.eq_1
def B_impl_Automaton_live : C := .seq (.pl <| .e 14 0 <|
 .o (.pnew 1 (.v 0) []) <|
 .x 2 (.mv (.c (.slice none 0 0))) .done) K58_22
@[simp] def WB_impl_Automaton_live := C.w B_impl_Automaton_live.eq_1
def R_impl_Automaton_live : FIR := ⟨B_impl_Automaton_live, 14, [(2, none)]⟩
theorem IR_impl_Automaton_live : cfun Try.prog H_impl_Automaton_live Try.f58 = some R_impl_Automaton_live := by kernel_rfl
theorem EN_impl_Automaton_live : ENT Try.prog B_impl_Automaton_live [(2, none)] 1 14 fn_impl_Automaton_live := fun hargs hw => enter Try.func58 rfl IR_impl_Automaton_live hargs hw
def H_impl_Automaton_next : Hint := ⟨[(0, false), (1, true), (2, false), (3, false), (5, true), (11, false), (12, false), (13, false)], [[0, 1, 2, 4]]⟩
def K112_1 : C := .seq (.pl <| .e 8 1 <|
 .m 8 3 <|
 .m 2 8 .done) (.ret)
@[simp] def W112_1 := C.w K112_1.eq_1
def K112_2 : C := .pl <| .e 8 1 <|
 .x 8 (.bin .add (.v 7) (.c (.int .i64 1))) <|
 .m 7 8 .done
@[simp] def W112_2 := C.w K112_2.eq_1
def K112_3 : Pl := .x 20 (.ia 1 (.v 8) (.v 10)) <|
 .o (.ex none (.store 1 (.v 20) (.v 19))) .done
@[simp] def W112_3 := Pl.w K112_3.eq_1
def K112_4 : C := .pl <| .e 8 13 <|
 .m 8 3 <|
 .a 9 4 <|
 .g 10 9 4 0 <|
 .m 11 3 <|
 .a 12 4 <|
 .g 13 12 4 0 <|
 .x 14 (.ia 1 (.v 11) (.v 13)) <|
 .l 15 14 <|
 .a 16 4 <|
 .g 17 16 4 3 <|
 .o (.psl 18 [.int .i64 0] [(0, 1, .v 17)]) <|
 .c 19 (.app 8 1 [.int .i64 0] (.o (.v 15)) (.p 1 18)) K112_3
@[simp] def W112_4 := C.w K112_4.eq_1
def K112_5 : C := .seq (.block 1 (.seq (.pl <| .e 8 2 <|
 .x 8 (.ia 4 (.v 5) (.v 7)) <|
 .o (.ld (some 9) (.v 8) (some 4)) <|
 .o (.pnew 4 (.c (.agg #[.int .i64 0, .int .i64 0, .int .i64 0, .int .i64 0])) []) <|
 .o (.pset none 4 0 4 (.v 9)) .done) K112_4)) K112_2
@[simp] def W112_5 := C.w K112_5.eq_1
def K112_6 : C := .seq (.cond 8 (.v 8) (.skip) (.exit 0)) K112_5
@[simp] def W112_6 := C.w K112_6.eq_1
def K112_7 : C := .seq (.pl <| .e 8 1 <|
 .x 8 (.bin .lss (.v 7) (.v 6)) .done) K112_6
@[simp] def W112_7 := C.w K112_7.eq_1
def K112_8 : C := .block 0 (.loop 8 [0, 1, 2, 4] K112_7)
@[simp] def W112_8 := C.w K112_8.eq_1
def K112_9 : C := .seq (.seq (.pl <| .e 8 1 <|
 .a 8 1 <|
 .g 5 8 1 2 <|
 .x 6 (.lenV (.v 5)) <|
 .x 7 (.mv (.c (.int .i64 0))) .done) K112_8) K112_1
@[simp] def W112_9 := C.w K112_9.eq_1
def K112_10 : Pl := .m 3 11 .done
@[simp] def W112_10 := Pl.w K112_10.eq_1
def K112_11 : C := .seq (.pl <| .e 8 4 <|
 .a 8 1 <|
 .g 9 8 1 1 <|
 .x 10 (.lenV (.v 9)) <|
 .c 11 (.mks 24 1 [.slice none 0 0] (.v 10) (.v 10)) K112_10) K112_9
@[simp] def W112_11 := C.w K112_11.eq_1
def B_impl_Automaton_next : C := .seq (.pl <| .e 8 0 <|
 .o (.pnew 1 (.v 0) []) <|
 .x 2 (.mv (.c (.slice none 0 0))) .done) K112_11
@[simp] def WB_impl_Automaton_next := C.w B_impl_Automaton_next.eq_1
def R_impl_Automaton_next : FIR := ⟨B_impl_Automaton_next, 8, [(2, none)]⟩
theorem IR_impl_Automaton_next : cfun Try.prog H_impl_Automaton_next Try.f112 = some R_impl_Automaton_next := by kernel_rfl
theorem EN_impl_Automaton_next : ENT Try.prog B_impl_Automaton_next [(2, none)] 1 8 fn_impl_Automaton_next := fun hargs hw => enter Try.func112 rfl IR_impl_Automaton_next hargs hw
def H_spec_LiveStates : Hint := ⟨[(0, false), (1, true), (2, false), (3, false), (4, false), (5, false), (6, false), (7, false), (8, false)], [[0, 2, 6, 7, 8], [0, 2]]⟩
def K109_1 : C := .seq (.pl <| .e 9 1 <|
 .m 9 3 <|
 .m 2 9 .done) (.ret)
@[simp] def W109_1 := C.w K109_1.eq_1
def K109_2 : C := .pl <| .e 9 2 <|
 .m 9 5 <|
 .x 10 (.bin .add (.v 9) (.c (.int .i64 1))) <|
 .m 5 10 .done
@[simp] def W109_2 := C.w K109_2.eq_1
def K109_3 : Pl := .m 3 12 .done
@[simp] def W109_3 := Pl.w K109_3.eq_1
def K109_4 : C := .pl <| .e 9 4 <|
 .m 9 3 <|
 .m 10 7 <|
 .o (.psl 11 [.bool false] [(0, 1, .v 10)]) <|
 .c 12 (.app 1 1 [.bool false] (.o (.v 9)) (.p 1 11)) K109_3
@[simp] def W109_4 := C.w K109_4.eq_1
def K109_5 : C := .pl <| .e 9 2 <|
 .m 9 8 <|
 .x 10 (.bin .add (.v 9) (.c (.int .i64 1))) <|
 .m 8 10 .done
@[simp] def W109_5 := C.w K109_5.eq_1
def K109_6 : Pl := .x 24 (.pick (.v 17) (.v 23) (.c (.bool false))) <|
 .m 7 24 .done
@[simp] def W109_6 := Pl.w K109_6.eq_1
def K109_7 : C := .seq (.block 3 (.pl <| .e 9 16 <|
 .a 9 1 <|
 .g 10 9 1 1 <|
 .m 11 6 <|
 .m 12 8 <|
 .x 13 (.ia 1 (.v 11) (.v 12)) <|
 .l 14 13 <|
 .x 15 (.ia 1 (.v 10) (.v 14)) <|
 .l 16 15 <|
 .m 17 16 <|
 .y 17 (.px (some 18) (.mv (.v 4))) <|
 .y 17 (.px (some 19) (.mv (.v 6))) <|
 .y 17 (.px (some 20) (.mv (.v 8))) <|
 .y 17 (.px (some 21) (.ia 1 (.v 19) (.v 20))) <|
 .y 17 (.ld (some 22) (.v 21) none) <|
 .st (.act (some (.v 17, true)) (.ex (some 23) (.call fn_spec_l7Loop [.v 18, .v 22]))) K109_6)) K109_5
@[simp] def W109_7 := C.w K109_7.eq_1
def K109_8 : C := .cond 9 (.v 16) (.skip) (.exit 2)
@[simp] def W109_8 := C.w K109_8.eq_1
def K109_9 : C := .seq (.seq (.pl <| .e 9 8 <|
 .m 9 8 <|
 .m 10 6 <|
 .x 11 (.lenV (.v 10)) <|
 .x 12 (.bin .lss (.v 9) (.v 11)) <|
 .m 13 12 <|
 .y 13 (.px (some 14) (.mv (.v 7))) <|
 .y 13 (.px (some 15) (.un .not (.v 14))) <|
 .x 16 (.pick (.v 13) (.v 15) (.c (.bool false))) .done) K109_8) K109_7
@[simp] def W109_9 := C.w K109_9.eq_1
def K109_10 : C := .block 2 (.loop 9 [0, 2] K109_9)
@[simp] def W109_10 := C.w K109_10.eq_1
def K109_11 : C := .seq (.seq (.pl <| .e 9 0 <|
 .x 8 (.mv (.c (.int .i64 0))) .done) K109_10) K109_4
@[simp] def W109_11 := C.w K109_11.eq_1
def K109_12 : C := .seq (.pl <| .e 9 0 <|
 .x 7 (.mv (.c (.bool false))) .done) K109_11
@[simp] def W109_12 := C.w K109_12.eq_1
def K109_13 : Pl := .m 6 12 .done
@[simp] def W109_13 := Pl.w K109_13.eq_1
def K109_14 : Pl := .c 12 (.call fn_spec_l7Reach [.v 9, .v 11]) K109_13
@[simp] def W109_14 := Pl.w K109_14.eq_1
def K109_15 : C := .seq (.block 1 (.seq (.pl <| .e 9 4 <|
 .m 9 4 <|
 .m 10 5 <|
 .c 11 (.bls 1 1 [.int .i64 0] [(0, 1, .v 10)]) K109_14) K109_12)) K109_2
@[simp] def W109_15 := C.w K109_15.eq_1
def K109_16 : C := .cond 9 (.v 13) (.skip) (.exit 0)
@[simp] def W109_16 := C.w K109_16.eq_1
def K109_17 : C := .seq (.seq (.pl <| .e 9 5 <|
 .m 9 5 <|
 .a 10 1 <|
 .g 11 10 1 1 <|
 .x 12 (.lenV (.v 11)) <|
 .x 13 (.bin .lss (.v 9) (.v 12)) .done) K109_16) K109_15
@[simp] def W109_17 := C.w K109_17.eq_1
def K109_18 : C := .block 0 (.loop 9 [0, 2, 6, 7, 8] K109_17)
@[simp] def W109_18 := C.w K109_18.eq_1
def K109_19 : C := .seq (.seq (.pl <| .e 9 0 <|
 .x 5 (.mv (.c (.int .i64 0))) .done) K109_18) K109_1
@[simp] def W109_19 := C.w K109_19.eq_1
def K109_20 : Pl := .m 4 10 .done
@[simp] def W109_20 := Pl.w K109_20.eq_1
def K109_21 : C := .seq (.pl <| .e 9 2 <|
 .o (.pget (some 9) none 1 0 (some 3)) <|
 .c 10 (.call fn_spec_l7Next [.v 9]) K109_20) K109_19
@[simp] def W109_21 := C.w K109_21.eq_1
def K109_22 : C := .seq (.pl <| .e 9 1 <|
 .m 9 3 <|
 .m 2 9 .done) (.ret)
@[simp] def W109_22 := C.w K109_22.eq_1
def K109_23 : C := .cond 9 (.v 11) K109_22 (.skip)
@[simp] def W109_23 := C.w K109_23.eq_1
def K109_24 : Pl := .x 11 (.un .not (.v 10)) .done
@[simp] def W109_24 := Pl.w K109_24.eq_1
def K109_25 : C := .seq (.seq (.pl <| .e 9 3 <|
 .o (.pget (some 9) none 1 0 (some 3)) <|
 .c 10 (.call fn_spec_AutomatonValid [.v 9]) K109_24) K109_23) K109_21
@[simp] def W109_25 := C.w K109_25.eq_1
def K109_26 : Pl := .m 3 9 .done
@[simp] def W109_26 := Pl.w K109_26.eq_1
def K109_27 : C := .seq (.pl <| .e 9 1 <|
 .c 9 (.bls 1 0 [.bool false] []) K109_26) K109_25
@[simp] def W109_27 := C.w K109_27.eq_1
def B_spec_LiveStates : C := .seq (.pl <| .e 9 0 <|
 .o (.pnew 1 (.v 0) []) <|
 .x 2 (.mv (.c (.slice none 0 0))) .done) K109_27
@[simp] def WB_spec_LiveStates := C.w B_spec_LiveStates.eq_1
def R_spec_LiveStates : FIR := ⟨B_spec_LiveStates, 9, [(2, none)]⟩
theorem IR_spec_LiveStates : cfun Try.prog H_spec_LiveStates Try.f109 = some R_spec_LiveStates := by kernel_rfl
theorem EN_spec_LiveStates : ENT Try.prog B_spec_LiveStates [(2, none)] 1 9 fn_spec_LiveStates := fun hargs hw => enter Try.func109 rfl IR_spec_LiveStates hargs hw
def H_spec_l4In : Hint := ⟨[(0, false), (1, false), (4, false), (5, false)], [[2]]⟩
def K152_1 : C := .seq (.pl <| .e 4 0 <|
 .x 2 (.mv (.c (.bool false))) .done) (.ret)
@[simp] def W152_1 := C.w K152_1.eq_1
def K152_2 : C := .pl <| .e 4 2 <|
 .m 4 3 <|
 .x 5 (.bin .add (.v 4) (.c (.int .i64 1))) <|
 .m 3 5 .done
@[simp] def W152_2 := C.w K152_2.eq_1
def K152_3 : C := .seq (.pl <| .e 4 0 <|
 .x 2 (.mv (.c (.bool true))) .done) (.ret)
@[simp] def W152_3 := C.w K152_3.eq_1
def K152_4 : C := .cond 4 (.v 9) K152_3 (.skip)
@[simp] def W152_4 := C.w K152_4.eq_1
def K152_5 : C := .seq (.block 1 (.seq (.pl <| .e 4 6 <|
 .m 4 0 <|
 .m 5 3 <|
 .x 6 (.ia 1 (.v 4) (.v 5)) <|
 .l 7 6 <|
 .m 8 1 <|
 .x 9 (.bin .eql (.v 7) (.v 8)) .done) K152_4)) K152_2
@[simp] def W152_5 := C.w K152_5.eq_1
def K152_6 : C := .cond 4 (.v 7) (.skip) (.exit 0)
@[simp] def W152_6 := C.w K152_6.eq_1
def K152_7 : C := .seq (.seq (.pl <| .e 4 4 <|
 .m 4 3 <|
 .m 5 0 <|
 .x 6 (.lenV (.v 5)) <|
 .x 7 (.bin .lss (.v 4) (.v 6)) .done) K152_6) K152_5
@[simp] def W152_7 := C.w K152_7.eq_1
def K152_8 : C := .block 0 (.loop 4 [2] K152_7)
@[simp] def W152_8 := C.w K152_8.eq_1
def K152_9 : C := .seq (.seq (.pl <| .e 4 0 <|
 .x 3 (.mv (.c (.int .i64 0))) .done) K152_8) K152_1
@[simp] def W152_9 := C.w K152_9.eq_1
def B_spec_l4In : C := .seq (.pl <| .e 4 0 <|
 .x 2 (.mv (.c (.bool false))) .done) K152_9
@[simp] def WB_spec_l4In := C.w B_spec_l4In.eq_1
def R_spec_l4In : FIR := ⟨B_spec_l4In, 4, [(2, none)]⟩
theorem IR_spec_l4In : cfun Try.prog H_spec_l4In Try.f152 = some R_spec_l4In := by kernel_rfl
theorem EN_spec_l4In : ENT Try.prog B_spec_l4In [(2, none)] 2 4 fn_spec_l4In := fun hargs hw => enter Try.func152 rfl IR_spec_l4In hargs hw
def H_spec_l7Loop : Hint := ⟨[(0, false), (1, false), (4, false), (5, false), (6, false), (7, false), (8, false), (9, false)], [[2, 4, 5, 6, 7], [2, 3, 7]]⟩
def K151_1 : C := .seq (.pl <| .e 8 0 <|
 .x 2 (.mv (.c (.bool false))) .done) (.ret)
@[simp] def W151_1 := C.w K151_1.eq_1
def K151_2 : C := .pl <| .e 8 2 <|
 .m 8 6 <|
 .x 9 (.bin .add (.v 8) (.c (.int .i64 1))) <|
 .m 6 9 .done
@[simp] def W151_2 := C.w K151_2.eq_1
def K151_3 : Pl := .m 5 13 .done
@[simp] def W151_3 := Pl.w K151_3.eq_1
def K151_4 : C := .pl <| .e 8 6 <|
 .m 8 5 <|
 .m 9 0 <|
 .m 10 7 <|
 .x 11 (.ia 1 (.v 9) (.v 10)) <|
 .l 12 11 <|
 .c 13 (.app 8 1 [.int .i64 0] (.o (.v 8)) (.o (.v 12))) K151_3
@[simp] def W151_4 := C.w K151_4.eq_1
def K151_5 : C := .seq (.pl <| .e 8 3 <|
 .m 8 4 <|
 .m 9 7 <|
 .x 10 (.ia 1 (.v 8) (.v 9)) <|
 .o (.ex none (.store 1 (.v 10) (.c (.bool true)))) .done) K151_4
@[simp] def W151_5 := C.w K151_5.eq_1
def K151_6 : C := .cond 8 (.v 12) K151_5 (.skip)
@[simp] def W151_6 := C.w K151_6.eq_1
def K151_7 : C := .seq (.pl <| .e 8 5 <|
 .m 8 4 <|
 .m 9 7 <|
 .x 10 (.ia 1 (.v 8) (.v 9)) <|
 .l 11 10 <|
 .x 12 (.un .not (.v 11)) .done) K151_6
@[simp] def W151_7 := C.w K151_7.eq_1
def K151_8 : C := .seq (.pl <| .e 8 0 <|
 .x 2 (.mv (.c (.bool true))) .done) (.ret)
@[simp] def W151_8 := C.w K151_8.eq_1
def K151_9 : C := .cond 8 (.v 10) K151_8 (.skip)
@[simp] def W151_9 := C.w K151_9.eq_1
def K151_10 : C := .seq (.seq (.pl <| .e 8 3 <|
 .m 8 7 <|
 .m 9 1 <|
 .x 10 (.bin .eql (.v 8) (.v 9)) .done) K151_9) K151_7
@[simp] def W151_10 := C.w K151_10.eq_1
def K151_11 : C := .seq (.block 3 (.seq (.pl <| .e 8 4 <|
 .m 8 5 <|
 .m 9 6 <|
 .x 10 (.ia 1 (.v 8) (.v 9)) <|
 .l 11 10 <|
 .m 7 11 .done) K151_10)) K151_2
@[simp] def W151_11 := C.w K151_11.eq_1
def K151_12 : C := .cond 8 (.v 11) (.skip) (.exit 2)
@[simp] def W151_12 := C.w K151_12.eq_1
def K151_13 : C := .seq (.seq (.pl <| .e 8 4 <|
 .m 8 6 <|
 .m 9 5 <|
 .x 10 (.lenV (.v 9)) <|
 .x 11 (.bin .lss (.v 8) (.v 10)) .done) K151_12) K151_11
@[simp] def W151_13 := C.w K151_13.eq_1
def K151_14 : C := .block 2 (.loop 8 [2, 3, 7] K151_13)
@[simp] def W151_14 := C.w K151_14.eq_1
def K151_15 : C := .seq (.seq (.pl <| .e 8 0 <|
 .x 6 (.mv (.c (.int .i64 0))) .done) K151_14) K151_1
@[simp] def W151_15 := C.w K151_15.eq_1
def K151_16 : Pl := .m 5 13 .done
@[simp] def W151_16 := Pl.w K151_16.eq_1
def K151_17 : C := .seq (.pl <| .e 8 6 <|
 .o (.psl 8 [] []) <|
 .m 9 0 <|
 .m 10 1 <|
 .x 11 (.ia 1 (.v 9) (.v 10)) <|
 .l 12 11 <|
 .c 13 (.app 8 1 [.int .i64 0] (.p 0 8) (.o (.v 12))) K151_16) K151_15
@[simp] def W151_17 := C.w K151_17.eq_1
def K151_18 : Pl := .m 4 10 .done
@[simp] def W151_18 := Pl.w K151_18.eq_1
def K151_19 : C := .seq (.pl <| .e 8 3 <|
 .m 8 0 <|
 .x 9 (.lenV (.v 8)) <|
 .c 10 (.mks 1 1 [.bool false] (.v 9) (.v 9)) K151_18) K151_17
@[simp] def W151_19 := C.w K151_19.eq_1
def K151_20 : C := .pl <| .e 8 2 <|
 .m 8 3 <|
 .x 9 (.bin .add (.v 8) (.c (.int .i64 1))) <|
 .m 3 9 .done
@[simp] def W151_20 := C.w K151_20.eq_1
def K151_21 : C := .seq (.pl <| .e 8 0 <|
 .x 2 (.mv (.c (.bool true))) .done) (.ret)
@[simp] def W151_21 := C.w K151_21.eq_1
def K151_22 : C := .cond 8 (.v 16) K151_21 (.skip)
@[simp] def W151_22 := C.w K151_22.eq_1
def K151_23 : C := .seq (.block 1 (.seq (.pl <| .e 8 9 <|
 .m 8 0 <|
 .m 9 1 <|
 .x 10 (.ia 1 (.v 8) (.v 9)) <|
 .l 11 10 <|
 .m 12 3 <|
 .x 13 (.ia 1 (.v 11) (.v 12)) <|
 .l 14 13 <|
 .m 15 1 <|
 .x 16 (.bin .eql (.v 14) (.v 15)) .done) K151_22)) K151_20
@[simp] def W151_23 := C.w K151_23.eq_1
def K151_24 : C := .cond 8 (.v 14) (.skip) (.exit 0)
@[simp] def W151_24 := C.w K151_24.eq_1
def K151_25 : C := .seq (.seq (.pl <| .e 8 7 <|
 .m 8 3 <|
 .m 9 0 <|
 .m 10 1 <|
 .x 11 (.ia 1 (.v 9) (.v 10)) <|
 .l 12 11 <|
 .x 13 (.lenV (.v 12)) <|
 .x 14 (.bin .lss (.v 8) (.v 13)) .done) K151_24) K151_23
@[simp] def W151_25 := C.w K151_25.eq_1
def K151_26 : C := .block 0 (.loop 8 [2, 4, 5, 6, 7] K151_25)
@[simp] def W151_26 := C.w K151_26.eq_1
def K151_27 : C := .seq (.seq (.pl <| .e 8 0 <|
 .x 3 (.mv (.c (.int .i64 0))) .done) K151_26) K151_19
@[simp] def W151_27 := C.w K151_27.eq_1
def B_spec_l7Loop : C := .seq (.pl <| .e 8 0 <|
 .x 2 (.mv (.c (.bool false))) .done) K151_27
@[simp] def WB_spec_l7Loop := C.w B_spec_l7Loop.eq_1
def R_spec_l7Loop : FIR := ⟨B_spec_l7Loop, 8, [(2, none)]⟩
theorem IR_spec_l7Loop : cfun Try.prog H_spec_l7Loop Try.f151 = some R_spec_l7Loop := by kernel_rfl
theorem EN_spec_l7Loop : ENT Try.prog B_spec_l7Loop [(2, none)] 2 8 fn_spec_l7Loop := fun hargs hw => enter Try.func151 rfl IR_spec_l7Loop hargs hw
def H_spec_l7Next : Hint := ⟨[(0, false), (1, true), (2, false), (3, false), (4, false), (5, true)], [[0, 2, 5]]⟩
def K136_1 : C := .seq (.pl <| .e 6 1 <|
 .m 6 3 <|
 .m 2 6 .done) (.ret)
@[simp] def W136_1 := C.w K136_1.eq_1
def K136_2 : C := .pl <| .e 6 2 <|
 .m 6 4 <|
 .x 7 (.bin .add (.v 6) (.c (.int .i64 1))) <|
 .m 4 7 .done
@[simp] def W136_2 := C.w K136_2.eq_1
def K136_3 : Pl := .x 18 (.ia 1 (.v 6) (.v 8)) <|
 .o (.ex none (.store 1 (.v 18) (.v 17))) .done
@[simp] def W136_3 := Pl.w K136_3.eq_1
def K136_4 : C := .pl <| .e 6 13 <|
 .m 6 3 <|
 .a 7 5 <|
 .g 8 7 5 0 <|
 .m 9 3 <|
 .a 10 5 <|
 .g 11 10 5 0 <|
 .x 12 (.ia 1 (.v 9) (.v 11)) <|
 .l 13 12 <|
 .a 14 5 <|
 .g 15 14 5 3 <|
 .o (.psl 16 [.int .i64 0] [(0, 1, .v 15)]) <|
 .c 17 (.app 8 1 [.int .i64 0] (.o (.v 13)) (.p 1 16)) K136_3
@[simp] def W136_4 := C.w K136_4.eq_1
def K136_5 : C := .cond 6 (.v 14) K136_4 (.skip)
@[simp] def W136_5 := C.w K136_5.eq_1
def K136_6 : Pl := .x 14 (.un .not (.v 13)) .done
@[simp] def W136_6 := Pl.w K136_6.eq_1
def K136_7 : C := .seq (.pl <| .e 6 9 <|
 .m 6 3 <|
 .a 7 5 <|
 .g 8 7 5 0 <|
 .x 9 (.ia 1 (.v 6) (.v 8)) <|
 .l 10 9 <|
 .a 11 5 <|
 .g 12 11 5 3 <|
 .c 13 (.call fn_spec_l4In [.v 10, .v 12]) K136_6) K136_5
@[simp] def W136_7 := C.w K136_7.eq_1
def K136_8 : C := .seq (.block 1 (.seq (.pl <| .e 6 5 <|
 .a 6 1 <|
 .g 7 6 1 2 <|
 .m 8 4 <|
 .x 9 (.ia 4 (.v 7) (.v 8)) <|
 .o (.ld (some 10) (.v 9) (some 4)) <|
 .o (.pnew 5 (.c (.agg #[.int .i64 0, .int .i64 0, .int .i64 0, .int .i64 0])) []) <|
 .o (.pset none 5 0 4 (.v 10)) .done) K136_7)) K136_2
@[simp] def W136_8 := C.w K136_8.eq_1
def K136_9 : C := .cond 6 (.v 10) (.skip) (.exit 0)
@[simp] def W136_9 := C.w K136_9.eq_1
def K136_10 : C := .seq (.seq (.pl <| .e 6 5 <|
 .m 6 4 <|
 .a 7 1 <|
 .g 8 7 1 2 <|
 .x 9 (.lenV (.v 8)) <|
 .x 10 (.bin .lss (.v 6) (.v 9)) .done) K136_9) K136_8
@[simp] def W136_10 := C.w K136_10.eq_1
def K136_11 : C := .block 0 (.loop 6 [0, 2, 5] K136_10)
@[simp] def W136_11 := C.w K136_11.eq_1
def K136_12 : C := .seq (.seq (.pl <| .e 6 0 <|
 .x 4 (.mv (.c (.int .i64 0))) .done) K136_11) K136_1
@[simp] def W136_12 := C.w K136_12.eq_1
def K136_13 : Pl := .m 3 9 .done
@[simp] def W136_13 := Pl.w K136_13.eq_1
def K136_14 : C := .seq (.pl <| .e 6 4 <|
 .a 6 1 <|
 .g 7 6 1 1 <|
 .x 8 (.lenV (.v 7)) <|
 .c 9 (.mks 24 1 [.slice none 0 0] (.v 8) (.v 8)) K136_13) K136_12
@[simp] def W136_14 := C.w K136_14.eq_1
def B_spec_l7Next : C := .seq (.pl <| .e 6 0 <|
 .o (.pnew 1 (.v 0) []) <|
 .x 2 (.mv (.c (.slice none 0 0))) .done) K136_14
@[simp] def WB_spec_l7Next := C.w B_spec_l7Next.eq_1
def R_spec_l7Next : FIR := ⟨B_spec_l7Next, 6, [(2, none)]⟩
theorem IR_spec_l7Next : cfun Try.prog H_spec_l7Next Try.f136 = some R_spec_l7Next := by kernel_rfl
theorem EN_spec_l7Next : ENT Try.prog B_spec_l7Next [(2, none)] 1 6 fn_spec_l7Next := fun hargs hw => enter Try.func136 rfl IR_spec_l7Next hargs hw
def H_spec_l7Reach : Hint := ⟨[(0, false), (1, false), (4, false), (5, false), (6, false), (7, false), (8, false), (9, false), (10, false)], [[2, 6, 7, 8], [1, 2, 5, 7, 8], [1, 2, 5, 8]]⟩
def K135_1 : C := .seq (.pl <| .e 9 1 <|
 .m 9 4 <|
 .m 2 9 .done) (.ret)
@[simp] def W135_1 := C.w K135_1.eq_1
def K135_2 : C := .pl <| .e 9 2 <|
 .m 9 6 <|
 .x 10 (.bin .add (.v 9) (.c (.int .i64 1))) <|
 .m 6 10 .done
@[simp] def W135_2 := C.w K135_2.eq_1
def K135_3 : C := .pl <| .e 9 2 <|
 .m 9 7 <|
 .x 10 (.bin .add (.v 9) (.c (.int .i64 1))) <|
 .m 7 10 .done
@[simp] def W135_3 := C.w K135_3.eq_1
def K135_4 : Pl := .m 4 12 .done
@[simp] def W135_4 := Pl.w K135_4.eq_1
def K135_5 : C := .pl <| .e 9 4 <|
 .m 9 4 <|
 .m 10 8 <|
 .o (.psl 11 [.int .i64 0] [(0, 1, .v 10)]) <|
 .c 12 (.app 8 1 [.int .i64 0] (.o (.v 9)) (.p 1 11)) K135_4
@[simp] def W135_5 := C.w K135_5.eq_1
def K135_6 : C := .seq (.pl <| .e 9 3 <|
 .m 9 3 <|
 .m 10 8 <|
 .x 11 (.ia 1 (.v 9) (.v 10)) <|
 .o (.ex none (.store 1 (.v 11) (.c (.bool true)))) .done) K135_5
@[simp] def W135_6 := C.w K135_6.eq_1
def K135_7 : C := .cond 9 (.v 13) K135_6 (.skip)
@[simp] def W135_7 := C.w K135_7.eq_1
def K135_8 : C := .seq (.pl <| .e 9 5 <|
 .m 9 3 <|
 .m 10 8 <|
 .x 11 (.ia 1 (.v 9) (.v 10)) <|
 .l 12 11 <|
 .x 13 (.un .not (.v 12)) .done) K135_7
@[simp] def W135_8 := C.w K135_8.eq_1
def K135_9 : C := .seq (.block 5 (.seq (.pl <| .e 9 10 <|
 .m 9 0 <|
 .m 10 4 <|
 .m 11 6 <|
 .x 12 (.ia 1 (.v 10) (.v 11)) <|
 .l 13 12 <|
 .x 14 (.ia 1 (.v 9) (.v 13)) <|
 .l 15 14 <|
 .m 16 7 <|
 .x 17 (.ia 1 (.v 15) (.v 16)) <|
 .l 18 17 <|
 .m 8 18 .done) K135_8)) K135_3
@[simp] def W135_9 := C.w K135_9.eq_1
def K135_10 : C := .cond 9 (.v 18) (.skip) (.exit 4)
@[simp] def W135_10 := C.w K135_10.eq_1
def K135_11 : C := .seq (.seq (.pl <| .e 9 10 <|
 .m 9 7 <|
 .m 10 0 <|
 .m 11 4 <|
 .m 12 6 <|
 .x 13 (.ia 1 (.v 11) (.v 12)) <|
 .l 14 13 <|
 .x 15 (.ia 1 (.v 10) (.v 14)) <|
 .l 16 15 <|
 .x 17 (.lenV (.v 16)) <|
 .x 18 (.bin .lss (.v 9) (.v 17)) .done) K135_10) K135_9
@[simp] def W135_11 := C.w K135_11.eq_1
def K135_12 : C := .block 4 (.loop 9 [1, 2, 5, 8] K135_11)
@[simp] def W135_12 := C.w K135_12.eq_1
def K135_13 : C := .seq (.block 3 (.seq (.pl <| .e 9 0 <|
 .x 7 (.mv (.c (.int .i64 0))) .done) K135_12)) K135_2
@[simp] def W135_13 := C.w K135_13.eq_1
def K135_14 : C := .cond 9 (.v 12) (.skip) (.exit 2)
@[simp] def W135_14 := C.w K135_14.eq_1
def K135_15 : C := .seq (.seq (.pl <| .e 9 4 <|
 .m 9 6 <|
 .m 10 4 <|
 .x 11 (.lenV (.v 10)) <|
 .x 12 (.bin .lss (.v 9) (.v 11)) .done) K135_14) K135_13
@[simp] def W135_15 := C.w K135_15.eq_1
def K135_16 : C := .block 2 (.loop 9 [1, 2, 5, 7, 8] K135_15)
@[simp] def W135_16 := C.w K135_16.eq_1
def K135_17 : C := .seq (.seq (.pl <| .e 9 0 <|
 .x 6 (.mv (.c (.int .i64 0))) .done) K135_16) K135_1
@[simp] def W135_17 := C.w K135_17.eq_1
def K135_18 : C := .pl <| .e 9 2 <|
 .m 9 5 <|
 .x 10 (.bin .add (.v 9) (.c (.int .i64 1))) <|
 .m 5 10 .done
@[simp] def W135_18 := C.w K135_18.eq_1
def K135_19 : Pl := .m 4 15 .done
@[simp] def W135_19 := Pl.w K135_19.eq_1
def K135_20 : C := .pl <| .e 9 7 <|
 .m 9 4 <|
 .m 10 1 <|
 .m 11 5 <|
 .x 12 (.ia 1 (.v 10) (.v 11)) <|
 .l 13 12 <|
 .o (.psl 14 [.int .i64 0] [(0, 1, .v 13)]) <|
 .c 15 (.app 8 1 [.int .i64 0] (.o (.v 9)) (.p 1 14)) K135_19
@[simp] def W135_20 := C.w K135_20.eq_1
def K135_21 : C := .seq (.pl <| .e 9 6 <|
 .m 9 3 <|
 .m 10 1 <|
 .m 11 5 <|
 .x 12 (.ia 1 (.v 10) (.v 11)) <|
 .l 13 12 <|
 .x 14 (.ia 1 (.v 9) (.v 13)) <|
 .o (.ex none (.store 1 (.v 14) (.c (.bool true)))) .done) K135_20
@[simp] def W135_21 := C.w K135_21.eq_1
def K135_22 : C := .cond 9 (.v 16) K135_21 (.skip)
@[simp] def W135_22 := C.w K135_22.eq_1
def K135_23 : C := .seq (.block 1 (.seq (.pl <| .e 9 8 <|
 .m 9 3 <|
 .m 10 1 <|
 .m 11 5 <|
 .x 12 (.ia 1 (.v 10) (.v 11)) <|
 .l 13 12 <|
 .x 14 (.ia 1 (.v 9) (.v 13)) <|
 .l 15 14 <|
 .x 16 (.un .not (.v 15)) .done) K135_22)) K135_18
@[simp] def W135_23 := C.w K135_23.eq_1
def K135_24 : C := .cond 9 (.v 12) (.skip) (.exit 0)
@[simp] def W135_24 := C.w K135_24.eq_1
def K135_25 : C := .seq (.seq (.pl <| .e 9 4 <|
 .m 9 5 <|
 .m 10 1 <|
 .x 11 (.lenV (.v 10)) <|
 .x 12 (.bin .lss (.v 9) (.v 11)) .done) K135_24) K135_23
@[simp] def W135_25 := C.w K135_25.eq_1
def K135_26 : C := .block 0 (.loop 9 [2, 6, 7, 8] K135_25)
@[simp] def W135_26 := C.w K135_26.eq_1
def K135_27 : C := .seq (.seq (.pl <| .e 9 0 <|
 .x 5 (.mv (.c (.int .i64 0))) .done) K135_26) K135_17
@[simp] def W135_27 := C.w K135_27.eq_1
def K135_28 : Pl := .m 4 9 .done
@[simp] def W135_28 := Pl.w K135_28.eq_1
def K135_29 : C := .seq (.pl <| .e 9 1 <|
 .c 9 (.bls 1 0 [.int .i64 0] []) K135_28) K135_27
@[simp] def W135_29 := C.w K135_29.eq_1
def K135_30 : Pl := .m 3 11 .done
@[simp] def W135_30 := Pl.w K135_30.eq_1
def K135_31 : C := .seq (.pl <| .e 9 3 <|
 .m 9 0 <|
 .x 10 (.lenV (.v 9)) <|
 .c 11 (.mks 1 1 [.bool false] (.v 10) (.v 10)) K135_30) K135_29
@[simp] def W135_31 := C.w K135_31.eq_1
def B_spec_l7Reach : C := .seq (.pl <| .e 9 0 <|
 .x 2 (.mv (.c (.slice none 0 0))) .done) K135_31
@[simp] def WB_spec_l7Reach := C.w B_spec_l7Reach.eq_1
def R_spec_l7Reach : FIR := ⟨B_spec_l7Reach, 9, [(2, none)]⟩
theorem IR_spec_l7Reach : cfun Try.prog H_spec_l7Reach Try.f135 = some R_spec_l7Reach := by kernel_rfl
theorem EN_spec_l7Reach : ENT Try.prog B_spec_l7Reach [(2, none)] 2 9 fn_spec_l7Reach := fun hargs hw => enter Try.func135 rfl IR_spec_l7Reach hargs hw
end Go.Proofs.Ytglnelcmcimljaa

namespace Go.Proofs.Ytglnelcmcimljaa
open Go
def H_impl_AutomatonValid : Hint := ⟨[(0, false), (1, true), (2, false), (3, false), (4, false), (6, false), (11, false), (12, false), (13, false)], [[0, 2, 5]]⟩
def K46_1 : Pl := .y 17 (.px (some 22) (.un .not (.v 21))) <|
 .x 23 (.pick (.v 17) (.v 22) (.c (.bool false))) <|
 .m 2 23 .done
@[simp] def W46_1 := Pl.w K46_1.eq_1
def K46_2 : Pl := .m 11 10 <|
 .y 11 (.als 12 none 1) <|
 .y 11 (.pget (some 13) (some 12) 1 2 none) <|
 .y 11 (.px (some 14) (.lenV (.v 13))) <|
 .y 11 (.px (some 15) (.bin .leq (.v 14) (.c (.int .i64 2048)))) <|
 .x 16 (.pick (.v 11) (.v 15) (.c (.bool false))) <|
 .m 17 16 <|
 .y 17 (.als 18 none 1) <|
 .y 17 (.pget (some 19) (some 18) 1 2 none) <|
 .y 17 (.px (some 20) (.mkf (.func fn_impl_AutomatonValid_1) [] [.v 3])) <|
 .st (.act (some (.v 17, true)) (.ex (some 21) (.call fn_slices_ContainsFunc_S_impl_Transition_impl_Transition [.v 19, .v 20]))) K46_1
@[simp] def W46_2 := Pl.w K46_2.eq_1
def K46_3 : C := .seq (.pl <| .e 9 15 <|
 .l 9 3 <|
 .c 10 (.call fn_impl_in [.v 9, .c (.int .i64 1), .c (.int .i64 64)]) K46_2) (.ret)
@[simp] def W46_3 := C.w K46_3.eq_1
def K46_4 : C := .pl <| .e 9 1 <|
 .x 9 (.bin .add (.v 8) (.c (.int .i64 1))) <|
 .m 8 9 .done
@[simp] def W46_4 := C.w K46_4.eq_1
def K46_5 : C := .pl <| .e 9 1 <|
 .m 9 5 <|
 .m 4 9 .done
@[simp] def W46_5 := C.w K46_5.eq_1
def K46_6 : C := .seq (.pl <| .e 9 0 <|
 .x 2 (.mv (.c (.bool false))) .done) (.ret)
@[simp] def W46_6 := C.w K46_6.eq_1
def K46_7 : C := .cond 9 (.v 15) K46_6 (.skip)
@[simp] def W46_7 := C.w K46_7.eq_1
def K46_8 : Pl := .x 15 (.un .not (.v 14)) .done
@[simp] def W46_8 := Pl.w K46_8.eq_1
def K46_9 : C := .seq (.seq (.pl <| .e 9 7 <|
 .m 9 5 <|
 .m 10 4 <|
 .x 11 (.bin .add (.v 10) (.c (.int .i64 1))) <|
 .l 12 3 <|
 .x 13 (.bin .sub (.v 12) (.c (.int .i64 1))) <|
 .c 14 (.call fn_impl_in [.v 9, .v 11, .v 13]) K46_8) K46_7) K46_5
@[simp] def W46_9 := C.w K46_9.eq_1
def K46_10 : C := .seq (.block 1 (.seq (.pl <| .e 9 2 <|
 .x 9 (.ia 1 (.v 6) (.v 8)) <|
 .l 10 9 <|
 .m 5 10 .done) K46_9)) K46_4
@[simp] def W46_10 := C.w K46_10.eq_1
def K46_11 : C := .seq (.cond 9 (.v 9) (.skip) (.exit 0)) K46_10
@[simp] def W46_11 := C.w K46_11.eq_1
def K46_12 : C := .seq (.pl <| .e 9 1 <|
 .x 9 (.bin .lss (.v 8) (.v 7)) .done) K46_11
@[simp] def W46_12 := C.w K46_12.eq_1
def K46_13 : C := .block 0 (.loop 9 [0, 2, 5] K46_12)
@[simp] def W46_13 := C.w K46_13.eq_1
def K46_14 : C := .seq (.seq (.pl <| .e 9 1 <|
 .a 9 1 <|
 .g 6 9 1 0 <|
 .x 7 (.lenV (.v 6)) <|
 .x 8 (.mv (.c (.int .i64 0))) .done) K46_13) K46_3
@[simp] def W46_14 := C.w K46_14.eq_1
def K46_15 : C := .seq (.pl <| .e 9 0 <|
 .x 4 (.mv (.c (.int .i64 (-1)))) .done) K46_14
@[simp] def W46_15 := C.w K46_15.eq_1
def K46_16 : Pl := .o (.ex none (.store 1 (.v 3) (.v 11))) .done
@[simp] def W46_16 := Pl.w K46_16.eq_1
def K46_17 : C := .seq (.pl <| .e 9 3 <|
 .a 9 1 <|
 .g 10 9 1 1 <|
 .x 11 (.lenV (.v 10)) <|
 .c 3 (.alloc (.c (.int .i64 0))) K46_16) K46_15
@[simp] def W46_17 := C.w K46_17.eq_1
def B_impl_AutomatonValid : C := .seq (.pl <| .e 9 0 <|
 .o (.pnew 1 (.v 0) []) <|
 .x 2 (.mv (.c (.bool false))) .done) K46_17
@[simp] def WB_impl_AutomatonValid := C.w B_impl_AutomatonValid.eq_1
def R_impl_AutomatonValid : FIR := ⟨B_impl_AutomatonValid, 9, [(2, none)]⟩
theorem IR_impl_AutomatonValid : cfun Try.prog H_impl_AutomatonValid Try.f46 = some R_impl_AutomatonValid := by kernel_rfl
theorem EN_impl_AutomatonValid : ENT Try.prog B_impl_AutomatonValid [(2, none)] 1 9 fn_impl_AutomatonValid := fun hargs hw => enter Try.func46 rfl IR_impl_AutomatonValid hargs hw
def H_impl_AutomatonValid_1 : Hint := ⟨[(0, false), (1, false), (2, true), (3, false)], []⟩
def K94_1 : Pl := .n 18 (.px (some 22) (.un .not (.v 21))) <|
 .x 23 (.pick (.v 18) (.c (.bool true)) (.v 22)) <|
 .m 24 23 <|
 .n 24 (.als 25 none 2) <|
 .n 24 (.pget (some 26) (some 25) 2 2 none) <|
 .n 24 (.px (some 27) (.bin .lss (.v 26) (.c (.int .i64 0)))) <|
 .x 28 (.pick (.v 24) (.c (.bool true)) (.v 27)) <|
 .m 29 28 <|
 .n 29 (.als 30 none 2) <|
 .n 29 (.pget (some 31) (some 30) 2 2 none) <|
 .n 29 (.als 32 none 2) <|
 .n 29 (.pget (some 33) (some 32) 2 1 none) <|
 .n 29 (.px (some 34) (.bin .andNot (.v 31) (.v 33))) <|
 .n 29 (.px (some 35) (.bin .neq (.v 34) (.c (.int .i64 0)))) <|
 .x 36 (.pick (.v 29) (.c (.bool true)) (.v 35)) <|
 .m 3 36 .done
@[simp] def W94_1 := Pl.w K94_1.eq_1
def K94_2 : Pl := .n 10 (.px (some 16) (.un .not (.v 15))) <|
 .x 17 (.pick (.v 10) (.c (.bool true)) (.v 16)) <|
 .m 18 17 <|
 .n 18 (.als 19 none 2) <|
 .n 18 (.pget (some 20) (some 19) 2 1 none) <|
 .st (.act (some (.v 18, false)) (.ex (some 21) (.call fn_impl_in [.v 20, .c (.int .i64 0), .c (.int .i64 7)]))) K94_1
@[simp] def W94_2 := Pl.w K94_2.eq_1
def K94_3 : Pl := .x 9 (.un .not (.v 8)) <|
 .m 10 9 <|
 .n 10 (.als 11 none 2) <|
 .n 10 (.pget (some 12) (some 11) 2 3 none) <|
 .n 10 (.ld (some 13) (.v 1) none) <|
 .n 10 (.px (some 14) (.bin .sub (.v 13) (.c (.int .i64 1)))) <|
 .st (.act (some (.v 10, false)) (.ex (some 15) (.call fn_impl_in [.v 12, .c (.int .i64 0), .v 14]))) K94_2
@[simp] def W94_3 := Pl.w K94_3.eq_1
def K94_4 : C := .seq (.pl <| .e 4 33 <|
 .a 4 2 <|
 .g 5 4 2 0 <|
 .l 6 1 <|
 .x 7 (.bin .sub (.v 6) (.c (.int .i64 1))) <|
 .c 8 (.call fn_impl_in [.v 5, .c (.int .i64 0), .v 7]) K94_3) (.ret)
@[simp] def W94_4 := C.w K94_4.eq_1
def B_impl_AutomatonValid_1 : C := .seq (.pl <| .e 4 0 <|
 .o (.pnew 2 (.v 0) []) <|
 .x 3 (.mv (.c (.bool false))) .done) K94_4
@[simp] def WB_impl_AutomatonValid_1 := C.w B_impl_AutomatonValid_1.eq_1
def R_impl_AutomatonValid_1 : FIR := ⟨B_impl_AutomatonValid_1, 4, [(3, none)]⟩
theorem IR_impl_AutomatonValid_1 : cfun Try.prog H_impl_AutomatonValid_1 Try.f94 = some R_impl_AutomatonValid_1 := by kernel_rfl
theorem EN_impl_AutomatonValid_1 : ENT Try.prog B_impl_AutomatonValid_1 [(3, none)] 2 4 fn_impl_AutomatonValid_1 := fun hargs hw => enter Try.func94 rfl IR_impl_AutomatonValid_1 hargs hw
def H_impl_Transition_takes : Hint := ⟨[(0, false), (1, false), (2, true), (4, false)], []⟩
def K95_1 : C := .seq (.pl <| .e 4 7 <|
 .m 4 1 <|
 .a 5 2 <|
 .g 6 5 2 1 <|
 .x 7 (.bin .and (.v 4) (.v 6)) <|
 .a 8 2 <|
 .g 9 8 2 2 <|
 .x 10 (.bin .eql (.v 7) (.v 9)) <|
 .m 3 10 .done) (.ret)
@[simp] def W95_1 := C.w K95_1.eq_1
def B_impl_Transition_takes : C := .seq (.pl <| .e 4 0 <|
 .o (.pnew 2 (.v 0) []) <|
 .x 3 (.mv (.c (.bool false))) .done) K95_1
@[simp] def WB_impl_Transition_takes := C.w B_impl_Transition_takes.eq_1
def R_impl_Transition_takes : FIR := ⟨B_impl_Transition_takes, 4, [(3, none)]⟩
theorem IR_impl_Transition_takes : cfun Try.prog H_impl_Transition_takes Try.f95 = some R_impl_Transition_takes := by kernel_rfl
theorem EN_impl_Transition_takes : ENT Try.prog B_impl_Transition_takes [(3, none)] 2 4 fn_impl_Transition_takes := fun hargs hw => enter Try.func95 rfl IR_impl_Transition_takes hargs hw
def H_impl_in : Hint := ⟨[(0, false), (1, false), (2, false), (6, false)], []⟩
def K92_1 : C := .seq (.pl <| .e 4 8 <|
 .m 4 0 <|
 .m 5 1 <|
 .x 6 (.bin .geq (.v 4) (.v 5)) <|
 .m 7 6 <|
 .y 7 (.px (some 8) (.mv (.v 0))) <|
 .y 7 (.px (some 9) (.mv (.v 2))) <|
 .y 7 (.px (some 10) (.bin .leq (.v 8) (.v 9))) <|
 .x 11 (.pick (.v 7) (.v 10) (.c (.bool false))) <|
 .m 3 11 .done) (.ret)
@[simp] def W92_1 := C.w K92_1.eq_1
def B_impl_in : C := .seq (.pl <| .e 4 0 <|
 .x 3 (.mv (.c (.bool false))) .done) K92_1
@[simp] def WB_impl_in := C.w B_impl_in.eq_1
def R_impl_in : FIR := ⟨B_impl_in, 4, [(3, none)]⟩
theorem IR_impl_in : cfun Try.prog H_impl_in Try.f92 = some R_impl_in := by kernel_rfl
theorem EN_impl_in : ENT Try.prog B_impl_in [(3, none)] 3 4 fn_impl_in := fun hargs hw => enter Try.func92 rfl IR_impl_in hargs hw
def H_slices_ContainsFunc_S_impl_Transition_impl_Transition : Hint := ⟨[(0, false), (1, false), (4, false)], []⟩
def K93_1 : Pl := .x 6 (.bin .geq (.v 5) (.c (.int .i64 0))) <|
 .m 2 6 .done
@[simp] def W93_1 := Pl.w K93_1.eq_1
def K93_2 : C := .seq (.pl <| .e 3 4 <|
 .m 3 0 <|
 .m 4 1 <|
 .c 5 (.call fn_slices_IndexFunc_S_impl_Transition_impl_Transition [.v 3, .v 4]) K93_1) (.ret)
@[simp] def W93_2 := C.w K93_2.eq_1
def B_slices_ContainsFunc_S_impl_Transition_impl_Transition : C := .seq (.pl <| .e 3 0 <|
 .x 2 (.mv (.c (.bool false))) .done) K93_2
@[simp] def WB_slices_ContainsFunc_S_impl_Transition_impl_Transition := C.w B_slices_ContainsFunc_S_impl_Transition_impl_Transition.eq_1
def R_slices_ContainsFunc_S_impl_Transition_impl_Transition : FIR := ⟨B_slices_ContainsFunc_S_impl_Transition_impl_Transition, 3, [(2, none)]⟩
theorem IR_slices_ContainsFunc_S_impl_Transition_impl_Transition : cfun Try.prog H_slices_ContainsFunc_S_impl_Transition_impl_Transition Try.f93 = some R_slices_ContainsFunc_S_impl_Transition_impl_Transition := by kernel_rfl
theorem EN_slices_ContainsFunc_S_impl_Transition_impl_Transition : ENT Try.prog B_slices_ContainsFunc_S_impl_Transition_impl_Transition [(2, none)] 2 3 fn_slices_ContainsFunc_S_impl_Transition_impl_Transition := fun hargs hw => enter Try.func93 rfl IR_slices_ContainsFunc_S_impl_Transition_impl_Transition hargs hw
def H_slices_IndexFunc_S_impl_Transition_impl_Transition : Hint := ⟨[(0, false), (1, false), (4, false), (5, false), (7, false), (8, false)], [[2, 3]]⟩
def K138_1 : C := .seq (.pl <| .e 6 0 <|
 .x 2 (.mv (.c (.int .i64 (-1)))) .done) (.ret)
@[simp] def W138_1 := C.w K138_1.eq_1
def K138_2 : C := .pl <| .e 6 1 <|
 .x 6 (.bin .add (.v 5) (.c (.int .i64 1))) <|
 .m 5 6 .done
@[simp] def W138_2 := C.w K138_2.eq_1
def K138_3 : C := .seq (.pl <| .e 6 1 <|
 .m 6 3 <|
 .m 2 6 .done) (.ret)
@[simp] def W138_3 := C.w K138_3.eq_1
def K138_4 : C := .cond 6 (.v 11) K138_3 (.skip)
@[simp] def W138_4 := C.w K138_4.eq_1
def K138_5 : C := .seq (.pl <| .e 6 6 <|
 .m 6 1 <|
 .m 7 0 <|
 .m 8 3 <|
 .x 9 (.ia 4 (.v 7) (.v 8)) <|
 .o (.ld (some 10) (.v 9) (some 4)) <|
 .c 11 (.callv (.v 6) [.v 10]) .done) K138_4
@[simp] def W138_5 := C.w K138_5.eq_1
def K138_6 : C := .seq (.block 1 (.seq (.pl <| .e 6 1 <|
 .m 6 5 <|
 .m 3 6 .done) K138_5)) K138_2
@[simp] def W138_6 := C.w K138_6.eq_1
def K138_7 : C := .seq (.cond 6 (.v 6) (.skip) (.exit 0)) K138_6
@[simp] def W138_7 := C.w K138_7.eq_1
def K138_8 : C := .seq (.pl <| .e 6 1 <|
 .x 6 (.bin .lss (.v 5) (.v 4)) .done) K138_7
@[simp] def W138_8 := C.w K138_8.eq_1
def K138_9 : C := .block 0 (.loop 6 [2, 3] K138_8)
@[simp] def W138_9 := C.w K138_9.eq_1
def K138_10 : C := .seq (.seq (.pl <| .e 6 1 <|
 .m 6 0 <|
 .x 4 (.lenV (.v 6)) <|
 .x 5 (.mv (.c (.int .i64 0))) .done) K138_9) K138_1
@[simp] def W138_10 := C.w K138_10.eq_1
def B_slices_IndexFunc_S_impl_Transition_impl_Transition : C := .seq (.pl <| .e 6 0 <|
 .x 2 (.mv (.c (.int .i64 0))) .done) K138_10
@[simp] def WB_slices_IndexFunc_S_impl_Transition_impl_Transition := C.w B_slices_IndexFunc_S_impl_Transition_impl_Transition.eq_1
def R_slices_IndexFunc_S_impl_Transition_impl_Transition : FIR := ⟨B_slices_IndexFunc_S_impl_Transition_impl_Transition, 6, [(2, none)]⟩
theorem IR_slices_IndexFunc_S_impl_Transition_impl_Transition : cfun Try.prog H_slices_IndexFunc_S_impl_Transition_impl_Transition Try.f138 = some R_slices_IndexFunc_S_impl_Transition_impl_Transition := by kernel_rfl
theorem EN_slices_IndexFunc_S_impl_Transition_impl_Transition : ENT Try.prog B_slices_IndexFunc_S_impl_Transition_impl_Transition [(2, none)] 2 6 fn_slices_IndexFunc_S_impl_Transition_impl_Transition := fun hargs hw => enter Try.func138 rfl IR_slices_IndexFunc_S_impl_Transition_impl_Transition hargs hw
def H_spec_AutomatonValid : Hint := ⟨[(0, false), (1, true), (2, false), (3, false), (4, false), (5, false)], [[0, 2, 5], [0, 2, 4]]⟩
def K48_1 : C := .seq (.pl <| .e 6 0 <|
 .x 2 (.mv (.c (.bool true))) .done) (.ret)
@[simp] def W48_1 := C.w K48_1.eq_1
def K48_2 : C := .pl <| .e 6 2 <|
 .m 6 5 <|
 .x 7 (.bin .add (.v 6) (.c (.int .i64 1))) <|
 .m 5 7 .done
@[simp] def W48_2 := C.w K48_2.eq_1
def K48_3 : C := .seq (.pl <| .e 6 0 <|
 .x 2 (.mv (.c (.bool false))) .done) (.ret)
@[simp] def W48_3 := C.w K48_3.eq_1
def K48_4 : C := .cond 6 (.v 13) K48_3 (.skip)
@[simp] def W48_4 := C.w K48_4.eq_1
def K48_5 : Pl := .x 13 (.un .not (.v 12)) .done
@[simp] def W48_5 := Pl.w K48_5.eq_1
def K48_6 : C := .seq (.block 3 (.seq (.pl <| .e 6 8 <|
 .a 6 1 <|
 .g 7 6 1 2 <|
 .m 8 5 <|
 .x 9 (.ia 4 (.v 7) (.v 8)) <|
 .o (.ld (some 10) (.v 9) (some 4)) <|
 .m 11 3 <|
 .c 12 (.call fn_spec_l7Edge [.v 10, .v 11]) K48_5) K48_4)) K48_2
@[simp] def W48_6 := C.w K48_6.eq_1
def K48_7 : C := .cond 6 (.v 10) (.skip) (.exit 2)
@[simp] def W48_7 := C.w K48_7.eq_1
def K48_8 : C := .seq (.seq (.pl <| .e 6 5 <|
 .m 6 5 <|
 .a 7 1 <|
 .g 8 7 1 2 <|
 .x 9 (.lenV (.v 8)) <|
 .x 10 (.bin .lss (.v 6) (.v 9)) .done) K48_7) K48_6
@[simp] def W48_8 := C.w K48_8.eq_1
def K48_9 : C := .block 2 (.loop 6 [0, 2, 4] K48_8)
@[simp] def W48_9 := C.w K48_9.eq_1
def K48_10 : C := .seq (.seq (.pl <| .e 6 0 <|
 .x 5 (.mv (.c (.int .i64 0))) .done) K48_9) K48_1
@[simp] def W48_10 := C.w K48_10.eq_1
def K48_11 : C := .pl <| .e 6 2 <|
 .m 6 4 <|
 .x 7 (.bin .add (.v 6) (.c (.int .i64 1))) <|
 .m 4 7 .done
@[simp] def W48_11 := C.w K48_11.eq_1
def K48_12 : C := .seq (.pl <| .e 6 0 <|
 .x 2 (.mv (.c (.bool false))) .done) (.ret)
@[simp] def W48_12 := C.w K48_12.eq_1
def K48_13 : C := .cond 6 (.v 38) K48_12 (.skip)
@[simp] def W48_13 := C.w K48_13.eq_1
def K48_14 : C := .seq (.block 1 (.seq (.pl <| .e 6 33 <|
 .a 6 1 <|
 .g 7 6 1 0 <|
 .m 8 4 <|
 .x 9 (.ia 1 (.v 7) (.v 8)) <|
 .l 10 9 <|
 .x 11 (.bin .lss (.v 10) (.c (.int .i64 0))) <|
 .m 12 11 <|
 .n 12 (.als 13 none 1) <|
 .n 12 (.pget (some 14) (some 13) 1 0 none) <|
 .n 12 (.px (some 15) (.mv (.v 4))) <|
 .n 12 (.px (some 16) (.ia 1 (.v 14) (.v 15))) <|
 .n 12 (.ld (some 17) (.v 16) none) <|
 .n 12 (.px (some 18) (.mv (.v 3))) <|
 .n 12 (.px (some 19) (.bin .geq (.v 17) (.v 18))) <|
 .x 20 (.pick (.v 12) (.c (.bool true)) (.v 19)) <|
 .m 21 20 <|
 .n 21 (.px (some 22) (.mv (.v 4))) <|
 .n 21 (.px (some 23) (.bin .gtr (.v 22) (.c (.int .i64 0)))) <|
 .n 21 (.px (some 24) (.mv (.v 23))) <|
 .y 24 (.als 25 none 1) <|
 .y 24 (.pget (some 26) (some 25) 1 0 none) <|
 .y 24 (.px (some 27) (.mv (.v 4))) <|
 .y 24 (.px (some 28) (.bin .sub (.v 27) (.c (.int .i64 1)))) <|
 .y 24 (.px (some 29) (.ia 1 (.v 26) (.v 28))) <|
 .y 24 (.ld (some 30) (.v 29) none) <|
 .y 24 (.als 31 none 1) <|
 .y 24 (.pget (some 32) (some 31) 1 0 none) <|
 .y 24 (.px (some 33) (.mv (.v 4))) <|
 .y 24 (.px (some 34) (.ia 1 (.v 32) (.v 33))) <|
 .y 24 (.ld (some 35) (.v 34) none) <|
 .y 24 (.px (some 36) (.bin .geq (.v 30) (.v 35))) <|
 .n 21 (.px (some 37) (.pick (.v 24) (.v 36) (.c (.bool false)))) <|
 .x 38 (.pick (.v 21) (.c (.bool true)) (.v 37)) .done) K48_13)) K48_11
@[simp] def W48_14 := C.w K48_14.eq_1
def K48_15 : C := .cond 6 (.v 10) (.skip) (.exit 0)
@[simp] def W48_15 := C.w K48_15.eq_1
def K48_16 : C := .seq (.seq (.pl <| .e 6 5 <|
 .m 6 4 <|
 .a 7 1 <|
 .g 8 7 1 0 <|
 .x 9 (.lenV (.v 8)) <|
 .x 10 (.bin .lss (.v 6) (.v 9)) .done) K48_15) K48_14
@[simp] def W48_16 := C.w K48_16.eq_1
def K48_17 : C := .block 0 (.loop 6 [0, 2, 5] K48_16)
@[simp] def W48_17 := C.w K48_17.eq_1
def K48_18 : C := .seq (.seq (.pl <| .e 6 0 <|
 .x 4 (.mv (.c (.int .i64 0))) .done) K48_17) K48_10
@[simp] def W48_18 := C.w K48_18.eq_1
def K48_19 : C := .seq (.pl <| .e 6 0 <|
 .x 2 (.mv (.c (.bool false))) .done) (.ret)
@[simp] def W48_19 := C.w K48_19.eq_1
def K48_20 : C := .cond 6 (.v 24) K48_19 (.skip)
@[simp] def W48_20 := C.w K48_20.eq_1
def K48_21 : C := .seq (.seq (.pl <| .e 6 19 <|
 .m 6 3 <|
 .x 7 (.bin .lss (.v 6) (.c (.int .i64 1))) <|
 .m 8 7 <|
 .n 8 (.px (some 9) (.mv (.v 3))) <|
 .n 8 (.px (some 10) (.bin .gtr (.v 9) (.c (.int .i64 64)))) <|
 .x 11 (.pick (.v 8) (.c (.bool true)) (.v 10)) <|
 .m 12 11 <|
 .n 12 (.als 13 none 1) <|
 .n 12 (.pget (some 14) (some 13) 1 0 none) <|
 .n 12 (.px (some 15) (.lenV (.v 14))) <|
 .n 12 (.px (some 16) (.mv (.v 3))) <|
 .n 12 (.px (some 17) (.bin .gtr (.v 15) (.v 16))) <|
 .x 18 (.pick (.v 12) (.c (.bool true)) (.v 17)) <|
 .m 19 18 <|
 .n 19 (.als 20 none 1) <|
 .n 19 (.pget (some 21) (some 20) 1 2 none) <|
 .n 19 (.px (some 22) (.lenV (.v 21))) <|
 .n 19 (.px (some 23) (.bin .gtr (.v 22) (.c (.int .i64 2048)))) <|
 .x 24 (.pick (.v 19) (.c (.bool true)) (.v 23)) .done) K48_20) K48_18
@[simp] def W48_21 := C.w K48_21.eq_1
def K48_22 : C := .seq (.pl <| .e 6 3 <|
 .a 6 1 <|
 .g 7 6 1 1 <|
 .x 8 (.lenV (.v 7)) <|
 .m 3 8 .done) K48_21
@[simp] def W48_22 := C.w K48_22.eq_1
def B_spec_AutomatonValid : C := .seq (.pl <| .e 6 0 <|
 .o (.pnew 1 (.v 0) []) <|
 .x 2 (.mv (.c (.bool false))) .done) K48_22
@[simp] def WB_spec_AutomatonValid := C.w B_spec_AutomatonValid.eq_1
def R_spec_AutomatonValid : FIR := ⟨B_spec_AutomatonValid, 6, [(2, none)]⟩
theorem IR_spec_AutomatonValid : cfun Try.prog H_spec_AutomatonValid Try.f48 = some R_spec_AutomatonValid := by kernel_rfl
theorem EN_spec_AutomatonValid : ENT Try.prog B_spec_AutomatonValid [(2, none)] 1 6 fn_spec_AutomatonValid := fun hargs hw => enter Try.func48 rfl IR_spec_AutomatonValid hargs hw
def H_spec_l7Edge : Hint := ⟨[(0, false), (1, false), (2, true), (4, false)], []⟩
def K97_1 : C := .seq (.pl <| .e 4 45 <|
 .a 4 2 <|
 .g 5 4 2 0 <|
 .x 6 (.bin .geq (.v 5) (.c (.int .i64 0))) <|
 .m 7 6 <|
 .y 7 (.als 8 none 2) <|
 .y 7 (.pget (some 9) (some 8) 2 0 none) <|
 .y 7 (.px (some 10) (.mv (.v 1))) <|
 .y 7 (.px (some 11) (.bin .lss (.v 9) (.v 10))) <|
 .x 12 (.pick (.v 7) (.v 11) (.c (.bool false))) <|
 .m 13 12 <|
 .y 13 (.als 14 none 2) <|
 .y 13 (.pget (some 15) (some 14) 2 3 none) <|
 .y 13 (.px (some 16) (.bin .geq (.v 15) (.c (.int .i64 0)))) <|
 .x 17 (.pick (.v 13) (.v 16) (.c (.bool false))) <|
 .m 18 17 <|
 .y 18 (.als 19 none 2) <|
 .y 18 (.pget (some 20) (some 19) 2 3 none) <|
 .y 18 (.px (some 21) (.mv (.v 1))) <|
 .y 18 (.px (some 22) (.bin .lss (.v 20) (.v 21))) <|
 .x 23 (.pick (.v 18) (.v 22) (.c (.bool false))) <|
 .m 24 23 <|
 .y 24 (.als 25 none 2) <|
 .y 24 (.pget (some 26) (some 25) 2 1 none) <|
 .y 24 (.px (some 27) (.bin .geq (.v 26) (.c (.int .i64 0)))) <|
 .x 28 (.pick (.v 24) (.v 27) (.c (.bool false))) <|
 .m 29 28 <|
 .y 29 (.als 30 none 2) <|
 .y 29 (.pget (some 31) (some 30) 2 1 none) <|
 .y 29 (.px (some 32) (.bin .leq (.v 31) (.c (.int .i64 7)))) <|
 .x 33 (.pick (.v 29) (.v 32) (.c (.bool false))) <|
 .m 34 33 <|
 .y 34 (.als 35 none 2) <|
 .y 34 (.pget (some 36) (some 35) 2 2 none) <|
 .y 34 (.px (some 37) (.bin .geq (.v 36) (.c (.int .i64 0)))) <|
 .x 38 (.pick (.v 34) (.v 37) (.c (.bool false))) <|
 .m 39 38 <|
 .y 39 (.als 40 none 2) <|
 .y 39 (.pget (some 41) (some 40) 2 2 none) <|
 .y 39 (.als 42 none 2) <|
 .y 39 (.pget (some 43) (some 42) 2 1 none) <|
 .y 39 (.px (some 44) (.bin .and (.v 41) (.v 43))) <|
 .y 39 (.als 45 none 2) <|
 .y 39 (.pget (some 46) (some 45) 2 2 none) <|
 .y 39 (.px (some 47) (.bin .eql (.v 44) (.v 46))) <|
 .x 48 (.pick (.v 39) (.v 47) (.c (.bool false))) <|
 .m 3 48 .done) (.ret)
@[simp] def W97_1 := C.w K97_1.eq_1
def B_spec_l7Edge : C := .seq (.pl <| .e 4 0 <|
 .o (.pnew 2 (.v 0) []) <|
 .x 3 (.mv (.c (.bool false))) .done) K97_1
@[simp] def WB_spec_l7Edge := C.w B_spec_l7Edge.eq_1
def R_spec_l7Edge : FIR := ⟨B_spec_l7Edge, 4, [(3, none)]⟩
theorem IR_spec_l7Edge : cfun Try.prog H_spec_l7Edge Try.f97 = some R_spec_l7Edge := by kernel_rfl
theorem EN_spec_l7Edge : ENT Try.prog B_spec_l7Edge [(3, none)] 2 4 fn_spec_l7Edge := fun hargs hw => enter Try.func97 rfl IR_spec_l7Edge hargs hw
end Go.Proofs.Ytglnelcmcimljaa

namespace Go.Proofs.Ytglnelcmcimljaa
open Go
end Go.Proofs.Ytglnelcmcimljaa

namespace Go.Proofs.Ytglnelcmcimljaa
open Go
def H_impl_clone_int : Hint := ⟨[(0, false), (2, false)], []⟩
def K129_1 : Pl := .m 1 4 .done
@[simp] def W129_1 := Pl.w K129_1.eq_1
def K129_2 : Pl := .c 4 (.call fn_slices_Clip_S_int_int [.v 3]) K129_1
@[simp] def W129_2 := Pl.w K129_2.eq_1
def K129_3 : C := .seq (.pl <| .e 2 3 <|
 .m 2 0 <|
 .c 3 (.call fn_slices_Clone_S_int_int [.v 2]) K129_2) (.ret)
@[simp] def W129_3 := C.w K129_3.eq_1
def B_impl_clone_int : C := .seq (.pl <| .e 2 0 <|
 .x 1 (.mv (.c (.slice none 0 0))) .done) K129_3
@[simp] def WB_impl_clone_int := C.w B_impl_clone_int.eq_1
def R_impl_clone_int : FIR := ⟨B_impl_clone_int, 2, [(1, none)]⟩
theorem IR_impl_clone_int : cfun Try.prog H_impl_clone_int Try.f129 = some R_impl_clone_int := by kernel_rfl
theorem EN_impl_clone_int : ENT Try.prog B_impl_clone_int [(1, none)] 1 2 fn_impl_clone_int := fun hargs hw => enter Try.func129 rfl IR_impl_clone_int hargs hw
def H_slices_Clip_S_int_int : Hint := ⟨[(0, false), (2, false)], []⟩
def K72_1 : C := .seq (.pl <| .e 2 6 <|
 .m 2 0 <|
 .m 3 0 <|
 .x 4 (.lenV (.v 3)) <|
 .m 5 0 <|
 .x 6 (.lenV (.v 5)) <|
 .x 7 (.sliceV 1 (.v 2) none (some (.v 4)) (some (.v 6))) <|
 .m 1 7 .done) (.ret)
@[simp] def W72_1 := C.w K72_1.eq_1
def B_slices_Clip_S_int_int : C := .seq (.pl <| .e 2 0 <|
 .x 1 (.mv (.c (.slice none 0 0))) .done) K72_1
@[simp] def WB_slices_Clip_S_int_int := C.w B_slices_Clip_S_int_int.eq_1
def R_slices_Clip_S_int_int : FIR := ⟨B_slices_Clip_S_int_int, 2, [(1, none)]⟩
theorem IR_slices_Clip_S_int_int : cfun Try.prog H_slices_Clip_S_int_int Try.f72 = some R_slices_Clip_S_int_int := by kernel_rfl
theorem EN_slices_Clip_S_int_int : ENT Try.prog B_slices_Clip_S_int_int [(1, none)] 1 2 fn_slices_Clip_S_int_int := fun hargs hw => enter Try.func72 rfl IR_slices_Clip_S_int_int hargs hw
def H_slices_Clone_S_int_int : Hint := ⟨[(0, false), (2, false)], []⟩
def K164_1 : Pl := .m 1 4 .done
@[simp] def W164_1 := Pl.w K164_1.eq_1
def K164_2 : C := .seq (.pl <| .e 2 3 <|
 .o (.psl 2 [] []) <|
 .m 3 0 <|
 .c 4 (.app 8 1 [.int .i64 0] (.p 0 2) (.o (.v 3))) K164_1) (.ret)
@[simp] def W164_2 := C.w K164_2.eq_1
def K164_3 : C := .seq (.pl <| .e 2 0 <|
 .x 1 (.mv (.c (.slice none 0 0))) .done) (.ret)
@[simp] def W164_3 := C.w K164_3.eq_1
def K164_4 : C := .cond 2 (.v 3) K164_3 (.skip)
@[simp] def W164_4 := C.w K164_4.eq_1
def K164_5 : C := .seq (.seq (.pl <| .e 2 2 <|
 .m 2 0 <|
 .x 3 (.isNil false (.v 2)) .done) K164_4) K164_2
@[simp] def W164_5 := C.w K164_5.eq_1
def B_slices_Clone_S_int_int : C := .seq (.pl <| .e 2 0 <|
 .x 1 (.mv (.c (.slice none 0 0))) .done) K164_5
@[simp] def WB_slices_Clone_S_int_int := C.w B_slices_Clone_S_int_int.eq_1
def R_slices_Clone_S_int_int : FIR := ⟨B_slices_Clone_S_int_int, 2, [(1, none)]⟩
theorem IR_slices_Clone_S_int_int : cfun Try.prog H_slices_Clone_S_int_int Try.f164 = some R_slices_Clone_S_int_int := by kernel_rfl
theorem EN_slices_Clone_S_int_int : ENT Try.prog B_slices_Clone_S_int_int [(1, none)] 1 2 fn_slices_Clone_S_int_int := fun hargs hw => enter Try.func164 rfl IR_slices_Clone_S_int_int hargs hw
end Go.Proofs.Ytglnelcmcimljaa

namespace Go.Proofs.Ytglnelcmcimljaa
open Go
end Go.Proofs.Ytglnelcmcimljaa

namespace Go.Proofs.Ytglnelcmcimljaa
open Go
end Go.Proofs.Ytglnelcmcimljaa

namespace Go.Proofs.Ytglnelcmcimljaa
open Go
end Go.Proofs.Ytglnelcmcimljaa

namespace Go.Proofs.Ytglnelcmcimljaa
open Go
theorem c_Clone_int {h : Heap} {a : Value} {x : List Int} (Ra : Rep h a x) (hs : x.length ≤ 1073741824) : CallE Try.prog fn_slices_Clone_S_int_int [a] h (fun v h' => HS h [ow v x] h') := by
  refine CallE.gen fun k hk => EN_slices_Clone_S_int_int rfl ?_
  obtain ⟨b, hb, hb2⟩ := Ra.isNil
  simp -implicitDefEqProofs (disch:=first|omega|(simp only[LnZ];omega))[wrap64, hb]
  refine IteW.mk (fun h1 => ?_) (fun h1 => ?_)
  · simp -implicitDefEqProofs (disch:=first|omega|(simp only[LnZ];omega))[wrap64]
    have h2 : x = [] := hb2 h1
    subst h2
    exact RetK.keep (hk _ _ HS.init.nil_ow)
  · simp -implicitDefEqProofs (disch:=first|omega|(simp only[LnZ];omega))[wrap64]
    refine HS.init.appPL (α := Int) (l2 := x) (u := a) rfl rfl Ra rfl rfl (by omega) fun v h1 H => ?_
    simp -implicitDefEqProofs (disch:=first|omega|(simp only[LnZ];omega))[wrap64]
    exact RetK.keep (hk _ _ H)
theorem c_Clip_int {g h : Heap} {Γ : List HP} {a : Value} {x : List Int} (H : HS g (ow a x :: Γ) h) : CallE Try.prog fn_slices_Clip_S_int_int [a] h (fun v h' => HS g (ow v x :: Γ) h') := by
  refine CallE.gen fun k hk => EN_slices_Clip_S_int_int rfl ?_
  obtain ⟨v', h1, h2⟩ := H.clip (esz := 1) (k := .i64)
  simp -implicitDefEqProofs (disch:=first|omega|(simp only[LnZ];omega))[wrap64, H.rep.I, h1]
  exact RetK.keep (hk _ _ h2)
theorem c_clone_int {h : Heap} {a : Value} {x : List Int} (Ra : Rep h a x) (hs : x.length ≤ 1073741824) : CallE Try.prog fn_impl_clone_int [a] h (fun v h' => HS h [ow v x] h') := by
  refine CallE.gen fun k hk => EN_impl_clone_int rfl ?_
  simp -implicitDefEqProofs (disch:=first|omega|(simp only[LnZ];omega))[wrap64]
  refine (c_Clone_int Ra hs).go ?_
  intro v h1 H
  simp -implicitDefEqProofs (disch:=first|omega|(simp only[LnZ];omega))[wrap64]
  refine (c_Clip_int H).go ?_
  intro v' h2 H
  simp -implicitDefEqProofs (disch:=first|omega|(simp only[LnZ];omega))[wrap64]
  exact RetK.keep (hk _ _ H)
theorem c_IndexFunc_impl_Transition {h : Heap} {a fv : Value} {x : List Tr} (Ra : Rep h a x) {f : FuncId} {c1 c2 : List Value} (hf : fnOf fv = some (f, c1, c2)) (p : Tr → Bool)
    (hp : ∀ h1, h.le h1 → ∀ (i : Nat) (hi : i < x.length) (u : Value), Rep h1 u x[i] → CallE Try.prog f (c1 ++ u :: c2) h1 (fun v h' => h1.le h' ∧ v = .bool (p x[i]))) :
    CallE Try.prog fn_slices_IndexFunc_S_impl_Transition_impl_Transition [a, fv] h (fun v h' => h.le h' ∧ v = .int .i64 (match x.findIdx? p with | some i => (i : Int) | none => -1)) := by
  refine CallE.gen fun k hk => EN_slices_IndexFunc_S_impl_Transition_impl_Transition rfl ?_
  have hL := Ra.lt
  simp -implicitDefEqProofs (disch:=first|omega|(simp only[LnZ];omega))[wrap64, Ra.len]
  refine wp_count x.length (fun i e h' => e = [some a, some fv, none, none, some (.int .i64 x.length), some (.int .i64 i)] ∧ h.le h' ∧ ∀ (j : Nat) (hj : j < x.length), j < i → p x[j] = false) ⟨rfl, Heap.le.refl h, fun j _ hj => absurd hj (Nat.not_lt_zero j)⟩ ?_
  rintro J i _ h1 hJ hi ⟨rfl, hl, hn⟩
  simp -implicitDefEqProofs (disch:=first|omega|(simp only[LnZ];omega))[wrap64]
  refine IteW.mk (fun hlt => ?_) (fun hge => ?_)
  · have hlx : i < x.length := by omega
    obtain ⟨u, hu, Ru⟩ := (Ra.le hl).ld hlx
    change hload _ (some (elp 4 a i)) (some 4) = some u at hu
    simp -implicitDefEqProofs (disch:=first|omega|(simp only[LnZ];omega))[wrap64, (Ra.le hl).X (n := 4) rfl, hu, hf]
    refine (hp h1 hl i hlx u Ru).go ?_
    rintro _ h2 ⟨hl2, rfl⟩
    simp -implicitDefEqProofs (disch:=first|omega|(simp only[LnZ];omega))[wrap64]
    refine IteW.mk (fun hq => ?_) (fun hq => ?_)
    · simp -implicitDefEqProofs (disch:=first|omega|(simp only[LnZ];omega))[wrap64]
      refine RetK.keep (hk _ _ ⟨hl.trans hl2, ?_⟩)
      have h3 : x.findIdx? p = some i := by
        rw [List.findIdx?_eq_some_iff_getElem]
        exact ⟨hlx, hq, fun j hj => by rw [hn j (by omega) hj]; simp⟩
      rw [h3]
    · simp -implicitDefEqProofs (disch:=first|omega|(simp only[LnZ];omega))[wrap64]
      refine hJ _ _ hlx ⟨rfl, hl.trans hl2, fun j hj hji => ?_⟩
      by_cases hji2 : j = i
      · subst hji2; simpa using hq
      · exact hn j hj (by omega)
  · simp -implicitDefEqProofs (disch:=first|omega|(simp only[LnZ];omega))[wrap64]
    refine RetK.keep (hk _ _ ⟨hl, ?_⟩)
    have h3 : x.findIdx? p = none := by
      rw [List.findIdx?_eq_none_iff]
      intro y hy
      obtain ⟨j, hj, rfl⟩ := List.mem_iff_getElem.1 hy
      exact hn j hj (by omega)
    rw [h3]
theorem c_ContainsFunc_impl_Transition {h : Heap} {a fv : Value} {x : List Tr} (Ra : Rep h a x) {f : FuncId} {c1 c2 : List Value} (hf : fnOf fv = some (f, c1, c2)) (p : Tr → Bool)
    (hp : ∀ h1, h.le h1 → ∀ (i : Nat) (hi : i < x.length) (u : Value), Rep h1 u x[i] → CallE Try.prog f (c1 ++ u :: c2) h1 (fun v h' => h1.le h' ∧ v = .bool (p x[i]))) :
    CallE Try.prog fn_slices_ContainsFunc_S_impl_Transition_impl_Transition [a, fv] h (fun v h' => h.le h' ∧ v = .bool (x.any p)) := by
  refine CallE.gen fun k hk => EN_slices_ContainsFunc_S_impl_Transition_impl_Transition rfl ?_
  simp -implicitDefEqProofs (disch:=first|omega|(simp only[LnZ];omega))[wrap64]
  refine (c_IndexFunc_impl_Transition Ra hf p hp).go ?_
  rintro _ h1 ⟨hl, rfl⟩
  simp -implicitDefEqProofs (disch:=first|omega|(simp only[LnZ];omega))[wrap64]
  refine RetK.keep (hk _ _ ⟨hl, ?_⟩)
  congr 1
  rw [← List.findIdx?_isSome]
  cases x.findIdx? p <;> simp
end Go.Proofs.Ytglnelcmcimljaa

namespace Go.Proofs.Ytglnelcmcimljaa
open Go
theorem empty_ow {g h : Heap} {Γ : List HP} (H : HS g Γ h) : HS g (ow (.agg #[.slice none 0 0, .slice none 0 0, .slice none 0 0]) Aut.empty :: Γ) h :=
  HS.mkAut (a := Aut.empty) H.nil_ow.nil_ow.nil_ow
theorem c_in {h : Heap} {n lo hi : Int} : CallE Try.prog fn_impl_in [.int .i64 n, .int .i64 lo, .int .i64 hi] h (fun u h' => h' = h ∧ u = .bool (decide (lo ≤ n ∧ n ≤ hi))) := by
  refine CallE.gen fun k hk => EN_impl_in rfl ?_
  by_cases h1 : lo ≤ n
  · simp -implicitDefEqProofs (disch:=first|omega|(simp only[LnZ];omega))[wrap64, h1]
    exact RetK.keep (hk _ _ ⟨rfl, by simp [h1]⟩)
  · simp -implicitDefEqProofs (disch:=first|omega|(simp only[LnZ];omega))[wrap64, h1]
    exact RetK.keep (hk _ _ ⟨rfl, by simp [h1]⟩)
theorem c_l7Edge {h : Heap} {v : Value} {t : Tr} (Rt : Rep h v t) {n : Int} : CallE Try.prog fn_spec_l7Edge [v, .int .i64 n] h (fun u h' => h' = h ∧ u = .bool (decide (t.Ok n))) := by
  rw [(Rep_Tr.1 Rt).1]
  refine CallE.gen fun k hk => EN_spec_l7Edge rfl ?_
  unfold Tr.Ok at hk
  by_cases h1 : 0 ≤ t.frm
  case neg => simp -implicitDefEqProofs (disch:=first|omega|(simp only[LnZ];omega))[wrap64, Tr.v, h1]; exact RetK.keep (hk _ _ ⟨rfl, by simp [h1]⟩)
  by_cases h2 : t.frm < n
  case neg => simp -implicitDefEqProofs (disch:=first|omega|(simp only[LnZ];omega))[wrap64, Tr.v, h1, h2]; exact RetK.keep (hk _ _ ⟨rfl, by simp [h2]⟩)
  by_cases h3 : 0 ≤ t.to
  case neg => simp -implicitDefEqProofs (disch:=first|omega|(simp only[LnZ];omega))[wrap64, Tr.v, h1, h2, h3]; exact RetK.keep (hk _ _ ⟨rfl, by simp [h3]⟩)
  by_cases h4 : t.to < n
  case neg => simp -implicitDefEqProofs (disch:=first|omega|(simp only[LnZ];omega))[wrap64, Tr.v, h1, h2, h3, h4]; exact RetK.keep (hk _ _ ⟨rfl, by simp [h4]⟩)
  by_cases h5 : 0 ≤ t.care
  case neg => simp -implicitDefEqProofs (disch:=first|omega|(simp only[LnZ];omega))[wrap64, Tr.v, h1, h2, h3, h4, h5]; exact RetK.keep (hk _ _ ⟨rfl, by simp [h5]⟩)
  by_cases h6 : t.care ≤ 7
  case neg => simp -implicitDefEqProofs (disch:=first|omega|(simp only[LnZ];omega))[wrap64, Tr.v, h1, h2, h3, h4, h5, h6]; exact RetK.keep (hk _ _ ⟨rfl, by simp [h6]⟩)
  by_cases h7 : 0 ≤ t.value
  case neg => simp -implicitDefEqProofs (disch:=first|omega|(simp only[LnZ];omega))[wrap64, Tr.v, h1, h2, h3, h4, h5, h6, h7]; exact RetK.keep (hk _ _ ⟨rfl, by simp [h7]⟩)
  simp -implicitDefEqProofs (disch:=first|omega|(simp only[LnZ];omega))[wrap64, Tr.v, h1, h2, h3, h4, h5, h6, h7]
  exact RetK.keep (hk _ _ ⟨rfl, by simp [h1, h2, h3, h4, h5, h6, h7]⟩)
end Go.Proofs.Ytglnelcmcimljaa

namespace Go.Proofs.Ytglnelcmcimljaa
open Go
theorem i64_toInt (x : BitVec 64) : IntKind.i64.wrap (x.toNat : Int) = x.toInt := by
  rw [IntKind.wrap_i64, BitVec.toInt_eq_toNat_bmod, Int.bmod_def]
  have := x.isLt
  split <;> omega
theorem ofInt_toInt {v : Int} (h1 : -9223372036854775808 ≤ v) (h2 : v < 9223372036854775808) : (BitVec.ofInt 64 v).toInt = v := by
  rw [BitVec.toInt_ofInt, Int.bmod_def]; split <;> omega
theorem bits_in {v c : Int} (h1 : -9223372036854775808 ≤ v) (h2 : v < 9223372036854775808) : andNotI .i64 v c = 0 ↔ andI .i64 v c = v := by
  show IntKind.i64.wrap ((BitVec.ofInt 64 v &&& ~~~ BitVec.ofInt 64 c).toNat : Int) = 0 ↔ IntKind.i64.wrap ((BitVec.ofInt 64 v &&& BitVec.ofInt 64 c).toNat : Int) = v
  have hv := ofInt_toInt h1 h2
  rw [i64_toInt, i64_toInt]
  generalize BitVec.ofInt 64 v = x at *
  generalize BitVec.ofInt 64 c = y at *
  subst hv
  rw [BitVec.toInt_inj, show (0 : Int) = (0#64).toInt from rfl, BitVec.toInt_inj]
  constructor
  · intro h
    apply BitVec.eq_of_getLsbD_eq
    intro i hi
    have h3 := congrArg (fun z => z.getLsbD i) h
    simp only [BitVec.getLsbD_and, BitVec.getLsbD_not, hi, decide_true, Bool.true_and, BitVec.getLsbD_zero] at h3
    rw [BitVec.getLsbD_and]
    cases h4 : x.getLsbD i <;> cases h5 : y.getLsbD i <;> simp_all
  · intro h
    apply BitVec.eq_of_getLsbD_eq
    intro i hi
    have h3 := congrArg (fun z => z.getLsbD i) h
    simp only [BitVec.getLsbD_and] at h3
    rw [BitVec.getLsbD_and, BitVec.getLsbD_not, BitVec.getLsbD_zero]
    cases h4 : x.getLsbD i <;> cases h5 : y.getLsbD i <;> simp_all
theorem c_AutomatonValid_1 {h : Heap} {v : Value} {t : Tr} (Rt : Rep h v t) {b : Nat} {n : Int} (hn : 1 ≤ n ∧ n < 4611686018427387904) (hb : hload h (some (.pointer (some ⟨b, 0, none⟩))) none = some (.int .i64 n)) :
    CallE Try.prog fn_impl_AutomatonValid_1 [v, .pointer (some ⟨b, 0, none⟩)] h (fun u h' => h' = h ∧ u = .bool (!decide (t.Ok n))) := by
  have ht := (Rep_Tr.1 Rt).2
  rw [(Rep_Tr.1 Rt).1]
  have e0 := ht.value
  refine CallE.gen fun k hk => EN_impl_AutomatonValid_1 rfl ?_
  simp -implicitDefEqProofs (disch:=first|omega|(simp only[LnZ];omega))[wrap64, Tr.v, hb]
  refine c_in.go ?_
  rintro _ _ ⟨rfl, rfl⟩
  by_cases h1 : 0 ≤ t.frm ∧ t.frm ≤ n - 1
  case neg =>
    simp -implicitDefEqProofs (disch:=first|omega|(simp only[LnZ];omega))[wrap64, h1]
    have hno : ¬ t.Ok n := fun ho => h1 (by unfold Tr.Ok at ho; omega)
    exact RetK.keep (hk _ _ ⟨rfl, by simp [hno]⟩)
  simp -implicitDefEqProofs (disch:=first|omega|(simp only[LnZ];omega))[wrap64, h1, hb]
  refine c_in.go ?_
  rintro _ _ ⟨rfl, rfl⟩
  by_cases h2 : 0 ≤ t.to ∧ t.to ≤ n - 1
  case neg =>
    simp -implicitDefEqProofs (disch:=first|omega|(simp only[LnZ];omega))[wrap64, h2]
    have hno : ¬ t.Ok n := fun ho => h2 (by unfold Tr.Ok at ho; omega)
    exact RetK.keep (hk _ _ ⟨rfl, by simp [hno]⟩)
  simp -implicitDefEqProofs (disch:=first|omega|(simp only[LnZ];omega))[wrap64, h2]
  refine c_in.go ?_
  rintro _ _ ⟨rfl, rfl⟩
  by_cases h3 : 0 ≤ t.care ∧ t.care ≤ 7
  case neg =>
    simp -implicitDefEqProofs (disch:=first|omega|(simp only[LnZ];omega))[wrap64, h3]
    have hno : ¬ t.Ok n := fun ho => h3 (by unfold Tr.Ok at ho; omega)
    exact RetK.keep (hk _ _ ⟨rfl, by simp [hno]⟩)
  by_cases h4 : t.value < 0
  case pos =>
    simp -implicitDefEqProofs (disch:=first|omega|(simp only[LnZ];omega))[wrap64, h3, h4]
    have hno : ¬ t.Ok n := fun ho => by unfold Tr.Ok at ho; omega
    exact RetK.keep (hk _ _ ⟨rfl, by simp [hno]⟩)
  simp -implicitDefEqProofs (disch:=first|omega|(simp only[LnZ];omega))[wrap64, h3, h4]
  refine RetK.keep (hk _ _ ⟨rfl, ?_⟩)
  have h5 := bits_in (c := t.care) e0.1 e0.2
  by_cases h6 : andNotI .i64 t.value t.care = 0
  · have hyes : t.Ok n := ⟨by omega, by omega, by omega, by omega, by omega, by omega, by omega, h5.1 h6⟩
    simp [h6, hyes]
  · have hno : ¬ t.Ok n := fun h => h6 (h5.2 h.2.2.2.2.2.2.2)
    simp [h6, hno]
theorem drop_cons {α : Type} {l : List α} {i : Nat} (hi : i < l.length) : l.drop i = l[i] :: l.drop (i + 1) := List.drop_eq_getElem_cons hi
theorem incr_cons {n lo x : Int} {l : List Int} : incr n lo (x :: l) ↔ lo < x ∧ x < n ∧ incr n x l := Iff.rfl
theorem c_AutomatonValid {h : Heap} {v : Value} {a : Aut} (Ra : Rep h v a) : CallE Try.prog fn_impl_AutomatonValid [v] h (fun u h' => h.le h' ∧ u = .bool (decide a.Ok)) := by
  obtain ⟨v1, v2, v3, rfl, R1, R2, R3⟩ := Rep_Aut.1 Ra
  refine CallE.gen fun k hk => EN_impl_AutomatonValid rfl ?_
  have l1 := R1.lt
  have l2 := R2.lt
  simp -implicitDefEqProofs (disch:=first|omega|(simp only[LnZ];omega))[wrap64, R1.len, R2.len, R3.len]
  refine HS.init.alloc rfl fun b h1 H => ?_
  simp -implicitDefEqProofs (disch:=first|omega|(simp only[LnZ];omega))[wrap64]
  refine H.bxst (u := .int .i64 a.acc.length) rfl rfl rfl rfl (by simp) fun h2 H => ?_
  simp only [setC, cells_int, List.take_zero, List.nil_append] at H
  simp -implicitDefEqProofs (disch:=first|omega|(simp only[LnZ];omega))[wrap64, R1.len, R2.len, R3.len]
  have H : HS h [bx b [.int .i64 a.acc.length]] h2 := H
  refine wp_count a.init.length (fun i e h' => h' = h2 ∧ ∃ last : Int, e = [none, some (.agg #[v1, v2, v3]), none, some (.pointer (some ⟨b, 0, none⟩)), some (.int .i64 last), none, some v1, some (.int .i64 a.init.length), some (.int .i64 i)] ∧
      -1 ≤ last ∧ last < 4611686018427387904 ∧ (incr a.acc.length (-1) a.init ↔ incr a.acc.length last (a.init.drop i))) ⟨rfl, -1, rfl, by omega, by omega, by simp⟩ ?_
  rintro J i _ _ hJ hi ⟨rfl, last, rfl, hl1, hl2, hin⟩
  simp -implicitDefEqProofs (disch:=first|omega|(simp only[LnZ];omega))[wrap64]
  refine IteW.mk (fun hlt => ?_) (fun hge => ?_)
  · have hlx : i < a.init.length := by omega
    simp -implicitDefEqProofs (disch:=first|omega|(simp only[LnZ];omega))[wrap64, (R1.on H).I, H.bxld0]
    refine c_in.go ?_
    rintro _ _ ⟨rfl, rfl⟩
    simp -implicitDefEqProofs (disch:=first|omega|(simp only[LnZ];omega))[wrap64]
    rw [drop_cons hlx, incr_cons] at hin
    refine IteW.mk (fun hn => ?_) (fun hn => ?_)
    · simp -implicitDefEqProofs (disch:=first|omega|(simp only[LnZ];omega))[wrap64]
      refine RetK.keep (hk _ _ ⟨H.base, ?_⟩)
      have : ¬ a.Ok := by
        intro ho
        have := hin.1 ho.i
        omega
      simp [this]
    · simp -implicitDefEqProofs (disch:=first|omega|(simp only[LnZ];omega))[wrap64]
      exact hJ _ _ hlx ⟨rfl, _, rfl, by omega, by omega, hin.trans ⟨fun h => h.2.2, fun h => ⟨by omega, by omega, h⟩⟩⟩
  · simp -implicitDefEqProofs (disch:=first|omega|(simp only[LnZ];omega))[wrap64, H.bxld0]
    have hin : incr a.acc.length (-1) a.init := hin.2 (by rw [List.drop_eq_nil_of_le (by omega)]; trivial)
    refine c_in.go ?_
    rintro _ _ ⟨rfl, rfl⟩
    by_cases hn : 1 ≤ (a.acc.length : Int) ∧ (a.acc.length : Int) ≤ 64
    case neg =>
      simp -implicitDefEqProofs (disch:=first|omega|(simp only[LnZ];omega))[wrap64, hn]
      refine RetK.keep (hk _ _ ⟨H.base, ?_⟩)
      have : ¬ a.Ok := fun ho => hn (by have := ho.n; omega)
      simp [this]
    by_cases he : (a.edges.length : Int) ≤ 2048
    case neg =>
      simp -implicitDefEqProofs (disch:=first|omega|(simp only[LnZ];omega))[wrap64, hn, he, R3.len]
      refine RetK.keep (hk _ _ ⟨H.base, ?_⟩)
      have : ¬ a.Ok := fun ho => he (by have := ho.e; omega)
      simp [this]
    simp -implicitDefEqProofs (disch:=first|omega|(simp only[LnZ];omega))[wrap64, hn, he, R3.len]
    refine (c_ContainsFunc_impl_Transition (R3.on H) (c1 := []) (fnOf_func) (fun t => !decide (t.Ok a.acc.length)) ?_).go ?_
    · intro h3 hl j hj u Ru
      exact (c_AutomatonValid_1 Ru (by omega) (hload_le hl H.bxld0)).to fun _ _ ⟨h4, h5⟩ => ⟨h4 ▸ Heap.le.refl _, h5⟩
    · rintro _ h3 ⟨hl, rfl⟩
      simp -implicitDefEqProofs (disch:=first|omega|(simp only[LnZ];omega))[wrap64]
      refine RetK.keep (hk _ _ ⟨H.base.trans hl, ?_⟩)
      congr 1
      have hnn : 1 ≤ a.acc.length ∧ a.acc.length ≤ 64 := by omega
      have hee : a.edges.length ≤ 2048 := by omega
      simp only [Aut.Ok, hnn, hee, hin, true_and]
      rw [Bool.eq_iff_iff]
      simp
theorem c_spec_AutomatonValid {h : Heap} {v : Value} {a : Aut} (Ra : Rep h v a) : CallE Try.prog fn_spec_AutomatonValid [v] h (fun u h' => h' = h ∧ u = .bool (decide a.Ok)) := by
  obtain ⟨v1, v2, v3, rfl, R1, R2, R3⟩ := Rep_Aut.1 Ra
  refine CallE.gen fun k hk => EN_spec_AutomatonValid rfl ?_
  have l1 := R1.lt
  have l2 := R2.lt
  have l3 := R3.lt
  simp -implicitDefEqProofs (disch:=first|omega|(simp only[LnZ];omega))[wrap64, R1.len, R2.len, R3.len]
  by_cases h1 : (a.acc.length : Int) < 1
  case pos =>
    simp -implicitDefEqProofs (disch:=first|omega|(simp only[LnZ];omega))[wrap64, h1]
    have hno : ¬ a.Ok := fun ho => by have := ho.n; omega
    exact RetK.keep (hk _ _ ⟨rfl, by simp [hno]⟩)
  by_cases h2 : 64 < (a.acc.length : Int)
  case pos =>
    simp -implicitDefEqProofs (disch:=first|omega|(simp only[LnZ];omega))[wrap64, h1, h2]
    have hno : ¬ a.Ok := fun ho => by have := ho.n; omega
    exact RetK.keep (hk _ _ ⟨rfl, by simp [hno]⟩)
  by_cases h3 : (a.acc.length : Int) < a.init.length
  case pos =>
    simp -implicitDefEqProofs (disch:=first|omega|(simp only[LnZ];omega))[wrap64, h1, h2, R1.len, h3]
    have hno : ¬ a.Ok := fun ho => by
      have h1 := incr_len ho.i (by have := ho.n; omega)
      omega
    exact RetK.keep (hk _ _ ⟨rfl, by simp [hno]⟩)
  by_cases h4 : 2048 < (a.edges.length : Int)
  case pos =>
    simp -implicitDefEqProofs (disch:=first|omega|(simp only[LnZ];omega))[wrap64, h1, h2, R1.len, h3, R3.len, h4]
    have hno : ¬ a.Ok := fun ho => by have := ho.e; omega
    exact RetK.keep (hk _ _ ⟨rfl, by simp [hno]⟩)
  simp -implicitDefEqProofs (disch:=first|omega|(simp only[LnZ];omega))[wrap64, h1, h2, R1.len, h3, R3.len, h4]
  refine wp_count a.init.length (fun i e h' => h' = h ∧ e = [none, some (.agg #[v1, v2, v3]), none, some (.int .i64 a.acc.length), some (.int .i64 i), none] ∧
      (incr a.acc.length (-1) a.init ↔ incr a.acc.length (if i = 0 then -1 else a.init.getD (i - 1) 0) (a.init.drop i))) ⟨rfl, rfl, by simp⟩ ?_
  rintro J i _ _ hJ hi ⟨rfl, rfl, hin⟩
  simp -implicitDefEqProofs (disch:=first|omega|(simp only[LnZ];omega))[wrap64, R1.len]
  refine IteW.mk (fun hlt => ?_) (fun hge => ?_)
  · have hlx : i < a.init.length := by omega
    rw [drop_cons hlx, incr_cons] at hin
    have hgd : a.init.getD (i + 1 - 1) 0 = a.init[i] := by simp [hlx]
    by_cases h5 : a.init[i] < 0
    case pos =>
      simp -implicitDefEqProofs (disch:=first|omega|(simp only[LnZ];omega))[wrap64, R1.I, h5]
      have hno : ¬ a.Ok := fun ho => by have := ho.im hlx; omega
      exact RetK.keep (hk _ _ ⟨rfl, by simp [hno]⟩)
    by_cases h6 : (a.acc.length : Int) ≤ a.init[i]
    case pos =>
      simp -implicitDefEqProofs (disch:=first|omega|(simp only[LnZ];omega))[wrap64, R1.I, h5, h6]
      have hno : ¬ a.Ok := fun ho => by have := ho.im hlx; omega
      exact RetK.keep (hk _ _ ⟨rfl, by simp [hno]⟩)
    by_cases h7 : 0 < i
    · have hj : i - 1 < a.init.length := by omega
      have hii : (i : Int) - 1 = ((i - 1 : Nat) : Int) := by omega
      have hw : IntKind.i64.wrap ((i : Int) - 1) = ((i - 1 : Nat) : Int) := by rw [wrap64 (by omega) (by omega), hii]
      have hgd2 : a.init.getD (i - 1) 0 = a.init[i - 1] := by simp [hj]
      rw [if_neg (by omega), hgd2] at hin
      simp -implicitDefEqProofs (disch:=first|omega|(simp only[LnZ];omega))[wrap64, R1.I, h5, h6, h7, hw]
      refine IteW.mk (fun h8 => ?_) (fun h8 => ?_)
      · simp -implicitDefEqProofs (disch:=first|omega|(simp only[LnZ];omega))[wrap64]
        have hno : ¬ a.Ok := fun ho => by have := (hin.1 ho.i).1; omega
        exact RetK.keep (hk _ _ ⟨rfl, by simp [hno]⟩)
      · simp -implicitDefEqProofs (disch:=first|omega|(simp only[LnZ];omega))[wrap64]
        exact hJ _ _ hlx ⟨rfl, rfl, by rw [if_neg (by omega), hgd]; exact hin.trans ⟨fun h => h.2.2, fun h => ⟨by omega, by omega, h⟩⟩⟩
    · have h0 : i = 0 := by omega
      subst h0
      rw [if_pos rfl] at hin
      simp -implicitDefEqProofs (disch:=first|omega|(simp only[LnZ];omega))[wrap64, R1.I, h5, h6]
      exact hJ _ _ hlx ⟨rfl, rfl, by rw [if_neg (by omega), hgd]; exact hin.trans ⟨fun h => h.2.2, fun h => ⟨by omega, by omega, h⟩⟩⟩
  · have hin : incr a.acc.length (-1) a.init := hin.2 (by rw [List.drop_eq_nil_of_le (by omega)]; trivial)
    simp -implicitDefEqProofs (disch:=first|omega|(simp only[LnZ];omega))[wrap64]
    refine wp_count a.edges.length (fun i e h' => h' = _ ∧ e = [none, some (.agg #[v1, v2, v3]), none, some (.int .i64 a.acc.length), none, some (.int .i64 i)] ∧
      ∀ (j : Nat) (hj : j < a.edges.length), j < i → a.edges[j].Ok a.acc.length) ⟨rfl, rfl, fun j _ hj => absurd hj (Nat.not_lt_zero j)⟩ ?_
    rintro J i _ _ hJ hi ⟨rfl, rfl, hn⟩
    simp -implicitDefEqProofs (disch:=first|omega|(simp only[LnZ];omega))[wrap64, R3.len]
    refine IteW.mk (fun hlt => ?_) (fun hge => ?_)
    · have hlx : i < a.edges.length := by omega
      simp -implicitDefEqProofs (disch:=first|omega|(simp only[LnZ];omega))[wrap64, R3.xTr]
      refine (c_l7Edge (Rep_Tr.2 ⟨rfl, R3.okTr hlx⟩)).go ?_
      rintro _ _ ⟨rfl, rfl⟩
      simp -implicitDefEqProofs (disch:=first|omega|(simp only[LnZ];omega))[wrap64]
      refine IteW.mkr (fun h8 => ?_) (fun h8 => ?_)
      · simp -implicitDefEqProofs (disch:=first|omega|(simp only[LnZ];omega))[wrap64]
        have hno : ¬ a.Ok := fun ho => h8 (ho.t hlx)
        exact RetK.keep (hk _ _ ⟨rfl, by simp [hno]⟩)
      · simp -implicitDefEqProofs (disch:=first|omega|(simp only[LnZ];omega))[wrap64]
        refine hJ _ _ hlx ⟨rfl, rfl, fun j hj hji => ?_⟩
        by_cases hji2 : j = i
        · subst hji2; exact h8
        · exact hn j hj (by omega)
    · simp -implicitDefEqProofs (disch:=first|omega|(simp only[LnZ];omega))[wrap64]
      have hyes : a.Ok := ⟨by omega, by omega, hin, fun t ht => by
        obtain ⟨j, hj, rfl⟩ := List.mem_iff_getElem.1 ht
        exact hn j hj (by omega)⟩
      exact RetK.keep (hk _ _ ⟨rfl, by simp [hyes]⟩)
end Go.Proofs.Ytglnelcmcimljaa

namespace Go.Proofs.Ytglnelcmcimljaa
open Go
section
variable {α : Type} [Ty α] {g h : Heap} {Γ : List HP} {v u : Value} {l : List α}
theorem HS.cut (H : HS g (ow v l :: Γ) h) {n esz : Nat} {k : IntKind} (hn : n ≤ l.length) : ∃ v', sliceVV esz v none (some (some (.int k n))) none = some v' ∧ HS g (ow v' (l.take n) :: Γ) h := by
  obtain ⟨g', r, rfl, d, O, H⟩ := H
  rcases Own_list.1 O with ⟨p, rfl, rfl, rfl, hp⟩ | ⟨b, off, cap, cells, el, r', rfl, ⟨h1, hM⟩, h2, rfl, h4, h5⟩
  · have hn0 : n = 0 := by simpa using hn
    subst hn0
    exact ⟨.slice p 0 0, by simp [sliceVV, bndV], g', Heap.nil, rfl, d, Own_list.2 (.inl ⟨p, rfl, by simp, rfl, hp⟩), H⟩
  · rw [← List.take_append_drop n l] at h5
    obtain ⟨r1, r2, rfl, d2, h6, h7⟩ := ownL_split h5
    obtain ⟨d3, d4⟩ := Dj_add.1 d
    obtain ⟨d5, d6⟩ := Dj_add.1 d4
    obtain ⟨n1, n2⟩ : r1 b = none ∧ r2 b = none := by simpa [Heap.add] using h4
    refine ⟨.slice (some ⟨b, off, none⟩) n cap, ?_, g'.add r2, (Heap.one b (.cells cells.toArray el (0, 0))).add r1, by ac_rfl, ?_, ?_, H.le (le_add d6)⟩
    · have : n ≤ cap := by omega
      simp [sliceVV, bndV, add_none, this]
    · exact Dj_add.2 ⟨add_Dj.2 ⟨d3, (Dj_one.2 n2)⟩, add_Dj.2 ⟨d5, d2.symm⟩⟩
    · have hl : (l.take n).length = n := by simp; omega
      exact Own_list.2 (.inr ⟨b, off, cap, cells, el, r1, by rw [hl], ⟨by omega, by omega⟩, h2, rfl, n1, h6⟩)
end
theorem c_Index_int {h : Heap} {a : Value} {x : List Int} (Ra : Rep h a x) {n : Int} : CallE Try.prog fn_slices_Index_S_int_int [a, .int .i64 n] h (fun v h' => h' = h ∧ ∃ r : Int, v = .int .i64 r ∧ (0 ≤ r ↔ n ∈ x)) := by
  refine CallE.gen fun k hk => EN_slices_Index_S_int_int rfl ?_
  have hL := Ra.lt
  simp -implicitDefEqProofs (disch:=first|omega|(simp only[LnZ];omega))[wrap64, Ra.len]
  refine wp_count x.length (fun i e h' => e = [some a, some (.int .i64 n), none, none, some (.int .i64 x.length), some (.int .i64 i)] ∧ h' = h ∧ ∀ (j : Nat) (hj : j < x.length), j < i → x[j] ≠ n) ⟨rfl, rfl, fun j _ hj => absurd hj (Nat.not_lt_zero j)⟩ ?_
  rintro J i _ h1 hJ hi ⟨rfl, rfl, hn⟩
  simp -implicitDefEqProofs (disch:=first|omega|(simp only[LnZ];omega))[wrap64]
  refine IteW.mk (fun hlt => ?_) (fun hge => ?_)
  · have hlx : i < x.length := by omega
    simp -implicitDefEqProofs (disch:=first|omega|(simp only[LnZ];omega))[wrap64, Ra.I]
    refine IteW.mk (fun hq => ?_) (fun hq => ?_)
    · simp -implicitDefEqProofs (disch:=first|omega|(simp only[LnZ];omega))[wrap64]
      exact RetK.keep (hk _ _ ⟨rfl, i, rfl, by simp only [Int.natCast_nonneg, true_iff]; rw [hq]; exact List.getElem_mem hlx⟩)
    · simp -implicitDefEqProofs (disch:=first|omega|(simp only[LnZ];omega))[wrap64]
      refine hJ _ _ hlx ⟨rfl, rfl, fun j hj hji => ?_⟩
      by_cases hji2 : j = i
      · subst hji2; exact fun e => hq e.symm
      · exact hn j hj (by omega)
  · simp -implicitDefEqProofs (disch:=first|omega|(simp only[LnZ];omega))[wrap64]
    refine RetK.keep (hk _ _ ⟨rfl, -1, rfl, ?_⟩)
    simp only [show ¬ (0 : Int) ≤ -1 by decide, false_iff]
    intro hm
    obtain ⟨j, hj, h1⟩ := List.mem_iff_getElem.1 hm
    exact hn j hj (by omega) h1
theorem c_Contains_int {h : Heap} {a : Value} {x : List Int} (Ra : Rep h a x) {n : Int} : CallE Try.prog fn_slices_Contains_S_int_int [a, .int .i64 n] h (fun v h' => h' = h ∧ v = .bool (decide (n ∈ x))) := by
  refine CallE.gen fun k hk => EN_slices_Contains_S_int_int rfl ?_
  simp -implicitDefEqProofs (disch:=first|omega|(simp only[LnZ];omega))[wrap64]
  refine (c_Index_int Ra).go ?_
  rintro _ h1 ⟨rfl, r, rfl, hr⟩
  simp -implicitDefEqProofs (disch:=first|omega|(simp only[LnZ];omega))[wrap64]
  exact RetK.keep (hk _ _ ⟨rfl, by congr 1; rw [Bool.eq_iff_iff]; simp [hr]⟩)
theorem c_l4In {h : Heap} {a : Value} {x : List Int} (Ra : Rep h a x) {n : Int} : CallE Try.prog fn_spec_l4In [a, .int .i64 n] h (fun v h' => h' = h ∧ v = .bool (decide (n ∈ x))) := by
  refine CallE.gen fun k hk => EN_spec_l4In rfl ?_
  have hL := Ra.lt
  simp -implicitDefEqProofs (disch:=first|omega|(simp only[LnZ];omega))[wrap64]
  refine wp_count x.length (fun i e h' => e = [some a, some (.int .i64 n), none, some (.int .i64 i)] ∧ h' = h ∧ ∀ (j : Nat) (hj : j < x.length), j < i → x[j] ≠ n) ⟨rfl, rfl, fun j _ hj => absurd hj (Nat.not_lt_zero j)⟩ ?_
  rintro J i _ h1 hJ hi ⟨rfl, rfl, hn⟩
  simp -implicitDefEqProofs (disch:=first|omega|(simp only[LnZ];omega))[wrap64, Ra.len]
  refine IteW.mk (fun hlt => ?_) (fun hge => ?_)
  · have hlx : i < x.length := by omega
    simp -implicitDefEqProofs (disch:=first|omega|(simp only[LnZ];omega))[wrap64, Ra.I]
    refine IteW.mk (fun hq => ?_) (fun hq => ?_)
    · simp -implicitDefEqProofs (disch:=first|omega|(simp only[LnZ];omega))[wrap64]
      exact RetK.keep (hk _ _ ⟨rfl, by congr 1; rw [eq_comm, decide_eq_true_iff, ← hq]; exact List.getElem_mem hlx⟩)
    · simp -implicitDefEqProofs (disch:=first|omega|(simp only[LnZ];omega))[wrap64]
      refine hJ _ _ hlx ⟨rfl, rfl, fun j hj hji => ?_⟩
      by_cases hji2 : j = i
      · subst hji2; exact hq
      · exact hn j hj (by omega)
  · simp -implicitDefEqProofs (disch:=first|omega|(simp only[LnZ];omega))[wrap64]
    refine RetK.keep (hk _ _ ⟨rfl, ?_⟩)
    congr 1
    rw [eq_comm, decide_eq_false_iff_not]
    intro hm
    obtain ⟨j, hj, h1⟩ := List.mem_iff_getElem.1 hm
    exact hn j hj (by omega) h1
theorem c_next {h : Heap} {v : Value} {a : Aut} (Ra : Rep h v a) (ha : a.Ok) : CallE Try.prog fn_impl_Automaton_next [v] h (fun u h' => ∃ G, HS h [ow u G] h' ∧ Adj a.E G ∧ G.length = a.acc.length) := by
  obtain ⟨v1, v2, v3, rfl, R1, R2, R3⟩ := Rep_Aut.1 Ra
  refine CallE.gen fun k hk => EN_impl_Automaton_next rfl ?_
  have hn := ha.n
  have he := ha.e
  simp -implicitDefEqProofs (disch:=first|omega|(simp only[LnZ];omega))[wrap64, R2.len]
  refine HS.init.mks (α := List Int) (z := []) rfl rfl own_nils (Nat.le_refl _) (by omega) (by omega) fun w h1 H => ?_
  simp -implicitDefEqProofs (disch:=first|omega|(simp only[LnZ];omega))[wrap64, (R3.on H).len]
  refine wp_count a.edges.length (fun i e h' => ∃ G, e = [none, none, none, some w, none, some v3, some (.int .i64 a.edges.length), some (.int .i64 i)] ∧ HS h [ow w G] h' ∧ NextI a i G) ⟨_, by simp, H, NextI.zero⟩ ?_
  rintro J i _ h2 hJ hi ⟨G, rfl, H, hG⟩
  simp -implicitDefEqProofs (disch:=first|omega|(simp only[LnZ];omega))[wrap64]
  refine IteW.mk (fun hlt => ?_) (fun hge => ?_)
  · have hlx : i < a.edges.length := by omega
    have hx := ha.t hlx
    unfold Tr.Ok at hx
    obtain ⟨f, hf⟩ : ∃ f : Nat, a.edges[i].frm = f := ⟨a.edges[i].frm.toNat, by omega⟩
    obtain ⟨t, ht⟩ : ∃ t : Nat, a.edges[i].to = t := ⟨a.edges[i].to.toNat, by omega⟩
    have hfG : f < G.length := by rw [hG.len]; omega
    have hle := hG.le f hfG
    have R3' := R3.on H
    obtain ⟨u, hu, H⟩ := H.take hfG
    change hload _ (some (elp 1 w f)) none = some u at hu
    simp -implicitDefEqProofs (disch:=first|omega|(simp only[LnZ];omega))[wrap64, R3'.xTr, Tr.v, setC, hf, ht, H.sw1.holeia (n := 1) rfl, hu]
    refine H.app1 (t : Int) rfl rfl rfl ⟨by omega, by omega⟩ rfl rfl (by omega) (by omega) fun u' h3 H => ?_
    simp -implicitDefEqProofs (disch:=first|omega|(simp only[LnZ];omega))[wrap64, H.sw1.holeia (n := 1) rfl]
    refine H.storeH rfl rfl rfl fun h4 H => ?_
    simp -implicitDefEqProofs (disch:=first|omega|(simp only[LnZ];omega))[wrap64]
    exact hJ _ _ hlx ⟨_, rfl, H, hG.step hlx hf ht hfG⟩
  · simp -implicitDefEqProofs (disch:=first|omega|(simp only[LnZ];omega))[wrap64]
    exact RetK.keep (hk _ _ ⟨G, H, hG.done ha (by omega), hG.len⟩)
theorem c_l7Next {h : Heap} {v : Value} {a : Aut} (Ra : Rep h v a) (ha : a.Ok) : CallE Try.prog fn_spec_l7Next [v] h (fun u h' => ∃ G, HS h [ow u G] h' ∧ Adj a.E G ∧ G.length = a.acc.length ∧ ∀ x (hx : x < G.length), G[x].length ≤ 2048) := by
  obtain ⟨v1, v2, v3, rfl, R1, R2, R3⟩ := Rep_Aut.1 Ra
  refine CallE.gen fun k hk => EN_spec_l7Next rfl ?_
  have hn := ha.n
  have he := ha.e
  simp -implicitDefEqProofs (disch:=first|omega|(simp only[LnZ];omega))[wrap64, R2.len]
  refine HS.init.mks (α := List Int) (z := []) rfl rfl own_nils (Nat.le_refl _) (by omega) (by omega) fun w h1 H => ?_
  simp -implicitDefEqProofs (disch:=first|omega|(simp only[LnZ];omega))[wrap64]
  refine wp_count a.edges.length (fun i e h' => ∃ G, e = [none, some (.agg #[v1, v2, v3]), none, some w, some (.int .i64 i), none] ∧ HS h [ow w G] h' ∧ NextI a i G) ⟨_, by simp, H, NextI.zero⟩ ?_
  rintro J i _ h2 hJ hi ⟨G, rfl, H, hG⟩
  simp -implicitDefEqProofs (disch:=first|omega|(simp only[LnZ];omega))[wrap64, (R3.on H).len]
  refine IteW.mk (fun hlt => ?_) (fun hge => ?_)
  · have hlx : i < a.edges.length := by omega
    have hx := ha.t hlx
    unfold Tr.Ok at hx
    obtain ⟨f, hf⟩ : ∃ f : Nat, a.edges[i].frm = f := ⟨a.edges[i].frm.toNat, by omega⟩
    obtain ⟨t, ht⟩ : ∃ t : Nat, a.edges[i].to = t := ⟨a.edges[i].to.toNat, by omega⟩
    have hfG : f < G.length := by rw [hG.len]; omega
    have hle := hG.le f hfG
    have R3' := R3.on H
    obtain ⟨u, hu, Ru⟩ := H.rep.ldL hfG
    simp -implicitDefEqProofs (disch:=first|omega|(simp only[LnZ];omega))[wrap64, R3'.xTr, Tr.v, setC, hf, ht, H.rep.X (n := 1) rfl, hu]
    refine (c_l4In Ru).go ?_
    rintro _ _ ⟨rfl, rfl⟩
    by_cases hm : (t : Int) ∈ G[f]
    · simp -implicitDefEqProofs (disch:=first|omega|(simp only[LnZ];omega))[wrap64, hm]
      exact hJ _ _ hlx ⟨_, by simp, H, hG.skip hlx hf ht hfG hm⟩
    · obtain ⟨u, hu, H⟩ := H.take hfG
      change hload _ (some (elp 1 w f)) none = some u at hu
      simp -implicitDefEqProofs (disch:=first|omega|(simp only[LnZ];omega))[wrap64, hm, hf, ht, H.sw1.holeia (n := 1) rfl, hu]
      refine H.app1 (t : Int) rfl rfl rfl ⟨by omega, by omega⟩ rfl rfl (by omega) (by omega) fun u' h3 H => ?_
      simp -implicitDefEqProofs (disch:=first|omega|(simp only[LnZ];omega))[wrap64, H.sw1.holeia (n := 1) rfl]
      refine H.storeH rfl rfl rfl fun h4 H => ?_
      simp -implicitDefEqProofs (disch:=first|omega|(simp only[LnZ];omega))[wrap64]
      exact hJ _ _ hlx ⟨_, by simp, H, hG.step hlx hf ht hfG⟩
  · simp -implicitDefEqProofs (disch:=first|omega|(simp only[LnZ];omega))[wrap64]
    exact RetK.keep (hk _ _ ⟨G, H, hG.done ha (by omega), hG.len, fun x hx => by have := hG.le x hx; omega⟩)
end Go.Proofs.Ytglnelcmcimljaa
