/-
  What the helpers of the laws do: copying, counting, comparing, marking. Printed by a program.
-/
import Derived.Test.YthgimpheeemooaaI3
import Derived.Test.YthgimpheeemooaaI4
import Derived.Test.YthgimpheeemooaaPE
import Derived.Test.YthgimpheeemooaaD2
import Derived.Test.YthgimpheeemooaaPF0
namespace Go.Proofs.Ythgimpheeemooaa
open Go
set_option linter.all false
set_option linter.unusedVariables false
set_option linter.unusedSimpArgs false
set_option linter.defProp false
set_option maxRecDepth 1000000

def Sta.zero : Sta := ⟨[], []⟩
theorem own_zeroSt : Ty.own Heap.nil [.slice none 0 0, .slice none 0 0] Sta.zero := ⟨[_], [_], Heap.nil, Heap.nil, rfl, by simp, by simp, own_nils, own_nils⟩

theorem c_toState {h : Heap} {v : Value} {a : Sta} (Ra : Rep h v a) (hs : Sz.sz a ≤ 1048576) : CallE Try.prog fn_laws_toState [v] h (fun v h' => HS h [ow v a] h') := by
  have hs' : Sz.sz a.locs + Sz.sz a.vals ≤ 1048576 := hs
  obtain ⟨v1, v2, rfl, R1, R2⟩ := Rep_Sta.1 Ra
  refine CallE.gen fun k hk => EN_laws_toState rfl ?_
  have H0 : HS h [] h := HS.init
  simp -implicitDefEqProofs (disch := first | omega | (simp only [List.length_set, List.length_replicate, List.length_append, List.length_map, List.length_take, List.length_cons, List.length_nil]; omega)) [wrap64, setC]
  refine (c_toIntS (R1.on H0) (by omega)).go ?_
  intro u1 h1 G1
  have H1 := HS.app G1 H0
  simp -implicitDefEqProofs (disch := first | omega | (simp only [List.length_set, List.length_replicate, List.length_append, List.length_map, List.length_take, List.length_cons, List.length_nil]; omega)) [wrap64, setC, G1.rep.cells, G1.rep.one]
  refine (c_toIntS (R2.on H1) (by omega)).go ?_
  intro u2 h2 G2
  have H2 := HS.app G2 H1
  simp -implicitDefEqProofs (disch := first | omega | (simp only [List.length_set, List.length_replicate, List.length_append, List.length_map, List.length_take, List.length_cons, List.length_nil]; omega)) [wrap64, setC, G1.rep.cells, G1.rep.one, G2.rep.cells, G2.rep.one]
  exact RetK.keep (hk _ _ (HS.mkSta H2.sw1))

theorem c_szState {h : Heap} {a : Value} {x : Sta} (Ra : Rep h a x) {n : Int} (hn : 0 ≤ n ∧ n ≤ 1048576) : CallE Try.prog fn_laws_szState [a, .int .i64 n] h (fun v h' => h' = h ∧ ∃ m : Int, v = .int .i64 m ∧ (m = -1 ∨ (0 ≤ m ∧ m + Sz.sz x = n))) := by
  have hz : Sz.sz x = Sz.sz x.locs + Sz.sz x.vals := rfl
  obtain ⟨v1, v2, rfl, R1, R2⟩ := Rep_Sta.1 Ra
  refine CallE.gen fun k hk => EN_laws_szState rfl ?_
  simp -implicitDefEqProofs (disch := first | omega | (simp only [List.length_set, List.length_replicate, List.length_append, List.length_map, List.length_take, List.length_cons, List.length_nil]; omega)) [wrap64]
  refine (c_szIntS R1 (by omega)).go ?_
  rintro _ _ ⟨rfl, m1, rfl, q1⟩
  simp -implicitDefEqProofs (disch := first | omega | (simp only [List.length_set, List.length_replicate, List.length_append, List.length_map, List.length_take, List.length_cons, List.length_nil]; omega)) [wrap64]
  refine IteW.mk (fun hlt => ?_) (fun hge => ?_)
  · simp -implicitDefEqProofs (disch := first | omega | (simp only [List.length_set, List.length_replicate, List.length_append, List.length_map, List.length_take, List.length_cons, List.length_nil]; omega)) [wrap64]
    exact RetK.keep (hk _ _ ⟨rfl, _, rfl, .inl rfl⟩)
  simp -implicitDefEqProofs (disch := first | omega | (simp only [List.length_set, List.length_replicate, List.length_append, List.length_map, List.length_take, List.length_cons, List.length_nil]; omega)) [wrap64]
  refine (c_szIntS R2 (by omega)).go ?_
  rintro _ _ ⟨rfl, m2, rfl, q2⟩
  simp -implicitDefEqProofs (disch := first | omega | (simp only [List.length_set, List.length_replicate, List.length_append, List.length_map, List.length_take, List.length_cons, List.length_nil]; omega)) [wrap64]
  refine IteW.mk (fun hlt => ?_) (fun hge => ?_)
  · simp -implicitDefEqProofs (disch := first | omega | (simp only [List.length_set, List.length_replicate, List.length_append, List.length_map, List.length_take, List.length_cons, List.length_nil]; omega)) [wrap64]
    exact RetK.keep (hk _ _ ⟨rfl, _, rfl, .inl rfl⟩)
  try simp -implicitDefEqProofs (disch := first | omega | (simp only [List.length_set, List.length_replicate, List.length_append, List.length_map, List.length_take, List.length_cons, List.length_nil]; omega)) [wrap64]
  exact RetK.keep (hk _ _ ⟨rfl, _, rfl, .inr (by omega)⟩)

theorem c_eqState {h : Heap} {a b : Value} {x y : Sta} (Ra : Rep h a x) (Rb : Rep h b y) : CallE Try.prog fn_laws_eqState [a, b] h (fun v h' => h' = h ∧ v = .bool (decide (x = y))) := by
  obtain ⟨v1, v2, rfl, R1, R2⟩ := Rep_Sta.1 Ra
  obtain ⟨w1, w2, rfl, S1, S2⟩ := Rep_Sta.1 Rb
  refine CallE.gen fun k hk => EN_laws_eqState rfl ?_
  simp -implicitDefEqProofs (disch := first | omega | (simp only [List.length_set, List.length_replicate, List.length_append, List.length_map, List.length_take, List.length_cons, List.length_nil]; omega)) [wrap64]
  refine (c_eqIntS R1 S1).go ?_
  rintro _ _ ⟨rfl, rfl⟩
  simp -implicitDefEqProofs (disch := first | omega | (simp only [List.length_set, List.length_replicate, List.length_append, List.length_map, List.length_take, List.length_cons, List.length_nil]; omega)) [wrap64]
  refine IteW.mkr (fun h1 => ?_) (fun h1 => ?_)
  · simp -implicitDefEqProofs (disch := first | omega | (simp only [List.length_set, List.length_replicate, List.length_append, List.length_map, List.length_take, List.length_cons, List.length_nil]; omega)) [wrap64]
    exact RetK.keep (hk _ _ ⟨rfl, by simp_all [Sta.ext_iff']⟩)
  simp -implicitDefEqProofs (disch := first | omega | (simp only [List.length_set, List.length_replicate, List.length_append, List.length_map, List.length_take, List.length_cons, List.length_nil]; omega)) [wrap64]
  refine (c_eqIntS R2 S2).go ?_
  rintro _ _ ⟨rfl, rfl⟩
  simp -implicitDefEqProofs (disch := first | omega | (simp only [List.length_set, List.length_replicate, List.length_append, List.length_map, List.length_take, List.length_cons, List.length_nil]; omega)) [wrap64]
  refine IteW.mkr (fun h2 => ?_) (fun h2 => ?_)
  · simp -implicitDefEqProofs (disch := first | omega | (simp only [List.length_set, List.length_replicate, List.length_append, List.length_map, List.length_take, List.length_cons, List.length_nil]; omega)) [wrap64]
    exact RetK.keep (hk _ _ ⟨rfl, by simp_all [Sta.ext_iff']⟩)
  try simp -implicitDefEqProofs (disch := first | omega | (simp only [List.length_set, List.length_replicate, List.length_append, List.length_map, List.length_take, List.length_cons, List.length_nil]; omega)) [wrap64]
  exact RetK.keep (hk _ _ ⟨rfl, by simp_all [Sta.ext_iff']⟩)

theorem cnt_Sta (s : Sta) : Mk.cnt s = Mk.cnt s.locs + Mk.cnt s.vals := rfl
theorem cnt_Gr (s : Gr) : Mk.cnt s = Mk.cnt s.states + Mk.cnt s.next := rfl
end Go.Proofs.Ythgimpheeemooaa
