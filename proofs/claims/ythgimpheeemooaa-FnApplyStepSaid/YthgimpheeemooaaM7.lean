/-
  Texts of this proof, one behind the other.
-/
import Derived.Test.YthgimpheeemooaaM6
/-
  Arguments of laws: changed states, states with systems.
-/
namespace Go.Proofs.Ythgimpheeemooaa
open Go
set_option linter.all false
set_option linter.unusedVariables false
set_option linter.unusedSimpArgs false
set_option linter.defProp false
set_option maxRecDepth 1000000

theorem c_l3Mutate {g h : Heap} {Γ : List HP} {b : Nat} {sl v : Value} {l : List (BitVec 8)} {p : Int} {st : Sta} (R : Rep g sl l) (Rt : Rep g v st) (hs : st.Sm) (H : HS g (rb b sl p :: Γ) h) (hp : 0 ≤ p) (hp2 : p + 200 ≤ 1000000000000) :
    CallE Try.prog fn_spec_l3Mutate [.pointer (some ⟨b, 0, none⟩), v] h (fun u h' => ∃ (y : Sta) (p' : Int), HS g (ow u y :: rb b sl p' :: Γ) h' ∧ p ≤ p' ∧ p' ≤ p + 10) := by
  have FS := Rt.aSta
  obtain ⟨t1, t2, rfl, T1, T2⟩ := Rep_Sta.1 Rt
  have hll := hs.ll
  have hvl := hs.vl
  refine CallE.gen fun k hk => EN_spec_l3Mutate rfl ?_
  simp -implicitDefEqProofs (disch := first | omega | (simp only [List.length_set, List.length_replicate, List.length_append, List.length_map, List.length_take, List.length_cons, List.length_nil]; omega)) [wrap64]
  refine HS.appPL (α := Int) (l2 := st.locs) H rfl rfl (T1.on H) rfl rfl (by omega) fun o1 h1 H => ?_
  simp -implicitDefEqProofs (disch := first | omega | (simp only [List.length_set, List.length_replicate, List.length_append, List.length_map, List.length_take, List.length_cons, List.length_nil]; omega)) [wrap64]
  refine HS.appPL (α := Int) (l2 := st.vals) H rfl rfl (T2.on H) rfl rfl (by omega) fun o2 h2 H => ?_
  have hO1 := H.sw1.rep.one
  have hC1 := H.sw1.rep.cells
  have hO2 := H.rep.one
  have hC2 := H.rep.cells
  simp -implicitDefEqProofs (disch := first | omega | (simp only [List.length_set, List.length_replicate, List.length_append, List.length_map, List.length_take, List.length_cons, List.length_nil]; omega)) [wrap64, setC, hO1, hC1, hO2, hC2]
  refine (c_pick (n := 40) R H.sw2 (by omega) (by omega) ⟨by decide, by decide⟩).go ?_
  rintro _ h3 ⟨r1, rfl, q1, z1, y1, H⟩
  obtain ⟨a, ha⟩ : ∃ a, a = st.locs := ⟨_, rfl⟩
  obtain ⟨c, hc⟩ : ∃ c, c = st.vals := ⟨_, rfl⟩
  rw [← ha] at H hll
  rw [← hc] at H hvl
  have hfin : ∀ {h' p' w1 w2 a' c'}, HS g (rb b sl p' :: ow w2 c' :: ow w1 a' :: Γ) h' → p ≤ p' → p' ≤ p + 10 → k (.agg #[w1, w2]) h' := fun {h' p' w1 w2 a' c'} H e1 e2 => hk _ _ ⟨⟨a', c'⟩, p', HS.mkSta (a := ⟨a', c'⟩) (H.sw2.under fun _ H => H.sw1), e1, e2⟩
  by_cases c0 : r1 = 0
  · simp -implicitDefEqProofs (disch := first | omega | (simp only [List.length_set, List.length_replicate, List.length_append, List.length_map, List.length_take, List.length_cons, List.length_nil]; omega)) [wrap64, c0, setC]
    refine HS.app1 (bytes := 8) H.sw2 (0 : Int) rfl rfl rfl ⟨by decide, by decide⟩ rfl rfl (by omega) (by omega) fun o' h5 H => ?_
    simp -implicitDefEqProofs (disch := first | omega | (simp only [List.length_set, List.length_replicate, List.length_append, List.length_map, List.length_take, List.length_cons, List.length_nil]; omega)) [wrap64, setC, H.rep.one, H.rep.cells, hO2, hC2]
    exact RetK.keep (hfin (H.sw1.under fun _ H => H.sw1) (by omega) (by omega))
  by_cases c1 : r1 = 1
  · by_cases d1 : 0 < a.length
    · simp -implicitDefEqProofs (disch := first | omega | (simp only [List.length_set, List.length_replicate, List.length_append, List.length_map, List.length_take, List.length_cons, List.length_nil]; omega)) [wrap64, c0, c1, H.sw2.rep.len, d1]
      refine H.bls [(-1 : Int), 4, 3, 9223372036854775807, 10] rfl rfl (okL (by decide)) (by decide) fun q hq H => ?_
      simp -implicitDefEqProofs (disch := first | omega | (simp only [List.length_set, List.length_replicate, List.length_append, List.length_map, List.length_take, List.length_cons, List.length_nil]; omega)) [wrap64]
      refine (c_num R H (by omega) (by omega) (by simp)).go ?_
      rintro _ h4 ⟨r2, rfl, q2, _, H⟩
      have hia : iaV 1 o1 (.int .i64 0) = some (elp 1 o1 0) := (H.sw2.rep.X (n := 1) rfl).1 .i64 0 (by omega)
      simp -implicitDefEqProofs (disch := first | omega | (simp only [List.length_set, List.length_replicate, List.length_append, List.length_map, List.length_take, List.length_cons, List.length_nil]; omega)) [wrap64, hia]
      refine H.sw2.storeF r2 (i := 0) (by omega) rfl rfl q2 rfl fun h6 H => ?_
      simp -implicitDefEqProofs (disch := first | omega | (simp only [List.length_set, List.length_replicate, List.length_append, List.length_map, List.length_take, List.length_cons, List.length_nil]; omega)) [wrap64, setC, hO1, hC1, hO2, hC2]
      exact RetK.keep (hfin (H.sw1.under fun _ H => H.sw1) (by omega) (by omega))
    · simp -implicitDefEqProofs (disch := first | omega | (simp only [List.length_set, List.length_replicate, List.length_append, List.length_map, List.length_take, List.length_cons, List.length_nil]; omega)) [wrap64, c0, c1, H.sw2.rep.len, d1, setC, hO1, hC1, hO2, hC2]
      exact RetK.keep (hfin H (by omega) (by omega))
  by_cases c2 : r1 = 2
  · by_cases d1 : 0 < c.length
    · simp -implicitDefEqProofs (disch := first | omega | (simp only [List.length_set, List.length_replicate, List.length_append, List.length_map, List.length_take, List.length_cons, List.length_nil]; omega)) [wrap64, c0, c1, c2, H.sw1.rep.len, d1]
      refine ⟨?_, ?_⟩
      · simp -implicitDefEqProofs (disch := first | omega | (simp only [List.length_set, List.length_replicate, List.length_append, List.length_map, List.length_take, List.length_cons, List.length_nil]; omega)) [wrap64]
        refine (c_pick (n := c.length) R H (by omega) (by omega) ⟨by omega, by omega⟩).go ?_
        rintro _ h4 ⟨r2, rfl, q2, z2, y2, H⟩
        obtain ⟨i, rfl⟩ : ∃ i : Nat, r2 = i := ⟨r2.toNat, (Int.toNat_of_nonneg z2).symm⟩
        have hi : i < c.length := by have := y2 (by omega); omega
        simp -implicitDefEqProofs (disch := first | omega | (simp only [List.length_set, List.length_replicate, List.length_append, List.length_map, List.length_take, List.length_cons, List.length_nil]; omega)) [wrap64]
        refine H.bls [(-1 : Int), 4, 3, 12] rfl rfl (okL (by decide)) (by decide) fun q hq H => ?_
        simp -implicitDefEqProofs (disch := first | omega | (simp only [List.length_set, List.length_replicate, List.length_append, List.length_map, List.length_take, List.length_cons, List.length_nil]; omega)) [wrap64]
        refine (c_num R H (by omega) (by omega) (by simp)).go ?_
        rintro _ h4 ⟨r3, rfl, q3, _, H⟩
        simp -implicitDefEqProofs (disch := first | omega | (simp only [List.length_set, List.length_replicate, List.length_append, List.length_map, List.length_take, List.length_cons, List.length_nil]; omega)) [wrap64, H.sw1.rep.I]
        refine H.sw1.storeF r3 (i := i) hi rfl rfl q3 rfl fun h6 H => ?_
        simp -implicitDefEqProofs (disch := first | omega | (simp only [List.length_set, List.length_replicate, List.length_append, List.length_map, List.length_take, List.length_cons, List.length_nil]; omega)) [wrap64, setC, hO1, hC1, hO2, hC2]
        exact RetK.keep (hfin H.sw1 (by omega) (by omega))
      · simp -implicitDefEqProofs (disch := first | omega | (simp only [List.length_set, List.length_replicate, List.length_append, List.length_map, List.length_take, List.length_cons, List.length_nil]; omega)) [wrap64]
        refine H.bls [(-1 : Int), 4, 3, 12] rfl rfl (okL (by decide)) (by decide) fun q hq H => ?_
        simp -implicitDefEqProofs (disch := first | omega | (simp only [List.length_set, List.length_replicate, List.length_append, List.length_map, List.length_take, List.length_cons, List.length_nil]; omega)) [wrap64]
        refine (c_pick (n := c.length) R H.sw1 (by omega) (by omega) ⟨by omega, by omega⟩).go ?_
        rintro _ h4 ⟨r2, rfl, q2, z2, y2, H⟩
        obtain ⟨i, rfl⟩ : ∃ i : Nat, r2 = i := ⟨r2.toNat, (Int.toNat_of_nonneg z2).symm⟩
        have hi : i < c.length := by have := y2 (by omega); omega
        simp -implicitDefEqProofs (disch := first | omega | (simp only [List.length_set, List.length_replicate, List.length_append, List.length_map, List.length_take, List.length_cons, List.length_nil]; omega)) [wrap64]
        refine (c_num R H.sw1 (by omega) (by omega) (by simp)).go ?_
        rintro _ h4 ⟨r3, rfl, q3, _, H⟩
        simp -implicitDefEqProofs (disch := first | omega | (simp only [List.length_set, List.length_replicate, List.length_append, List.length_map, List.length_take, List.length_cons, List.length_nil]; omega)) [wrap64, H.sw1.rep.I]
        refine H.sw1.storeF r3 (i := i) hi rfl rfl q3 rfl fun h6 H => ?_
        simp -implicitDefEqProofs (disch := first | omega | (simp only [List.length_set, List.length_replicate, List.length_append, List.length_map, List.length_take, List.length_cons, List.length_nil]; omega)) [wrap64, setC, hO1, hC1, hO2, hC2]
        exact RetK.keep (hfin H.sw1 (by omega) (by omega))
    · simp -implicitDefEqProofs (disch := first | omega | (simp only [List.length_set, List.length_replicate, List.length_append, List.length_map, List.length_take, List.length_cons, List.length_nil]; omega)) [wrap64, c0, c1, c2, H.sw1.rep.len, d1, setC, hO1, hC1, hO2, hC2]
      exact RetK.keep (hfin H (by omega) (by omega))
  by_cases c3 : r1 = 3
  · simp -implicitDefEqProofs (disch := first | omega | (simp only [List.length_set, List.length_replicate, List.length_append, List.length_map, List.length_take, List.length_cons, List.length_nil]; omega)) [wrap64, c0, c1, c2, c3, setC]
    exact RetK.keep (hk _ _ ⟨⟨[], []⟩, p + 1, HS.mkSta (a := ⟨[], []⟩) ((H.under fun _ H => H.drop.drop).nil_ow.nil_ow), by omega, by omega⟩)
  · simp -implicitDefEqProofs (disch := first | omega | (simp only [List.length_set, List.length_replicate, List.length_append, List.length_map, List.length_take, List.length_cons, List.length_nil]; omega)) [wrap64, c0, c1, c2, c3, setC, hO1, hC1, hO2, hC2]
    exact RetK.keep (hfin H (by omega) (by omega))

def RD3 (h : Heap) : Value → Heap → Prop := fun u h' => ∃ (u1 u2 : Value) (s : Sy) (st : Sta), u = .tuple #[u1, u2] ∧ HS h [ow u1 s, ow u2 st] h'
theorem c_DrawStateValid {h : Heap} {v : Value} {l : List (BitVec 8)} (R : Rep h v l) : CallE Try.prog fn_spec_DrawStateValid [v] h (RD3 h) := by
  refine CallE.gen fun k hk => EN_spec_DrawStateValid rfl ?_
  simp -implicitDefEqProofs (disch := first | omega | (simp only [List.length_set, List.length_replicate, List.length_append, List.length_map, List.length_take, List.length_cons, List.length_nil]; omega)) [wrap64]
  refine (c_l16Open R).go ?_
  rintro _ h1 ⟨b, sl, l', rfl, R', H⟩
  simp -implicitDefEqProofs (disch := first | omega | (simp only [List.length_set, List.length_replicate, List.length_append, List.length_map, List.length_take, List.length_cons, List.length_nil]; omega)) [wrap64]
  refine (c_l2System R' H (by omega) (by omega)).go ?_
  rintro u h2 ⟨s, p1, H, hs, hp1, hp2⟩
  have FS := H.rep.aSy
  simp -implicitDefEqProofs (disch := first | omega | (simp only [List.length_set, List.length_replicate, List.length_append, List.length_map, List.length_take, List.length_cons, List.length_nil]; omega)) [wrap64, FS, setC]
  obtain ⟨g1, H1, H2⟩ := HS.rebase (Δ := [rb b sl p1]) H.sw1
  refine (c_l3State (R'.on H1) H1.rep H2 (by omega) (by omega)).go ?_
  rintro w h3 ⟨st, p2, H3, hst, hp3, hp4⟩
  have H := H3.app H1
  have FT := H.rep.aSta
  simp -implicitDefEqProofs (disch := first | omega | (simp only [List.length_set, List.length_replicate, List.length_append, List.length_map, List.length_take, List.length_cons, List.length_nil]; omega)) [wrap64, FT, FS]
  obtain ⟨g2, H1, H2⟩ := HS.rebase (Δ := [rb b sl p2]) H.sw1
  refine (c_l3Mutate (R'.on H1) H1.rep hst H2 (by omega) (by omega)).go ?_
  rintro w2 h4 ⟨st2, p3, H3, hp5, hp6⟩
  have H := H3.app H1
  have FT2 := H.rep.aSta
  simp -implicitDefEqProofs (disch := first | omega | (simp only [List.length_set, List.length_replicate, List.length_append, List.length_map, List.length_take, List.length_cons, List.length_nil]; omega)) [wrap64, FT2, FS, setC]
  obtain ⟨g3, H1, H2⟩ := HS.rebase (Δ := [rb b sl p3]) H.sw1
  refine (c_l2Mutate (R'.on H1) H1.sw2.rep hs (by omega) (by omega) H2 (by omega) (by omega)).go ?_
  rintro x h5 ⟨y, p4, H3, hy, hp7, hp8⟩
  have H := H3.app H1
  have FY := H.rep.aSy
  simp -implicitDefEqProofs (disch := first | omega | (simp only [List.length_set, List.length_replicate, List.length_append, List.length_map, List.length_take, List.length_cons, List.length_nil]; omega)) [wrap64, FY, FT2, setC]
  exact RetK.keep (hk _ _ ⟨x, w2, y, st2, rfl, (H.under fun _ H => H.drop.only)⟩)
end Go.Proofs.Ythgimpheeemooaa

/-
  Arguments of laws: steps that are drawn.
-/
namespace Go.Proofs.Ythgimpheeemooaa
open Go
set_option linter.all false
set_option linter.unusedVariables false
set_option linter.unusedSimpArgs false
set_option linter.defProp false
set_option maxRecDepth 1000000

theorem c_numB {g h : Heap} {Γ : List HP} {b : Nat} {sl v : Value} {l : List (BitVec 8)} {p : Int} (R : Rep g sl l) (H : HS g (rb b sl p :: Γ) h) (hx : ∃ xs : List Int, xs ≠ [] ∧ ∀ g1, HS g Γ g1 → Rep g1 v xs) (hp : 0 ≤ p) (hp2 : p < 1099511627776) :
    CallE Try.prog fn_spec_l16Rd_num [.pointer (some ⟨b, 0, none⟩), v] h (fun u h' => ∃ r, u = .int .i64 r ∧ I64 r ∧ HS g (rb b sl (p + 1) :: Γ) h') := by
  obtain ⟨xs, hx, hr⟩ := hx
  obtain ⟨g1, H1, H2⟩ := HS.rebase (Δ := [rb b sl p]) H
  have Rx := hr g1 H1
  have hL := Rx.lt
  have hpos : 0 < xs.length := List.length_pos_iff.2 hx
  refine CallE.gen fun k hk => EN_spec_l16Rd_num rfl ?_
  simp -implicitDefEqProofs (disch := first | omega | (simp only [List.length_set, List.length_replicate, List.length_append, List.length_map, List.length_take, List.length_cons, List.length_nil]; omega)) [wrap64, (Rx.on H2).len]
  refine (c_pick (R.on H1) H2 hp hp2 ⟨by omega, by omega⟩).go ?_
  rintro _ h1 ⟨r, rfl, hr, hr0, hr1, H3⟩
  obtain ⟨i, rfl⟩ : ∃ i : Nat, r = i := ⟨r.toNat, (Int.toNat_of_nonneg hr0).symm⟩
  have hi : i < xs.length := by have := hr1 (by omega); omega
  have hok := Rx.okI hi
  simp -implicitDefEqProofs (disch := first | omega | (simp only [List.length_set, List.length_replicate, List.length_append, List.length_map, List.length_take, List.length_cons, List.length_nil]; omega)) [wrap64, (Rx.on H3).I]
  exact RetK.keep (hk _ _ ⟨xs[i], rfl, ⟨hok.1, hok.2⟩, H3.app H1⟩)

theorem Stp.okI {a b c d : Int} (h1 : I64 a) (h2 : I64 b) (h3 : I64 c) (h4 : I64 d) : (⟨a, b, c, d⟩ : Stp).ok := ⟨h1, h2, h3, h4⟩
def RD4 (h : Heap) : Value → Heap → Prop := fun u h' => ∃ (u1 u2 : Value) (s : Sy) (st : Sta) (t : Stp), u = .tuple #[u1, u2, t.v] ∧ t.ok ∧ HS h [ow u1 s, ow u2 st] h'
set_option maxHeartbeats 4000000 in
theorem c_DrawApplyStep {h : Heap} {v : Value} {l : List (BitVec 8)} (R : Rep h v l) : CallE Try.prog fn_spec_DrawApplyStep [v] h (RD4 h) := by
  refine CallE.gen fun k hk => EN_spec_DrawApplyStep rfl ?_
  simp -implicitDefEqProofs (disch := first | omega | (simp only [List.length_set, List.length_replicate, List.length_append, List.length_map, List.length_take, List.length_cons, List.length_nil]; omega)) [wrap64]
  refine (c_DrawStateValid R).go ?_
  rintro _ h1 ⟨u1, u2, s, st, rfl, H⟩
  have FS := H.rep.aSy
  have FT := H.sw1.rep.aSta
  simp -implicitDefEqProofs (disch := first | omega | (simp only [List.length_set, List.length_replicate, List.length_append, List.length_map, List.length_take, List.length_cons, List.length_nil]; omega)) [wrap64, FS, FT, setC]
  refine (c_l16Open (R.on H)).go ?_
  rintro _ h2 ⟨b, sl, l', rfl, R', G⟩
  have H0 := H
  have hle := H.base
  have H := G.app H
  simp -implicitDefEqProofs (disch := first | omega | (simp only [List.length_set, List.length_replicate, List.length_append, List.length_map, List.length_take, List.length_cons, List.length_nil]; omega)) [wrap64, FS, FT]
  refine (c_spec_EnabledSteps H.sw1.rep H.sw2.rep).go ?_
  intro el h3 G3
  have hel : (ens s st).length ≤ 324 := by
    unfold ens
    split
    · rename_i q; exact enb_len' q.1
    · simp
  obtain ⟨ln, hln⟩ : ∃ ln : Int, ln = (ens s st).length := ⟨_, rfl⟩
  have hlen := G3.rep.len
  rw [← hln] at hlen
  obtain ⟨g0, HG, G⟩ := HS.rebase (Δ := [rb b sl 0]) ((G3.app G).sw1)
  have RE := HG.rep
  have l0 : h1.le g0 := HG.base
  have hfin : ∀ {t : Stp} {h'}, t.ok → g0.le h' → k (.tuple #[u1, u2, t.v]) h' := fun {t h'} ok hl => hk _ _ ⟨u1, u2, s, st, t, rfl, ok, H0.le (l0.trans hl)⟩
  have R0 : Rep g0 sl l' := R'.le l0
  have hstep : ∀ {h'}, HS g0 [rb b sl 0] h' ∨ HS g0 [rb b sl (0 + 1)] h' → True := fun _ => trivial
  by_cases c0 : 0 < ln
  · simp -implicitDefEqProofs (disch := first | omega | (simp only [List.length_set, List.length_replicate, List.length_append, List.length_map, List.length_take, List.length_cons, List.length_nil]; omega)) [wrap64, hlen, c0]
    refine (c_pick (n := 4) R0 G (by omega) (by omega) ⟨by decide, by decide⟩).go ?_
    rintro _ h4 ⟨r1, rfl, q1, z1, y1, G⟩
    by_cases c1 : 0 < r1
    · simp -implicitDefEqProofs (disch := first | omega | (simp only [List.length_set, List.length_replicate, List.length_append, List.length_map, List.length_take, List.length_cons, List.length_nil]; omega)) [wrap64, hlen, c1, FS, FT, setC]
      refine (c_pick R0 G (by omega) (by omega) ⟨by omega, by omega⟩).go ?_
      rintro _ h5 ⟨r5, rfl, q5, z5, y5, G⟩
      obtain ⟨m, rfl⟩ : ∃ m : Nat, r5 = m := ⟨r5.toNat, (Int.toNat_of_nonneg z5).symm⟩
      have hm : m < (ens s st).length := by have := y5 (by omega); omega
      have okm : (ens s st)[m].ok := (by obtain ⟨u, _, Ru⟩ := RE.ld hm; exact (Rep_Stp.1 Ru).2)
      simp -implicitDefEqProofs (disch := first | omega | (simp only [List.length_set, List.length_replicate, List.length_append, List.length_map, List.length_take, List.length_cons, List.length_nil]; omega)) [wrap64, (RE.on G).xStp, FS, FT, setC, Stp.v]
      exact RetK.keep (hfin okm G.base)
    · simp -implicitDefEqProofs (disch := first | omega | (simp only [List.length_set, List.length_replicate, List.length_append, List.length_map, List.length_take, List.length_cons, List.length_nil]; omega)) [wrap64, c1, FS, FT]
      refine pl_cut (fun e' h' => ∃ (t : Stp) (r : Env), e' = some v :: some u1 :: some u2 :: some t.v :: r ∧ t.ok ∧ g0.le h') (fun K hK => ?_) ?_
      · repeat' (first
          | exact hK _ _ ⟨⟨_, _, _, _⟩, _, rfl, Stp.okI (by assumption) (by assumption) (by assumption) (by assumption), G.base⟩
          | (refine G.bls [(0 : Int), 1, -1, 3] rfl rfl (okL (by decide)) (by decide) fun q hq G => ?_
             replace G := G.sw1
             simp -implicitDefEqProofs (disch := first | omega | (simp only [List.length_set, List.length_replicate, List.length_append, List.length_map, List.length_take, List.length_cons, List.length_nil]; omega)) [wrap64])
          | (refine G.bls [(-1 : Int), 0, 1] rfl rfl (okL (by decide)) (by decide) fun q hq G => ?_
             replace G := G.sw1
             simp -implicitDefEqProofs (disch := first | omega | (simp only [List.length_set, List.length_replicate, List.length_append, List.length_map, List.length_take, List.length_cons, List.length_nil]; omega)) [wrap64])
          | (refine (c_numB R0 G (by first | exact ⟨_, List.cons_ne_nil _ _, fun _ H => H.rep⟩ | exact ⟨_, List.cons_ne_nil _ _, fun _ H => H.sw1.rep⟩ | exact ⟨_, List.cons_ne_nil _ _, fun _ H => H.sw2.rep⟩) (by omega) (by omega)).go ?_
             rintro _ _ ⟨_, rfl, _, G⟩
             simp -implicitDefEqProofs (disch := first | omega | (simp only [List.length_set, List.length_replicate, List.length_append, List.length_map, List.length_take, List.length_cons, List.length_nil]; omega)) [wrap64, setC, FS, FT])
          | (refine (c_pick (n := 4) R0 G (by omega) (by omega) ⟨by decide, by decide⟩).go ?_
             rintro _ _ ⟨_, rfl, _, _, _, G⟩
             simp -implicitDefEqProofs (disch := first | omega | (simp only [List.length_set, List.length_replicate, List.length_append, List.length_map, List.length_take, List.length_cons, List.length_nil]; omega)) [wrap64, setC, FS, FT])
          | (refine ⟨?_, ?_⟩ <;> simp -implicitDefEqProofs (disch := first | omega | (simp only [List.length_set, List.length_replicate, List.length_append, List.length_map, List.length_take, List.length_cons, List.length_nil]; omega)) [wrap64]))
      rintro _ h5 ⟨t, r, rfl, ok, hl⟩
      simp -implicitDefEqProofs (disch := first | omega | (simp only [List.length_set, List.length_replicate, List.length_append, List.length_map, List.length_take, List.length_cons, List.length_nil]; omega)) [wrap64, FS, FT, setC, Stp.v]
      exact RetK.keep (hfin ok hl)
  · simp -implicitDefEqProofs (disch := first | omega | (simp only [List.length_set, List.length_replicate, List.length_append, List.length_map, List.length_take, List.length_cons, List.length_nil]; omega)) [wrap64, hlen, c0, FS, FT]
    refine pl_cut (fun e' h' => ∃ (t : Stp) (r : Env), e' = some v :: some u1 :: some u2 :: some t.v :: r ∧ t.ok ∧ g0.le h') (fun K hK => ?_) ?_
    · repeat' (first
        | exact hK _ _ ⟨⟨_, _, _, _⟩, _, rfl, Stp.okI (by assumption) (by assumption) (by assumption) (by assumption), G.base⟩
        | (refine G.bls [(0 : Int), 1, -1, 3] rfl rfl (okL (by decide)) (by decide) fun q hq G => ?_
           replace G := G.sw1
           simp -implicitDefEqProofs (disch := first | omega | (simp only [List.length_set, List.length_replicate, List.length_append, List.length_map, List.length_take, List.length_cons, List.length_nil]; omega)) [wrap64])
        | (refine G.bls [(-1 : Int), 0, 1] rfl rfl (okL (by decide)) (by decide) fun q hq G => ?_
           replace G := G.sw1
           simp -implicitDefEqProofs (disch := first | omega | (simp only [List.length_set, List.length_replicate, List.length_append, List.length_map, List.length_take, List.length_cons, List.length_nil]; omega)) [wrap64])
        | (refine (c_numB R0 G (by first | exact ⟨_, List.cons_ne_nil _ _, fun _ H => H.rep⟩ | exact ⟨_, List.cons_ne_nil _ _, fun _ H => H.sw1.rep⟩ | exact ⟨_, List.cons_ne_nil _ _, fun _ H => H.sw2.rep⟩) (by omega) (by omega)).go ?_
           rintro _ _ ⟨_, rfl, _, G⟩
           simp -implicitDefEqProofs (disch := first | omega | (simp only [List.length_set, List.length_replicate, List.length_append, List.length_map, List.length_take, List.length_cons, List.length_nil]; omega)) [wrap64, setC, FS, FT])
        | (refine (c_pick (n := 4) R0 G (by omega) (by omega) ⟨by decide, by decide⟩).go ?_
           rintro _ _ ⟨_, rfl, _, _, _, G⟩
           simp -implicitDefEqProofs (disch := first | omega | (simp only [List.length_set, List.length_replicate, List.length_append, List.length_map, List.length_take, List.length_cons, List.length_nil]; omega)) [wrap64, setC, FS, FT])
        | (refine ⟨?_, ?_⟩ <;> simp -implicitDefEqProofs (disch := first | omega | (simp only [List.length_set, List.length_replicate, List.length_append, List.length_map, List.length_take, List.length_cons, List.length_nil]; omega)) [wrap64]))
    rintro _ h5 ⟨t, r, rfl, ok, hl⟩
    simp -implicitDefEqProofs (disch := first | omega | (simp only [List.length_set, List.length_replicate, List.length_append, List.length_map, List.length_take, List.length_cons, List.length_nil]; omega)) [wrap64, FS, FT, setC, Stp.v]
    exact RetK.keep (hfin ok hl)
end Go.Proofs.Ythgimpheeemooaa

/-
  Equal states, and where a state lies in a list: by the program and by the reference.
-/
namespace Go.Proofs.Ythgimpheeemooaa
open Go
set_option linter.all false
set_option linter.unusedVariables false
set_option linter.unusedSimpArgs false
set_option linter.defProp false
set_option maxRecDepth 1000000

theorem c_Equal_int {h : Heap} {a b : Value} {x y : List Int} (Ra : Rep h a x) (Rb : Rep h b y) : CallE Try.prog fn_slices_Equal_S_int_int [a, b] h (fun u h' => h' = h ∧ u = .bool (decide (x = y))) := by
  have hL := Ra.lt
  refine CallE.gen fun k hk => EN_slices_Equal_S_int_int rfl ?_
  by_cases hl : (x.length : Int) = y.length
  case neg =>
    simp -implicitDefEqProofs (disch := first | omega | (simp only [List.length_set, List.length_replicate, List.length_append, List.length_map, List.length_take, List.length_cons, List.length_nil]; omega)) [wrap64, Ra.len, Rb.len, hl]
    exact RetK.keep (hk _ _ ⟨rfl, by congr 1; rw [eq_comm, decide_eq_false_iff_not]; intro e; subst e; exact hl rfl⟩)
  simp -implicitDefEqProofs (disch := first | omega | (simp only [List.length_set, List.length_replicate, List.length_append, List.length_map, List.length_take, List.length_cons, List.length_nil]; omega)) [wrap64, Ra.len, Rb.len, hl]
  refine wp_count x.length (fun i e h' => e = [some a, some b, none, none, some (.int .i64 x.length), some (.int .i64 i)] ∧ h' = h ∧ x.take i = y.take i) ⟨by simp [hl], rfl, rfl⟩ ?_
  rintro J i _ h1 hJ hi ⟨rfl, rfl, hq⟩
  simp -implicitDefEqProofs (disch := first | omega | (simp only [List.length_set, List.length_replicate, List.length_append, List.length_map, List.length_take, List.length_cons, List.length_nil]; omega)) [wrap64]
  refine IteW.mk (fun hlt => ?_) (fun hge => ?_)
  · have hlx : i < x.length := by omega
    have hly : i < y.length := by omega
    by_cases he : x[i] = y[i]
    · simp -implicitDefEqProofs (disch := first | omega | (simp only [List.length_set, List.length_replicate, List.length_append, List.length_map, List.length_take, List.length_cons, List.length_nil]; omega)) [wrap64, Ra.I, Rb.I, he]
      exact hJ _ _ hlx ⟨rfl, rfl, take_step hq hlx hly he⟩
    · simp -implicitDefEqProofs (disch := first | omega | (simp only [List.length_set, List.length_replicate, List.length_append, List.length_map, List.length_take, List.length_cons, List.length_nil]; omega)) [wrap64, Ra.I, Rb.I, he]
      exact RetK.keep (hk _ _ ⟨rfl, by congr 1; rw [eq_comm, decide_eq_false_iff_not]; intro e; subst e; exact he rfl⟩)
  · simp -implicitDefEqProofs (disch := first | omega | (simp only [List.length_set, List.length_replicate, List.length_append, List.length_map, List.length_take, List.length_cons, List.length_nil]; omega)) [wrap64]
    rw [List.take_of_length_le (by omega), List.take_of_length_le (by omega)] at hq
    exact RetK.keep (hk _ _ ⟨rfl, by simp [hq]⟩)
theorem c_StateSame {h : Heap} {v w : Value} {a b : Sta} (Ra : Rep h v a) (Rb : Rep h w b) : CallE Try.prog fn_impl_StateSame [v, w] h (fun u h' => h' = h ∧ u = .bool (decide (a = b))) := by
  obtain ⟨v1, v2, rfl, R1, R2⟩ := Rep_Sta.1 Ra
  obtain ⟨w1, w2, rfl, S1, S2⟩ := Rep_Sta.1 Rb
  refine CallE.gen fun k hk => EN_impl_StateSame rfl ?_
  simp -implicitDefEqProofs (disch := first | omega | (simp only [List.length_set, List.length_replicate, List.length_append, List.length_map, List.length_take, List.length_cons, List.length_nil]; omega)) [wrap64]
  refine (c_Equal_int R1 S1).go ?_
  rintro _ h ⟨rfl, rfl⟩
  by_cases h1 : a.locs = b.locs
  case neg =>
    simp -implicitDefEqProofs (disch := first | omega | (simp only [List.length_set, List.length_replicate, List.length_append, List.length_map, List.length_take, List.length_cons, List.length_nil]; omega)) [wrap64, h1]
    exact RetK.keep (hk _ _ ⟨rfl, by simp [Sta.ext_iff', h1]⟩)
  simp -implicitDefEqProofs (disch := first | omega | (simp only [List.length_set, List.length_replicate, List.length_append, List.length_map, List.length_take, List.length_cons, List.length_nil]; omega)) [wrap64, h1]
  refine (c_Equal_int R2 S2).go ?_
  rintro _ h ⟨rfl, rfl⟩
  simp -implicitDefEqProofs (disch := first | omega | (simp only [List.length_set, List.length_replicate, List.length_append, List.length_map, List.length_take, List.length_cons, List.length_nil]; omega)) [wrap64]
  exact RetK.keep (hk _ _ ⟨rfl, by simp [Sta.ext_iff', h1]⟩)
end Go.Proofs.Ythgimpheeemooaa

/-
  The law: steps have local effects.
-/
namespace Go.Proofs.Ythgimpheeemooaa
open Go
set_option linter.all false
set_option linter.unusedVariables false
set_option linter.unusedSimpArgs false
set_option linter.defProp false
set_option maxRecDepth 1000000

def prtB (s : Sy) (t : Stp) : List Bool := (List.range s.procs.length).map fun (i : Nat) => decide ((i : Int) = t.proc ∨ (i : Int) = t.partner)
theorem c_StepProcesses {h : Heap} {v : Value} {s : Sy} {t : Stp} (hs : s.Ok) (R : Rep h v s) (ok : t.ok) : CallE Try.prog fn_impl_StepProcesses [v, t.v] h (fun u h' => HS h [ow u (prtB s t)] h') := by
  have FS := R.aSy
  have R0 := R
  have FE := (Stp.rep (h := h) ok).aStp
  obtain ⟨v1, v2, rfl, R1, R2'⟩ := Rep_Sy.1 R
  have hp3 := hs.p3
  refine CallE.gen fun k hk => EN_impl_StepProcesses rfl ?_
  simp -implicitDefEqProofs (disch := first | omega | (simp only [List.length_set, List.length_replicate, List.length_append, List.length_map, List.length_take, List.length_cons, List.length_nil]; omega)) [wrap64, FS, FE]
  refine (c_SystemValid R0).go ?_
  rintro _ h1 ⟨l1, rfl⟩
  simp -implicitDefEqProofs (disch := first | omega | (simp only [List.length_set, List.length_replicate, List.length_append, List.length_map, List.length_take, List.length_cons, List.length_nil]; omega)) [wrap64, hs, (R2'.le l1).len]
  refine HS.mks (Γ := []) (α := Bool) (z := false) (show HS h [] h1 from l1) rfl rfl own_false (Nat.le_refl _) (by omega) (by omega) fun m h2 H => ?_
  simp -implicitDefEqProofs (disch := first | omega | (simp only [List.length_set, List.length_replicate, List.length_append, List.length_map, List.length_take, List.length_cons, List.length_nil]; omega)) [wrap64, H.rep.len]
  have hbl : (prtB s t).length = s.procs.length := by simp [prtB]
  refine wp_count s.procs.length (fun i e h' => e = [none, none, none, some t.v, none, some m, none, some (.int .i64 s.procs.length), some (.int .i64 i)] ∧ ∃ y, HS h [ow m y] h' ∧ y.length = s.procs.length ∧ y.take i = (prtB s t).take i) ⟨by simp [Stp.v], _, H, by simp, by simp⟩ ?_
  clear H
  rintro J i _ h3 hJ hi ⟨rfl, y, H, hyl, hy⟩
  simp -implicitDefEqProofs (disch := first | omega | (simp only [List.length_set, List.length_replicate, List.length_append, List.length_map, List.length_take, List.length_cons, List.length_nil]; omega)) [wrap64]
  refine IteW.mk (fun hlt => ?_) (fun hge => ?_)
  · have hi : i < s.procs.length := by omega
    have hbi : (prtB s t)[i]'(by omega) = decide ((i : Int) = t.proc ∨ (i : Int) = t.partner) := by simp [prtB]
    have hstep : ∀ {y'} , y' = y.set i (decide ((i : Int) = t.proc ∨ (i : Int) = t.partner)) → y'.take (i + 1) = (prtB s t).take (i + 1) := fun {y'} e => by
      have := take_set_succ (x := prtB s t) hy (by omega) (by omega)
      rw [hbi] at this
      rw [e]; exact this
    by_cases c1 : (i : Int) = t.proc
    · have d1 := eq_true c1
      simp -implicitDefEqProofs (disch := first | omega | (simp only [List.length_set, List.length_replicate, List.length_append, List.length_map, List.length_take, List.length_cons, List.length_nil]; omega)) [wrap64, Stp.v, d1, setC, H.rep.B]
      refine H.storeF true (i := i) (by omega) rfl rfl trivial rfl fun h4 H => ?_
      simp -implicitDefEqProofs (disch := first | omega | (simp only [List.length_set, List.length_replicate, List.length_append, List.length_map, List.length_take, List.length_cons, List.length_nil]; omega)) [wrap64]
      exact hJ _ _ hi ⟨by simp [Stp.v], _, H, by simp [hyl], hstep (by rw [decide_eq_true (.inl c1)])⟩
    · have d1 := eq_false c1
      by_cases c2 : (i : Int) = t.partner
      · have d2 := eq_true c2
        simp -implicitDefEqProofs (disch := first | omega | (simp only [List.length_set, List.length_replicate, List.length_append, List.length_map, List.length_take, List.length_cons, List.length_nil]; omega)) [wrap64, Stp.v, d1, d2, setC, H.rep.B]
        refine H.storeF true (i := i) (by omega) rfl rfl trivial rfl fun h4 H => ?_
        simp -implicitDefEqProofs (disch := first | omega | (simp only [List.length_set, List.length_replicate, List.length_append, List.length_map, List.length_take, List.length_cons, List.length_nil]; omega)) [wrap64]
        exact hJ _ _ hi ⟨by simp [Stp.v], _, H, by simp [hyl], hstep (by rw [decide_eq_true (.inr c2)])⟩
      · have d2 := eq_false c2
        simp -implicitDefEqProofs (disch := first | omega | (simp only [List.length_set, List.length_replicate, List.length_append, List.length_map, List.length_take, List.length_cons, List.length_nil]; omega)) [wrap64, Stp.v, d1, d2, setC, H.rep.B]
        refine H.storeF false (i := i) (by omega) rfl rfl trivial rfl fun h4 H => ?_
        simp -implicitDefEqProofs (disch := first | omega | (simp only [List.length_set, List.length_replicate, List.length_append, List.length_map, List.length_take, List.length_cons, List.length_nil]; omega)) [wrap64]
        exact hJ _ _ hi ⟨by simp [Stp.v], _, H, by simp [hyl], hstep (by rw [decide_eq_false (fun hh => hh.elim c1 c2)])⟩
  · simp -implicitDefEqProofs (disch := first | omega | (simp only [List.length_set, List.length_replicate, List.length_append, List.length_map, List.length_take, List.length_cons, List.length_nil]; omega)) [wrap64]
    have he : y = prtB s t := eq_of_take hy (by omega) (by omega)
    exact RetK.keep (hk _ _ (he ▸ H))

theorem tk_locs {st : Sta} {i j : Nat} {e : Ed} (h : i ≠ j) : (st.tk j e).locs.getD i 0 = st.locs.getD i 0 := by
  simp only [Sta.tk, List.getD_eq_getElem?_getD, List.getElem?_set]
  rw [if_neg (Ne.symm h)]
theorem tk_vals {st : Sta} {i j : Nat} {e : Ed} (h : (i : Int) ≠ e.var) : (st.tk j e).vals.getD i 0 = st.vals.getD i 0 := by
  simp only [Sta.tk]
  split
  · rename_i h0
    simp only [List.getD_eq_getElem?_getD, List.getElem?_set]
    rw [if_neg (by omega)]
  · rfl
theorem aft_locs {s : Sy} {st : Sta} {t : Stp} {i : Nat} (ht : t.In s) (h1 : (i : Int) ≠ t.proc) (h2 : (i : Int) ≠ t.partner) : (st.aft s t).locs.getD i 0 = st.locs.getD i 0 := by
  have e0 : i ≠ t.proc.toNat := by
    obtain ⟨⟨a, b, ha, hb, e1, e2⟩, hp⟩ := ht
    clear hp
    omega
  clear ht
  unfold Sta.aft
  split
  · rename_i h0
    have e1 : i ≠ t.partner.toNat := by omega
    rw [tk_locs e1, tk_locs e0]
  · rw [tk_locs e0]
theorem aft_vals {s : Sy} {st : Sta} {t : Stp} {i : Nat} (h1 : (i : Int) ≠ (s.ed t.proc.toNat t.edge.toNat).var) (h2 : 0 ≤ t.partner → (i : Int) ≠ (s.ed t.partner.toNat t.pedge.toNat).var) : (st.aft s t).vals.getD i 0 = st.vals.getD i 0 := by
  unfold Sta.aft
  split
  · rename_i h; rw [tk_vals (h2 h), tk_vals h1]
  · rw [tk_vals h1]

set_option maxHeartbeats 2000000 in
theorem c_FnApplyStep {h : Heap} {v : Value} {l : List (BitVec 8)} (R : Rep h v l) : CallE Try.prog fn_laws_FnApplyStep [v] h (fun u h' => h.le h' ∧ u = .bool true) := by
  refine CallE.gen fun k hk => EN_laws_FnApplyStep rfl ?_
  simp -implicitDefEqProofs (disch := first | omega | (simp only [List.length_set, List.length_replicate, List.length_append, List.length_map, List.length_take, List.length_cons, List.length_nil]; omega)) [wrap64, R.len]
  refine IteW.mk (fun hlt => ?_) (fun hge => ?_)
  · simp -implicitDefEqProofs (disch := first | omega | (simp only [List.length_set, List.length_replicate, List.length_append, List.length_map, List.length_take, List.length_cons, List.length_nil]; omega)) [wrap64]
    exact RetK.keep (hk _ _ ⟨Heap.le.refl _, rfl⟩)
  simp -implicitDefEqProofs (disch := first | omega | (simp only [List.length_set, List.length_replicate, List.length_append, List.length_map, List.length_take, List.length_cons, List.length_nil]; omega)) [wrap64]
  refine (c_DrawApplyStep R).go ?_
  rintro _ h1 ⟨u1, u2, s, st, t, rfl, okt, H⟩
  have FS := H.rep.aSy
  have FT := H.sw1.rep.aSta
  have FE := (Stp.rep (h := h1) okt).aStp
  simp -implicitDefEqProofs (disch := first | omega | (simp only [List.length_set, List.length_replicate, List.length_append, List.length_map, List.length_take, List.length_cons, List.length_nil]; omega)) [wrap64, FS, FT, FE, setC]
  refine (c_ApplyStep H.rep H.sw1.rep okt).go ?_
  rintro _ h2 ⟨a, rfl, G⟩
  have H := G.app H
  have FA := H.rep.aSta
  simp -implicitDefEqProofs (disch := first | omega | (simp only [List.length_set, List.length_replicate, List.length_append, List.length_map, List.length_take, List.length_cons, List.length_nil]; omega)) [wrap64, FS, FT, FE, FA, setC]
  refine (c_spec_ApplyStep H.sw1.rep H.sw2.rep okt).go ?_
  rintro _ h3 ⟨b, rfl, G⟩
  have H := G.app H
  have FB := H.rep.aSta
  simp -implicitDefEqProofs (disch := first | omega | (simp only [List.length_set, List.length_replicate, List.length_append, List.length_map, List.length_take, List.length_cons, List.length_nil]; omega)) [wrap64, FA, FB, setC]
  refine (c_StateSame H.sw1.rep H.rep).go ?_
  rintro _ h3 ⟨rfl, rfl⟩
  by_cases q : t ∈ ens s st
  case neg =>
    simp -implicitDefEqProofs (disch := first | omega | (simp only [List.length_set, List.length_replicate, List.length_append, List.length_map, List.length_take, List.length_cons, List.length_nil]; omega)) [wrap64, q, FA, FB]
    refine (c_StateSame H.sw1.rep H.rep).go ?_
    rintro _ h3 ⟨rfl, rfl⟩
    simp -implicitDefEqProofs (disch := first | omega | (simp only [List.length_set, List.length_replicate, List.length_append, List.length_map, List.length_take, List.length_cons, List.length_nil]; omega)) [wrap64]
    exact RetK.keep (hk _ _ ⟨H.base, rfl⟩)
  obtain ⟨hs, hst, hin⟩ := ens_mem q
  rw [aplR, if_pos q] at H
  simp -implicitDefEqProofs (disch := first | omega | (simp only [List.length_set, List.length_replicate, List.length_append, List.length_map, List.length_take, List.length_cons, List.length_nil]; omega)) [wrap64, q, FS, FE]
  refine (c_StepProcesses hs H.sw2.rep okt).go ?_
  intro pt h4 G
  have H := G.app H
  have hp3 := hs.p3
  have hll := hst.len
  have hvl := hst.vs.len
  have hst2 := Sta.aft_ok hs hst hin
  have hll2 := hst2.len
  have hvl2 := hst2.vs.len
  have Rp := H.rep
  have Ra := H.sw2.rep
  have Rs := H.sw3.rep
  have Rt := H.sw4.rep
  have l4 := H.base
  clear H G
  have FSs := Rs.aSy
  have Rs0 := Rs
  have Ra0 := Ra
  obtain ⟨s1, s2, rfl, S1, S2⟩ := Rep_Sy.1 Rs
  obtain ⟨t1, t2, rfl, T1, T2⟩ := Rep_Sta.1 Rt
  obtain ⟨a1, a2, rfl, A1, A2⟩ := Rep_Sta.1 Ra
  have hbl : (prtB s t).length = s.procs.length := by simp [prtB]
  obtain ⟨w, hw⟩ : ∃ w, w = st.aft s t := ⟨_, rfl⟩
  rw [← hw] at A1 A2 hll2 hvl2 hst2 Ra0
  simp -implicitDefEqProofs (disch := first | omega | (simp only [List.length_set, List.length_replicate, List.length_append, List.length_map, List.length_take, List.length_cons, List.length_nil]; omega)) [wrap64]
  refine wp_count st.locs.length (fun i e h' => e = [none, none, some (.agg #[s1, s2]), some (.agg #[t1, t2]), some t.v, some (.agg #[a1, a2]), none, none, none, some pt, some (.int .i64 i), none, none] ∧ h' = h4) ⟨by simp [Stp.v], rfl⟩ ?_
  rintro J i _ h5 hJ hi ⟨rfl, rfl⟩
  simp -implicitDefEqProofs (disch := first | omega | (simp only [List.length_set, List.length_replicate, List.length_append, List.length_map, List.length_take, List.length_cons, List.length_nil]; omega)) [wrap64, T1.len]
  refine IteW.mk (fun hlt => ?_) (fun hge2 => ?_)
  · have hi : i < st.locs.length := by omega
    have hbi : (prtB s t)[i]'(by omega) = decide ((i : Int) = t.proc ∨ (i : Int) = t.partner) := by simp [prtB]
    by_cases c1 : (i : Int) = t.proc ∨ (i : Int) = t.partner
    · rw [decide_eq_true c1] at hbi
      simp -implicitDefEqProofs (disch := first | omega | (simp only [List.length_set, List.length_replicate, List.length_append, List.length_map, List.length_take, List.length_cons, List.length_nil]; omega)) [wrap64, Rp.B, hbi]
      exact hJ _ _ hi ⟨by simp [Stp.v], rfl⟩
    · rw [decide_eq_false c1] at hbi
      have hx := aft_locs (st := st) (i := i) hin (fun e => c1 (.inl e)) (fun e => c1 (.inr e))
      rw [← hw] at hx
      have hiw : i < w.locs.length := by omega
      have hx2 : w.locs[i] = st.locs[i] := by simpa [hi, hiw] using hx
      simp -implicitDefEqProofs (disch := first | omega | (simp only [List.length_set, List.length_replicate, List.length_append, List.length_map, List.length_take, List.length_cons, List.length_nil]; omega)) [wrap64, Rp.B, hbi, A1.I, T1.I, hx2]
      exact hJ _ _ hi ⟨by simp [Stp.v], rfl⟩
  simp -implicitDefEqProofs (disch := first | omega | (simp only [List.length_set, List.length_replicate, List.length_append, List.length_map, List.length_take, List.length_cons, List.length_nil]; omega)) [wrap64]
  have hin0 := hin
  obtain ⟨⟨x, y, hx, hy, e1, e2⟩, hpt⟩ := hin
  have hed : s.ed t.proc.toNat t.edge.toNat = s.procs[x].edges[y] := by rw [e1, e2, Int.toNat_natCast, Int.toNat_natCast, Sy.ed_eq hx hy]
  have hel := (hs.at hx).el
  obtain ⟨we, w1, w2, hu, R3, hu2, ok, G1, G2⟩ := S2.edge hx hy
  have hP := hld_parts hu
  have hE := hld_parts hu2
  have hX2 := S2.X (n := 2) rfl
  have hX10 := R3.X (n := 10) rfl
  refine wp_count st.vals.length (fun i e h' => e = [none, none, some (.agg #[s1, s2]), some (.agg #[t1, t2]), some t.v, some (.agg #[a1, a2]), none, none, none, none, none, some (.int .i64 i), none] ∧ h' = h5) ⟨by simp [Stp.v], rfl⟩ ?_
  rintro J2 j _ h6 hJ2 hj ⟨rfl, rfl⟩
  simp -implicitDefEqProofs (disch := first | omega | (simp only [List.length_set, List.length_replicate, List.length_append, List.length_map, List.length_take, List.length_cons, List.length_nil]; omega)) [wrap64, T2.len]
  refine IteW.mk (fun hlt2 => ?_) (fun hge3 => ?_)
  · have hj : j < st.vals.length := by omega
    have hjw : j < w.vals.length := by omega
    obtain ⟨V, hV⟩ : ∃ V, V = s.procs[x].edges[y].var := ⟨_, rfl⟩
    have hfld : ((s.procs[x].edges[y].cs w1 w2)[5]?) = some (.int .i64 V) := by rw [hV]; rfl
    have hsame : (j : Int) ≠ V → (0 ≤ t.partner → (j : Int) ≠ (s.ed t.partner.toNat t.pedge.toNat).var) → w.vals[j] = st.vals[j] := fun f1 f2 => by
      have := aft_vals (s := s) (st := st) (t := t) (i := j) (by rw [hed, ← hV]; exact f1) f2
      rw [← hw] at this
      simpa [hj, hjw] using this
    rcases hpt with hpt | ⟨c, d, hc, hd, e3, e4⟩
    · have hpn : ¬ (0 ≤ t.partner) := by omega
      by_cases q1 : V = (j : Int)
      · have d1 := eq_true q1
        simp -implicitDefEqProofs (disch := first | omega | (simp only [List.length_set, List.length_replicate, List.length_append, List.length_map, List.length_take, List.length_cons, List.length_nil]; omega)) [wrap64, Stp.v, e1, e2, hX2, hP.1, hP.2.2.1, hX10, hE.1, hE.2.2.1, hfld, d1, hpn]
        exact hJ2 _ _ hj ⟨by simp [Stp.v, e1, e2], rfl⟩
      · have d1 := eq_false q1
        have hx2 := hsame (fun e => q1 e.symm) (fun e => absurd e hpn)
        simp -implicitDefEqProofs (disch := first | omega | (simp only [List.length_set, List.length_replicate, List.length_append, List.length_map, List.length_take, List.length_cons, List.length_nil]; omega)) [wrap64, Stp.v, e1, e2, hX2, hP.1, hP.2.2.1, hX10, hE.1, hE.2.2.1, hfld, d1, hpn, A2.I, T2.I, hx2]
        exact hJ2 _ _ hj ⟨by simp [Stp.v, e1, e2], rfl⟩
    · have hed2 : s.ed t.partner.toNat t.pedge.toNat = s.procs[c].edges[d] := by rw [e3, e4, Int.toNat_natCast, Int.toNat_natCast, Sy.ed_eq hc hd]
      have hel2 := (hs.at hc).el
      obtain ⟨wf, x1, x2, hu', R4, hu2', ok', G1', G2'⟩ := S2.edge hc hd
      have hP' := hld_parts hu'
      have hE' := hld_parts hu2'
      have hX10' := R4.X (n := 10) rfl
      obtain ⟨V2, hV2⟩ : ∃ V2, V2 = s.procs[c].edges[d].var := ⟨_, rfl⟩
      have hfld2 : ((s.procs[c].edges[d].cs x1 x2)[5]?) = some (.int .i64 V2) := by rw [hV2]; rfl
      by_cases q1 : V = (j : Int)
      · have d1 := eq_true q1
        simp -implicitDefEqProofs (disch := first | omega | (simp only [List.length_set, List.length_replicate, List.length_append, List.length_map, List.length_take, List.length_cons, List.length_nil]; omega)) [wrap64, Stp.v, e1, e2, e3, e4, hX2, hP.1, hP.2.2.1, hX10, hE.1, hE.2.2.1, hfld, d1]
        exact hJ2 _ _ hj ⟨by simp [Stp.v, e1, e2, e3, e4], rfl⟩
      · have d1 := eq_false q1
        by_cases q2 : V2 = (j : Int)
        · have d2 := eq_true q2
          simp -implicitDefEqProofs (disch := first | omega | (simp only [List.length_set, List.length_replicate, List.length_append, List.length_map, List.length_take, List.length_cons, List.length_nil]; omega)) [wrap64, Stp.v, e1, e2, e3, e4, hX2, hP.1, hP.2.2.1, hX10, hE.1, hE.2.2.1, hfld, d1, hP'.1, hP'.2.2.1, hX10', hE'.1, hE'.2.2.1, hfld2, d2]
          exact hJ2 _ _ hj ⟨by simp [Stp.v, e1, e2, e3, e4], rfl⟩
        · have d2 := eq_false q2
          have hx2 := hsame (fun e => q1 e.symm) (fun _ => by rw [hed2, ← hV2]; exact fun e => q2 e.symm)
          simp -implicitDefEqProofs (disch := first | omega | (simp only [List.length_set, List.length_replicate, List.length_append, List.length_map, List.length_take, List.length_cons, List.length_nil]; omega)) [wrap64, Stp.v, e1, e2, e3, e4, hX2, hP.1, hP.2.2.1, hX10, hE.1, hE.2.2.1, hfld, d1, hP'.1, hP'.2.2.1, hX10', hE'.1, hE'.2.2.1, hfld2, d2, A2.I, T2.I, hx2]
          exact hJ2 _ _ hj ⟨by simp [Stp.v, e1, e2, e3, e4], rfl⟩
  simp -implicitDefEqProofs (disch := first | omega | (simp only [List.length_set, List.length_replicate, List.length_append, List.length_map, List.length_take, List.length_cons, List.length_nil]; omega)) [wrap64]
  refine (c_StateValid Rs0 Ra0).go ?_
  rintro _ h7 ⟨l7, rfl⟩
  simp -implicitDefEqProofs (disch := first | omega | (simp only [List.length_set, List.length_replicate, List.length_append, List.length_map, List.length_take, List.length_cons, List.length_nil]; omega)) [wrap64, hs, hst2]
  exact RetK.keep (hk _ _ ⟨l4.trans l7, rfl⟩)
end Go.Proofs.Ythgimpheeemooaa
