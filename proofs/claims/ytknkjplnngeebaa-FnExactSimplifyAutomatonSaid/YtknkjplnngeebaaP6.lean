/-
  The program's search for the greatest simulation.
-/
import Derived.Test.YtknkjplnngeebaaP31
import Derived.Test.YtknkjplnngeebaaIB
import Derived.Test.YtknkjplnngeebaaL2
namespace Go.Proofs.Ytknkjplnngeebaa
open Go
set_option linter.all false
set_option linter.unusedVariables false
set_option linter.unusedSimpArgs false
set_option linter.defProp false
set_option maxRecDepth 1000000

theorem nat_on {t : Tr} {l : Nat} : t.on (l : Int) = t.on ((l : Nat) : Int) := rfl

/-- does j simulate i, under what is left: the program's function value -/
theorem c_simulates {h : Heap} {a : Aut} (ha : a.Ok) {b3 b4 b7 : Nat} {vn vb : Value} {T : List W8} {B : List (BitVec 64)} (h3 : hload h (some (.pointer (some ⟨b3, 0, none⟩))) none = some (.int .i64 a.acc.length))
    (h4 : hload h (some (.pointer (some ⟨b4, 0, none⟩))) none = some vn) (h7 : hload h (some (.pointer (some ⟨b7, 0, none⟩))) none = some vb) (Rn : Rep h vn T) (Rb : Rep h vb B)
    (hT : Tab a.edges a.acc.length T) (hB : B.length = a.acc.length) {i j : Nat} (hi : i < a.acc.length) (hj : j < a.acc.length) :
    CallE Try.prog fn_impl_Automaton_simulation_1 [.int .i64 j, .int .i64 i, .pointer (some ⟨b3, 0, none⟩), .pointer (some ⟨b4, 0, none⟩), .pointer (some ⟨b7, 0, none⟩)] h
      (fun u h' => h' = h ∧ ∃ r : Bool, u = .bool r ∧ (r = true ↔ Ans a (bitR B) i j)) := by
  refine CallE.gen fun k hk => EN_impl_Automaton_simulation_1 rfl ?_
  have hn := ha.n
  have hTl := hT.1
  rw [ans_iff ha] at hk
  simp -implicitDefEqProofs (disch := first | omega | (simp only [List.length_set, List.length_replicate, List.length_append, List.length_map, List.length_take, List.length_cons, List.length_nil]; omega)) [wrap64]
  refine wp_count 8 (fun l e h' => h' = h ∧ e = [some (.int .i64 j), some (.int .i64 i), some (.pointer (some ⟨b3, 0, none⟩)), some (.pointer (some ⟨b4, 0, none⟩)), some (.pointer (some ⟨b7, 0, none⟩)), none, none, none, some (.int .i64 l), none, none] ∧
    ∀ l' < l, ∀ t < a.acc.length, EdgeB a.edges i l' t → ∃ k < a.acc.length, EdgeB a.edges j l' k ∧ bitR B t k = true) ⟨rfl, rfl, fun l' hl' => absurd hl' (Nat.not_lt_zero l')⟩ ?_
  rintro J l _ h hJ hl ⟨rfl, rfl, hA⟩
  simp -implicitDefEqProofs (disch := first | omega | (simp only [List.length_set, List.length_replicate, List.length_append, List.length_map, List.length_take, List.length_cons, List.length_nil]; omega)) [wrap64]
  refine IteW.mk (fun hlt => ?_) (fun hge => ?_)
  · have hl8 : l < 8 := by omega
    simp -implicitDefEqProofs (disch := first | omega | (simp only [List.length_set, List.length_replicate, List.length_append, List.length_map, List.length_take, List.length_cons, List.length_nil]; omega)) [wrap64, h3]
    refine wp_count a.acc.length (fun t e h' => h' = _ ∧ e = [some (.int .i64 j), some (.int .i64 i), some (.pointer (some ⟨b3, 0, none⟩)), some (.pointer (some ⟨b4, 0, none⟩)), some (.pointer (some ⟨b7, 0, none⟩)), none, some (.int .i64 l), none, some (.int .i64 l), some (.int .i64 a.acc.length), some (.int .i64 t)] ∧
      ∀ t' < t, EdgeB a.edges i l t' → ∃ k < a.acc.length, EdgeB a.edges j l k ∧ bitR B t' k = true) ⟨rfl, rfl, fun t' ht' => absurd ht' (Nat.not_lt_zero t')⟩ ?_
    rintro J2 t _ h hJ2 ht ⟨rfl, rfl, hA2⟩
    simp -implicitDefEqProofs (disch := first | omega | (simp only [List.length_set, List.length_replicate, List.length_append, List.length_map, List.length_take, List.length_cons, List.length_nil]; omega)) [wrap64]
    refine IteW.mk (fun hlt2 => ?_) (fun hge2 => ?_)
    · have htn : t < a.acc.length := by omega
      have hbit := hT.2 i l t hi hl8 (by omega)
      have hgi : T.getD i W8.zero = T[i]'(by omega) := by simp [show i < T.length by omega]
      have hgj : T.getD j W8.zero = T[j]'(by omega) := by simp [show j < T.length by omega]
      rw [hgi] at hbit
      by_cases hb : ((T[i]'(by omega)).at l).getLsbD t = true
      · have hmeet := u64_meet (a := (T[j]'(by omega)).at l) (b := B[t]'(by omega))
        by_cases hm : andI .u64 ((T[j]'(by omega)).at l).toNat (B[t]'(by omega)).toNat = 0
        · simp -implicitDefEqProofs (disch := first | omega | (simp only [List.length_set, List.length_replicate, List.length_append, List.length_map, List.length_take, List.length_cons, List.length_nil]; omega)) [wrap64, -BitVec.getLsbD_eq_getElem, h4, Rn.W, u64_bit, hb, h7, Rb.U, hm]
          refine RetK.keep (hk _ _ ⟨rfl, false, rfl, ?_⟩)
          simp only [Bool.false_eq_true, false_iff]
          intro h
          obtain ⟨k', hk', hE, hr⟩ := h l hl8 t htn (hbit.1 hb)
          rw [bitR_get (by omega)] at hr
          have := (hT.2 j l k' hj hl8 (by omega)).2 hE
          rw [hgj] at this
          exact (hmeet.1 hm) k' (by omega) ⟨this, hr⟩
        · simp -implicitDefEqProofs (disch := first | omega | (simp only [List.length_set, List.length_replicate, List.length_append, List.length_map, List.length_take, List.length_cons, List.length_nil]; omega)) [wrap64, -BitVec.getLsbD_eq_getElem, h4, Rn.W, u64_bit, hb, h7, Rb.U, hm]
          refine hJ2 _ _ htn ⟨rfl, rfl, fun t' ht' hE => ?_⟩
          by_cases htt : t' = t
          · subst htt
            rw [hmeet] at hm
            simp only [Classical.not_forall, Classical.not_not] at hm
            obtain ⟨k', hk64, h1, h2⟩ := hm
            have h5 := hT.2 j l k' hj hl8 hk64
            rw [hgj] at h5
            have h6 := h5.1 h1
            obtain ⟨e, he, _, h8, _⟩ := h6
            have hq := ha.2.2.2 e he
            unfold Tr.Ok at hq
            exact ⟨k', by omega, h5.1 h1, by rw [bitR_get (by omega)]; exact h2⟩
          · exact hA2 t' (by omega) hE
      · simp -implicitDefEqProofs (disch := first | omega | (simp only [List.length_set, List.length_replicate, List.length_append, List.length_map, List.length_take, List.length_cons, List.length_nil]; omega)) [wrap64, -BitVec.getLsbD_eq_getElem, h4, Rn.W, u64_bit, hb]
        refine hJ2 _ _ htn ⟨rfl, rfl, fun t' ht' hE => ?_⟩
        by_cases htt : t' = t
        · subst htt; exact absurd (hbit.2 hE) hb
        · exact hA2 t' (by omega) hE
    · simp -implicitDefEqProofs (disch := first | omega | (simp only [List.length_set, List.length_replicate, List.length_append, List.length_map, List.length_take, List.length_cons, List.length_nil]; omega)) [wrap64]
      refine hJ _ _ hl8 ⟨rfl, rfl, fun l' hl' t' ht' hE => ?_⟩
      by_cases hll : l' = l
      · subst hll; exact hA2 t' (by omega) hE
      · exact hA l' (by omega) t' ht' hE
  · simp -implicitDefEqProofs (disch := first | omega | (simp only [List.length_set, List.length_replicate, List.length_append, List.length_map, List.length_take, List.length_cons, List.length_nil]; omega)) [wrap64]
    refine RetK.keep (hk _ _ ⟨rfl, true, rfl, ?_⟩)
    simp only [true_iff]
    intro l' hl' t' ht' hE
    exact hA l' (by omega) t' ht' hE

theorem cond_acc0 {a : Aut} {i j : Nat} (hi : i < a.acc.length) (hj : j < a.acc.length) : acc0 a i j = (a.acc[j] || !a.acc[i]) := by
  simp [acc0, hi, hj, Bool.or_comm]

set_option maxHeartbeats 2000000 in
theorem c_simulation {h : Heap} {v : Value} {a : Aut} (Ra : Rep h v a) (ha : a.Ok) : CallE Try.prog fn_impl_Automaton_simulation [v] h (fun u h' => ∃ B : List (BitVec 64), HS h [ow u B] h' ∧ B.length = a.acc.length ∧ Great a (bitR B)) := by
  obtain ⟨v1, v2, v3, rfl, R1, R2, R3⟩ := Rep_Aut.1 Ra
  refine CallE.gen fun k hk => EN_impl_Automaton_simulation rfl ?_
  have hn := ha.n
  have he := ha.e
  simp -implicitDefEqProofs (disch := first | omega | (simp only [List.length_set, List.length_replicate, List.length_append, List.length_map, List.length_take, List.length_cons, List.length_nil]; omega)) [wrap64, R2.len]
  refine HS.init.alloc rfl fun b3 h1 H => ?_
  simp -implicitDefEqProofs (disch := first | omega | (simp only [List.length_set, List.length_replicate, List.length_append, List.length_map, List.length_take, List.length_cons, List.length_nil]; omega)) [wrap64]
  refine H.bxst (u := .int .i64 a.acc.length) rfl rfl rfl rfl (by simp) fun h2 H => ?_
  simp only [setC, cells_int, List.take_zero, List.nil_append] at H
  have H : HS h [bx b3 [.int .i64 a.acc.length]] h2 := H
  simp -implicitDefEqProofs (disch := first | omega | (simp only [List.length_set, List.length_replicate, List.length_append, List.length_map, List.length_take, List.length_cons, List.length_nil]; omega)) [wrap64, H.bxld0]
  refine H.mks (α := W8) (z := W8.zero) rfl rfl (Flat.own_iff.2 ⟨rfl, rfl, trivial⟩) (Nat.le_refl _) (by omega) (by omega) fun vn h3 H => ?_
  simp -implicitDefEqProofs (disch := first | omega | (simp only [List.length_set, List.length_replicate, List.length_append, List.length_map, List.length_take, List.length_cons, List.length_nil]; omega)) [wrap64]
  refine H.alloc rfl fun b4 h4 H => ?_
  simp -implicitDefEqProofs (disch := first | omega | (simp only [List.length_set, List.length_replicate, List.length_append, List.length_map, List.length_take, List.length_cons, List.length_nil]; omega)) [wrap64]
  refine H.bxst (u := vn) rfl rfl (by rw [H.sw1.rep.cells]; rfl) (by rw [H.sw1.rep.cells]; simp [H.sw1.rep.one]) (by simp [H.sw1.rep.cells]) fun h5 H => ?_
  have H : HS h [bx b4 [vn], ow vn (List.replicate a.acc.length W8.zero), bx b3 [.int .i64 a.acc.length]] h5 := by
    simpa [setC, H.sw1.rep.cells] using H
  simp -implicitDefEqProofs (disch := first | omega | (simp only [List.length_set, List.length_replicate, List.length_append, List.length_map, List.length_take, List.length_cons, List.length_nil]; omega)) [wrap64, (R3.on H).len]
  refine wp_count a.edges.length (fun i e h' => e = [none, some (.agg #[v1, v2, v3]), none, some (.pointer (some ⟨b3, 0, none⟩)), some (.pointer (some ⟨b4, 0, none⟩)), none, none, none, none, none, none, none, none, none, some v3, some (.int .i64 a.edges.length), some (.int .i64 i), none, none, none, none, none, none, none, none, none] ∧
    ∃ T, HS h [ow vn T, bx b4 [vn], bx b3 [.int .i64 a.acc.length]] h' ∧ Tab (a.edges.take i) a.acc.length T) ⟨by simp, _, H.sw1, Tab.zero _⟩ ?_
  rintro J i _ h6 hJ hi ⟨rfl, T, H, hT⟩
  simp -implicitDefEqProofs (disch := first | omega | (simp only [List.length_set, List.length_replicate, List.length_append, List.length_map, List.length_take, List.length_cons, List.length_nil]; omega)) [wrap64]
  refine IteW.mk (fun hlt => ?_) (fun hge => ?_)
  · have hlx : i < a.edges.length := by omega
    have hx := ha.t hlx
    have hv := R3.okTr hlx
    unfold Tr.Ok at hx
    simp -implicitDefEqProofs (disch := first | omega | (simp only [List.length_set, List.length_replicate, List.length_append, List.length_map, List.length_take, List.length_cons, List.length_nil]; omega)) [wrap64, (R3.on H).xTr, Tr.v, setC]
    refine wp_count 8 (fun l e h' => e = [none, some (.agg #[v1, v2, v3]), none, some (.pointer (some ⟨b3, 0, none⟩)), some (.pointer (some ⟨b4, 0, none⟩)), some a.edges[i].v, none, none, none, none, none, none, none, none, some v3, some (.int .i64 a.edges.length), some (.int .i64 i), some (.int .i64 l), none, none, none, none, none, none, none, none] ∧
      ∃ T, HS h [ow vn T, bx b4 [vn], bx b3 [.int .i64 a.acc.length]] h' ∧ Tab2 (a.edges.take i) a.edges[i] l a.acc.length T) ⟨by simp [Tr.v], _, H, hT.start _⟩ ?_
    rintro J2 l _ h7 hJ2 hl ⟨rfl, T, H, hT⟩
    simp -implicitDefEqProofs (disch := first | omega | (simp only [List.length_set, List.length_replicate, List.length_append, List.length_map, List.length_take, List.length_cons, List.length_nil]; omega)) [wrap64]
    refine IteW.mk (fun hlt2 => ?_) (fun hge2 => ?_)
    · have hl8 : l < 8 := by omega
      simp -implicitDefEqProofs (disch := first | omega | (simp only [List.length_set, List.length_replicate, List.length_append, List.length_map, List.length_take, List.length_cons, List.length_nil]; omega)) [wrap64, Tr.v]
      refine (c_takes (t := a.edges[i]) (Rep_Tr.2 ⟨rfl, hv⟩)).go ?_
      rintro _ _ ⟨rfl, rfl⟩
      by_cases ho : a.edges[i].on l = true
      · obtain ⟨f, hf⟩ : ∃ f : Nat, a.edges[i].frm = f := ⟨a.edges[i].frm.toNat, by omega⟩
        obtain ⟨t, ht⟩ : ∃ t : Nat, a.edges[i].to = t := ⟨a.edges[i].to.toNat, by omega⟩
        have hfT : f < T.length := by rw [hT.1]; omega
        simp -implicitDefEqProofs (disch := first | omega | (simp only [List.length_set, List.length_replicate, List.length_append, List.length_map, List.length_take, List.length_cons, List.length_nil]; omega)) [wrap64, ho, H.sw1.bxld0, hf, ht, H.rep.W, u64_setB]
        refine H.storeFld (α := W8) (T[f].put l (setB (T[f].at l) t)) (i := f) (fo := l) hfT rfl rfl rfl rfl (by show l < 8; omega) (W8.enc_put _) trivial fun h8 H => ?_
        simp -implicitDefEqProofs (disch := first | omega | (simp only [List.length_set, List.length_replicate, List.length_append, List.length_map, List.length_take, List.length_cons, List.length_nil]; omega)) [wrap64]
        exact hJ2 _ _ hl8 ⟨by simp [Tr.v, hf, ht], _, H, hT.put ho hl8 hf ht (by omega) (by omega)⟩
      · simp -implicitDefEqProofs (disch := first | omega | (simp only [List.length_set, List.length_replicate, List.length_append, List.length_map, List.length_take, List.length_cons, List.length_nil]; omega)) [wrap64, ho]
        exact hJ2 _ _ hl8 ⟨by simp [Tr.v], _, H, hT.skip (by simpa using ho)⟩
    · simp -implicitDefEqProofs (disch := first | omega | (simp only [List.length_set, List.length_replicate, List.length_append, List.length_map, List.length_take, List.length_cons, List.length_nil]; omega)) [wrap64]
      have hl8 : l = 8 := by omega
      subst hl8
      exact hJ _ _ hlx ⟨rfl, _, H, hT.done hlx⟩
  rw [List.take_of_length_le (by omega)] at hT
  simp -implicitDefEqProofs (disch := first | omega | (simp only [List.length_set, List.length_replicate, List.length_append, List.length_map, List.length_take, List.length_cons, List.length_nil]; omega)) [wrap64, H.sw2.bxld0]
  refine H.mks (α := BitVec 64) (z := 0) rfl rfl (show Ty.own (α := BitVec 64) Heap.nil [.int .u64 0] 0 from ⟨rfl, rfl⟩) (Nat.le_refl _) (by omega) (by omega) fun vb h7 H => ?_
  simp -implicitDefEqProofs (disch := first | omega | (simp only [List.length_set, List.length_replicate, List.length_append, List.length_map, List.length_take, List.length_cons, List.length_nil]; omega)) [wrap64]
  refine H.alloc rfl fun b7 h8 H => ?_
  simp -implicitDefEqProofs (disch := first | omega | (simp only [List.length_set, List.length_replicate, List.length_append, List.length_map, List.length_take, List.length_cons, List.length_nil]; omega)) [wrap64]
  refine H.bxst (u := vb) rfl rfl (by rw [H.sw1.rep.cells]; rfl) (by rw [H.sw1.rep.cells]; simp [H.sw1.rep.one]) (by simp [H.sw1.rep.cells]) fun h9 H => ?_
  have H : HS h [ow vb (List.replicate a.acc.length (0 : BitVec 64)), bx b7 [vb], ow vn T, bx b4 [vn], bx b3 [.int .i64 a.acc.length]] h9 := by
    simpa [setC, H.sw1.rep.cells] using H.sw1
  simp -implicitDefEqProofs (disch := first | omega | (simp only [List.length_set, List.length_replicate, List.length_append, List.length_map, List.length_take, List.length_cons, List.length_nil]; omega)) [wrap64, H.sw1.bxld0, H.rep.len]
  refine wp_count a.acc.length (fun i e h' => e = [none, some (.agg #[v1, v2, v3]), none, some (.pointer (some ⟨b3, 0, none⟩)), some (.pointer (some ⟨b4, 0, none⟩)), none, none, some (.pointer (some ⟨b7, 0, none⟩)), none, none, none, none, none, none, none, none, none, none, some (.int .i64 a.acc.length), some (.int .i64 i), none, none, none, none, none, none] ∧
    ∃ B, HS h [ow vb B, bx b7 [vb], ow vn T, bx b4 [vn], bx b3 [.int .i64 a.acc.length]] h' ∧ B.length = a.acc.length ∧ ∀ x y, x < a.acc.length → y < a.acc.length → bitR B x y = (decide (x < i) && acc0 a x y)) ⟨by simp, _, H, by simp, fun x y hx hy => by simp [bitR, hx]⟩ ?_
  rintro J i _ h10 hJ hi ⟨rfl, B, H, hBl, hB⟩
  simp -implicitDefEqProofs (disch := first | omega | (simp only [List.length_set, List.length_replicate, List.length_append, List.length_map, List.length_take, List.length_cons, List.length_nil]; omega)) [wrap64]
  refine IteW.mk (fun hlt2 => ?_) (fun hge2 => ?_)
  · have hin : i < a.acc.length := by omega
    simp -implicitDefEqProofs (disch := first | omega | (simp only [List.length_set, List.length_replicate, List.length_append, List.length_map, List.length_take, List.length_cons, List.length_nil]; omega)) [wrap64, H.sw4.bxld0]
    refine wp_count a.acc.length (fun j e h' => e = [none, some (.agg #[v1, v2, v3]), none, some (.pointer (some ⟨b3, 0, none⟩)), some (.pointer (some ⟨b4, 0, none⟩)), none, none, some (.pointer (some ⟨b7, 0, none⟩)), some (.int .i64 i), none, none, none, none, none, none, none, none, none, some (.int .i64 a.acc.length), some (.int .i64 i), some (.int .i64 a.acc.length), some (.int .i64 j), none, none, none, none] ∧
      ∃ B, HS h [ow vb B, bx b7 [vb], ow vn T, bx b4 [vn], bx b3 [.int .i64 a.acc.length]] h' ∧ B.length = a.acc.length ∧ ∀ x y, x < a.acc.length → y < a.acc.length → bitR B x y = (decide (x < i ∨ (x = i ∧ y < j)) && acc0 a x y)) ⟨by simp, _, H, hBl, fun x y hx hy => by simp [hB x y hx hy]⟩ ?_
    rintro J2 j _ h11 hJ2 hj ⟨rfl, B, H, hBl, hB⟩
    simp -implicitDefEqProofs (disch := first | omega | (simp only [List.length_set, List.length_replicate, List.length_append, List.length_map, List.length_take, List.length_cons, List.length_nil]; omega)) [wrap64]
    refine IteW.mk (fun hlt3 => ?_) (fun hge3 => ?_)
    · have hjn : j < a.acc.length := by omega
      have hc := cond_acc0 hin hjn
      have hstep : ∀ B' : List (BitVec 64), (∀ x y, x < a.acc.length → y < a.acc.length → bitR B' x y = (bitR B x y || (acc0 a i j && (decide (x = i) && decide (y = j))))) → ∀ x y, x < a.acc.length → y < a.acc.length → bitR B' x y = (decide (x < i ∨ (x = i ∧ y < j + 1)) && acc0 a x y) := by
        intro B' hB' x y hx hy
        rw [hB' x y hx hy, hB x y hx hy, Bool.eq_iff_iff]
        simp only [Bool.or_eq_true, Bool.and_eq_true, decide_eq_true_eq]
        constructor
        · rintro (⟨h1, h2⟩ | ⟨h1, rfl, rfl⟩)
          · exact ⟨by omega, h2⟩
          · exact ⟨by omega, h1⟩
        · rintro ⟨h1, h2⟩
          by_cases hxy : x = i ∧ y = j
          · obtain ⟨rfl, rfl⟩ := hxy; exact .inr ⟨h2, rfl, rfl⟩
          · exact .inl ⟨by omega, h2⟩
      by_cases h1 : a.acc[j] = true
      · simp -implicitDefEqProofs (disch := first | omega | (simp only [List.length_set, List.length_replicate, List.length_append, List.length_map, List.length_take, List.length_cons, List.length_nil]; omega)) [wrap64, (R2.on H).B, h1, H.sw1.bxld0, H.rep.U, u64_setB]
        refine H.storeF (setB (B[i]'(by omega)) j) (i := i) (by omega) rfl rfl trivial rfl fun h12 H => ?_
        simp -implicitDefEqProofs (disch := first | omega | (simp only [List.length_set, List.length_replicate, List.length_append, List.length_map, List.length_take, List.length_cons, List.length_nil]; omega)) [wrap64]
        exact hJ2 _ _ hjn ⟨rfl, _, H, by simpa using hBl, hstep _ fun x y hx hy => by rw [bitR_set (by omega) (by omega), hc, h1]; simp⟩
      · by_cases h2 : a.acc[i] = true
        · simp -implicitDefEqProofs (disch := first | omega | (simp only [List.length_set, List.length_replicate, List.length_append, List.length_map, List.length_take, List.length_cons, List.length_nil]; omega)) [wrap64, (R2.on H).B, h1, h2]
          exact hJ2 _ _ hjn ⟨rfl, _, H, hBl, hstep _ fun x y hx hy => by rw [hc, h2]; simp [h1]⟩
        · simp -implicitDefEqProofs (disch := first | omega | (simp only [List.length_set, List.length_replicate, List.length_append, List.length_map, List.length_take, List.length_cons, List.length_nil]; omega)) [wrap64, (R2.on H).B, h1, h2, H.sw1.bxld0, H.rep.U, u64_setB]
          refine H.storeF (setB (B[i]'(by omega)) j) (i := i) (by omega) rfl rfl trivial rfl fun h12 H => ?_
          simp -implicitDefEqProofs (disch := first | omega | (simp only [List.length_set, List.length_replicate, List.length_append, List.length_map, List.length_take, List.length_cons, List.length_nil]; omega)) [wrap64]
          exact hJ2 _ _ hjn ⟨rfl, _, H, by simpa using hBl, hstep _ fun x y hx hy => by rw [bitR_set (by omega) (by omega), hc]; simp [h1, h2]⟩
    · simp -implicitDefEqProofs (disch := first | omega | (simp only [List.length_set, List.length_replicate, List.length_append, List.length_map, List.length_take, List.length_cons, List.length_nil]; omega)) [wrap64]
      exact hJ _ _ hin ⟨rfl, _, H, hBl, fun x y hx hy => by
        rw [hB x y hx hy]
        congr 1
        exact decide_eq_decide.2 (by omega)⟩
  have hB2 : ∀ x y, x < a.acc.length → y < a.acc.length → bitR B x y = acc0 a x y := fun x y hx hy => by rw [hB x y hx hy]; simp [show x < i by omega]
  have hA : AccR a (bitR B) := fun x y hx hy hr => acc0_acc a x y hx hy (by rw [← hB2 x y hx hy]; exact hr)
  have hU : Upper a (bitR B) := fun S hS x y hx hy hr => by rw [hB2 x y hx hy]; exact acc0_upper a S hS x y hx hy hr
  simp -implicitDefEqProofs (disch := first | omega | (simp only [List.length_set, List.length_replicate, List.length_append, List.length_map, List.length_take, List.length_cons, List.length_nil]; omega)) [wrap64]
  obtain ⟨fv, hfv⟩ : ∃ fv, fv = Value.func (.func fn_impl_Automaton_simulation_1) #[] #[.pointer (some ⟨b3, 0, none⟩), .pointer (some ⟨b4, 0, none⟩), .pointer (some ⟨b7, 0, none⟩)] := ⟨_, rfl⟩
  have hfn : fnOf fv = some (fn_impl_Automaton_simulation_1, [], [.pointer (some ⟨b3, 0, none⟩), .pointer (some ⟨b4, 0, none⟩), .pointer (some ⟨b7, 0, none⟩)]) := by subst hfv; rfl
  rw [← hfv]
  refine wp_while (σ := List (BitVec 64) × Bool) (fun s e h' => e = [none, none, none, some (.pointer (some ⟨b3, 0, none⟩)), none, none, none, some (.pointer (some ⟨b7, 0, none⟩)), none, none, some fv, some (.bool s.2), none, none, none, none, none, none, none, none, none, none, none, none, none, none] ∧
    HS h [ow vb s.1, bx b7 [vb], ow vn T, bx b4 [vn], bx b3 [.int .i64 a.acc.length]] h' ∧ s.1.length = a.acc.length ∧ AccR a (bitR s.1) ∧ Upper a (bitR s.1) ∧ (s.2 = false → Great a (bitR s.1)))
    (fun s => 2 * cnt2 a.acc.length (bitR s.1) + (if s.2 then 1 else 0)) (B, true) ⟨by simp, H, hBl, hA, hU, by simp⟩ ?_
  rintro J ⟨B, c⟩ _ h11 hJ ⟨rfl, H, hBl, hA, hU, hG⟩
  dsimp only at H hBl hA hU hG
  simp -implicitDefEqProofs (disch := first | omega | (simp only [List.length_set, List.length_replicate, List.length_append, List.length_map, List.length_take, List.length_cons, List.length_nil]; omega)) [wrap64]
  cases c with
  | false =>
    simp -implicitDefEqProofs (disch := first | omega | (simp only [List.length_set, List.length_replicate, List.length_append, List.length_map, List.length_take, List.length_cons, List.length_nil]; omega)) [wrap64, H.sw1.bxld0]
    exact RetK.keep (hk _ _ ⟨B, H.sw1.drop.sw1.drop.sw1.drop.sw1.drop, hBl, hG rfl⟩)
  | true =>
  simp -implicitDefEqProofs (disch := first | omega | (simp only [List.length_set, List.length_replicate, List.length_append, List.length_map, List.length_take, List.length_cons, List.length_nil]; omega)) [wrap64, H.sw4.bxld0]
  refine wp_count a.acc.length (fun i e h' => ∃ c', e = [none, none, none, some (.pointer (some ⟨b3, 0, none⟩)), none, none, none, some (.pointer (some ⟨b7, 0, none⟩)), none, none, some fv, some (.bool c'), none, none, none, none, none, none, none, none, none, none, some (.int .i64 a.acc.length), some (.int .i64 i), none, none] ∧
    ∃ B', HS h [ow vb B', bx b7 [vb], ow vn T, bx b4 [vn], bx b3 [.int .i64 a.acc.length]] h' ∧ B'.length = a.acc.length ∧ Pass a (bitR B) (bitR B') c' i 0) ⟨false, by simp, B, H, hBl, Pass.start hA hU⟩ ?_
  rintro J1 i _ h12 hJ1 hi ⟨c', rfl, B', H, hBl', hP⟩
  simp -implicitDefEqProofs (disch := first | omega | (simp only [List.length_set, List.length_replicate, List.length_append, List.length_map, List.length_take, List.length_cons, List.length_nil]; omega)) [wrap64]
  refine IteW.mk (fun hlt4 => ?_) (fun hge4 => ?_)
  · have hin : i < a.acc.length := by omega
    simp -implicitDefEqProofs (disch := first | omega | (simp only [List.length_set, List.length_replicate, List.length_append, List.length_map, List.length_take, List.length_cons, List.length_nil]; omega)) [wrap64, H.sw4.bxld0]
    refine wp_count a.acc.length (fun j e h' => ∃ c', e = [none, none, none, some (.pointer (some ⟨b3, 0, none⟩)), none, none, none, some (.pointer (some ⟨b7, 0, none⟩)), none, none, some fv, some (.bool c'), some (.int .i64 i), none, none, none, none, none, none, none, none, none, some (.int .i64 a.acc.length), some (.int .i64 i), some (.int .i64 a.acc.length), some (.int .i64 j)] ∧
      ∃ B', HS h [ow vb B', bx b7 [vb], ow vn T, bx b4 [vn], bx b3 [.int .i64 a.acc.length]] h' ∧ B'.length = a.acc.length ∧ Pass a (bitR B) (bitR B') c' i j) ⟨c', by simp, B', H, hBl', hP⟩ ?_
    rintro J2 j _ h13 hJ2 hj ⟨c', rfl, B', H, hBl', hP⟩
    simp -implicitDefEqProofs (disch := first | omega | (simp only [List.length_set, List.length_replicate, List.length_append, List.length_map, List.length_take, List.length_cons, List.length_nil]; omega)) [wrap64]
    refine IteW.mk (fun hlt5 => ?_) (fun hge5 => ?_)
    · have hjn : j < a.acc.length := by omega
      have hbg := bitR_get (B := B') (i := i) (j := j) (by omega)
      cases hb : (B'[i]'(by omega)).getLsbD j with
      | false =>
        simp -implicitDefEqProofs (disch := first | omega | (simp only [List.length_set, List.length_replicate, List.length_append, List.length_map, List.length_take, List.length_cons, List.length_nil]; omega)) [wrap64, -BitVec.getLsbD_eq_getElem, H.sw1.bxld0, H.rep.U, u64_bit, hb]
        exact hJ2 _ _ hjn ⟨c', rfl, B', H, hBl', hP.keep fun hr => by rw [hbg, hb] at hr; simp at hr⟩
      | true =>
        simp -implicitDefEqProofs (disch := first | omega | (simp only [List.length_set, List.length_replicate, List.length_append, List.length_map, List.length_take, List.length_cons, List.length_nil]; omega)) [wrap64, -BitVec.getLsbD_eq_getElem, H.sw1.bxld0, H.rep.U, u64_bit, hb, hfn]
        refine (c_simulates (i := i) (j := j) ha H.sw4.bxld0 H.sw3.bxld0 H.sw1.bxld0 H.sw2.rep H.rep hT hBl' hin hjn).go ?_
        rintro _ _ ⟨rfl, r, rfl, hr⟩
        cases r with
        | true =>
          simp -implicitDefEqProofs (disch := first | omega | (simp only [List.length_set, List.length_replicate, List.length_append, List.length_map, List.length_take, List.length_cons, List.length_nil]; omega)) [wrap64]
          exact hJ2 _ _ hjn ⟨c', rfl, B', H, hBl', hP.keep fun _ => hr.1 rfl⟩
        | false =>
          simp -implicitDefEqProofs (disch := first | omega | (simp only [List.length_set, List.length_replicate, List.length_append, List.length_map, List.length_take, List.length_cons, List.length_nil]; omega)) [wrap64, H.sw1.bxld0, H.rep.U, u64_clrB]
          refine H.storeF (clrB (B'[i]'(by omega)) j) (i := i) (by omega) rfl rfl trivial rfl fun h14 H => ?_
          simp -implicitDefEqProofs (disch := first | omega | (simp only [List.length_set, List.length_replicate, List.length_append, List.length_map, List.length_take, List.length_cons, List.length_nil]; omega)) [wrap64]
          refine hJ2 _ _ hjn ⟨true, rfl, _, H, by simpa using hBl', ?_⟩
          rw [bitR_clr (by omega) (by omega)]
          exact hP.rem ha hin hjn (by rw [hbg, hb]) (fun hA => by have := hr.2 hA; simp at this)
    · simp -implicitDefEqProofs (disch := first | omega | (simp only [List.length_set, List.length_replicate, List.length_append, List.length_map, List.length_take, List.length_cons, List.length_nil]; omega)) [wrap64]
      exact hJ1 _ _ hin ⟨c', rfl, B', H, hBl', hP.next (by omega)⟩
  · simp -implicitDefEqProofs (disch := first | omega | (simp only [List.length_set, List.length_replicate, List.length_append, List.length_map, List.length_take, List.length_cons, List.length_nil]; omega)) [wrap64]
    refine hJ (B', c') _ _ ?_ ⟨rfl, H, hBl', hP.acc, hP.upper, fun hc => by dsimp only at hc; subst hc; exact hP.done (by omega)⟩
    cases c' with
    | true => have := hP.less rfl; simp; omega
    | false => simp [(hP.same rfl).1]
end Go.Proofs.Ytknkjplnngeebaa
