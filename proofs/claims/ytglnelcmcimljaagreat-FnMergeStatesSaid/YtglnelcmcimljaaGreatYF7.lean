/-
  Texts of this proof, one behind the other.
-/
import Derived.Shelf.Sort.Plain
import Derived.Shelf.Slices.CompactI
import Derived.Shelf.Slices.In.SortNone
import Derived.Test.YtglnelcmcimljaaGreatRows
import Derived.Lib.SlicesCompact
import Derived.Sort.Grow
import Derived.Sort.Row
import Derived.Test.YtglnelcmcimljaaGreatYF6
set_option linter.all false
set_option linter.unusedVariables false
set_option linter.unusedSimpArgs false
set_option linter.defProp false
set_option maxRecDepth 1000000
namespace Go.Proofs.YtglnelcmcimljaaGreat
open Go
theorem c_simulates {h : Heap} {a : Aut} (ha : a.Ok) {b3 b4 b7 : Nat} {vn vb : Value} {T : List W8} {B : List (BitVec 64)} (h3 : hload h (some (.pointer (some ⟨b3, 0, none⟩))) none = some (.int .i64 a.acc.length))
    (h4 : hload h (some (.pointer (some ⟨b4, 0, none⟩))) none = some vn) (h7 : hload h (some (.pointer (some ⟨b7, 0, none⟩))) none = some vb) (Rn : Rep h vn T) (Rb : Rep h vb B)
    (hT : Tab a.edges a.acc.length T) (hB : B.length = a.acc.length) {i j : Nat} (hi : i < a.acc.length) (hj : j < a.acc.length) :
    CallE Tryz.prog fn_impl_Automaton_simulation_1 [.int .i64 j, .int .i64 i, .pointer (some ⟨b3, 0, none⟩), .pointer (some ⟨b4, 0, none⟩), .pointer (some ⟨b7, 0, none⟩)] h
      (fun u h' => h' = h ∧ ∃ r : Bool, u = .bool r ∧ (r = true ↔ Ans a (bitR B) i j)) := by
  refine CallE.gen fun k hk => EN_impl_Automaton_simulation_1 rfl ?_
  have hn := ha.n
  have hTl := hT.1
  rw [ans_iff ha] at hk
  simp -implicitDefEqProofs (disch := first | omega | (simp only [LnZ]; omega)) [wrap64]
  refine wp_count 8 (fun l e h' => h' = h ∧ e = [some (.int .i64 j), some (.int .i64 i), some (.pointer (some ⟨b3, 0, none⟩)), some (.pointer (some ⟨b4, 0, none⟩)), some (.pointer (some ⟨b7, 0, none⟩)), none, none, none, some (.int .i64 l), none, none] ∧
    ∀ l' < l, ∀ t < a.acc.length, EdgeB a.edges i l' t → ∃ k < a.acc.length, EdgeB a.edges j l' k ∧ bitR B t k = true) ⟨rfl, rfl, fun l' hl' => absurd hl' (Nat.not_lt_zero l')⟩ ?_
  rintro J l _ h hJ hl ⟨rfl, rfl, hA⟩
  simp -implicitDefEqProofs (disch := first | omega | (simp only [LnZ]; omega)) [wrap64]
  refine IteW.mk (fun hlt => ?_) (fun hge => ?_)
  · have hl8 : l < 8 := by omega
    simp -implicitDefEqProofs (disch := first | omega | (simp only [LnZ]; omega)) [wrap64, h3]
    refine wp_count a.acc.length (fun t e h' => h' = _ ∧ e = [some (.int .i64 j), some (.int .i64 i), some (.pointer (some ⟨b3, 0, none⟩)), some (.pointer (some ⟨b4, 0, none⟩)), some (.pointer (some ⟨b7, 0, none⟩)), none, some (.int .i64 l), none, some (.int .i64 l), some (.int .i64 a.acc.length), some (.int .i64 t)] ∧
      ∀ t' < t, EdgeB a.edges i l t' → ∃ k < a.acc.length, EdgeB a.edges j l k ∧ bitR B t' k = true) ⟨rfl, rfl, fun t' ht' => absurd ht' (Nat.not_lt_zero t')⟩ ?_
    rintro J2 t _ h hJ2 ht ⟨rfl, rfl, hA2⟩
    simp -implicitDefEqProofs (disch := first | omega | (simp only [LnZ]; omega)) [wrap64]
    refine IteW.mk (fun hlt2 => ?_) (fun hge2 => ?_)
    · have htn : t < a.acc.length := by omega
      have hbit := hT.2 i l t hi hl8 (by omega)
      have hgi : T.getD i W8.zero = T[i]'(by omega) := by simp [show i < T.length by omega]
      have hgj : T.getD j W8.zero = T[j]'(by omega) := by simp [show j < T.length by omega]
      rw [hgi] at hbit
      by_cases hb : ((T[i]'(by omega)).at l).getLsbD t = true
      · have hmeet := u64_meet (a := (T[j]'(by omega)).at l) (b := B[t]'(by omega))
        by_cases hm : andI .u64 ((T[j]'(by omega)).at l).toNat (B[t]'(by omega)).toNat = 0
        · simp -implicitDefEqProofs (disch := first | omega | (simp only [LnZ]; omega)) [wrap64, -BitVec.getLsbD_eq_getElem, h4, Rn.W, u64_bit, hb, h7, Rb.U, hm]
          refine RetK.keep (hk _ _ ⟨rfl, false, rfl, ?_⟩)
          simp only [Bool.false_eq_true, false_iff]
          intro h
          obtain ⟨k', hk', hE, hr⟩ := h l hl8 t htn (hbit.1 hb)
          rw [bitR_get (by omega)] at hr
          have := (hT.2 j l k' hj hl8 (by omega)).2 hE
          rw [hgj] at this
          exact (hmeet.1 hm) k' (by omega) ⟨this, hr⟩
        · simp -implicitDefEqProofs (disch := first | omega | (simp only [LnZ]; omega)) [wrap64, -BitVec.getLsbD_eq_getElem, h4, Rn.W, u64_bit, hb, h7, Rb.U, hm]
          refine hJ2 _ _ htn ⟨rfl, rfl, fun t' ht' hE => ?_⟩
          by_cases htt : t' = t
          · subst htt
            rw [hmeet] at hm
            simp only [Classical.not_forall, Classical.not_not] at hm
            obtain ⟨k', hk64, h1, h2⟩ := hm
            have h5 := hT.2 j l k' hj hl8 hk64
            rw [hgj] at h5
            have h6 := h5.1 h1
            obtain ⟨e, he, _, h8, _⟩ := h6
            have hq := ha.2.2.2 e he
            unfold Tr.Ok at hq
            exact ⟨k', by omega, h5.1 h1, by rw [bitR_get (by omega)]; exact h2⟩
          · exact hA2 t' (by omega) hE
      · simp -implicitDefEqProofs (disch := first | omega | (simp only [LnZ]; omega)) [wrap64, -BitVec.getLsbD_eq_getElem, h4, Rn.W, u64_bit, hb]
        refine hJ2 _ _ htn ⟨rfl, rfl, fun t' ht' hE => ?_⟩
        by_cases htt : t' = t
        · subst htt; exact absurd (hbit.2 hE) hb
        · exact hA2 t' (by omega) hE
    · simp -implicitDefEqProofs (disch := first | omega | (simp only [LnZ]; omega)) [wrap64]
      refine hJ _ _ hl8 ⟨rfl, rfl, fun l' hl' t' ht' hE => ?_⟩
      by_cases hll : l' = l
      · subst hll; exact hA2 t' (by omega) hE
      · exact hA l' (by omega) t' ht' hE
  · simp -implicitDefEqProofs (disch := first | omega | (simp only [LnZ]; omega)) [wrap64]
    refine RetK.keep (hk _ _ ⟨rfl, true, rfl, ?_⟩)
    simp only [true_iff]
    intro l' hl' t' ht' hE
    exact hA l' (by omega) t' ht' hE
theorem cond_acc0 {a : Aut} {i j : Nat} (hi : i < a.acc.length) (hj : j < a.acc.length) : acc0 a i j = (a.acc[j] || !a.acc[i]) := by
  simp [acc0, hi, hj, Bool.or_comm]
set_option maxHeartbeats 2000000 in
theorem c_simulation {h : Heap} {v : Value} {a : Aut} (Ra : Rep h v a) (ha : a.Ok) : CallE Tryz.prog fn_impl_Automaton_simulation [v] h (fun u h' => ∃ B : List (BitVec 64), HS h [ow u B] h' ∧ B.length = a.acc.length ∧ Great a (bitR B)) := by
  obtain ⟨v1, v2, v3, rfl, R1, R2, R3⟩ := Rep_Aut.1 Ra
  refine CallE.gen fun k hk => EN_impl_Automaton_simulation rfl ?_
  have hn := ha.n
  have he := ha.e
  simp -implicitDefEqProofs (disch := first | omega | (simp only [LnZ]; omega)) [wrap64, R2.len]
  refine HS.init.alloc rfl fun b3 h1 H => ?_
  simp -implicitDefEqProofs (disch := first | omega | (simp only [LnZ]; omega)) [wrap64]
  refine H.bxst (u := .int .i64 a.acc.length) rfl rfl rfl rfl (by simp) fun h2 H => ?_
  simp only [setC, cells_int, List.take_zero, List.nil_append] at H
  have H : HS h [bx b3 [.int .i64 a.acc.length]] h2 := H
  simp -implicitDefEqProofs (disch := first | omega | (simp only [LnZ]; omega)) [wrap64, H.bxld0]
  refine H.mks (α := W8) (z := W8.zero) rfl rfl (Flat.own_iff.2 ⟨rfl, rfl, trivial⟩) (Nat.le_refl _) (by omega) (by omega) fun vn h3 H => ?_
  simp -implicitDefEqProofs (disch := first | omega | (simp only [LnZ]; omega)) [wrap64]
  refine H.alloc rfl fun b4 h4 H => ?_
  simp -implicitDefEqProofs (disch := first | omega | (simp only [LnZ]; omega)) [wrap64]
  refine H.bxst (u := vn) rfl rfl (by rw [H.sw1.rep.cells]; rfl) (by rw [H.sw1.rep.cells]; simp [H.sw1.rep.one]) (by simp [H.sw1.rep.cells]) fun h5 H => ?_
  have H : HS h [bx b4 [vn], ow vn (List.replicate a.acc.length W8.zero), bx b3 [.int .i64 a.acc.length]] h5 := by
    simpa [setC, H.sw1.rep.cells] using H
  simp -implicitDefEqProofs (disch := first | omega | (simp only [LnZ]; omega)) [wrap64, (R3.on H).len]
  refine wp_count a.edges.length (fun i e h' => e = [none, some (.agg #[v1, v2, v3]), none, some (.pointer (some ⟨b3, 0, none⟩)), some (.pointer (some ⟨b4, 0, none⟩)), none, none, none, none, none, none, none, none, none, some v3, some (.int .i64 a.edges.length), some (.int .i64 i), none, none, none, none, none, none, none, none, none] ∧
    ∃ T, HS h [ow vn T, bx b4 [vn], bx b3 [.int .i64 a.acc.length]] h' ∧ Tab (a.edges.take i) a.acc.length T) ⟨by simp, _, H.sw1, Tab.zero _⟩ ?_
  rintro J i _ h6 hJ hi ⟨rfl, T, H, hT⟩
  simp -implicitDefEqProofs (disch := first | omega | (simp only [LnZ]; omega)) [wrap64]
  refine IteW.mk (fun hlt => ?_) (fun hge => ?_)
  · have hlx : i < a.edges.length := by omega
    have hx := ha.t hlx
    have hv := R3.okTr hlx
    unfold Tr.Ok at hx
    simp -implicitDefEqProofs (disch := first | omega | (simp only [LnZ]; omega)) [wrap64, (R3.on H).xTr, Tr.v, setC]
    refine wp_count 8 (fun l e h' => e = [none, some (.agg #[v1, v2, v3]), none, some (.pointer (some ⟨b3, 0, none⟩)), some (.pointer (some ⟨b4, 0, none⟩)), some a.edges[i].v, none, none, none, none, none, none, none, none, some v3, some (.int .i64 a.edges.length), some (.int .i64 i), some (.int .i64 l), none, none, none, none, none, none, none, none] ∧
      ∃ T, HS h [ow vn T, bx b4 [vn], bx b3 [.int .i64 a.acc.length]] h' ∧ Tab2 (a.edges.take i) a.edges[i] l a.acc.length T) ⟨by simp [Tr.v], _, H, hT.start _⟩ ?_
    rintro J2 l _ h7 hJ2 hl ⟨rfl, T, H, hT⟩
    simp -implicitDefEqProofs (disch := first | omega | (simp only [LnZ]; omega)) [wrap64]
    refine IteW.mk (fun hlt2 => ?_) (fun hge2 => ?_)
    · have hl8 : l < 8 := by omega
      simp -implicitDefEqProofs (disch := first | omega | (simp only [LnZ]; omega)) [wrap64, Tr.v]
      refine (c_takes (t := a.edges[i]) (Rep_Tr.2 ⟨rfl, hv⟩)).go ?_
      rintro _ _ ⟨rfl, rfl⟩
      by_cases ho : a.edges[i].on l = true
      · obtain ⟨f, hf⟩ : ∃ f : Nat, a.edges[i].frm = f := ⟨a.edges[i].frm.toNat, by omega⟩
        obtain ⟨t, ht⟩ : ∃ t : Nat, a.edges[i].to = t := ⟨a.edges[i].to.toNat, by omega⟩
        have hfT : f < T.length := by rw [hT.1]; omega
        simp -implicitDefEqProofs (disch := first | omega | (simp only [LnZ]; omega)) [wrap64, ho, H.sw1.bxld0, hf, ht, H.rep.W, u64_setB]
        refine H.storeFld (α := W8) (T[f].put l (setB (T[f].at l) t)) (i := f) (fo := l) hfT rfl rfl rfl rfl (by show l < 8; omega) (W8.enc_put _) trivial fun h8 H => ?_
        simp -implicitDefEqProofs (disch := first | omega | (simp only [LnZ]; omega)) [wrap64]
        exact hJ2 _ _ hl8 ⟨by simp [Tr.v, hf, ht], _, H, hT.put ho hl8 hf ht (by omega) (by omega)⟩
      · simp -implicitDefEqProofs (disch := first | omega | (simp only [LnZ]; omega)) [wrap64, ho]
        exact hJ2 _ _ hl8 ⟨by simp [Tr.v], _, H, hT.skip (by simpa using ho)⟩
    · simp -implicitDefEqProofs (disch := first | omega | (simp only [LnZ]; omega)) [wrap64]
      have hl8 : l = 8 := by omega
      subst hl8
      exact hJ _ _ hlx ⟨rfl, _, H, hT.done hlx⟩
  rw [List.take_of_length_le (by omega)] at hT
  simp -implicitDefEqProofs (disch := first | omega | (simp only [LnZ]; omega)) [wrap64, H.sw2.bxld0]
  refine H.mks (α := BitVec 64) (z := 0) rfl rfl (show Ty.own (α := BitVec 64) Heap.nil [.int .u64 0] 0 from ⟨rfl, rfl⟩) (Nat.le_refl _) (by omega) (by omega) fun vb h7 H => ?_
  simp -implicitDefEqProofs (disch := first | omega | (simp only [LnZ]; omega)) [wrap64]
  refine H.alloc rfl fun b7 h8 H => ?_
  simp -implicitDefEqProofs (disch := first | omega | (simp only [LnZ]; omega)) [wrap64]
  refine H.bxst (u := vb) rfl rfl (by rw [H.sw1.rep.cells]; rfl) (by rw [H.sw1.rep.cells]; simp [H.sw1.rep.one]) (by simp [H.sw1.rep.cells]) fun h9 H => ?_
  have H : HS h [ow vb (List.replicate a.acc.length (0 : BitVec 64)), bx b7 [vb], ow vn T, bx b4 [vn], bx b3 [.int .i64 a.acc.length]] h9 := by
    simpa [setC, H.sw1.rep.cells] using H.sw1
  simp -implicitDefEqProofs (disch := first | omega | (simp only [LnZ]; omega)) [wrap64, H.sw1.bxld0, H.rep.len]
  refine wp_count a.acc.length (fun i e h' => e = [none, some (.agg #[v1, v2, v3]), none, some (.pointer (some ⟨b3, 0, none⟩)), some (.pointer (some ⟨b4, 0, none⟩)), none, none, some (.pointer (some ⟨b7, 0, none⟩)), none, none, none, none, none, none, none, none, none, none, some (.int .i64 a.acc.length), some (.int .i64 i), none, none, none, none, none, none] ∧
    ∃ B, HS h [ow vb B, bx b7 [vb], ow vn T, bx b4 [vn], bx b3 [.int .i64 a.acc.length]] h' ∧ B.length = a.acc.length ∧ ∀ x y, x < a.acc.length → y < a.acc.length → bitR B x y = (decide (x < i) && acc0 a x y)) ⟨by simp, _, H, by simp, fun x y hx hy => by simp [bitR, hx]⟩ ?_
  rintro J i _ h10 hJ hi ⟨rfl, B, H, hBl, hB⟩
  simp -implicitDefEqProofs (disch := first | omega | (simp only [LnZ]; omega)) [wrap64]
  refine IteW.mk (fun hlt2 => ?_) (fun hge2 => ?_)
  · have hin : i < a.acc.length := by omega
    simp -implicitDefEqProofs (disch := first | omega | (simp only [LnZ]; omega)) [wrap64, H.sw4.bxld0]
    refine wp_count a.acc.length (fun j e h' => e = [none, some (.agg #[v1, v2, v3]), none, some (.pointer (some ⟨b3, 0, none⟩)), some (.pointer (some ⟨b4, 0, none⟩)), none, none, some (.pointer (some ⟨b7, 0, none⟩)), some (.int .i64 i), none, none, none, none, none, none, none, none, none, some (.int .i64 a.acc.length), some (.int .i64 i), some (.int .i64 a.acc.length), some (.int .i64 j), none, none, none, none] ∧
      ∃ B, HS h [ow vb B, bx b7 [vb], ow vn T, bx b4 [vn], bx b3 [.int .i64 a.acc.length]] h' ∧ B.length = a.acc.length ∧ ∀ x y, x < a.acc.length → y < a.acc.length → bitR B x y = (decide (x < i ∨ (x = i ∧ y < j)) && acc0 a x y)) ⟨by simp, _, H, hBl, fun x y hx hy => by simp [hB x y hx hy]⟩ ?_
    rintro J2 j _ h11 hJ2 hj ⟨rfl, B, H, hBl, hB⟩
    simp -implicitDefEqProofs (disch := first | omega | (simp only [LnZ]; omega)) [wrap64]
    refine IteW.mk (fun hlt3 => ?_) (fun hge3 => ?_)
    · have hjn : j < a.acc.length := by omega
      have hc := cond_acc0 hin hjn
      have hstep : ∀ B' : List (BitVec 64), (∀ x y, x < a.acc.length → y < a.acc.length → bitR B' x y = (bitR B x y || (acc0 a i j && (decide (x = i) && decide (y = j))))) → ∀ x y, x < a.acc.length → y < a.acc.length → bitR B' x y = (decide (x < i ∨ (x = i ∧ y < j + 1)) && acc0 a x y) := by
        intro B' hB' x y hx hy
        rw [hB' x y hx hy, hB x y hx hy, Bool.eq_iff_iff]
        simp only [Bool.or_eq_true, Bool.and_eq_true, decide_eq_true_eq]
        constructor
        · rintro (⟨h1, h2⟩ | ⟨h1, rfl, rfl⟩)
          · exact ⟨by omega, h2⟩
          · exact ⟨by omega, h1⟩
        · rintro ⟨h1, h2⟩
          by_cases hxy : x = i ∧ y = j
          · obtain ⟨rfl, rfl⟩ := hxy; exact .inr ⟨h2, rfl, rfl⟩
          · exact .inl ⟨by omega, h2⟩
      by_cases h1 : a.acc[j] = true
      · simp -implicitDefEqProofs (disch := first | omega | (simp only [LnZ]; omega)) [wrap64, (R2.on H).B, h1, H.sw1.bxld0, H.rep.U, u64_setB]
        refine H.storeF (setB (B[i]'(by omega)) j) (i := i) (by omega) rfl rfl trivial rfl fun h12 H => ?_
        simp -implicitDefEqProofs (disch := first | omega | (simp only [LnZ]; omega)) [wrap64]
        exact hJ2 _ _ hjn ⟨rfl, _, H, by simpa using hBl, hstep _ fun x y hx hy => by rw [bitR_set (by omega) (by omega), hc, h1]; simp⟩
      · by_cases h2 : a.acc[i] = true
        · simp -implicitDefEqProofs (disch := first | omega | (simp only [LnZ]; omega)) [wrap64, (R2.on H).B, h1, h2]
          exact hJ2 _ _ hjn ⟨rfl, _, H, hBl, hstep _ fun x y hx hy => by rw [hc, h2]; simp [h1]⟩
        · simp -implicitDefEqProofs (disch := first | omega | (simp only [LnZ]; omega)) [wrap64, (R2.on H).B, h1, h2, H.sw1.bxld0, H.rep.U, u64_setB]
          refine H.storeF (setB (B[i]'(by omega)) j) (i := i) (by omega) rfl rfl trivial rfl fun h12 H => ?_
          simp -implicitDefEqProofs (disch := first | omega | (simp only [LnZ]; omega)) [wrap64]
          exact hJ2 _ _ hjn ⟨rfl, _, H, by simpa using hBl, hstep _ fun x y hx hy => by rw [bitR_set (by omega) (by omega), hc]; simp [h1, h2]⟩
    · simp -implicitDefEqProofs (disch := first | omega | (simp only [LnZ]; omega)) [wrap64]
      exact hJ _ _ hin ⟨rfl, _, H, hBl, fun x y hx hy => by
        rw [hB x y hx hy]
        congr 1
        exact decide_eq_decide.2 (by omega)⟩
  have hB2 : ∀ x y, x < a.acc.length → y < a.acc.length → bitR B x y = acc0 a x y := fun x y hx hy => by rw [hB x y hx hy]; simp [show x < i by omega]
  have hA : AccR a (bitR B) := fun x y hx hy hr => acc0_acc a x y hx hy (by rw [← hB2 x y hx hy]; exact hr)
  have hU : Upper a (bitR B) := fun S hS x y hx hy hr => by rw [hB2 x y hx hy]; exact acc0_upper a S hS x y hx hy hr
  simp -implicitDefEqProofs (disch := first | omega | (simp only [LnZ]; omega)) [wrap64]
  obtain ⟨fv, hfv⟩ : ∃ fv, fv = Value.func (.func fn_impl_Automaton_simulation_1) #[] #[.pointer (some ⟨b3, 0, none⟩), .pointer (some ⟨b4, 0, none⟩), .pointer (some ⟨b7, 0, none⟩)] := ⟨_, rfl⟩
  have hfn : fnOf fv = some (fn_impl_Automaton_simulation_1, [], [.pointer (some ⟨b3, 0, none⟩), .pointer (some ⟨b4, 0, none⟩), .pointer (some ⟨b7, 0, none⟩)]) := by subst hfv; rfl
  rw [← hfv]
  refine wp_while (σ := List (BitVec 64) × Bool) (fun s e h' => e = [none, none, none, some (.pointer (some ⟨b3, 0, none⟩)), none, none, none, some (.pointer (some ⟨b7, 0, none⟩)), none, none, some fv, some (.bool s.2), none, none, none, none, none, none, none, none, none, none, none, none, none, none] ∧
    HS h [ow vb s.1, bx b7 [vb], ow vn T, bx b4 [vn], bx b3 [.int .i64 a.acc.length]] h' ∧ s.1.length = a.acc.length ∧ AccR a (bitR s.1) ∧ Upper a (bitR s.1) ∧ (s.2 = false → Great a (bitR s.1)))
    (fun s => 2 * cnt2 a.acc.length (bitR s.1) + (if s.2 then 1 else 0)) (B, true) ⟨by simp, H, hBl, hA, hU, by simp⟩ ?_
  rintro J ⟨B, c⟩ _ h11 hJ ⟨rfl, H, hBl, hA, hU, hG⟩
  dsimp only at H hBl hA hU hG
  simp -implicitDefEqProofs (disch := first | omega | (simp only [LnZ]; omega)) [wrap64]
  cases c with
  | false =>
    simp -implicitDefEqProofs (disch := first | omega | (simp only [LnZ]; omega)) [wrap64, H.sw1.bxld0]
    exact RetK.keep (hk _ _ ⟨B, H.sw1.drop.sw1.drop.sw1.drop.sw1.drop, hBl, hG rfl⟩)
  | true =>
  simp -implicitDefEqProofs (disch := first | omega | (simp only [LnZ]; omega)) [wrap64, H.sw4.bxld0]
  refine wp_count a.acc.length (fun i e h' => ∃ c', e = [none, none, none, some (.pointer (some ⟨b3, 0, none⟩)), none, none, none, some (.pointer (some ⟨b7, 0, none⟩)), none, none, some fv, some (.bool c'), none, none, none, none, none, none, none, none, none, none, some (.int .i64 a.acc.length), some (.int .i64 i), none, none] ∧
    ∃ B', HS h [ow vb B', bx b7 [vb], ow vn T, bx b4 [vn], bx b3 [.int .i64 a.acc.length]] h' ∧ B'.length = a.acc.length ∧ Pass a (bitR B) (bitR B') c' i 0) ⟨false, by simp, B, H, hBl, Pass.start hA hU⟩ ?_
  rintro J1 i _ h12 hJ1 hi ⟨c', rfl, B', H, hBl', hP⟩
  simp -implicitDefEqProofs (disch := first | omega | (simp only [LnZ]; omega)) [wrap64]
  refine IteW.mk (fun hlt4 => ?_) (fun hge4 => ?_)
  · have hin : i < a.acc.length := by omega
    simp -implicitDefEqProofs (disch := first | omega | (simp only [LnZ]; omega)) [wrap64, H.sw4.bxld0]
    refine wp_count a.acc.length (fun j e h' => ∃ c', e = [none, none, none, some (.pointer (some ⟨b3, 0, none⟩)), none, none, none, some (.pointer (some ⟨b7, 0, none⟩)), none, none, some fv, some (.bool c'), some (.int .i64 i), none, none, none, none, none, none, none, none, none, some (.int .i64 a.acc.length), some (.int .i64 i), some (.int .i64 a.acc.length), some (.int .i64 j)] ∧
      ∃ B', HS h [ow vb B', bx b7 [vb], ow vn T, bx b4 [vn], bx b3 [.int .i64 a.acc.length]] h' ∧ B'.length = a.acc.length ∧ Pass a (bitR B) (bitR B') c' i j) ⟨c', by simp, B', H, hBl', hP⟩ ?_
    rintro J2 j _ h13 hJ2 hj ⟨c', rfl, B', H, hBl', hP⟩
    simp -implicitDefEqProofs (disch := first | omega | (simp only [LnZ]; omega)) [wrap64]
    refine IteW.mk (fun hlt5 => ?_) (fun hge5 => ?_)
    · have hjn : j < a.acc.length := by omega
      have hbg := bitR_get (B := B') (i := i) (j := j) (by omega)
      cases hb : (B'[i]'(by omega)).getLsbD j with
      | false =>
        simp -implicitDefEqProofs (disch := first | omega | (simp only [LnZ]; omega)) [wrap64, -BitVec.getLsbD_eq_getElem, H.sw1.bxld0, H.rep.U, u64_bit, hb]
        exact hJ2 _ _ hjn ⟨c', rfl, B', H, hBl', hP.keep fun hr => by rw [hbg, hb] at hr; simp at hr⟩
      | true =>
        simp -implicitDefEqProofs (disch := first | omega | (simp only [LnZ]; omega)) [wrap64, -BitVec.getLsbD_eq_getElem, H.sw1.bxld0, H.rep.U, u64_bit, hb, hfn]
        refine (c_simulates (i := i) (j := j) ha H.sw4.bxld0 H.sw3.bxld0 H.sw1.bxld0 H.sw2.rep H.rep hT hBl' hin hjn).go ?_
        rintro _ _ ⟨rfl, r, rfl, hr⟩
        cases r with
        | true =>
          simp -implicitDefEqProofs (disch := first | omega | (simp only [LnZ]; omega)) [wrap64]
          exact hJ2 _ _ hjn ⟨c', rfl, B', H, hBl', hP.keep fun _ => hr.1 rfl⟩
        | false =>
          simp -implicitDefEqProofs (disch := first | omega | (simp only [LnZ]; omega)) [wrap64, H.sw1.bxld0, H.rep.U, u64_clrB]
          refine H.storeF (clrB (B'[i]'(by omega)) j) (i := i) (by omega) rfl rfl trivial rfl fun h14 H => ?_
          simp -implicitDefEqProofs (disch := first | omega | (simp only [LnZ]; omega)) [wrap64]
          refine hJ2 _ _ hjn ⟨true, rfl, _, H, by simpa using hBl', ?_⟩
          rw [bitR_clr (by omega) (by omega)]
          exact hP.rem ha hin hjn (by rw [hbg, hb]) (fun hA => by have := hr.2 hA; simp at this)
    · simp -implicitDefEqProofs (disch := first | omega | (simp only [LnZ]; omega)) [wrap64]
      exact hJ1 _ _ hin ⟨c', rfl, B', H, hBl', hP.next (by omega)⟩
  · simp -implicitDefEqProofs (disch := first | omega | (simp only [LnZ]; omega)) [wrap64]
    refine hJ (B', c') _ _ ?_ ⟨rfl, H, hBl', hP.acc, hP.upper, fun hc => by dsimp only at hc; subst hc; exact hP.done (by omega)⟩
    cases c' with
    | true => have := hP.less rfl; simp; omega
    | false => simp [(hP.same rfl).1]
end Go.Proofs.YtglnelcmcimljaaGreat

namespace Go.Proofs.YtglnelcmcimljaaGreat
open Go
def unitR (h : Heap) (a b : Aut) (u : Value) (h' : Heap) : Prop := ∃ v, u = .tuple #[v, .bool (decide (a.Ok ∧ b.Ok ∧ (a.unite b).Ok))] ∧ HS h [ow v (if a.Ok ∧ b.Ok ∧ (a.unite b).Ok then a.unite b else Aut.empty)] h'
theorem unitR.no {h h' : Heap} {a b : Aut} (hn : ¬ (a.Ok ∧ b.Ok ∧ (a.unite b).Ok)) (H : HS h [] h') : unitR h a b (.tuple #[.agg #[.slice none 0 0, .slice none 0 0, .slice none 0 0], .bool false]) h' :=
  ⟨_, by rw [decide_eq_false hn], by rw [if_neg hn]; exact empty_ow H⟩
theorem unitR.yes {h h' : Heap} {a b : Aut} {v : Value} (hn : a.Ok ∧ b.Ok ∧ (a.unite b).Ok) (H : HS h [ow v (a.unite b)] h') : unitR h a b (.tuple #[v, .bool true]) h' :=
  ⟨_, by rw [decide_eq_true hn], by rw [if_pos hn]; exact H⟩
end Go.Proofs.YtglnelcmcimljaaGreat

namespace Go.Proofs.YtglnelcmcimljaaGreat
open Go
def inclR (R : Rl) (a b : Aut) : Bool := a.init.all fun i => b.init.any fun j => R i.toNat (j.toNat + a.acc.length)
def InclA (a b : Aut) (r : Bool) : Prop := (¬ (a.Ok ∧ b.Ok ∧ (a.unite b).Ok) ∧ r = false) ∨ ((a.Ok ∧ b.Ok ∧ (a.unite b).Ok) ∧ ∃ R, Great (a.unite b) R ∧ r = inclR R a b)
theorem InclA.eq {a b : Aut} {r s : Bool} (h : InclA a b r) (h' : InclA a b s) : r = s := by
  rcases h with ⟨h1, rfl⟩ | ⟨h1, R, hR, rfl⟩
  · rcases h' with ⟨_, rfl⟩ | ⟨h2, _⟩
    · rfl
    · exact absurd h2 h1
  · rcases h' with ⟨h2, _⟩ | ⟨_, S, hS, rfl⟩
    · exact absurd h1 h2
    · obtain ⟨ha, hb, hc⟩ := h1
      have hl : (a.unite b).acc.length = a.acc.length + b.acc.length := by simp [Aut.unite]
      have : ∀ i ∈ a.init, ∀ j ∈ b.init, R i.toNat (j.toNat + a.acc.length) = S i.toNat (j.toNat + a.acc.length) := by
        intro i hi j hj
        have h1 := incr_mem ha.i i hi
        have h2 := incr_mem hb.i j hj
        exact hR.eq hS (by omega) (by omega)
      unfold inclR
      rw [Bool.eq_iff_iff, List.all_eq_true, List.all_eq_true]
      constructor <;> intro h i hi <;> have h3 := h i hi <;> rw [List.any_eq_true] at h3 ⊢ <;> obtain ⟨j, hj, h4⟩ := h3 <;> exact ⟨j, hj, by first | rw [this i hi j hj] at h4; exact h4 | rw [← this i hi j hj] at h4; exact h4⟩
end Go.Proofs.YtglnelcmcimljaaGreat

namespace Go.Proofs.YtglnelcmcimljaaGreat
open Go
def cls (e : Nat → Nat → Bool) (n x : Nat) : Nat := (grpS e n).1.getD x 0
theorem gnm_cls {e : Nat → Nat → Bool} {n x : Nat} : gnm e n (x : Int) = (cls e n x : Int) := by simp [gnm, cls]
def Fresh (e : Nat → Nat → Bool) (r : Nat) : Prop := ∀ k, k < r → e r k = false
section
variable {e : Nat → Nat → Bool}
theorem grpS_mono {i n : Nat} (h : i ≤ n) : (grpS e i).2 ≤ (grpS e n).2 := by
  induction n with
  | zero => obtain rfl : i = 0 := by omega
            exact Nat.le_refl _
  | succ n ih =>
    by_cases hi : i = n + 1
    · subst hi; exact Nat.le_refl _
    · have := ih (by omega)
      cases hf : (List.range n).find? (fun k => e n k) with
      | some k => rw [grpS_old hf]; exact this
      | none => rw [grpS_new hf]; simp only; omega
theorem cls_new {n r : Nat} (hr : r < n) (hf : Fresh e r) : cls e n r = (grpS e r).2 := by
  have hn : (List.range r).find? (fun k => e r k) = none := find_none hf
  unfold cls
  rw [grpS_get (i := r + 1) (by omega) (by omega), grpS_new hn, List.getD_eq_getElem?_getD, List.getElem?_append_right (by rw [grpS_len]; exact Nat.le_refl _), grpS_len]
  simp
theorem cls_old {n q k : Nat} (hq : q < n) (hf : (List.range q).find? (fun k => e q k) = some k) : cls e n q = cls e n k := by
  have hk := find_lt hf
  unfold cls
  rw [grpS_get (i := q + 1) (n := n) (q := q) (by omega) (by omega), grpS_old hf, List.getD_eq_getElem?_getD, List.getElem?_append_right (by rw [grpS_len]; exact Nat.le_refl _), grpS_len,
    grpS_get (i := q) (n := n) (q := k) hk (by omega)]
  simp
theorem cls_lt {n x : Nat} (hx : x < n) : cls e n x < (grpS e n).2 := by
  have := gnm_lt (e := e) (n := n) (x := x) (by omega) (by omega)
  rw [gnm_cls] at this
  omega
theorem find_some {p : Nat → Bool} {i k : Nat} (h : (List.range i).find? p = some k) : p k = true := by
  have := List.find?_some h
  exact this
theorem find_fresh {r : Nat} (h : (List.range r).find? (fun k => e r k) = none) : Fresh e r := by
  intro k hk
  rw [List.find?_eq_none] at h
  have := h k (List.mem_range.2 hk)
  simpa using this
theorem cls_rep {n : Nat} (htr : ∀ x y z, x < n → y < n → z < n → e x y = true → e y z = true → e x z = true) : ∀ m q, q ≤ m → q < n → ∃ r, r < n ∧ (r = q ∨ e q r = true) ∧ cls e n r = cls e n q ∧ Fresh e r
  | m, q, hm, hq => by
    cases hf : (List.range q).find? (fun k => e q k) with
    | none => exact ⟨q, hq, .inl rfl, rfl, find_fresh hf⟩
    | some k =>
      have hk := find_lt hf
      have hek := find_some hf
      cases m with
      | zero => omega
      | succ m =>
        obtain ⟨r, h1, h2, h3, h4⟩ := cls_rep htr m k (by omega) (by omega)
        refine ⟨r, h1, .inr ?_, by rw [h3, cls_old hq hf], h4⟩
        rcases h2 with rfl | h2
        · exact hek
        · exact htr _ _ _ hq (by omega) h1 hek h2
theorem fresh_inj {n r s : Nat} (hr : r < n) (hs : s < n) (fr : Fresh e r) (fs : Fresh e s) (h : cls e n r = cls e n s) : r = s := by
  have lt : ∀ {r s : Nat}, r < n → s < n → Fresh e r → Fresh e s → r < s → cls e n r < cls e n s := by
    intro r s hr hs fr fs hlt
    rw [cls_new hs fs, cls_new hr fr]
    have h1 := grpS_new (e := e) (i := r) (find_none fr)
    have h2 := grpS_mono (e := e) (show r + 1 ≤ s by omega)
    rw [h1] at h2
    simp only at h2
    omega
  by_cases h1 : r < s
  · have := lt hr hs fr fs h1; omega
  by_cases h2 : s < r
  · have := lt hs hr fs fr h2; omega
  omega
theorem cls_same {n p q : Nat} (hsy : ∀ x y, x < n → y < n → e x y = true → e y x = true) (htr : ∀ x y z, x < n → y < n → z < n → e x y = true → e y z = true → e x z = true) (hp : p < n) (hq : q < n) :
    cls e n p = cls e n q ↔ p = q ∨ e p q = true := by
  obtain ⟨r, h1, h2, h3, h4⟩ := cls_rep htr p p (Nat.le_refl _) hp
  obtain ⟨s, g1, g2, g3, g4⟩ := cls_rep htr q q (Nat.le_refl _) hq
  constructor
  · intro h
    have hrs := fresh_inj h1 g1 h4 g4 (by rw [h3, g3, h])
    subst hrs
    rcases h2 with rfl | h2
    · rcases g2 with rfl | g2
      · exact .inl rfl
      · exact .inr (hsy _ _ hq hp g2)
    · rcases g2 with rfl | g2
      · exact .inr h2
      · exact .inr (htr _ _ _ hp h1 hq h2 (hsy _ _ hq h1 g2))
  · rintro (rfl | h)
    · rfl
    · have hrs : r = s := by
        have hers : r = s ∨ e r s = true := by
          rcases h2 with rfl | h2
          · rcases g2 with rfl | g2
            · exact .inr h
            · exact .inr (htr _ _ _ hp hq g1 h g2)
          · have h5 := htr _ _ _ h1 hp hq (hsy _ _ hp h1 h2) h
            rcases g2 with rfl | g2
            · exact .inr h5
            · exact .inr (htr _ _ _ h1 hq g1 h5 g2)
        rcases hers with h5 | h5
        · exact h5
        by_cases h6 : r < s
        · have := g4 r h6
          rw [hsy _ _ h1 g1 h5] at this
          simp at this
        by_cases h7 : s < r
        · have := h4 s h7
          rw [h5] at this
          simp at this
        omega
      rw [← h3, ← g3, hrs]
theorem accG_at {a : Aut} : ∀ {n r : Nat}, r < n → Fresh e r → (accG a e n).getD (grpS e r).2 false = a.acc.getD r false
  | 0, r, h, _ => absurd h (Nat.not_lt_zero r)
  | n + 1, r, h, hf => by
    have hl := accG_len (a := a) (e := e) n
    by_cases hr : r = n
    · subst hr
      unfold accG
      rw [find_none hf]
      simp only
      rw [List.getD_eq_getElem?_getD, List.getElem?_append_right (by omega), hl]
      simp
    · have ih := accG_at (a := a) (show r < n by omega) hf
      unfold accG
      split
      · exact ih
      · have h1 := grpS_new (e := e) (i := r) (find_none hf)
        have h2 := grpS_mono (e := e) (show r + 1 ≤ n by omega)
        rw [h1] at h2
        simp only at h2
        rw [List.getD_eq_getElem?_getD, List.getElem?_append_left (by omega), ← List.getD_eq_getElem?_getD]
        exact ih
end
section
variable {a : Aut} {R : Rl}
theorem eqv_iff {x y : Nat} : eqv R x y = true ↔ R x y = true ∧ R y x = true := by simp [eqv]
theorem eqv_sy {n : Nat} : ∀ x y, x < n → y < n → eqv R x y = true → eqv R y x = true := fun x y _ _ h => eqv_iff.2 (eqv_iff.1 h).symm
theorem eqv_tr (ha : a.Ok) (hR : Great a R) : ∀ x y z, x < a.acc.length → y < a.acc.length → z < a.acc.length → eqv R x y = true → eqv R y z = true → eqv R x z = true := fun x y z hx hy hz h k => by
  rw [eqv_iff] at *
  exact ⟨hR.trans ha hx hy hz h.1 k.1, hR.trans ha hz hy hx k.2 h.2⟩
theorem cls_R (ha : a.Ok) (hR : Great a R) {p q : Nat} (hp : p < a.acc.length) (hq : q < a.acc.length) (h : cls (eqv R) a.acc.length p = cls (eqv R) a.acc.length q) : R p q = true := by
  rcases (cls_same eqv_sy (eqv_tr ha hR) hp hq).1 h with rfl | h
  · exact hR.refl hp
  · exact (eqv_iff.1 h).1
theorem mrg_st {w : Nat → Int} {t p q : Nat} (h : StE a.edges w t p q) : StE (a.mergeE (eqv R)).edges w t (cls (eqv R) a.acc.length p) (cls (eqv R) a.acc.length q) := by
  obtain ⟨f, hf, h1, h2, h3⟩ := h
  exact ⟨_, ded_mem.2 (List.mem_map_of_mem hf), by simp only [Tr.ren, h1, gnm_cls], by simp only [Tr.ren, h2, gnm_cls], h3⟩
theorem mrg_st' (ha : a.Ok) {w : Nat → Int} {t x y : Nat} (h : StE (a.mergeE (eqv R)).edges w t x y) : ∃ p q, StE a.edges w t p q ∧ x = cls (eqv R) a.acc.length p ∧ y = cls (eqv R) a.acc.length q := by
  obtain ⟨f, hf, h1, h2, h3⟩ := h
  obtain ⟨g, hg, rfl⟩ := List.mem_map.1 (ded_mem.1 hf)
  obtain ⟨u, v, k1, k2, k3, k4⟩ := ha.tr hg
  simp only [Tr.ren, k1, k2, gnm_cls] at h1 h2
  exact ⟨u, v, ⟨g, hg, k1, k2, h3⟩, by omega, by omega⟩
theorem mrg_tru (ha : a.Ok) (hR : Great a R) {p : Nat} (hp : p < a.acc.length) : tru (a.mergeE (eqv R)).acc (cls (eqv R) a.acc.length p) ↔ tru a.acc p := by
  obtain ⟨r, h1, h2, h3, h4⟩ := cls_rep (eqv_tr ha hR) p p (Nat.le_refl _) hp
  have h5 := accG_at (a := a) h1 h4
  rw [← cls_new h1 h4, h3] at h5
  have e1 := cls_R ha hR hp h1 h3.symm
  have e2 := cls_R ha hR h1 hp h3
  show (accG a (eqv R) a.acc.length).getD _ false = true ↔ _
  rw [h5]
  exact ⟨fun h => hR.simu.1 r p h1 hp e2 h, fun h => hR.simu.1 p r hp h1 e1 h⟩
theorem mrg_ini (ha : a.Ok) {s : Nat} (h : (s : Int) ∈ a.init) : ((cls (eqv R) a.acc.length s : Nat) : Int) ∈ (a.mergeE (eqv R)).init := by
  refine memL_mem.2 ⟨_, rfl, cls_lt (ha.ini h), ?_⟩
  rw [List.any_eq_true]
  exact ⟨_, h, by rw [gnm_cls]; simp⟩
theorem mrg_ini' (ha : a.Ok) {x : Nat} (h : (x : Int) ∈ (a.mergeE (eqv R)).init) : ∃ s : Nat, (s : Int) ∈ a.init ∧ x = cls (eqv R) a.acc.length s := by
  obtain ⟨q, h1, h2, h3⟩ := memL_mem.1 h
  rw [List.any_eq_true] at h3
  obtain ⟨i, hi, h4⟩ := h3
  have h5 := incr_mem ha.i i hi
  obtain ⟨s, rfl⟩ : ∃ s : Nat, i = s := ⟨i.toNat, by omega⟩
  rw [gnm_cls, decide_eq_true_eq] at h4
  exact ⟨s, hi, by omega⟩
theorem mergeE_lang (ha : a.Ok) (hR : Great a R) {w : Nat → Int} (hw : Letters w) : (a.mergeE (eqv R)).Lang w ↔ a.Lang w := by
  constructor
  · rintro ⟨x, hx, h⟩
    obtain ⟨s, h1, rfl⟩ := mrg_ini' ha hx
    have hs := ha.ini h1
    refine ⟨s, h1, Run.sim (fun x p => p < a.acc.length ∧ ∃ y, y < a.acc.length ∧ x = cls (eqv R) a.acc.length y ∧ R y p = true) ?_ ?_ h ⟨hs, s, hs, rfl, hR.refl hs⟩⟩
    · rintro t x x' p ⟨g1, y, g2, rfl, g3⟩ g4 _
      obtain ⟨u, v, ⟨e, he, k1, k2, k3⟩, k4, rfl⟩ := mrg_st' ha g4
      obtain ⟨u', v', m1, m2, m3, m4⟩ := ha.tr he
      obtain rfl : u' = u := by omega
      obtain rfl : v' = v := by omega
      have h5 := hR.trans ha m3 g2 g1 (cls_R ha hR m3 g2 k4.symm) g3
      have h6 := hw t
      obtain ⟨n, hn⟩ : ∃ n : Nat, w t = n := ⟨(w t).toNat, by omega⟩
      rw [hn] at k3
      obtain ⟨f, hf, n1, n2, n3⟩ := hR.simu.2 _ p m3 g1 h5 n (by omega) e he k1 k3
      obtain ⟨c, d, o1, o2, o3, o4⟩ := ha.tr hf
      rw [k2, o2, Int.toNat_natCast, Int.toNat_natCast] at n3
      exact ⟨d, ⟨f, hf, n1, o2, by rw [hn]; exact n2⟩, o4, _, m4, rfl, n3⟩
    · rintro x p ⟨g1, y, g2, rfl, g3⟩ g4
      exact hR.simu.1 y p g2 g1 g3 ((mrg_tru ha hR g2).1 g4)
  · rintro ⟨s, hs, h⟩
    refine ⟨_, mrg_ini ha hs, Run.sim (fun p x => p < a.acc.length ∧ x = cls (eqv R) a.acc.length p) ?_ ?_ h ⟨ha.ini hs, rfl⟩⟩
    · rintro t p q x ⟨g1, rfl⟩ g2 _
      exact ⟨_, mrg_st g2, (ha.st g2).2, rfl⟩
    · rintro p x ⟨g1, rfl⟩ g2
      exact (mrg_tru ha hR g1).2 g2
end
theorem Great.ex {a : Aut} (ha : a.Ok) : ∃ R, Great a R := by
  refine ⟨fun i j => @decide (∃ S, Simu a S ∧ S i j = true) (Classical.propDecidable _), ⟨?_, ?_⟩, ?_⟩
  · intro i j hi hj h h1
    simp only [decide_eq_true_eq] at h
    obtain ⟨S, hS, h2⟩ := h
    exact hS.1 i j hi hj h2 h1
  · intro i j hi hj h
    simp only [decide_eq_true_eq] at h
    obtain ⟨S, hS, h2⟩ := h
    refine (hS.2 i j hi hj h2).mono ha fun x y _ _ hxy => ?_
    simp only [decide_eq_true_eq]
    exact ⟨S, hS, hxy⟩
  · intro S hS i j _ _ h
    simp only [decide_eq_true_eq]
    exact ⟨S, hS, h⟩
theorem mrg_lang {a : Aut} (ha : a.Ok) {w : Nat → Int} (hw : Letters w) : a.mrg.Lang w ↔ a.Lang w := by
  obtain ⟨R, hR⟩ := Great.ex ha
  rw [← Aut.mrg_eq hR]
  exact mergeE_lang ha hR hw
theorem rnd_lang {a : Aut} (ha : a.Ok) {w : Nat → Int} (hw : Letters w) : a.rnd.Lang w ↔ a.Lang w := (mrg_lang (Aut.trim_ok ha) hw).trans (trim_lang ha)
theorem SmpR.all {a r : Aut} (h : SmpR a r) : a.Ok → (∀ {w}, Letters w → (r.Lang w ↔ a.Lang w)) ∧ r.acc.length ≤ a.acc.length ∧ r.rnd = r := by
  induction h with
  | stop h => intro ha; exact ⟨fun _ => Iff.rfl, Nat.le_refl _, h⟩
  | more h _ ih =>
    intro ha
    obtain ⟨h1, h2, h3⟩ := ih (Aut.rnd_ok ha)
    have h4 := (Aut.mrg_len (Aut.trim_ok ha)).1
    have h5 := (Aut.trim_len ha).1
    exact ⟨fun hw => (h1 hw).trans (rnd_lang ha hw), Nat.le_trans h2 (Nat.le_trans h4 h5), h3⟩
section
variable {a b : Aut}
end
end Go.Proofs.YtglnelcmcimljaaGreat

namespace Go.Proofs.YtglnelcmcimljaaGreat
open Go
def leav (es : List Tr) (i : Nat) : List Tr := es.filter fun e => e.frm = (i : Int)
theorem leav_take {es : List Tr} {k i : Nat} (hk : k < es.length) : leav (es.take (k + 1)) i = leav (es.take k) i ++ (if es[k].frm = (i : Int) then [es[k]] else []) := by
  rw [leav, leav, List.take_add_one, List.getElem?_eq_getElem hk]
  simp only [Option.toList_some, List.filter_append]
  congr 1
  by_cases h : es[k].frm = (i : Int) <;> simp [h]
theorem leav_len {es : List Tr} {i : Nat} : (leav es i).length ≤ es.length := List.length_filter_le _ _
theorem c_l13Leaving {h : Heap} {v : Value} {a : Aut} (Ra : Rep h v a) (ha : a.Ok) : CallE Tryz.prog fn_spec_l13Leaving [v] h (fun u h' => ∃ L : List (List Tr), HS h [ow u L] h' ∧ L.length = a.acc.length ∧ ∀ i (hi : i < L.length), L[i] = leav a.edges i) := by
  obtain ⟨v1, v2, v3, rfl, R1, R2, R3⟩ := Rep_Aut.1 Ra
  refine CallE.gen fun k hk => EN_spec_l13Leaving rfl ?_
  have hn := ha.n
  have he := ha.e
  simp -implicitDefEqProofs (disch := first | omega | (simp only [LnZ]; omega)) [wrap64, R2.len]
  refine HS.init.mks (α := List Tr) (z := []) rfl rfl own_nils (Nat.le_refl _) (by omega) (by omega) fun vo h1 H => ?_
  simp -implicitDefEqProofs (disch := first | omega | (simp only [LnZ]; omega)) [wrap64]
  refine wp_count a.edges.length (fun k e h' => e = [none, some (.agg #[v1, v2, v3]), none, some vo, some (.int .i64 k)] ∧
    ∃ L : List (List Tr), HS h [ow vo L] h' ∧ L.length = a.acc.length ∧ ∀ i (hi : i < L.length), L[i] = leav (a.edges.take k) i) ⟨by simp, _, H, by simp, fun i hi => by simp [leav]⟩ ?_
  rintro J k _ h2 hJ hi ⟨rfl, L, H, hL, hE⟩
  simp -implicitDefEqProofs (disch := first | omega | (simp only [LnZ]; omega)) [wrap64, (R3.on H).len]
  refine IteW.mk (fun hlt => ?_) (fun hge => ?_)
  · have hlx : k < a.edges.length := by omega
    have hx := ha.t hlx
    have hv := R3.okTr hlx
    unfold Tr.Ok at hx
    obtain ⟨f, hf⟩ : ∃ f : Nat, a.edges[k].frm = f := ⟨a.edges[k].frm.toNat, by omega⟩
    have hfL : f < L.length := by omega
    obtain ⟨w, hw, HT⟩ := H.take hfL
    change hload _ (some (elp 1 vo f)) none = some w at hw
    have hl := leav_len (es := a.edges.take k) (i := f)
    have hl2 : (a.edges.take k).length ≤ a.edges.length := by simp; omega
    rw [hE f hfL] at HT
    simp -implicitDefEqProofs (disch := first | omega | (simp only [LnZ]; omega)) [wrap64, (R3.on H).fTr, (R3.on H).xTr, hf, H.rep.X (n := 1) rfl, hw, Tr.v, setC]
    refine HT.app1 a.edges[k] rfl rfl ?_ (R3.okF hlx) rfl rfl ?_ (by omega) fun w' h3 HT => ?_
    · rw [← hf]; rfl
    · omega
    simp -implicitDefEqProofs (disch := first | omega | (simp only [LnZ]; omega)) [wrap64, HS.holeia HT.sw1 (n := 1) rfl hfL, (R3.on HT).fTr, hf]
    refine HS.storeH HT rfl rfl rfl fun h4 H => ?_
    simp -implicitDefEqProofs (disch := first | omega | (simp only [LnZ]; omega)) [wrap64]
    refine hJ _ _ hlx ⟨rfl, _, H, by simpa using hL, fun i hi => ?_⟩
    rw [leav_take hlx, hf]
    rw [List.getElem_set]
    by_cases hif : f = i
    · subst hif; simp
    · have h5 : ¬ (f : Int) = (i : Int) := by omega
      rw [if_neg hif, if_neg h5, hE i (by simpa using hi)]; simp
  · simp -implicitDefEqProofs (disch := first | omega | (simp only [LnZ]; omega)) [wrap64]
    rw [List.take_of_length_le (by omega)] at hE
    exact RetK.keep (hk _ _ ⟨L, H, hL, hE⟩)
theorem c_l13Answers {h : Heap} {v w u : Value} {fs gs : List Tr} {M : List (List Bool)} {n : Nat} (hn : n ≤ 64) (Rf : Rep h v fs) (Rg : Rep h w gs) (RM : Rep h u M) (hM : M.length = n) (hr : ∀ r ∈ M, r.length = n) (hf : ∀ e ∈ fs, e.Ok n) (hg : ∀ e ∈ gs, e.Ok n) :
    CallE Tryz.prog fn_spec_l13Answers [v, w, u] h (fun z h' => h' = h ∧ ∃ r : Bool, z = .bool r ∧ (r = true ↔ ∀ l : Nat, l < 8 → ∀ e ∈ fs, e.on l = true → ∃ f ∈ gs, f.on l = true ∧ matR M e.to.toNat f.to.toNat = true)) := by
  refine CallE.gen fun k hk => EN_spec_l13Answers rfl ?_
  have e1 := Rf.lt
  have e2 := Rg.lt
  simp -implicitDefEqProofs (disch := first | omega | (simp only [LnZ]; omega)) [wrap64]
  refine wp_count 8 (fun l e h' => h' = h ∧ e = [some v, some w, some u, none, some (.int .i64 l), none, none, none] ∧
    ∀ l' < l, ∀ e ∈ fs, e.on (l' : Nat) = true → ∃ f ∈ gs, f.on (l' : Nat) = true ∧ matR M e.to.toNat f.to.toNat = true) ⟨rfl, by simp, fun l' hl' => absurd hl' (Nat.not_lt_zero l')⟩ ?_
  rintro J l _ h hJ hl ⟨rfl, rfl, hA⟩
  simp -implicitDefEqProofs (disch := first | omega | (simp only [LnZ]; omega)) [wrap64]
  refine IteW.mk (fun hlt => ?_) (fun hge => ?_)
  · have hl8 : l < 8 := by omega
    simp -implicitDefEqProofs (disch := first | omega | (simp only [LnZ]; omega)) [wrap64]
    refine wp_count fs.length (fun k e h' => h' = _ ∧ e = [some v, some w, some u, none, some (.int .i64 l), some (.int .i64 k), none, none] ∧
      ∀ k' (hk' : k' < fs.length), k' < k → fs[k'].on (l : Nat) = true → ∃ f ∈ gs, f.on (l : Nat) = true ∧ matR M fs[k'].to.toNat f.to.toNat = true) ⟨rfl, by simp, fun k' _ hk' => absurd hk' (Nat.not_lt_zero k')⟩ ?_
    rintro J2 k _ h hJ2 hk2 ⟨rfl, rfl, hA2⟩
    simp -implicitDefEqProofs (disch := first | omega | (simp only [LnZ]; omega)) [wrap64, Rf.len]
    refine IteW.mk (fun hlt2 => ?_) (fun hge2 => ?_)
    · have hkx : k < fs.length := by omega
      have hnext : (fs[k].on (l : Nat) = true → ∃ f ∈ gs, f.on (l : Nat) = true ∧ matR M fs[k].to.toNat f.to.toNat = true) → ∀ k' (hk' : k' < fs.length), k' < k + 1 → fs[k'].on (l : Nat) = true → ∃ f ∈ gs, f.on (l : Nat) = true ∧ matR M fs[k'].to.toNat f.to.toNat = true := by
        intro h0 k' hk' hkk ho
        by_cases h1 : k' = k
        · subst h1; exact h0 ho
        · exact hA2 k' hk' (by omega) ho
      simp -implicitDefEqProofs (disch := first | omega | (simp only [LnZ]; omega)) [wrap64, Rf.xTr]
      refine (c_l7On (Rep_Tr.2 ⟨rfl, Rf.okTr hkx⟩)).go ?_
      rintro _ _ ⟨rfl, rfl⟩
      by_cases ho : fs[k].on l = true
      case neg =>
        simp -implicitDefEqProofs (disch := first | omega | (simp only [LnZ]; omega)) [wrap64, ho]
        exact hJ2 _ _ hkx ⟨rfl, rfl, hnext fun h => absurd h ho⟩
      have hok := hf _ (List.getElem_mem hkx)
      unfold Tr.Ok at hok
      obtain ⟨t, ht⟩ : ∃ t : Nat, fs[k].to = t := ⟨fs[k].to.toNat, by omega⟩
      rw [ht, Int.toNat_natCast] at hnext
      obtain ⟨z, hz, Rz⟩ := RM.ldL (i := t) (by omega)
      have hzl := hr _ (List.getElem_mem (show t < M.length by omega))
      simp -implicitDefEqProofs (disch := first | omega | (simp only [LnZ]; omega)) [wrap64, ho]
      refine wp_while (σ := Nat × Bool) (fun s e h' => h' = _ ∧ e = [some v, some w, some u, none, some (.int .i64 l), some (.int .i64 k), some (.bool s.2), some (.int .i64 s.1)] ∧ s.1 ≤ gs.length ∧
        (if s.2 = true then ∃ f ∈ gs, f.on (l : Nat) = true ∧ matR M t f.to.toNat = true else ∀ m' (hm' : m' < gs.length), m' < s.1 → ¬ (gs[m'].on (l : Nat) = true ∧ matR M t gs[m'].to.toNat = true)))
        (fun s => gs.length - s.1) (0, false) ⟨rfl, by simp, by simp, by simp⟩ ?_
      rintro J3 ⟨m, some'⟩ _ h hJ3 ⟨rfl, rfl, hm, hS⟩
      dsimp only at hm hS
      by_cases hmx : m < gs.length
      case neg =>
        simp -implicitDefEqProofs (disch := first | omega | (simp only [LnZ]; omega)) [wrap64, Rg.len, hmx]
        cases some' with
        | true =>
          simp -implicitDefEqProofs (disch := first | omega | (simp only [LnZ]; omega)) [wrap64]
          exact hJ2 _ _ hkx ⟨rfl, rfl, hnext fun _ => by simpa using hS⟩
        | false =>
          simp -implicitDefEqProofs (disch := first | omega | (simp only [LnZ]; omega)) [wrap64]
          refine RetK.keep (hk _ _ ⟨rfl, false, rfl, ?_⟩)
          simp only [Bool.false_eq_true, false_iff]
          intro h
          obtain ⟨f, hf, h1, h2⟩ := h l hl8 _ (List.getElem_mem hkx) ho
          obtain ⟨m', hm', rfl⟩ := List.mem_iff_getElem.1 hf
          rw [ht, Int.toNat_natCast] at h2
          exact (by simpa using hS : ∀ m' (hm' : m' < gs.length), m' < m → ¬ (gs[m'].on (l : Nat) = true ∧ matR M t gs[m'].to.toNat = true)) m' hm' (by omega) ⟨h1, h2⟩
      cases some' with
      | true =>
        simp -implicitDefEqProofs (disch := first | omega | (simp only [LnZ]; omega)) [wrap64, Rg.len, hmx]
        exact hJ2 _ _ hkx ⟨rfl, rfl, hnext fun _ => by simpa using hS⟩
      | false =>
        have hS' : ∀ m' (hm' : m' < gs.length), m' < m → ¬ (gs[m'].on (l : Nat) = true ∧ matR M t gs[m'].to.toNat = true) := by simpa using hS
        simp -implicitDefEqProofs (disch := first | omega | (simp only [LnZ]; omega)) [wrap64, Rg.len, hmx, Rg.xTr]
        refine (c_l7On (Rep_Tr.2 ⟨rfl, Rg.okTr hmx⟩)).go ?_
        rintro _ _ ⟨rfl, rfl⟩
        by_cases ho2 : gs[m].on l = true
        · have hok2 := hg _ (List.getElem_mem hmx)
          unfold Tr.Ok at hok2
          obtain ⟨t2, ht2⟩ : ∃ t2 : Nat, gs[m].to = t2 := ⟨gs[m].to.toNat, by omega⟩
          simp -implicitDefEqProofs (disch := first | omega | (simp only [LnZ]; omega)) [wrap64, ho2, Rf.X (n := 4) rfl, Rf.fTr, ht, RM.X (n := 1) rfl, hz, Rg.X (n := 4) rfl, Rg.fTr, ht2, Rz.B]
          refine hJ3 (m + 1, M[t][t2]'(by omega)) _ _ (by simp; omega) ⟨rfl, rfl, hmx, ?_⟩
          have hmat : matR M t t2 = M[t][t2]'(by omega) := matR_get (by omega) (by omega)
          cases hb : M[t][t2]'(by omega) with
          | true => exact ⟨_, List.getElem_mem hmx, ho2, by rw [ht2]; simp [hmat, hb]⟩
          | false =>
            simp only [Bool.false_eq_true, if_false]
            intro m' hm' hmm
            by_cases h1 : m' = m
            · subst h1; rintro ⟨_, h2⟩; rw [ht2, Int.toNat_natCast, hmat, hb] at h2; simp at h2
            · exact hS' m' hm' (by omega)
        · simp -implicitDefEqProofs (disch := first | omega | (simp only [LnZ]; omega)) [wrap64, ho2]
          refine hJ3 (m + 1, false) _ _ (by simp; omega) ⟨rfl, rfl, hmx, ?_⟩
          simp only [Bool.false_eq_true, if_false]
          intro m' hm' hmm
          by_cases h1 : m' = m
          · subst h1; exact fun h => ho2 h.1
          · exact hS' m' hm' (by omega)
    · simp -implicitDefEqProofs (disch := first | omega | (simp only [LnZ]; omega)) [wrap64]
      refine hJ _ _ hl8 ⟨rfl, rfl, fun l' hl' e he ho => ?_⟩
      by_cases h1 : l' = l
      · subst h1
        obtain ⟨k', hk', rfl⟩ := List.mem_iff_getElem.1 he
        exact hA2 k' hk' (by omega) ho
      · exact hA l' (by omega) e he ho
  · simp -implicitDefEqProofs (disch := first | omega | (simp only [LnZ]; omega)) [wrap64]
    refine RetK.keep (hk _ _ ⟨rfl, true, rfl, ?_⟩)
    simp only [true_iff]
    intro l' hl' e he ho
    exact hA l' (by omega) e he ho
theorem c_l13Relation {h : Heap} {v : Value} {a : Aut} (Ra : Rep h v a) (ha : a.Ok) : CallE Tryz.prog fn_spec_l13Relation [v] h (fun u h' => ∃ M : List (List Bool), HS h [ow u M] h' ∧ M.length = a.acc.length ∧ (∀ r ∈ M, r.length = a.acc.length) ∧ Great a (matR M)) := by
  obtain ⟨v1, v2, v3, rfl, R1, R2, R3⟩ := Rep_Aut.1 Ra
  refine CallE.gen fun k hk => EN_spec_l13Relation rfl ?_
  have hn := ha.n
  have he := ha.e
  simp -implicitDefEqProofs (disch := first | omega | (simp only [LnZ]; omega)) [wrap64, R2.len]
  refine HS.init.bls0 (List Bool) fun vm h1 H => ?_
  simp -implicitDefEqProofs (disch := first | omega | (simp only [LnZ]; omega)) [wrap64]
  refine wp_count a.acc.length (fun i e h' => ∃ vm, e = [none, some (.agg #[v1, v2, v3]), none, some (.int .i64 a.acc.length), some vm, some (.int .i64 i), none, none, none, none, none, none] ∧
    ∃ M : List (List Bool), HS h [ow vm M] h' ∧ M.length = i ∧ ∀ x (hx : x < M.length), M[x] = (List.range a.acc.length).map (acc0 a x)) ⟨vm, by simp, [], H, rfl, fun x hx => by simp at hx⟩ ?_
  rintro J i _ h2 hJ hi ⟨vm, rfl, M, H, hM, hE⟩
  simp -implicitDefEqProofs (disch := first | omega | (simp only [LnZ]; omega)) [wrap64]
  refine IteW.mk (fun hlt => ?_) (fun hge => ?_)
  · have hin : i < a.acc.length := by omega
    simp -implicitDefEqProofs (disch := first | omega | (simp only [LnZ]; omega)) [wrap64]
    refine H.bls0 Bool fun vr h3 H => ?_
    simp -implicitDefEqProofs (disch := first | omega | (simp only [LnZ]; omega)) [wrap64]
    refine wp_count a.acc.length (fun j e h' => ∃ vr, e = [none, some (.agg #[v1, v2, v3]), none, some (.int .i64 a.acc.length), some vm, some (.int .i64 i), some vr, some (.int .i64 j), none, none, none, none] ∧
      HS h [ow vr ((List.range j).map (acc0 a i)), ow vm M] h') ⟨vr, by simp, H⟩ ?_
    rintro J2 j _ h4 hJ2 hj ⟨vr, rfl, H⟩
    simp -implicitDefEqProofs (disch := first | omega | (simp only [LnZ]; omega)) [wrap64]
    refine IteW.mk (fun hlt2 => ?_) (fun hge2 => ?_)
    · have hjn : j < a.acc.length := by omega
      have hc := cond_acc0 hin hjn
      have hnext : ∀ b : Bool, b = acc0 a i j → (List.range j).map (acc0 a i) ++ [b] = (List.range (j + 1)).map (acc0 a i) := by
        rintro b rfl; rw [List.range_succ, List.map_append]; rfl
      by_cases h1 : a.acc[i] = true
      · simp -implicitDefEqProofs (disch := first | omega | (simp only [LnZ]; omega)) [wrap64, (R2.on H).B, h1]
        refine H.app1 a.acc[j] rfl rfl rfl trivial rfl rfl ?_ ?_ fun vr' h5 H => ?_
        · simp; omega
        · simp; omega
        simp -implicitDefEqProofs (disch := first | omega | (simp only [LnZ]; omega)) [wrap64]
        rw [hnext _ (by rw [hc, h1]; simp)] at H
        exact hJ2 _ _ hjn ⟨vr', rfl, H⟩
      · simp -implicitDefEqProofs (disch := first | omega | (simp only [LnZ]; omega)) [wrap64, (R2.on H).B, h1]
        refine H.app1 true rfl rfl rfl trivial rfl rfl ?_ ?_ fun vr' h5 H => ?_
        · simp; omega
        · simp; omega
        simp -implicitDefEqProofs (disch := first | omega | (simp only [LnZ]; omega)) [wrap64]
        rw [hnext _ (by rw [hc]; simp [h1])] at H
        exact hJ2 _ _ hjn ⟨vr', rfl, H⟩
    · simp -implicitDefEqProofs (disch := first | omega | (simp only [LnZ]; omega)) [wrap64, H.rep.cells]
      have hjn : j = a.acc.length := by omega
      subst hjn
      refine H.appO rfl rfl (by rw [H.rep.cells]; rfl) rfl rfl ?_ ?_ fun vm' h5 H => ?_
      · omega
      · omega
      simp -implicitDefEqProofs (disch := first | omega | (simp only [LnZ]; omega)) [wrap64]
      refine hJ _ _ hin ⟨vm', rfl, _, H, by simp [hM], fun x hx => ?_⟩
      by_cases hxi : x < M.length
      · rw [List.getElem_append_left hxi]; exact hE x hxi
      · have : x = i := by simp at hx; omega
        subst this
        rw [List.getElem_append_right (by omega)]; simp
  simp -implicitDefEqProofs (disch := first | omega | (simp only [LnZ]; omega)) [wrap64]
  have hMn : M.length = a.acc.length := by omega
  have hr : ∀ r ∈ M, r.length = a.acc.length := by
    intro r hr
    obtain ⟨x, hx, rfl⟩ := List.mem_iff_getElem.1 hr
    rw [hE x hx]; simp
  have hB2 : ∀ x y, x < a.acc.length → y < a.acc.length → matR M x y = acc0 a x y := by
    intro x y hx hy
    have h1 := hE x (by omega)
    rw [matR_get (by omega) (by rw [h1]; simpa using hy)]
    simp [h1]
  have hA : AccR a (matR M) := fun x y hx hy hr => acc0_acc a x y hx hy (by rw [← hB2 x y hx hy]; exact hr)
  have hU : Upper a (matR M) := fun S hS x y hx hy hr => by rw [hB2 x y hx hy]; exact acc0_upper a S hS x y hx hy hr
  refine (c_l13Leaving (Ra.on H) ha).go ?_
  rintro vl h3 ⟨L, HL, hL, hLE⟩
  have H := (HL.app H).sw1
  simp -implicitDefEqProofs (disch := first | omega | (simp only [LnZ]; omega)) [wrap64]
  have hok : ∀ i (hi : i < L.length), ∀ e ∈ L[i], e.Ok a.acc.length := by
    intro i hi e he
    rw [hLE i hi] at he
    exact ha.2.2.2 e (List.mem_filter.1 he).1
  have hans : ∀ M : List (List Bool), ∀ i j (hi : i < L.length) (hj : j < L.length), ((∀ l : Nat, l < 8 → ∀ e ∈ L[i], e.on l = true → ∃ f ∈ L[j], f.on l = true ∧ matR M e.to.toNat f.to.toNat = true) ↔ Ans a (matR M) i j) := by
    intro M i j hi hj
    rw [hLE i hi, hLE j hj]
    simp only [leav, List.mem_filter, decide_eq_true_eq]
    constructor
    · intro h l hl e he h1 h2
      obtain ⟨f, ⟨hf, h3⟩, h4⟩ := h l hl e ⟨he, h1⟩ h2
      exact ⟨f, hf, h3, h4⟩
    · rintro h l hl e ⟨he, h1⟩ h2
      obtain ⟨f, hf, h3, h4⟩ := h l hl e he h1 h2
      exact ⟨f, ⟨hf, h3⟩, h4⟩
  refine wp_while (σ := List (List Bool) × Bool) (fun s e h' => e = [none, none, none, some (.int .i64 a.acc.length), some vm, none, none, none, some vl, some (.bool s.2), none, none] ∧
    HS h [ow vm s.1, ow vl L] h' ∧ s.1.length = a.acc.length ∧ (∀ r ∈ s.1, r.length = a.acc.length) ∧ AccR a (matR s.1) ∧ Upper a (matR s.1) ∧ (s.2 = false → Great a (matR s.1)))
    (fun s => 2 * cnt2 a.acc.length (matR s.1) + (if s.2 then 1 else 0)) (M, true) ⟨by simp, H, hMn, hr, hA, hU, by simp⟩ ?_
  rintro J ⟨B, c⟩ _ h11 hJ ⟨rfl, H, hBl, hBr, hA, hU, hG⟩
  dsimp only at H hBl hBr hA hU hG
  simp -implicitDefEqProofs (disch := first | omega | (simp only [LnZ]; omega)) [wrap64]
  cases c with
  | false =>
    simp -implicitDefEqProofs (disch := first | omega | (simp only [LnZ]; omega)) [wrap64]
    exact RetK.keep (hk _ _ ⟨B, H.sw1.drop, hBl, hBr, hG rfl⟩)
  | true =>
  simp -implicitDefEqProofs (disch := first | omega | (simp only [LnZ]; omega)) [wrap64]
  refine wp_count a.acc.length (fun i e h' => ∃ c', e = [none, none, none, some (.int .i64 a.acc.length), some vm, none, none, none, some vl, some (.bool c'), some (.int .i64 i), none] ∧
    ∃ B', HS h [ow vm B', ow vl L] h' ∧ B'.length = a.acc.length ∧ (∀ r ∈ B', r.length = a.acc.length) ∧ Pass a (matR B) (matR B') c' i 0) ⟨false, by simp, B, H, hBl, hBr, Pass.start hA hU⟩ ?_
  rintro J1 i _ h12 hJ1 hi ⟨c', rfl, B', H, hBl', hBr', hP⟩
  simp -implicitDefEqProofs (disch := first | omega | (simp only [LnZ]; omega)) [wrap64]
  refine IteW.mk (fun hlt4 => ?_) (fun hge4 => ?_)
  · have hin : i < a.acc.length := by omega
    simp -implicitDefEqProofs (disch := first | omega | (simp only [LnZ]; omega)) [wrap64]
    refine wp_count a.acc.length (fun j e h' => ∃ c', e = [none, none, none, some (.int .i64 a.acc.length), some vm, none, none, none, some vl, some (.bool c'), some (.int .i64 i), some (.int .i64 j)] ∧
      ∃ B', HS h [ow vm B', ow vl L] h' ∧ B'.length = a.acc.length ∧ (∀ r ∈ B', r.length = a.acc.length) ∧ Pass a (matR B) (matR B') c' i j) ⟨c', by simp, B', H, hBl', hBr', hP⟩ ?_
    rintro J2 j _ h13 hJ2 hj ⟨c', rfl, B', H, hBl', hBr', hP⟩
    simp -implicitDefEqProofs (disch := first | omega | (simp only [LnZ]; omega)) [wrap64]
    refine IteW.mk (fun hlt5 => ?_) (fun hge5 => ?_)
    · have hjn : j < a.acc.length := by omega
      have hiB : i < B'.length := by omega
      have hil := hBr' _ (List.getElem_mem hiB)
      have hbg := matR_get (M := B') hiB (show j < B'[i].length by omega)
      obtain ⟨w, hw, Rw⟩ := H.rep.ldL hiB
      cases hb : B'[i]'hiB |>.get ⟨j, by omega⟩ with
      | false =>
        have hb : (B'[i]'hiB)[j]'(by omega) = false := hb
        simp -implicitDefEqProofs (disch := first | omega | (simp only [LnZ]; omega)) [wrap64, H.rep.X (n := 1) rfl, hw, Rw.B, hb]
        exact hJ2 _ _ hjn ⟨c', rfl, B', H, hBl', hBr', hP.keep fun hr => by rw [hbg, hb] at hr; simp at hr⟩
      | true =>
        have hb : (B'[i]'hiB)[j]'(by omega) = true := hb
        obtain ⟨x, hx, Rx⟩ := H.sw1.rep.ldL (i := i) (by omega)
        obtain ⟨y, hy, Ry⟩ := H.sw1.rep.ldL (i := j) (by omega)
        simp -implicitDefEqProofs (disch := first | omega | (simp only [LnZ]; omega)) [wrap64, H.rep.X (n := 1) rfl, hw, Rw.B, hb, H.sw1.rep.X (n := 1) rfl, hx, hy]
        refine (c_l13Answers (n := a.acc.length) (by omega) Rx Ry H.rep hBl' hBr' (hok i (by omega)) (hok j (by omega))).go ?_
        rintro _ _ ⟨rfl, r, rfl, hr⟩
        rw [hans] at hr
        cases r with
        | true =>
          simp -implicitDefEqProofs (disch := first | omega | (simp only [LnZ]; omega)) [wrap64]
          exact hJ2 _ _ hjn ⟨c', rfl, B', H, hBl', hBr', hP.keep fun _ => hr.1 rfl⟩
        | false =>
          obtain ⟨z, hz, HT⟩ := H.take hiB
          change hload _ (some (elp 1 vm i)) none = some z at hz
          simp -implicitDefEqProofs (disch := first | omega | (simp only [LnZ]; omega)) [wrap64, H.rep.X (n := 1) rfl, hz, HT.rep.B]
          refine HT.storeF false (i := j) (by omega) rfl rfl trivial rfl fun h14 HT => ?_
          have H := HT.put
          simp -implicitDefEqProofs (disch := first | omega | (simp only [LnZ]; omega)) [wrap64]
          refine hJ2 _ _ hjn ⟨true, rfl, _, H, by simpa using hBl', ?_, ?_⟩
          · intro r hr2
            rcases List.mem_or_eq_of_mem_set hr2 with h1 | rfl
            · exact hBr' r h1
            · simpa using hil
          · rw [matR_clr hiB (by omega)]
            exact hP.rem ha hin hjn (by rw [hbg, hb]) (fun hA => by have := hr.2 hA; simp at this)
    · simp -implicitDefEqProofs (disch := first | omega | (simp only [LnZ]; omega)) [wrap64]
      exact hJ1 _ _ hin ⟨c', rfl, B', H, hBl', hBr', hP.next (by omega)⟩
  · simp -implicitDefEqProofs (disch := first | omega | (simp only [LnZ]; omega)) [wrap64]
    refine hJ (B', c') _ _ ?_ ⟨rfl, H, hBl', hBr', hP.acc, hP.upper, fun hc => by dsimp only at hc; subst hc; exact hP.done (by omega)⟩
    cases c' with
    | true => have := hP.less rfl; simp; omega
    | false => simp [(hP.same rfl).1]
end Go.Proofs.YtglnelcmcimljaaGreat

namespace Go.Proofs.YtglnelcmcimljaaGreat
open Go
end Go.Proofs.YtglnelcmcimljaaGreat

namespace Go.Proofs.YtglnelcmcimljaaGreat
open Go
def H_slices_Equal_S_int_int : Hint := ⟨[(0, false), (1, false), (4, false), (5, false), (12, false), (13, false)], [[2, 3]]⟩
def K47_1 : C := .seq (.pl <| .e 6 0 <|
 .st (.act none (.px (some 2) (.mv (.c (.bool true))))) .done) (.ret)
@[simp] def W47_1 := C.w K47_1.eq_1
def K47_2 : C := .pl <| .e 6 1 <|
 .x 6 (.bin .add (.v 5) (.c (.int .i64 1))) <|
 .m 5 6 .done
@[simp] def W47_2 := C.w K47_2.eq_1
def K47_3 : C := .seq (.pl <| .e 6 0 <|
 .st (.act none (.px (some 2) (.mv (.c (.bool false))))) .done) (.ret)
@[simp] def W47_3 := C.w K47_3.eq_1
def K47_4 : C := .cond 6 (.v 14) K47_3 (.skip)
@[simp] def W47_4 := C.w K47_4.eq_1
def K47_5 : C := .seq (.pl <| .e 6 9 <|
 .m 6 0 <|
 .m 7 3 <|
 .x 8 (.ia 1 (.v 6) (.v 7)) <|
 .l 9 8 <|
 .m 10 1 <|
 .m 11 3 <|
 .x 12 (.ia 1 (.v 10) (.v 11)) <|
 .l 13 12 <|
 .st (.act none (.px (some 14) (.bin .neq (.v 9) (.v 13)))) .done) K47_4
@[simp] def W47_5 := C.w K47_5.eq_1
def K47_6 : C := .seq (.block 1 (.seq (.pl <| .e 6 1 <|
 .m 6 5 <|
 .m 3 6 .done) K47_5)) K47_2
@[simp] def W47_6 := C.w K47_6.eq_1
def K47_7 : C := .seq (.cond 6 (.v 6) (.skip) (.exit 0)) K47_6
@[simp] def W47_7 := C.w K47_7.eq_1
def K47_8 : C := .seq (.pl <| .e 6 1 <|
 .st (.act none (.px (some 6) (.bin .lss (.v 5) (.v 4)))) .done) K47_7
@[simp] def W47_8 := C.w K47_8.eq_1
def K47_9 : C := .block 0 (.loop 6 [2, 3] K47_8)
@[simp] def W47_9 := C.w K47_9.eq_1
def K47_10 : C := .seq (.seq (.pl <| .e 6 1 <|
 .m 6 0 <|
 .x 4 (.lenV (.v 6)) <|
 .st (.act none (.px (some 5) (.mv (.c (.int .i64 0))))) .done) K47_9) K47_1
@[simp] def W47_10 := C.w K47_10.eq_1
def K47_11 : C := .seq (.pl <| .e 6 0 <|
 .st (.act none (.px (some 2) (.mv (.c (.bool false))))) .done) (.ret)
@[simp] def W47_11 := C.w K47_11.eq_1
def K47_12 : C := .cond 6 (.v 10) K47_11 (.skip)
@[simp] def W47_12 := C.w K47_12.eq_1
def K47_13 : C := .seq (.seq (.pl <| .e 6 5 <|
 .m 6 0 <|
 .x 7 (.lenV (.v 6)) <|
 .m 8 1 <|
 .x 9 (.lenV (.v 8)) <|
 .st (.act none (.px (some 10) (.bin .neq (.v 7) (.v 9)))) .done) K47_12) K47_10
@[simp] def W47_13 := C.w K47_13.eq_1
def B_slices_Equal_S_int_int : C := .seq (.pl <| .e 6 0 <|
 .st (.act none (.px (some 2) (.mv (.c (.bool false))))) .done) K47_13
@[simp] def WB_slices_Equal_S_int_int := C.w B_slices_Equal_S_int_int.eq_1
def R_slices_Equal_S_int_int : FIR := ⟨B_slices_Equal_S_int_int, 6, [(2, none)]⟩
theorem IR_slices_Equal_S_int_int : cfun Tryz.prog H_slices_Equal_S_int_int Tryz.f47 = some R_slices_Equal_S_int_int := by kernel_rfl
theorem EN_slices_Equal_S_int_int : ENT Tryz.prog B_slices_Equal_S_int_int [(2, none)] 2 6 fn_slices_Equal_S_int_int := fun hargs hw => enter Tryz.func47 rfl IR_slices_Equal_S_int_int hargs hw
end Go.Proofs.YtglnelcmcimljaaGreat

namespace Go.Proofs.YtglnelcmcimljaaGreat
open Go Go.Shelf
def sh_lays189_ren : Ren := ⟨fun | 189 => 88 | 125 => 127 | 257 => 126 | 128 => 157 | 129 => 158 | 294 => 148 | 295 => 149 | 296 => 150 | 297 => 151 | 298 => 152 | 299 => 153 | 216 => 154 | 300 => 155 | 301 => 156 | 328 => 167 | 329 => 168 | 330 => 169 | 331 => 170 | 332 => 171 | 215 => 172 | 343 => 173 | n => n, fun | 28 => 23 | 3 => 3 | 46 => 121 | 0 => 0 | 51 => 164 | 53 => 103 | 4 => 4 | 183 => 158 | 182 => 157 | 131 => 50 | 5 => 5 | 9 => 9 | 218 => 168 | 222 => 172 | 228 => 174 | 229 => 125 | n => n, fun | n => n⟩
theorem sh_lays189 : Go.Proofs.Lays.n189 Tryz.prog sh_lays189_ren := {
  mixed := by kernel_rfl
  f125 := Tryz.func127.trans (congrArg some (by kernel_rfl))
  f128 := Tryz.func157.trans (congrArg some (by kernel_rfl))
  f129 := Tryz.func158.trans (congrArg some (by kernel_rfl))
  f189 := Tryz.func88.trans (congrArg some (by kernel_rfl))
  f215 := Tryz.func172.trans (congrArg some (by kernel_rfl))
  f216 := Tryz.func154.trans (congrArg some (by kernel_rfl))
  f257 := Tryz.func126.trans (congrArg some (by kernel_rfl))
  f294 := Tryz.func148.trans (congrArg some (by kernel_rfl))
  f295 := Tryz.func149.trans (congrArg some (by kernel_rfl))
  f296 := Tryz.func150.trans (congrArg some (by kernel_rfl))
  f297 := Tryz.func151.trans (congrArg some (by kernel_rfl))
  f298 := Tryz.func152.trans (congrArg some (by kernel_rfl))
  f299 := Tryz.func153.trans (congrArg some (by kernel_rfl))
  f300 := Tryz.func155.trans (congrArg some (by kernel_rfl))
  f301 := Tryz.func156.trans (congrArg some (by kernel_rfl))
  f328 := Tryz.func167.trans (congrArg some (by kernel_rfl))
  f329 := Tryz.func168.trans (congrArg some (by kernel_rfl))
  f330 := Tryz.func169.trans (congrArg some (by kernel_rfl))
  f331 := Tryz.func170.trans (congrArg some (by kernel_rfl))
  f332 := Tryz.func171.trans (congrArg some (by kernel_rfl))
  f343 := Tryz.func173.trans (congrArg some (by kernel_rfl))
  t0 := Tryz.underlying0
  a0 := Tryz.isAgg0
  z0 := Tryz.sizeOf0
  v0 := Tryz.zeroValue0
  t3 := Tryz.underlying3
  a3 := Tryz.isAgg3
  z3 := Tryz.sizeOf3
  v3 := Tryz.zeroValue3
  t4 := Tryz.underlying4
  a4 := Tryz.isAgg4
  z4 := Tryz.sizeOf4
  v4 := Tryz.zeroValue4
  t5 := Tryz.underlying5
  a5 := Tryz.isAgg5
  z5 := Tryz.sizeOf5
  v5 := Tryz.zeroValue5
  t9 := Tryz.underlying9
  a9 := Tryz.isAgg9
  z9 := Tryz.sizeOf9
  v9 := Tryz.zeroValue9
  t28 := Tryz.underlying23
  a28 := Tryz.isAgg23
  z28 := Tryz.sizeOf23
  v28 := Tryz.zeroValue23
  t46 := Tryz.underlying121
  a46 := Tryz.isAgg121
  z46 := Tryz.sizeOf121
  v46 := Tryz.zeroValue121
  t51 := Tryz.underlying164
  a51 := Tryz.isAgg164
  z51 := Tryz.sizeOf164
  v51 := Tryz.zeroValue164
  t53 := Tryz.underlying103
  a53 := Tryz.isAgg103
  z53 := Tryz.sizeOf103
  v53 := Tryz.zeroValue103
  t131 := Tryz.underlying50
  a131 := Tryz.isAgg50
  z131 := Tryz.sizeOf50
  v131 := Tryz.zeroValue50
  t182 := Tryz.underlying157
  a182 := Tryz.isAgg157
  z182 := Tryz.sizeOf157
  v182 := Tryz.zeroValue157
  t183 := Tryz.underlying158
  a183 := Tryz.isAgg158
  z183 := Tryz.sizeOf158
  v183 := Tryz.zeroValue158
  t218 := Tryz.underlying168
  a218 := Tryz.isAgg168
  z218 := Tryz.sizeOf168
  v218 := Tryz.zeroValue168
  t222 := Tryz.underlying172
  a222 := Tryz.isAgg172
  z222 := Tryz.sizeOf172
  v222 := Tryz.zeroValue172
  t228 := Tryz.underlying174
  a228 := Tryz.isAgg174
  z228 := Tryz.sizeOf174
  v228 := Tryz.zeroValue174
  t229 := Tryz.underlying125
  a229 := Tryz.isAgg125
  z229 := Tryz.sizeOf125
  v229 := Tryz.zeroValue125 }
open Go.Sort Go.RowKit in
theorem sh_slices_Sort_int (blk off cap : Nat) (zs : List Int) (w : World) (hH : Holds (Value.int .i64) w blk off zs.toArray) (hblk : blk < w.heap.size) (hsz : zs.length < 4611686018427387904) :
    Calls Tryz.prog 88 #[.slice (some ⟨blk, off, none⟩) zs.length cap] w fun e w' =>
      e = .returned (.tuple #[]) ∧ ∃ n os, w' = grow (putRow (Value.int .i64) (Sort.ahead w n) blk off (zs.mergeSort fun x y => decide (x ≤ y)).toArray) os := Any.slices_Sort_int sh_lays189 blk off cap zs w hH hblk hsz
def sh_laysNm220_ren : Ren := ⟨fun | 20 => 89 | n => n, fun | 22 => 23 | 3 => 3 | 4 => 4 | 0 => 0 | n => n, fun | n => n⟩
theorem sh_laysNm220 : Go.Proofs.Lays2.n20 Tryz.prog sh_laysNm220_ren := {
  mixed := by kernel_rfl
  f20 := Tryz.func89.trans (congrArg some (by kernel_rfl))
  t0 := Tryz.underlying0
  a0 := Tryz.isAgg0
  z0 := Tryz.sizeOf0
  v0 := Tryz.zeroValue0
  t3 := Tryz.underlying3
  a3 := Tryz.isAgg3
  z3 := Tryz.sizeOf3
  v3 := Tryz.zeroValue3
  t4 := Tryz.underlying4
  a4 := Tryz.isAgg4
  z4 := Tryz.sizeOf4
  v4 := Tryz.zeroValue4
  t22 := Tryz.underlying23
  a22 := Tryz.isAgg23
  z22 := Tryz.sizeOf23
  v22 := Tryz.zeroValue23
  i3 := by kernel_rfl }
open Go.RowKit Go.Lib Go.Sort in
theorem sh_slices_Compact_int (blk off cap : Nat) (zs : List Int) (w : World) (hH : Holds (Value.int .i64) w blk off zs.toArray) (hsz : zs.length ≤ 9223372036854775807) (hcap : zs.length ≤ cap) :
    Calls Tryz.prog 89 #[.slice (some ⟨blk, off, none⟩) zs.length cap] w fun e w' => e = .returned (.slice (some ⟨blk, off, none⟩) (Lib.compact zs).length cap) ∧ ∃ q, w' = putRow (Value.int .i64) (Sort.ahead w q) blk off (Lib.compact zs ++ List.replicate (zs.length - (Lib.compact zs).length) 0).toArray := Any.slices_Compact_int sh_laysNm220 blk off cap zs w hH hsz hcap
open Go.RowKit Go.Lib Go.Sort in
theorem sh_slices_Compact_int_empty (a : Option Addr) (cap : Nat) (w : World) :
    Calls Tryz.prog 89 #[.slice a 0 cap] w fun e w' => e = .returned (.slice a 0 cap) ∧ w' = w := Any.slices_Compact_int_empty sh_laysNm220 a cap w
open Go.RowKit Go.Sort in
theorem sh_slices_Sort_int_none (p : Option Addr) (cap : Nat) (w : World) :
    Calls Tryz.prog 88 #[.slice p 0 cap] w fun e w' => e = .returned (.tuple #[]) ∧ w' = w := Any.slices_Sort_int_none sh_lays189 p cap w
end Go.Proofs.YtglnelcmcimljaaGreat

namespace Go.Proofs.YtglnelcmcimljaaGreat
open Go
theorem compactUpTo_succ {d : Array Int} {m : Nat} : Lib.compactUpTo d (m + 1) = Lib.compactUpTo d m ++ if Lib.keeps d m then [d[m]!] else [] := by
  simp only [Lib.compactUpTo, List.range_succ, List.filter_append, List.map_append, List.filter_cons, List.filter_nil]
  congr 1
  split <;> simp
theorem compact_spec {d : Array Int} (hs : ∀ i j, i ≤ j → j < d.size → d[i]! ≤ d[j]!) : ∀ m, m ≤ d.size → (Lib.compactUpTo d m).Pairwise (· < ·) ∧ (∀ x, x ∈ Lib.compactUpTo d m ↔ ∃ j, j < m ∧ x = d[j]!)
  | 0, _ => by simp [Lib.compactUpTo]
  | m + 1, h => by
    obtain ⟨h1, h2⟩ := compact_spec hs m (by omega)
    rw [compactUpTo_succ]
    by_cases hk : Lib.keeps d m = true
    · rw [if_pos hk]
      have hlt : ∀ x ∈ Lib.compactUpTo d m, x < d[m]! := by
        intro x hx
        obtain ⟨j, hj, rfl⟩ := (h2 x).1 hx
        have a1 := hs j (m - 1) (by omega) (by omega)
        have a2 := hs (m - 1) m (by omega) (by omega)
        simp only [Lib.keeps, decide_eq_true_eq] at hk
        have a3 : ¬ (m = 0) := by omega
        have a4 : ¬ d[m]! = d[m - 1]! := by
          rcases hk with hk | hk
          · exact absurd hk a3
          · exact hk
        omega
      refine ⟨List.pairwise_append.2 ⟨h1, List.pairwise_singleton _ _, fun x hx y hy => ?_⟩, fun x => ?_⟩
      · obtain rfl : y = d[m]! := by simpa using hy
        exact hlt x hx
      · rw [List.mem_append, h2]
        constructor
        · rintro (⟨j, h3, h4⟩ | h3)
          · exact ⟨j, by omega, h4⟩
          · exact ⟨m, by omega, by simpa using h3⟩
        · rintro ⟨j, h3, h4⟩
          by_cases e : j = m
          · subst e; exact .inr (by simpa using h4)
          · exact .inl ⟨j, by omega, h4⟩
    · rw [if_neg hk, List.append_nil]
      refine ⟨h1, fun x => ?_⟩
      rw [h2]
      have hk0 : Lib.keeps d m = false := by simpa using hk
      have hm : 0 < m := by
        cases m with
        | zero => simp [Lib.keeps] at hk0
        | succ m => omega
      have he : d[m]! = d[m - 1]! := by
        simp [Lib.keeps] at hk0
        exact hk0.2
      constructor
      · rintro ⟨j, h3, h4⟩; exact ⟨j, by omega, h4⟩
      · rintro ⟨j, h3, h4⟩
        by_cases e : j = m
        · subst e; exact ⟨j - 1, by omega, by rw [h4, he]⟩
        · exact ⟨j, by omega, h4⟩
theorem sort_compact (l : List Int) : (Lib.compact (l.mergeSort fun x y => decide (x ≤ y))).Pairwise (· < ·) ∧ ∀ x, x ∈ Lib.compact (l.mergeSort fun x y => decide (x ≤ y)) ↔ x ∈ l := by
  have hp : (l.mergeSort fun x y => decide (x ≤ y)).Pairwise (· ≤ ·) := by
    have := List.pairwise_mergeSort (le := fun x y : Int => decide (x ≤ y)) (by intro a b c; simp; omega) (by intro a b; simp; omega) l
    exact this.imp (by simp)
  have hm : ∀ x, x ∈ (l.mergeSort fun x y => decide (x ≤ y)) ↔ x ∈ l := fun x => List.mem_mergeSort
  generalize (l.mergeSort fun x y => decide (x ≤ y)) = s at hp hm
  have hsz : s.toArray.size = s.length := by simp
  have hg : ∀ i, i < s.length → s.toArray[i]! = s[i]! := fun i hi => by simp
  obtain ⟨h1, h2⟩ := compact_spec (d := s.toArray) (fun i j hij hj => by
    rw [hsz] at hj
    rw [hg i (by omega), hg j hj, getElem!_pos s i (by omega), getElem!_pos s j hj]
    rcases Nat.lt_or_ge i j with h | h
    · exact List.pairwise_iff_getElem.1 hp i j (by omega) hj h
    · have : i = j := by omega
      subst this; exact Int.le_refl _) s.length (by simp)
  refine ⟨h1, fun x => ?_⟩
  rw [← hm x]
  unfold Lib.compact
  rw [h2]
  constructor
  · rintro ⟨j, hj, rfl⟩
    rw [hg j hj, getElem!_pos s j hj]
    exact List.getElem_mem hj
  · intro hx
    obtain ⟨j, hj, rfl⟩ := List.mem_iff_getElem.1 hx
    exact ⟨j, hj, by rw [hg j hj, getElem!_pos s j hj]⟩
theorem calle_of {P : Program} {f : FuncId} {fn : Func} {args : List Value} {h : Heap} {Q : Value → Heap → Prop} (hf : P.funcs[f]? = some fn) (hname : (fn.name == "runtime.NumGoroutine") = false) (hb : fn.body.isSome = true)
    (hc : ∀ w, h.sub w → Calls P f args.toArray w fun e w' => ∃ v h', e = .returned v ∧ Q v h' ∧ h'.sub w' ∧ Frm h w h' w') : CallE P f args h Q := by
  intro w hw
  obtain ⟨bd, hbd⟩ := Option.isSome_iff_exists.1 hb
  have hname' : ¬ fn.name = "runtime.NumGoroutine" := by simpa using hname
  have hcall : (callFunc f args.toArray).run P w = .ok (.enter f args.toArray) w := by
    simp [callFunc, hf, hname', hbd]
  rw [hcall]
  exact hc w hw
theorem flatI : ∀ {l : List Int} {cs : List Value} {r : Heap}, ownL l cs r → r = Heap.nil ∧ cs.take l.length = l.map (Value.int .i64) ∧ ∀ x ∈ l, Flat.ok x
  | [], cs, r, h => ⟨h, by simp, by simp⟩
  | x :: l, cs, r, ⟨r1, r2, e, _, h1, h2⟩ => by
    have h1 : r1 = Heap.nil ∧ cs.take 1 = [.int .i64 x] ∧ _ := h1
    obtain ⟨e1, h3, h4⟩ := h1
    obtain ⟨e2, h5, h6⟩ := flatI h2
    have h5 : (cs.drop 1).take l.length = l.map (Value.int .i64) := h5
    refine ⟨by rw [e, e1, e2]; funext b; rfl, ?_, ?_⟩
    · cases cs with
      | nil => simp at h3
      | cons c cs =>
        simp at h3 h5
        simp [h3, h5]
    · intro y hy
      rcases List.mem_cons.1 hy with rfl | hy
      · exact h4
      · exact h6 y hy
theorem encI (l : List Int) : encL l = l.map (Value.int .i64) := by
  induction l with
  | nil => rfl
  | cons x l ih => rw [encL_cons, ih]; rfl
open Go.Sort in
theorem row_put {g g' : Heap} {Γ : List HP} {b off cap : Nat} {cells : List Value} {el : TypeId} {l d : List Int} {m n : Nat} {os : Array Obj} {w : World} (d1 : g' b = none) (H : HS g Γ g') (h1 : l.length ≤ cap ∧ l.length < 4611686018427387904) (h2 : off + cap ≤ cells.length)
    (hw : (g'.add (Heap.one b (.cells cells.toArray el (0, 0)))).sub w) (hd : d.length = l.length) (hm : m ≤ d.length) (hok : ∀ x ∈ d.take m, Flat.ok x) :
    ∃ h', HS g (ow (.slice (some ⟨b, off, none⟩) m cap) (d.take m) :: Γ) h' ∧ h'.sub (grow (putRow (Value.int .i64) (Sort.ahead w n) b off d.toArray) os) ∧ Frm (g'.add (Heap.one b (.cells cells.toArray el (0, 0)))) w h' (grow (putRow (Value.int .i64) (Sort.ahead w n) b off d.toArray) os) := by
  have hb : w.heap[b]? = some (.cells cells.toArray el (0, 0)) := hw b _ (by simp [Heap.add, Heap.one, d1])
  have hbs : b < w.heap.size := (Array.getElem?_eq_some_iff.1 hb).1
  have hold : ∀ x, x < w.heap.size → (grow (putRow (Value.int .i64) (Sort.ahead w n) b off d.toArray) os).heap[x]? = if x = b then some (.cells (putCells (Value.int .i64) off d.toArray cells.toArray) el (0, 0)) else w.heap[x]? := by
    intro x hx
    rw [heap_grow_old _ _ (by simpa [putRow, mapBlock, Sort.ahead] using hx)]
    simp only [putRow, mapBlock, Sort.ahead, Array.getElem?_modify]
    by_cases e : b = x
    · subst e; simp [hb, onCells]
    · simp [e, Ne.symm e]
  have hpt : (putCells (Value.int .i64) off d.toArray cells.toArray).toList.length = cells.length := by simp [putCells]
  refine ⟨g'.add (Heap.one b (.cells (putCells (Value.int .i64) off d.toArray cells.toArray).toList.toArray el (0, 0))), ⟨g', _, rfl, Dj_one.2 d1, ?_, H⟩, ?_, ?_⟩
  · have hlm : (d.take m).length = m := by simp; omega
    refine Own_list.2 (.inr ⟨b, off, cap, _, el, Heap.nil, by rw [hlm], ⟨by omega, by omega⟩, by rw [hpt]; show off + cap * 1 ≤ _; omega, by simp, rfl, ?_⟩)
    refine ownL_congr (ownL_enc hok) ?_
    rw [encI, hlm]
    show List.take (m * 1) _ = List.take (m * 1) _
    rw [List.take_of_length_le (l := List.map (Value.int .i64) (d.take m)) (by simp; omega)]
    apply List.ext_getElem?
    intro j
    by_cases hj : j < m
    · have hjd : j < d.length := by omega
      have hjc : off + j < cells.length := by omega
      have key : (putCells (Value.int .i64) off d.toArray cells.toArray).toList[off + j]? = some (.int .i64 d[j]) := by
        rw [Array.getElem?_toList, putCells, Array.getElem?_mapIdx]
        simp [hjc, hjd]
      rw [Nat.mul_one, List.getElem?_take_of_lt hj, List.getElem?_drop, key, List.getElem?_map, List.getElem?_take_of_lt hj, List.getElem?_eq_getElem hjd]
      rfl
    · have e1 : (List.map (Value.int .i64) (List.take m d))[j]? = none := List.getElem?_eq_none (by simp; omega)
      have e2 : (List.take (m * 1) (List.drop off (putCells (Value.int .i64) off d.toArray cells.toArray).toList))[j]? = none := List.getElem?_eq_none (by simp; omega)
      rw [e1, e2]
  · intro x o hx
    by_cases e : x = b
    · subst e
      rw [hold x hbs, if_pos rfl]
      simp only [Heap.add, Heap.one, d1, if_true] at hx
      simpa using hx
    · have hx2 : g' x = some o := by
        simp only [Heap.add, Heap.one, if_neg e] at hx
        cases hg : g' x with
        | none => rw [hg] at hx; simp at hx
        | some o' => rw [hg] at hx; simpa using hx
      have hwx : w.heap[x]? = some o := hw x o (by simp [Heap.add, Heap.one, e, hx2])
      have hxs : x < w.heap.size := (Array.getElem?_eq_some_iff.1 hwx).1
      rw [hold x hxs, if_neg e]; exact hwx
  · refine ⟨rfl, rfl, rfl, by simp [grow, putRow, mapBlock, Sort.ahead], fun x hx hn => ?_, fun x hx hn => ?_⟩
    · have e : x ≠ b := by
        intro e
        subst e
        simp [Heap.add, Heap.one, d1] at hn
      rw [hold x hx, if_neg e]
    · have e : x ≠ b := by
        intro e
        subst e
        simp [Heap.add, Heap.one, d1] at hn
      simp only [Heap.add, Heap.one, if_neg e] at hn ⊢
      exact hn
open Go.Sort in
theorem row_holds {g' : Heap} {b off : Nat} {cells : List Value} {el : TypeId} {l : List Int} {w : World} (d1 : g' b = none) (hw : (g'.add (Heap.one b (.cells cells.toArray el (0, 0)))).sub w) (ht : (cells.drop off).take l.length = l.map (Value.int .i64)) : Holds (Value.int .i64) w b off l.toArray ∧ b < w.heap.size := by
  have hb : w.heap[b]? = some (.cells cells.toArray el (0, 0)) := hw b _ (by simp [Heap.add, Heap.one, d1])
  refine ⟨fun j hj => ?_, (Array.getElem?_eq_some_iff.1 hb).1⟩
  have hj' : j < l.length := by simpa using hj
  refine ⟨?_, by simp [World.frozen?, hb]⟩
  have h1 : ((cells.drop off).take l.length)[j]? = (l.map (Value.int .i64))[j]? := by rw [ht]
  rw [List.getElem?_take_of_lt hj', List.getElem?_drop] at h1
  simp only [World.cell?, hb]
  simp only [Option.isSome_none, Bool.false_eq_true, if_false]
  rw [List.getElem?_toArray, h1]
  simp [hj']
theorem c_Sort_int {g h : Heap} {Γ : List HP} {v : Value} {l : List Int} (H : HS g (ow v l :: Γ) h) : CallE Tryz.prog fn_slices_Sort_S_int_int [v] h (fun u h' => HS g (ow v (l.mergeSort fun x y => decide (x ≤ y)) :: Γ) h') := by
  obtain ⟨g', r, rfl, d, O, H⟩ := H
  rcases Own_list.1 O with ⟨p, rfl, rfl, rfl, hp⟩ | ⟨b, off, cap, cells, el, r', rfl, ⟨h1, hM⟩, h2, rfl, h4, h5⟩
  · refine calle_of Tryz.func88 (by kernel_rfl) (by kernel_rfl) fun w hw => (sh_slices_Sort_int_none p 0 w).mono ?_
    rintro e w' ⟨rfl, rfl⟩
    exact ⟨_, _, rfl, ⟨g', Heap.nil, rfl, d, Own_list.2 (.inl ⟨p, rfl, by simp, rfl, hp⟩), H⟩, hw, rfl, rfl, rfl, Nat.le_refl _, fun _ _ _ => rfl, fun _ _ h => h⟩
  · obtain ⟨rfl, ht, hok⟩ := flatI h5
    have h2 : off + cap ≤ cells.length := by have : Ty.sz Int = 1 := rfl; rw [this] at h2; omega
    have hn : (Heap.one b (.cells cells.toArray el (0, 0))).add Heap.nil = Heap.one b (.cells cells.toArray el (0, 0)) := by simp
    rw [hn] at d ⊢
    have d1 := Dj_one.1 d
    refine calle_of Tryz.func88 (by kernel_rfl) (by kernel_rfl) fun w hw => ?_
    obtain ⟨hH, hbs⟩ := row_holds d1 hw ht
    refine (sh_slices_Sort_int b off cap l w hH hbs hM).mono ?_
    rintro e w' ⟨rfl, n, os, rfl⟩
    have hl : (l.mergeSort fun x y => decide (x ≤ y)).length = l.length := List.length_mergeSort l
    obtain ⟨h', q1, q2, q3⟩ := row_put (n := n) (os := os) (d := l.mergeSort fun x y => decide (x ≤ y)) (m := l.length) d1 H ⟨h1, hM⟩ h2 hw hl (by omega) (fun x hx => hok x (List.mem_mergeSort.1 (List.mem_of_mem_take hx)))
    rw [List.take_of_length_le (by omega)] at q1
    exact ⟨_, h', rfl, q1, q2, q3⟩
theorem c_Compact_int {g h : Heap} {Γ : List HP} {v : Value} {l : List Int} (H : HS g (ow v l :: Γ) h) : CallE Tryz.prog fn_slices_Compact_S_int_int [v] h (fun u h' => HS g (ow u (Lib.compact l) :: Γ) h') := by
  obtain ⟨g', r, rfl, d, O, H⟩ := H
  rcases Own_list.1 O with ⟨p, rfl, rfl, rfl, hp⟩ | ⟨b, off, cap, cells, el, r', rfl, ⟨h1, hM⟩, h2, rfl, h4, h5⟩
  · refine calle_of Tryz.func89 (by kernel_rfl) (by kernel_rfl) fun w hw => (sh_slices_Compact_int_empty p 0 w).mono ?_
    rintro e w' ⟨rfl, rfl⟩
    exact ⟨_, _, rfl, ⟨g', Heap.nil, rfl, d, Own_list.2 (.inl ⟨p, rfl, rfl, rfl, hp⟩), H⟩, hw, rfl, rfl, rfl, Nat.le_refl _, fun _ _ _ => rfl, fun _ _ h => h⟩
  · obtain ⟨rfl, ht, hok⟩ := flatI h5
    have h2 : off + cap ≤ cells.length := by have : Ty.sz Int = 1 := rfl; rw [this] at h2; omega
    have hn : (Heap.one b (.cells cells.toArray el (0, 0))).add Heap.nil = Heap.one b (.cells cells.toArray el (0, 0)) := by simp
    rw [hn] at d ⊢
    have d1 := Dj_one.1 d
    refine calle_of Tryz.func89 (by kernel_rfl) (by kernel_rfl) fun w hw => ?_
    obtain ⟨hH, hbs⟩ := row_holds d1 hw ht
    refine (sh_slices_Compact_int b off cap l w hH (by omega) h1).mono ?_
    rintro e w' ⟨rfl, n, rfl⟩
    have hcl : (Lib.compact l).length ≤ l.length := by
      have := List.length_filter_le (Lib.keeps l.toArray) (List.range l.length)
      simpa [Lib.compact, Lib.compactUpTo] using this
    have hcm : ∀ x ∈ Lib.compact l, x ∈ l := by
      intro x hx
      simp only [Lib.compact, Lib.compactUpTo, List.mem_map, List.mem_filter, List.mem_range] at hx
      obtain ⟨j, ⟨hj, _⟩, rfl⟩ := hx
      rw [getElem!_pos l.toArray j (by simpa using hj)]
      simp
    have hl : (Lib.compact l ++ List.replicate (l.length - (Lib.compact l).length) 0).length = l.length := by simp; omega
    have htk : (Lib.compact l ++ List.replicate (l.length - (Lib.compact l).length) 0).take (Lib.compact l).length = Lib.compact l := List.take_left' rfl
    obtain ⟨h', q1, q2, q3⟩ := row_put (n := n) (os := #[]) (d := Lib.compact l ++ List.replicate (l.length - (Lib.compact l).length) 0) (m := (Lib.compact l).length) d1 H ⟨h1, hM⟩ h2 hw hl (by simp) (by rw [htk]; exact fun x hx => hok x (hcm x hx))
    rw [htk] at q1
    rw [Go.Sort.grow_empty] at q2 q3
    exact ⟨_, h', rfl, q1, q2, q3⟩
end Go.Proofs.YtglnelcmcimljaaGreat

namespace Go.Proofs.YtglnelcmcimljaaGreat
open Go
def zl (l : List Nat) : List Int := l.map fun (x : Nat) => (x : Int)
@[simp] theorem zl_len {l : List Nat} : (zl l).length = l.length := by simp [zl]
theorem zl_get {l : List Nat} {i : Nat} (hi : i < l.length) : (zl l)[i]'(by simpa using hi) = (l[i] : Int) := by simp [zl]
theorem zl_append {l l' : List Nat} : zl (l ++ l') = zl l ++ zl l' := by simp [zl]
theorem c_merge_1 {h : Heap} {b3 : Nat} {vb : Value} {B : List (BitVec 64)} (hb : hload h (some (.pointer (some ⟨b3, 0, none⟩))) none = some vb) (Rb : Rep h vb B) (hB : B.length ≤ 64) {i m : Nat} (hi : i < B.length) (hm : m < B.length) :
    CallE Tryz.prog fn_impl_Automaton_merge_1 [.int .i64 i, .int .i64 m, .pointer (some ⟨b3, 0, none⟩)] h (fun u h' => h.le h' ∧ u = .bool (eqv (bitR B) i m)) := by
  refine CallE.gen fun k hk => EN_impl_Automaton_merge_1 rfl ?_
  have e1 := bitR_get (B := B) (i := i) (j := m) hi
  have e2 := bitR_get (B := B) (i := m) (j := i) hm
  have hik : i < 64 := by omega
  have hmm : m < 64 := by omega
  cases h1 : B[i].getLsbD m with
  | false =>
    simp -implicitDefEqProofs (disch := first | omega | (simp only [LnZ]; omega)) [wrap64, -BitVec.getLsbD_eq_getElem, hb, Rb.U, u64_bit, h1]
    exact RetK.keep (hk _ _ ⟨Heap.le.refl _, by simp only [eqv]; rw [e1, h1]; rfl⟩)
  | true =>
    cases h2 : B[m].getLsbD i with
    | false =>
      simp -implicitDefEqProofs (disch := first | omega | (simp only [LnZ]; omega)) [wrap64, -BitVec.getLsbD_eq_getElem, hb, Rb.U, u64_bit, h1, h2]
      exact RetK.keep (hk _ _ ⟨Heap.le.refl _, by simp only [eqv]; rw [e1, e2, h1, h2]; rfl⟩)
    | true =>
      simp -implicitDefEqProofs (disch := first | omega | (simp only [LnZ]; omega)) [wrap64, -BitVec.getLsbD_eq_getElem, hb, Rb.U, u64_bit, h1, h2]
      exact RetK.keep (hk _ _ ⟨Heap.le.refl _, by simp only [eqv]; rw [e1, e2, h1, h2]; rfl⟩)
theorem c_grouped {h : Heap} {fv : Value} {n : Nat} {f : FuncId} {c1 c2 : List Value} (hf : fnOf fv = some (f, c1, c2)) (e : Nat → Nat → Bool) (hn : n ≤ 1048576)
    (hp : ∀ h1, h.le h1 → ∀ i k, i < n → k < i → CallE Tryz.prog f (c1 ++ (.int .i64 i :: .int .i64 k :: c2)) h1 (fun v h' => h1.le h' ∧ v = .bool (e i k))) :
    CallE Tryz.prog fn_impl_grouped [.int .i64 n, fv] h (fun u h' => HS h [ow u (zl (grpS e n).1)] h') := by
  refine CallE.gen fun k hk => EN_impl_grouped rfl ?_
  simp -implicitDefEqProofs (disch := first | omega | (simp only [LnZ]; omega)) [wrap64]
  refine HS.init.mks (α := Int) (z := 0) rfl rfl (own_zero (by decide) (by decide)) (Nat.le_refl _) (by omega) (by omega) fun o h1 H => ?_
  simp -implicitDefEqProofs (disch := first | omega | (simp only [LnZ]; omega)) [wrap64, H.rep.len]
  refine wp_count n (fun i e' h' => e' = [none, some fv, none, some o, some (.int .i64 (grpS e i).2), none, none, some (.int .i64 n), some (.int .i64 i), none, none] ∧ ∃ O : List Int, HS h [ow o O] h' ∧ O.length = n ∧ O.take i = zl (grpS e i).1) ⟨by simp [grpS], _, H, by simp, by simp [grpS, zl]⟩ ?_
  clear H
  rintro J i _ h2 hJ hi ⟨rfl, O, H, hOl, hO⟩
  have hgl := grpS_len (e := e) i
  have hgc := grpS_le (e := e) i
  simp -implicitDefEqProofs (disch := first | omega | (simp only [LnZ]; omega)) [wrap64]
  refine IteW.mk (fun hlt => ?_) (fun hge => ?_)
  · have hin : i < n := by omega
    simp -implicitDefEqProofs (disch := first | omega | (simp only [LnZ]; omega)) [wrap64, H.rep.I]
    refine H.storeF ((grpS e i).2 : Int) (i := i) (by omega) rfl rfl ⟨by omega, by omega⟩ rfl fun h3 H => ?_
    simp -implicitDefEqProofs (disch := first | omega | (simp only [LnZ]; omega)) [wrap64]
    refine wp_count i (fun k e' h' => e' = [none, some fv, none, some o, some (.int .i64 (grpS e i).2), some (.int .i64 i), none, some (.int .i64 n), some (.int .i64 i), some (.int .i64 i), some (.int .i64 k)] ∧ HS h [ow o (O.set i ((grpS e i).2 : Int))] h' ∧ ∀ j, j < k → e i j = false) ⟨by simp, H, fun j hj => absurd hj (Nat.not_lt_zero j)⟩ ?_
    clear H
    rintro J2 k _ h4 hJ2 hk2 ⟨rfl, H, hno⟩
    simp -implicitDefEqProofs (disch := first | omega | (simp only [LnZ]; omega)) [wrap64]
    refine IteW.mk (fun hlt2 => ?_) (fun hge2 => ?_)
    · have hki : k < i := by omega
      simp -implicitDefEqProofs (disch := first | omega | (simp only [LnZ]; omega)) [wrap64, hf]
      refine (hp h4 H.base i k hin hki).go ?_
      rintro _ h5 ⟨hl, rfl⟩
      have H := H.le hl
      cases hek : e i k with
      | false =>
        simp -implicitDefEqProofs (disch := first | omega | (simp only [LnZ]; omega)) [wrap64]
        refine hJ2 _ _ hki ⟨by simp, H, fun j hj => ?_⟩
        by_cases ej : j = k
        · subst ej; exact hek
        · exact hno j (by omega)
      | true =>
        have hfind := find_range (p := fun k => e i k) hki hek hno
        have hgo := grpS_old hfind
        obtain ⟨x, hx⟩ : ∃ x, x = (grpS e i).1[k]'(by omega) := ⟨_, rfl⟩
        have hxl : x < (grpS e i).2 := hx ▸ grpS_lt i _ (List.getElem_mem (by omega))
        have hOk : (O.set i ((grpS e i).2 : Int))[k]'(by simp; omega) = (x : Int) := by
          rw [List.getElem_set_ne (by omega)]
          have h6 : (O.take i)[k]? = (zl (grpS e i).1)[k]? := by rw [hO]
          rw [List.getElem?_take_of_lt hki, List.getElem?_eq_getElem (by omega), List.getElem?_eq_getElem (by simp; omega), zl_get (by omega), ← hx] at h6
          simpa using h6
        simp -implicitDefEqProofs (disch := first | omega | (simp only [LnZ]; omega)) [wrap64, H.rep.I, hOk]
        refine H.storeF (x : Int) (i := i) (by simp; omega) rfl rfl ⟨by omega, by omega⟩ rfl fun h6 H => ?_
        have hne : ¬ ((x : Int) = (grpS e i).2) := by omega
        simp -implicitDefEqProofs (disch := first | omega | (simp only [LnZ]; omega)) [wrap64, H.rep.I, hne]
        refine hJ _ _ hin ⟨by rw [hgo]; simp, _, H, by simpa using hOl, ?_⟩
        rw [hgo, zl_append, ← hO]
        rw [List.set_set, List.take_set, List.take_add_one, List.getElem?_eq_getElem (by omega), List.getD_eq_getElem?_getD, List.getElem?_eq_getElem (by omega), ← hx]
        rw [List.set_append_right _ _ (by simp; omega)]
        simp [zl, Nat.min_eq_left (by omega : i ≤ O.length)]
    · have hki : k = i := by omega
      subst hki
      have hgn := grpS_new (find_none (p := fun j => e k j) hno)
      simp -implicitDefEqProofs (disch := first | omega | (simp only [LnZ]; omega)) [wrap64, H.rep.I]
      refine hJ _ _ hin ⟨by rw [hgn]; simp, _, H, by simpa using hOl, ?_⟩
      rw [hgn, zl_append, ← hO]
      rw [List.take_set, List.take_add_one, List.getElem?_eq_getElem (by omega)]
      rw [List.set_append_right _ _ (by simp; omega)]
      simp [zl, Nat.min_eq_left (by omega : k ≤ O.length)]
  have hin : i = n := by omega
  subst hin
  simp -implicitDefEqProofs (disch := first | omega | (simp only [LnZ]; omega)) [wrap64]
  rw [List.take_of_length_le (by omega)] at hO
  rw [hO] at H
  exact RetK.keep (hk _ _ H)
theorem c_picked {h : Heap} {l s : Value} {L S : List Int} (Rl : Rep h l L) (Rs : Rep h s S) (hS : ∀ x ∈ S, 0 ≤ x ∧ x < L.length) (hSl : S.length ≤ 1048576) : CallE Tryz.prog fn_impl_picked [l, s] h (fun u h' => HS h [ow u (S.map fun x => L.getD x.toNat 0)] h') := by
  have hll := Rl.lt
  refine CallE.gen fun k hk => EN_impl_picked rfl ?_
  simp -implicitDefEqProofs (disch := first | omega | (simp only [LnZ]; omega)) [wrap64, Rs.len]
  refine HS.init.mks (α := Int) (z := 0) rfl rfl (own_zero (by decide) (by decide)) (Nat.le_refl _) (by omega) (by omega) fun o h1 H => ?_
  simp -implicitDefEqProofs (disch := first | omega | (simp only [LnZ]; omega)) [wrap64, (Rs.on H).len]
  refine wp_count S.length (fun i e h' => e = [some l, none, none, some o, none, none, some s, some (.int .i64 S.length), some (.int .i64 i)] ∧ ∃ O : List Int, HS h [ow o O] h' ∧ O.length = S.length ∧ O.take i = (S.take i).map fun x => L.getD x.toNat 0) ⟨by simp, _, H, by simp, by simp⟩ ?_
  clear H
  rintro J i _ h2 hJ hi ⟨rfl, O, H, hOl, hO⟩
  simp -implicitDefEqProofs (disch := first | omega | (simp only [LnZ]; omega)) [wrap64]
  refine IteW.mk (fun hlt => ?_) (fun hge => ?_)
  · have hix : i < S.length := by omega
    have hx := hS _ (List.getElem_mem hix)
    obtain ⟨q, hq⟩ : ∃ q : Nat, S[i] = q := ⟨S[i].toNat, by omega⟩
    have hqn : q < L.length := by omega
    have hqo := Rl.okI hqn
    simp -implicitDefEqProofs (disch := first | omega | (simp only [LnZ]; omega)) [wrap64, (Rs.on H).I, hq, (Rl.on H).I, H.rep.I]
    refine H.storeF L[q] (i := i) (by omega) rfl rfl hqo rfl fun h3 H => ?_
    simp -implicitDefEqProofs (disch := first | omega | (simp only [LnZ]; omega)) [wrap64]
    refine hJ _ _ hix ⟨rfl, _, H, by simpa using hOl, ?_⟩
    rw [map_take_succ hix, ← hO, hq]
    rw [List.take_set, List.take_add_one, List.getElem?_eq_getElem (by omega), List.set_append_right _ _ (by simp; omega)]
    simp [Nat.min_eq_left (by omega : i ≤ O.length), hqn]
  simp -implicitDefEqProofs (disch := first | omega | (simp only [LnZ]; omega)) [wrap64]
  rw [List.take_of_length_le (by omega), List.take_of_length_le (by omega)] at hO
  rw [hO] at H
  exact RetK.keep (hk _ _ H)
theorem keyEq_Tr : ∀ a b : Tr, keyEq (.many [.i, .i, .i, .i]) a.v b.v = some (decide (a = b)) := by
  intro a b
  simp only [keyEq, Tr.v, eqL, eqB]
  simp only [and_self, if_true]
  congr 1
  rw [Bool.eq_iff_iff]
  cases a; cases b
  simp [and_assoc]
end Go.Proofs.YtglnelcmcimljaaGreat

namespace Go.Proofs.YtglnelcmcimljaaGreat
open Go
theorem c_l10Sorted {g h : Heap} {Γ : List HP} {v : Value} {l : List Int} {n y : Int} (H : HS g (ow v l :: Γ) h) (hl : incr n (-1) l) (hy : -1 < y ∧ y < n) (hn : n ≤ 1048576) : CallE Tryz.prog fn_spec_l10Sorted [v, .int .i64 y] h (fun u h' => ∃ l', HS g (ow u l' :: Γ) h' ∧ incr n (-1) l' ∧ ∀ x, x ∈ l' ↔ x ∈ l ∨ x = y) := by
  have hll := incr_len hl (by omega)
  have hp := (incr_iff.1 hl).1
  refine CallE.gen fun k hk => EN_spec_l10Sorted rfl ?_
  simp -implicitDefEqProofs (disch := first | omega | (simp only [LnZ]; omega)) [wrap64]
  refine H.bls0 Int fun o h1 H => ?_
  simp -implicitDefEqProofs (disch := first | omega | (simp only [LnZ]; omega)) [wrap64]
  refine wp_count l.length (fun i e h' => ∃ o dn, e = [some v, some (.int .i64 y), none, some o, some (.bool dn), some (.int .i64 i)] ∧ ∃ O : List Int, HS g (ow o O :: ow v l :: Γ) h' ∧ InsI l y i dn O) ⟨o, false, by simp, [], H, InsI.zero⟩ ?_
  clear H
  rintro J i _ h2 hJ hi ⟨o, dn, rfl, O, H, hI⟩
  have hol := hI.len
  simp -implicitDefEqProofs (disch := first | omega | (simp only [LnZ]; omega)) [wrap64, H.sw1.rep.len]
  refine IteW.mk (fun hlt => ?_) (fun hge => ?_)
  · have hix : i < l.length := by omega
    have hxb := H.sw1.rep.okI hix
    by_cases h1 : l[i] = y
    · simp -implicitDefEqProofs (disch := first | omega | (simp only [LnZ]; omega)) [wrap64, H.sw1.rep.I, h1]
      refine RetK.keep (hk _ _ ⟨l, H.drop, hl, fun x => ⟨.inl, fun hh => hh.elim id fun e => ?_⟩⟩)
      rw [e, ← h1]; exact List.getElem_mem hix
    by_cases h2 : y < l[i]
    · cases dn with
      | false =>
        simp -implicitDefEqProofs (disch := first | omega | (simp only [LnZ]; omega)) [wrap64, H.sw1.rep.I, h1, h2]
        refine H.app1 y rfl rfl rfl ⟨by omega, by omega⟩ rfl rfl (by omega) (by omega) fun o1 h3 H => ?_
        simp -implicitDefEqProofs (disch := first | omega | (simp only [LnZ]; omega)) [wrap64, H.sw1.rep.I]
        refine H.app1 l[i] rfl rfl rfl hxb rfl rfl (by simp; omega) (by simp; omega) fun o2 h4 H => ?_
        simp -implicitDefEqProofs (disch := first | omega | (simp only [LnZ]; omega)) [wrap64]
        exact hJ _ _ hix ⟨o2, true, rfl, _, H, hI.big hp hix h2⟩
      | true =>
        simp -implicitDefEqProofs (disch := first | omega | (simp only [LnZ]; omega)) [wrap64, H.sw1.rep.I, h1, h2]
        refine H.app1 l[i] rfl rfl rfl hxb rfl rfl (by omega) (by omega) fun o2 h4 H => ?_
        simp -implicitDefEqProofs (disch := first | omega | (simp only [LnZ]; omega)) [wrap64]
        exact hJ _ _ hix ⟨o2, true, rfl, _, H, hI.more hix h1⟩
    · simp -implicitDefEqProofs (disch := first | omega | (simp only [LnZ]; omega)) [wrap64, H.sw1.rep.I, h1, h2]
      refine H.app1 l[i] rfl rfl rfl hxb rfl rfl (by omega) (by omega) fun o2 h4 H => ?_
      simp -implicitDefEqProofs (disch := first | omega | (simp only [LnZ]; omega)) [wrap64]
      refine hJ _ _ hix ⟨o2, dn, rfl, _, H, ?_⟩
      cases dn with
      | false => exact hI.small hix (by omega)
      | true => exact hI.more hix h1
  · obtain ⟨r1, r2⟩ := hI.result hl hy (by omega)
    cases dn with
    | false =>
      simp -implicitDefEqProofs (disch := first | omega | (simp only [LnZ]; omega)) [wrap64]
      refine H.app1 y rfl rfl rfl ⟨by omega, by omega⟩ rfl rfl (by omega) (by omega) fun o1 h3 H => ?_
      simp -implicitDefEqProofs (disch := first | omega | (simp only [LnZ]; omega)) [wrap64]
      exact RetK.keep (hk _ _ ⟨_, H.sw1.drop, r1, r2⟩)
    | true =>
      simp -implicitDefEqProofs (disch := first | omega | (simp only [LnZ]; omega)) [wrap64]
      exact RetK.keep (hk _ _ ⟨_, H.sw1.drop, r1, r2⟩)
def R2 {α : Type} [Ty α] (b : Bool) (y : α) (h : Heap) (u : Value) (h' : Heap) : Prop := ∃ v, u = .tuple #[v, .bool b] ∧ HS h [ow v y] h'
end Go.Proofs.YtglnelcmcimljaaGreat

namespace Go.Proofs.YtglnelcmcimljaaGreat
open Go
theorem gnm_get {e : Nat → Nat → Bool} {n q : Nat} (hq : q < n) {h1 : q < (zl (grpS e n).1).length} : (zl (grpS e n).1)[q] = gnm e n q := by
  have hl := grpS_len (e := e) n
  rw [zl_get (by omega)]
  simp [gnm, hl, hq]
theorem gnm_first {e : Nat → Nat → Bool} {n i : Nat} (hi : i < n) : gnm e n i = ((grpS e (i + 1)).1.getD i 0 : Nat) := by
  simp only [gnm, Int.toNat_natCast]
  rw [grpS_get (i := i + 1) (by omega) (by omega)]
theorem gnm_new {e : Nat → Nat → Bool} {n i : Nat} (hi : i < n) : (gnm e n i = ((grpS e i).2 : Int)) ↔ (List.range i).find? (fun k => e i k) = none := by
  have hl := grpS_len (e := e) i
  rw [gnm_first hi]
  cases h : (List.range i).find? (fun k => e i k) with
  | none =>
    rw [grpS_new h]
    simp [List.getElem?_append_right (show (grpS e i).1.length ≤ i by omega), hl]
  | some k =>
    have hk := find_lt h
    have := grpS_lt (e := e) i _ (List.getElem_mem (show k < (grpS e i).1.length by omega))
    rw [grpS_old h]
    simp only [List.getD_eq_getElem?_getD]
    rw [List.getElem?_append_right (show (grpS e i).1.length ≤ i by omega), List.getElem?_eq_getElem (show k < (grpS e i).1.length by omega)]
    simp [hl]
    omega
theorem accG_step {a : Aut} {e : Nat → Nat → Bool} {i : Nat} (hi : i < a.acc.length) : accG a e (i + 1) = accG a e i ++ if gnm e a.acc.length i = ((grpS e i).2 : Int) then [a.acc[i]] else [] := by
  have h := gnm_new (e := e) hi
  cases hf : (List.range i).find? (fun k => e i k) with
  | none => rw [if_pos (h.2 hf)]; simp [accG, hf, hi]
  | some k => rw [if_neg (fun h2 => by rw [h.1 h2] at hf; simp at hf)]; simp [accG, hf]
set_option maxHeartbeats 4000000 in
theorem c_merge {h : Heap} {v : Value} {a : Aut} (Ra : Rep h v a) (ha : a.Ok) : CallE Tryz.prog fn_impl_Automaton_merge [v] h (fun u h' => HS h [ow u a.mrg] h') := by
  obtain ⟨v1, v2, v3, rfl, R1, R2, R3⟩ := Rep_Aut.1 Ra
  have hn := ha.n
  have he := ha.e
  have hil := ha.il
  refine CallE.gen fun k hk => EN_impl_Automaton_merge rfl ?_
  simp -implicitDefEqProofs (disch := first | omega | (simp only [LnZ]; omega)) [wrap64]
  refine (c_simulation Ra ha).go ?_
  rintro vb h1 ⟨B, H, hBl, hG⟩
  simp -implicitDefEqProofs (disch := first | omega | (simp only [LnZ]; omega)) [wrap64]
  refine H.alloc rfl fun bB h2 H => ?_
  simp -implicitDefEqProofs (disch := first | omega | (simp only [LnZ]; omega)) [wrap64]
  have Rb := H.sw1.rep
  refine H.bxst (u := vb) rfl rfl (by rw [Rb.cells]; rfl) (by rw [Rb.cells]; simp [Rb.one]) (by simp [Rb.cells]) fun h3 H => ?_
  have H : HS h [bx bB [vb], ow vb B] h3 := by simpa [setC, Rb.cells] using H
  obtain ⟨e, he'⟩ : ∃ e, e = eqv (bitR B) := ⟨_, rfl⟩
  have hme : a.mergeE e = a.mrg := by rw [he']; exact Aut.mrg_eq hG
  simp -implicitDefEqProofs (disch := first | omega | (simp only [LnZ]; omega)) [wrap64, H.bxld0, H.sw1.rep.len]
  refine (c_grouped (n := B.length) (f := fn_impl_Automaton_merge_1) (c1 := []) (c2 := [.pointer (some ⟨bB, 0, none⟩)]) (by rfl) e (by omega) ?_).go ?_
  · intro h4 hl i m hi hm
    subst he'
    exact c_merge_1 (hload_le hl H.bxld0) (H.sw1.rep.le hl) (by omega) hi (by omega)
  intro o h4 H4
  have H := (H4.app H).only
  rw [hBl] at H
  have hgl := grpS_len (e := e) a.acc.length
  have hgc := grpS_le (e := e) a.acc.length
  have hgp := grpS_pos (e := e) a.acc.length hn.1
  have hon : ∀ q (hq : q < a.acc.length), (zl (grpS e a.acc.length).1)[q]'(by simp; omega) = gnm e a.acc.length q := fun q hq => gnm_get hq
  have hzl : (zl (grpS e a.acc.length).1).length = a.acc.length := by simp [hgl]
  have H := H.nil_ow (α := Bool)
  simp -implicitDefEqProofs (disch := first | omega | (simp only [LnZ]; omega)) [wrap64, H.sw1.rep.len]
  refine wp_count a.acc.length (fun i e' h' => ∃ o2, e' = [none, some (.agg #[v1, v2, v3]), some (.agg #[.slice none 0 0, .slice none 0 0, .slice none 0 0]), none, some o, some (.agg #[.slice none 0 0, o2, .slice none 0 0]), none, none, none, none, none, some o, some (.int .i64 a.acc.length), some (.int .i64 i), none, none, none] ∧
    HS h [ow o2 (accG a e i), ow o (zl (grpS e a.acc.length).1)] h') ⟨.slice none 0 0, by simp [hgl], H⟩ ?_
  clear H
  rintro J i _ h5 hJ hi ⟨o2, rfl, H⟩
  have hal := accG_len (a := a) (e := e) i
  have hgi := grpS_le (e := e) i
  simp -implicitDefEqProofs (disch := first | omega | (simp only [LnZ]; omega)) [wrap64]
  refine IteW.mk (fun hlt => ?_) (fun hge => ?_)
  · have hin : i < a.acc.length := by omega
    have hst := accG_step (e := e) hin
    have hoi := hon i hin
    by_cases hnew : gnm e a.acc.length i = ((grpS e i).2 : Int)
    · have hoi2 : (zl (grpS e a.acc.length).1)[i]'(by simp; omega) = ((grpS e i).2 : Int) := by rw [hoi, hnew]
      simp -implicitDefEqProofs (disch := first | omega | (simp only [LnZ]; omega)) [wrap64, H.sw1.rep.I, hoi2, H.rep.len, hal, (R2.on H).B]
      refine H.app1 a.acc[i] rfl rfl rfl trivial rfl rfl (by omega) (by omega) fun o3 h6 H => ?_
      simp -implicitDefEqProofs (disch := first | omega | (simp only [LnZ]; omega)) [wrap64, H.rep.cells, H.rep.one, setC]
      exact hJ _ _ hin ⟨o3, rfl, by rw [hst, if_pos hnew]; exact H⟩
    · simp -implicitDefEqProofs (disch := first | omega | (simp only [LnZ]; omega)) [wrap64, H.sw1.rep.I, hoi, H.rep.len, hal, hnew]
      exact hJ _ _ hin ⟨o2, rfl, by rw [hst, if_neg hnew]; simpa using H⟩
  have hin : i = a.acc.length := by omega
  subst hin
  simp -implicitDefEqProofs (disch := first | omega | (simp only [LnZ]; omega)) [wrap64]
  refine (c_picked H.sw1.rep (R1.on H) (fun x hx => by have := incr_mem ha.i x hx; simp; omega) (by omega)).go ?_
  intro p h6 H6
  have H := H6.app H
  simp -implicitDefEqProofs (disch := first | omega | (simp only [LnZ]; omega)) [wrap64, H.rep.one, H.rep.cells, setC]
  refine (c_Sort_int H).go ?_
  intro _ h7 H
  simp -implicitDefEqProofs (disch := first | omega | (simp only [LnZ]; omega)) [wrap64]
  refine (c_Compact_int H).go ?_
  intro p2 h8 H
  have hini : Lib.compact ((a.init.map fun x => (zl (grpS e a.acc.length).1).getD x.toNat 0).mergeSort fun x y => decide (x ≤ y)) = (a.mergeE e).init := by
    obtain ⟨q1, q2⟩ := sort_compact (a.init.map fun x => (zl (grpS e a.acc.length).1).getD x.toNat 0)
    have hval : ∀ q ∈ a.init, (zl (grpS e a.acc.length).1).getD q.toNat 0 = gnm e a.acc.length q := by
      intro q hq
      have := incr_mem ha.i q hq
      rw [List.getD_eq_getElem?_getD, List.getElem?_eq_getElem (by simp; omega)]
      have h9 := hon q.toNat (by omega)
      rw [Int.toNat_of_nonneg (by omega)] at h9
      simpa using h9
    refine pairwise_ext q1 (incr_iff.1 (memL_incr (n := (grpS e a.acc.length).2) (Nat.le_refl _))).1 fun x => ?_
    rw [q2, show (a.mergeE e).init = memL _ _ from rfl, memL_mem]
    simp only [List.mem_map, List.any_eq_true, decide_eq_true_eq]
    constructor
    · rintro ⟨q, hq, rfl⟩
      have := incr_mem ha.i q hq
      have hg := gnm_lt (e := e) (n := a.acc.length) (x := q) (by omega) (by omega)
      rw [hval q hq]
      exact ⟨(gnm e a.acc.length q).toNat, by omega, by omega, q, hq, by omega⟩
    · rintro ⟨b, rfl, hb, q, hq, h9⟩
      exact ⟨q, hq, by rw [hval q hq]; exact h9⟩
  rw [hini] at H
  simp -implicitDefEqProofs (disch := first | omega | (simp only [LnZ]; omega)) [wrap64, H.rep.one, H.rep.cells, setC]
  have H := H.nil_ow (α := Tr)
  refine H.mkm (fun t : Tr => t.v) (fun b : Bool => .bool b) fun bm h9 H => ?_
  simp -implicitDefEqProofs (disch := first | omega | (simp only [LnZ]; omega)) [wrap64, (R3.on H).len]
  refine wp_count a.edges.length (fun i e' h' => ∃ o3, e' = [none, none, some (.agg #[.slice none 0 0, .slice none 0 0, .slice none 0 0]), none, some o, some (.agg #[p2, o2, o3]), none, none, some (.map (some bm)), none, none, none, none, none, some v3, some (.int .i64 a.edges.length), some (.int .i64 i)] ∧
    HS h [mpo (fun t : Tr => t.v) (fun b : Bool => .bool b) bm ((ded ((a.edges.map (Tr.ren (gnm e a.acc.length))).take i)).map fun t => (t, true)), ow o3 (ded ((a.edges.map (Tr.ren (gnm e a.acc.length))).take i)), ow p2 (a.mergeE e).init, ow o2 (accG a e a.acc.length), ow o (zl (grpS e a.acc.length).1)] h') ⟨.slice none 0 0, by simp, H⟩ ?_
  clear H hJ
  rintro J i _ h10 hJ hi2 ⟨o3, rfl, H⟩
  have hdl := ded_len (l := (a.edges.map (Tr.ren (gnm e a.acc.length))).take i)
  simp only [List.length_take, List.length_map] at hdl
  simp -implicitDefEqProofs (disch := first | omega | (simp only [LnZ]; omega)) [wrap64]
  refine IteW.mk (fun hlt2 => ?_) (fun hge2 => ?_)
  · have hix : i < a.edges.length := by omega
    have hx := ha.t hix
    have hv := R3.okTr hix
    unfold Tr.Ok at hx
    obtain ⟨f, hf⟩ : ∃ f : Nat, a.edges[i].frm = f := ⟨a.edges[i].frm.toNat, by omega⟩
    obtain ⟨t, ht⟩ : ∃ t : Nat, a.edges[i].to = t := ⟨a.edges[i].to.toNat, by omega⟩
    have hof := hon f (by omega)
    have hot := hon t (by omega)
    have hgf := gnm_lt (e := e) (n := a.acc.length) (x := f) (by omega) (by omega)
    have hgt := gnm_lt (e := e) (n := a.acc.length) (x := t) (by omega) (by omega)
    obtain ⟨y, hy⟩ : ∃ y : Tr, y = Tr.ren (gnm e a.acc.length) a.edges[i] := ⟨_, rfl⟩
    have hyv : y.v = .agg #[.int .i64 (gnm e a.acc.length f), .int .i64 a.edges[i].care, .int .i64 a.edges[i].value, .int .i64 (gnm e a.acc.length t)] := by
      rw [hy]; simp [Tr.v, Tr.ren, hf, ht]
    have hyok : y.ok := by
      rw [hy]
      exact ⟨by simp only [Tr.ren, hf]; omega, hv.care, hv.value, by simp only [Tr.ren, ht]; omega⟩
    have hds := ded_succ (l := a.edges.map (Tr.ren (gnm e a.acc.length))) (i := i) (by simpa using hix)
    simp only [List.getElem_map, ← hy] at hds
    have hmk : ∀ D : List Tr, mlk (D.map fun t => (t, true)) y = if y ∈ D then some true else none := by
      intro D
      induction D with
      | nil => rfl
      | cons d D ih =>
        simp only [mlk, List.map_cons, List.find?_cons] at ih ⊢
        by_cases hdy : d = y
        · subst hdy; simp
        · simp only [hdy, decide_false]
          rw [ih]
          simp [Ne.symm hdy]
    simp -implicitDefEqProofs (disch := first | omega | (simp only [LnZ]; omega)) [wrap64, (R3.on H).xTr, Tr.v, setC, hf, ht, H.sw4.rep.I, hof, hot]
    refine H.mget (a := y) rfl (by simp [O.get, hyv]) keyEq_Tr ?_
    rw [hmk]
    by_cases hm : y ∈ ded ((a.edges.map (Tr.ren (gnm e a.acc.length))).take i)
    · rw [if_pos hm]
      simp -implicitDefEqProofs (disch := first | omega | (simp only [LnZ]; omega)) [wrap64]
      exact hJ _ _ hix ⟨o3, by simp, by rw [hds, if_pos hm]; exact H⟩
    · rw [if_neg hm]
      simp -implicitDefEqProofs (disch := first | omega | (simp only [LnZ]; omega)) [wrap64]
      refine H.mput (a := y) (v := true) rfl (by simp [O.get, hyv]) rfl keyEq_Tr (by rw [hmk, if_neg hm]) fun h11 H => ?_
      simp -implicitDefEqProofs (disch := first | omega | (simp only [LnZ]; omega)) [wrap64]
      have H := H.sw1
      refine H.app1 y rfl rfl (by simp [setC, Flat.enc, hy, Tr.ren, hf, ht]) (Tr.ok_iff.2 hyok) rfl rfl (by omega) (by omega) fun o3' h12 H => ?_
      simp -implicitDefEqProofs (disch := first | omega | (simp only [LnZ]; omega)) [wrap64, H.rep.cells, H.rep.one, setC]
      refine hJ _ _ hix ⟨o3', by simp, ?_⟩
      rw [hds, if_neg hm, List.map_append]
      exact H.sw1
  have hii : i = a.edges.length := by omega
  subst hii
  rw [List.take_of_length_le (by simp)] at H
  have H := H.drop
  have H := HS.mkAut (a := a.mergeE e) H.sw2.sw2
  rw [hme] at H
  have hok := Aut.mrg_ok ha
  have e1 := hok.n
  have e2 := hok.il
  have e3 := hok.e
  simp -implicitDefEqProofs (disch := first | omega | (simp only [LnZ]; omega)) [wrap64]
  refine (c_copyOf H.rep (by omega) (by omega) (by omega)).go ?_
  intro v' h9 H6
  have H := (H6.app H).only
  obtain ⟨z1, z2, z3, rfl, S1, S2, S3⟩ := Rep_Aut.1 H.rep
  simp -implicitDefEqProofs (disch := first | omega | (simp only [LnZ]; omega)) [wrap64, S1.one, S2.one, S3.one]
  exact RetK.keep (hk _ _ H)
end Go.Proofs.YtglnelcmcimljaaGreat

namespace Go.Proofs.YtglnelcmcimljaaGreat
open Go
theorem matR_at {M : List (List Bool)} {n i j : Nat} (hM : M.length = n) (hr : ∀ r ∈ M, r.length = n) (hi : i < n) (hj : j < n) : ∃ (h1 : i < M.length) (h2 : j < M[i].length), matR M i j = M[i][j] := by
  have h1 : i < M.length := by omega
  have h2 : j < M[i].length := by rw [hr _ (List.getElem_mem h1)]; exact hj
  exact ⟨h1, h2, matR_get h1 h2⟩
set_option maxHeartbeats 4000000 in
theorem c_l13Merge {h : Heap} {v : Value} {a : Aut} (Ra : Rep h v a) (ha : a.Ok) : CallE Tryz.prog fn_spec_l13Merge [v] h (fun u h' => HS h [ow u a.mrg] h') := by
  obtain ⟨v1, v2, v3, rfl, R1, R2, R3⟩ := Rep_Aut.1 Ra
  have hn := ha.n
  have he := ha.e
  have hil := ha.il
  refine CallE.gen fun k hk => EN_spec_l13Merge rfl ?_
  simp -implicitDefEqProofs (disch := first | omega | (simp only [LnZ]; omega)) [wrap64]
  refine (c_l13Relation Ra ha).go ?_
  rintro w h1 ⟨M, H, hMl, hMr, hG⟩
  obtain ⟨e, he'⟩ : ∃ e, e = eqv (matR M) := ⟨_, rfl⟩
  have hme : a.mergeE e = a.mrg := by rw [he']; exact Aut.mrg_eq hG
  have hgl := grpS_len (e := e) a.acc.length
  have hgc := grpS_le (e := e) a.acc.length
  have hgp := grpS_pos (e := e) a.acc.length hn.1
  have hon : ∀ q (hq : q < a.acc.length), (zl (grpS e a.acc.length).1)[q]'(by simp; omega) = gnm e a.acc.length q := fun q hq => gnm_get hq
  have hzl : (zl (grpS e a.acc.length).1).length = a.acc.length := by simp [hgl]
  simp -implicitDefEqProofs (disch := first | omega | (simp only [LnZ]; omega)) [wrap64]
  refine H.bls0 Int fun o h2 H => ?_
  have H := H.nil_ow (α := Bool)
  simp -implicitDefEqProofs (disch := first | omega | (simp only [LnZ]; omega)) [wrap64]
  refine wp_count a.acc.length (fun i e' h' => ∃ o o2, e' = [none, some (.agg #[v1, v2, v3]), some (.agg #[.slice none 0 0, .slice none 0 0, .slice none 0 0]), some w, some o, some (.agg #[.slice none 0 0, o2, .slice none 0 0]), some (.int .i64 i), none, none, none, none, none, none] ∧
    HS h [ow o2 (accG a e i), ow o (zl (grpS e i).1), ow w M] h') ⟨o, .slice none 0 0, by simp, by simpa [grpS, zl, accG] using H⟩ ?_
  clear H
  rintro J i _ h3 hJ hi ⟨o, o2, rfl, H⟩
  have hal := accG_len (a := a) (e := e) i
  have hgi := grpS_le (e := e) i
  have hgli := grpS_len (e := e) i
  have hzi : (zl (grpS e i).1).length = i := by simp [hgli]
  simp -implicitDefEqProofs (disch := first | omega | (simp only [LnZ]; omega)) [wrap64, H.sw2.rep.len]
  refine IteW.mk (fun hlt => ?_) (fun hge => ?_)
  · have hin : i < a.acc.length := by omega
    obtain ⟨hi1, _, _⟩ := matR_at hMl hMr hin hin
    have hri := hMr _ (List.getElem_mem hi1)
    simp -implicitDefEqProofs (disch := first | omega | (simp only [LnZ]; omega)) [wrap64]
    refine wp_count i (fun m e' h' => e' = [none, some (.agg #[v1, v2, v3]), some (.agg #[.slice none 0 0, .slice none 0 0, .slice none 0 0]), some w, some o, some (.agg #[.slice none 0 0, o2, .slice none 0 0]), some (.int .i64 i), some (.int .i64 m), none, none, none, none, none] ∧ HS h [ow o2 (accG a e i), ow o (zl (grpS e i).1), ow w M] h' ∧ ∀ j, j < m → e i j = false) ⟨by simp, H, fun j hj => absurd hj (Nat.not_lt_zero j)⟩ ?_
    clear H
    rintro J2 m _ h4 hJ2 hm2 ⟨rfl, H, hno⟩
    have Rw := H.sw2.rep
    have hstop : ∀ (hmi : m < i) (hem : e i m = true), (List.range i).find? (fun k => e i k) = some m := fun hmi hem => find_range (p := fun k => e i k) hmi hem hno
    by_cases hmi : m < i
    · obtain ⟨hm1, _, _⟩ := matR_at hMl hMr (show m < a.acc.length by omega) hin
      have hrm := hMr _ (List.getElem_mem hm1)
      obtain ⟨q1, q2, q3⟩ := matR_at hMl hMr hin (show m < a.acc.length by omega)
      obtain ⟨q4, q5, q6⟩ := matR_at hMl hMr (show m < a.acc.length by omega) hin
      obtain ⟨ui, hui, Rui⟩ := Rw.ldL hi1
      obtain ⟨um, hum, Rum⟩ := Rw.ldL hm1
      have hek : e i m = (M[i][m] && M[m][i]) := by rw [he']; simp only [eqv]; rw [q3, q6]
      cases hb1 : M[i][m] with
      | false =>
        have hef : e i m = false := by rw [hek, hb1]; rfl
        simp -implicitDefEqProofs (disch := first | omega | (simp only [LnZ]; omega)) [wrap64, hmi, Rw.X (n := 1) rfl, hui, Rui.B, hb1]
        refine hJ2 _ _ hmi ⟨by simp, H, fun j hj => ?_⟩
        by_cases ej : j = m
        · subst ej; exact hef
        · exact hno j (by omega)
      | true =>
        cases hb2 : M[m][i] with
        | false =>
          have hef : e i m = false := by rw [hek, hb1, hb2]; rfl
          simp -implicitDefEqProofs (disch := first | omega | (simp only [LnZ]; omega)) [wrap64, hmi, Rw.X (n := 1) rfl, hui, Rui.B, hb1, hum, Rum.B, hb2]
          refine hJ2 _ _ hmi ⟨by simp, H, fun j hj => ?_⟩
          by_cases ej : j = m
          · subst ej; exact hef
          · exact hno j (by omega)
        | true =>
          have hef : e i m = true := by rw [hek, hb1, hb2]; rfl
          have hgo := grpS_old (hstop hmi hef)
          obtain ⟨x, hx⟩ : ∃ x, x = (grpS e i).1[m]'(by omega) := ⟨_, rfl⟩
          have hxl : x < (grpS e i).2 := hx ▸ grpS_lt i _ (List.getElem_mem (by omega))
          have hzm : (zl (grpS e i).1)[m]'(by omega) = (x : Int) := by rw [zl_get (by omega), ← hx]
          have hacc : accG a e (i + 1) = accG a e i := by simp [accG, hstop hmi hef]
          simp -implicitDefEqProofs (disch := first | omega | (simp only [LnZ]; omega)) [wrap64, hmi, Rw.X (n := 1) rfl, hui, Rui.B, hb1, hum, Rum.B, hb2, H.sw1.rep.I, hzm]
          refine H.sw1.app1 (x : Int) rfl rfl rfl ⟨by omega, by omega⟩ rfl rfl (by omega) (by omega) fun o' h5 H => ?_
          simp -implicitDefEqProofs (disch := first | omega | (simp only [LnZ]; omega)) [wrap64]
          refine hJ _ _ hin ⟨o', o2, by simp, ?_⟩
          rw [hgo, hacc, zl_append, List.getD_eq_getElem?_getD, List.getElem?_eq_getElem (by omega : m < (grpS e i).1.length), ← hx]
          simpa [zl] using H.sw1
    · have hmi2 : m = i := by omega
      subst hmi2
      have hfn := find_none (p := fun j => e m j) hno
      have hgn := grpS_new hfn
      have hacc : accG a e (m + 1) = accG a e m ++ [a.acc[m]] := by simp [accG, hfn, hin]
      simp -implicitDefEqProofs (disch := first | omega | (simp only [LnZ]; omega)) [wrap64, H.rep.len]
      refine H.sw1.app1 ((grpS e m).2 : Int) rfl rfl (by simp [hal, O.get, Flat.enc, setC]) ⟨by omega, by omega⟩ rfl rfl (by omega) (by omega) fun o' h5 H => ?_
      have H := H.sw1
      simp -implicitDefEqProofs (disch := first | omega | (simp only [LnZ]; omega)) [wrap64, (R2.on H).B]
      refine H.app1 a.acc[m] rfl rfl rfl trivial rfl rfl (by omega) (by omega) fun o3 h6 H => ?_
      simp -implicitDefEqProofs (disch := first | omega | (simp only [LnZ]; omega)) [wrap64, H.rep.cells, H.rep.one, setC]
      refine hJ _ _ hin ⟨o', o3, by simp, ?_⟩
      rw [hgn, hacc, zl_append]
      exact H
  have hin : i = a.acc.length := by omega
  subst hin
  have H := H.sw2.drop
  have H := H.nil_ow (α := Int)
  simp -implicitDefEqProofs (disch := first | omega | (simp only [LnZ]; omega)) [wrap64]
  refine wp_count a.init.length (fun i e' h' => ∃ o1, e' = [none, some (.agg #[v1, v2, v3]), some (.agg #[.slice none 0 0, .slice none 0 0, .slice none 0 0]), none, some o, some (.agg #[o1, o2, .slice none 0 0]), none, none, some (.int .i64 i), none, none, none, none] ∧
    ∃ I : List Int, HS h [ow o1 I, ow o2 (accG a e a.acc.length), ow o (zl (grpS e a.acc.length).1)] h' ∧ incr ((grpS e a.acc.length).2 : Nat) (-1) I ∧ ∀ x, x ∈ I ↔ ∃ q ∈ a.init.take i, gnm e a.acc.length q = x) ⟨.slice none 0 0, by simp, [], H, trivial, by simp⟩ ?_
  clear H hJ
  rintro J i _ h4 hJ hi2 ⟨o1, rfl, I, H, hI, hIm⟩
  simp -implicitDefEqProofs (disch := first | omega | (simp only [LnZ]; omega)) [wrap64, (R1.on H).len]
  refine IteW.mk (fun hlt2 => ?_) (fun hge2 => ?_)
  · have hix : i < a.init.length := by omega
    have hx := ha.im hix
    obtain ⟨q, hq⟩ : ∃ q : Nat, a.init[i] = q := ⟨a.init[i].toNat, by omega⟩
    have hoq := hon q (by omega)
    have hgq := gnm_lt (e := e) (n := a.acc.length) (x := q) (by omega) (by omega)
    simp -implicitDefEqProofs (disch := first | omega | (simp only [LnZ]; omega)) [wrap64, (R1.on H).I, hq, H.sw2.rep.I, hoq]
    refine (c_l10Sorted H hI (by omega) (by omega)).go ?_
    rintro o1' h5 ⟨I', H, hI', hIm'⟩
    simp -implicitDefEqProofs (disch := first | omega | (simp only [LnZ]; omega)) [wrap64, H.rep.cells, H.rep.one, setC]
    refine hJ _ _ hix ⟨o1', rfl, I', H, hI', fun x => ?_⟩
    rw [hIm', hIm]
    constructor
    · rintro (⟨p, h6, h7⟩ | rfl)
      · exact ⟨p, (take_mem_succ hix).2 (.inl h6), h7⟩
      · exact ⟨_, (take_mem_succ hix).2 (.inr rfl), by rw [hq]⟩
    · rintro ⟨p, h6, h7⟩
      rcases (take_mem_succ hix).1 h6 with h6 | rfl
      · exact .inl ⟨p, h6, h7⟩
      · exact .inr (by rw [← h7, hq])
  have hii : i = a.init.length := by omega
  subst hii
  rw [List.take_length] at hIm
  have hini : I = (a.mergeE e).init := by
    refine incr_ext hI (memL_incr (n := (grpS e a.acc.length).2) (Nat.le_refl _)) fun x => ?_
    rw [hIm, show (a.mergeE e).init = memL _ _ from rfl, memL_mem]
    simp only [List.any_eq_true, decide_eq_true_eq]
    constructor
    · rintro ⟨q, hq, rfl⟩
      have := incr_mem ha.i q hq
      have hg := gnm_lt (e := e) (n := a.acc.length) (x := q) (by omega) (by omega)
      exact ⟨(gnm e a.acc.length q).toNat, by omega, by omega, q, hq, by omega⟩
    · rintro ⟨b, rfl, hb, q, hq, h9⟩
      exact ⟨q, hq, h9⟩
  rw [hini] at H
  have H := H.nil_ow (α := Tr)
  simp -implicitDefEqProofs (disch := first | omega | (simp only [LnZ]; omega)) [wrap64]
  refine wp_count a.edges.length (fun i e' h' => ∃ o3, e' = [none, some (.agg #[v1, v2, v3]), some (.agg #[.slice none 0 0, .slice none 0 0, .slice none 0 0]), none, some o, some (.agg #[o1, o2, o3]), none, none, none, some (.int .i64 i), none, none, none] ∧
    HS h [ow o3 (ded ((a.edges.map (Tr.ren (gnm e a.acc.length))).take i)), ow o1 (a.mergeE e).init, ow o2 (accG a e a.acc.length), ow o (zl (grpS e a.acc.length).1)] h') ⟨.slice none 0 0, by simp, H⟩ ?_
  clear H hJ
  rintro J i _ h10 hJ hi3 ⟨o3, rfl, H⟩
  have hdl := ded_len (l := (a.edges.map (Tr.ren (gnm e a.acc.length))).take i)
  simp only [List.length_take, List.length_map] at hdl
  simp -implicitDefEqProofs (disch := first | omega | (simp only [LnZ]; omega)) [wrap64, (R3.on H).len]
  refine IteW.mk (fun hlt2 => ?_) (fun hge2 => ?_)
  · have hix : i < a.edges.length := by omega
    have hx := ha.t hix
    have hv := R3.okTr hix
    unfold Tr.Ok at hx
    obtain ⟨f, hf⟩ : ∃ f : Nat, a.edges[i].frm = f := ⟨a.edges[i].frm.toNat, by omega⟩
    obtain ⟨t, ht⟩ : ∃ t : Nat, a.edges[i].to = t := ⟨a.edges[i].to.toNat, by omega⟩
    have hof := hon f (by omega)
    have hot := hon t (by omega)
    have hgf := gnm_lt (e := e) (n := a.acc.length) (x := f) (by omega) (by omega)
    have hgt := gnm_lt (e := e) (n := a.acc.length) (x := t) (by omega) (by omega)
    obtain ⟨y, hy⟩ : ∃ y : Tr, y = Tr.ren (gnm e a.acc.length) a.edges[i] := ⟨_, rfl⟩
    have hyv : y.v = .agg #[.int .i64 (gnm e a.acc.length f), .int .i64 a.edges[i].care, .int .i64 a.edges[i].value, .int .i64 (gnm e a.acc.length t)] := by
      rw [hy]; simp [Tr.v, Tr.ren, hf, ht]
    have hyok : y.ok := by
      rw [hy]
      exact ⟨by simp only [Tr.ren, hf]; omega, hv.care, hv.value, by simp only [Tr.ren, ht]; omega⟩
    have hds := ded_succ (l := a.edges.map (Tr.ren (gnm e a.acc.length))) (i := i) (by simpa using hix)
    simp only [List.getElem_map, ← hy] at hds
    obtain ⟨D, hD⟩ : ∃ D, D = ded ((a.edges.map (Tr.ren (gnm e a.acc.length))).take i) := ⟨_, rfl⟩
    rw [← hD] at H hds hdl
    simp -implicitDefEqProofs (disch := first | omega | (simp only [LnZ]; omega)) [wrap64, (R3.on H).X (n := 4) rfl, (R3.on H).fTr, hf, ht, setC, H.sw3.rep.I, hof, hot]
    refine wp_count D.length (fun m e' h' => ∃ b : Bool, e' = [none, some (.agg #[v1, v2, v3]), some (.agg #[.slice none 0 0, .slice none 0 0, .slice none 0 0]), none, some o, some (.agg #[o1, o2, o3]), none, none, none, some (.int .i64 i), some y.v, some (.bool b), some (.int .i64 m)] ∧
      HS h [ow o3 D, ow o1 (a.mergeE e).init, ow o2 (accG a e a.acc.length), ow o (zl (grpS e a.acc.length).1)] h' ∧ (b = true ↔ y ∈ D.take m)) ⟨false, by simp [hyv], H, by simp⟩ ?_
    clear H
    rintro J2 m _ h11 hJ2 hm2 ⟨b, rfl, H, hb⟩
    have hDv : ∀ j (hj : j < D.length), D[j].v = y.v ↔ D[j] = y := by
      intro j hj
      cases D[j]; cases y
      simp [Tr.v]
    simp -implicitDefEqProofs (disch := first | omega | (simp only [LnZ]; omega)) [wrap64, H.rep.len]
    refine IteW.mk (fun hlt3 => ?_) (fun hge3 => ?_)
    · have hmD : m < D.length := by omega
      cases b with
      | true =>
        simp -implicitDefEqProofs (disch := first | omega | (simp only [LnZ]; omega)) [wrap64]
        exact hJ2 _ _ hmD ⟨true, by simp, H, by rw [take_mem_succ hmD]; simp [hb.1 rfl]⟩
      | false =>
        have hno : ¬ y ∈ D.take m := fun h => by have := hb.2 h; simp at this
        simp -implicitDefEqProofs (disch := first | omega | (simp only [LnZ]; omega)) [wrap64, H.rep.xTr, Tr.v, hyv, setC]
        refine hJ2 _ _ hmD ⟨decide (D[m] = y), by simp [Tr.v, Tr.ext_iff', Bool.decide_and], H, ?_⟩
        rw [take_mem_succ hmD, decide_eq_true_iff]
        constructor
        · intro h; exact .inr h.symm
        · rintro (h | h)
          · exact absurd h hno
          · exact h.symm
    · have hmD : m = D.length := by omega
      subst hmD
      rw [List.take_length] at hb
      cases b with
      | true =>
        have hm := hb.1 rfl
        simp -implicitDefEqProofs (disch := first | omega | (simp only [LnZ]; omega)) [wrap64]
        exact hJ _ _ hix ⟨o3, by simp, by rw [hds, if_pos hm]; exact H⟩
      | false =>
        have hm : ¬ y ∈ D := fun h => by have := hb.2 h; simp at this
        simp -implicitDefEqProofs (disch := first | omega | (simp only [LnZ]; omega)) [wrap64, Tr.v, setC]
        refine H.app1 y rfl rfl (by simp [setC, Flat.enc, Tr.v]) (Tr.ok_iff.2 hyok) rfl rfl (by omega) (by omega) fun o3' h12 H => ?_
        simp -implicitDefEqProofs (disch := first | omega | (simp only [LnZ]; omega)) [wrap64, H.rep.cells, H.rep.one, setC]
        exact hJ _ _ hix ⟨o3', by simp, by rw [hds, if_neg hm]; exact H⟩
  have hii : i = a.edges.length := by omega
  subst hii
  rw [List.take_of_length_le (by simp)] at H
  have H := HS.mkAut (a := a.mergeE e) H.sw2.sw2
  rw [hme] at H
  have H := H.only
  obtain ⟨z1, z2, z3, hz, S1, S2, S3⟩ := Rep_Aut.1 H.rep
  simp at hz
  obtain ⟨rfl, rfl, rfl⟩ := hz
  simp -implicitDefEqProofs (disch := first | omega | (simp only [LnZ]; omega)) [wrap64, S1.one, S2.one, S3.one]
  exact RetK.keep (hk _ _ H)
theorem c_MergeStates {h : Heap} {v : Value} {a : Aut} (Ra : Rep h v a) : CallE Tryz.prog fn_impl_MergeStates [v] h (okR Aut.mrg h a) := by
  have Fa := Ra.aAut
  refine CallE.gen fun k hk => EN_impl_MergeStates rfl ?_
  simp -implicitDefEqProofs (disch := first | omega | (simp only [LnZ]; omega)) [wrap64, Fa]
  refine (c_AutomatonValid Ra).go ?_
  rintro _ h1 ⟨l1, rfl⟩
  by_cases ha : a.Ok
  · simp -implicitDefEqProofs (disch := first | omega | (simp only [LnZ]; omega)) [wrap64, ha, Fa]
    refine (c_merge (Ra.le l1) ha).go ?_
    intro u h2 H
    have H := HS.app (Γ := []) H l1
    obtain ⟨z1, z2, z3, rfl, S1, S2, S3⟩ := Rep_Aut.1 H.rep
    simp -implicitDefEqProofs (disch := first | omega | (simp only [LnZ]; omega)) [wrap64, S1.one, S2.one, S3.one]
    exact RetK.keep (hk _ _ (okR.yes ha H))
  · simp -implicitDefEqProofs (disch := first | omega | (simp only [LnZ]; omega)) [wrap64, ha]
    exact RetK.keep (hk _ _ (okR.no ha l1))
theorem c_spec_MergeStates {h : Heap} {v : Value} {a : Aut} (Ra : Rep h v a) : CallE Tryz.prog fn_spec_MergeStates [v] h (okR Aut.mrg h a) := by
  have Fa := Ra.aAut
  refine CallE.gen fun k hk => EN_spec_MergeStates rfl ?_
  simp -implicitDefEqProofs (disch := first | omega | (simp only [LnZ]; omega)) [wrap64, Fa]
  refine (c_spec_AutomatonValid Ra).go ?_
  rintro _ _ ⟨rfl, rfl⟩
  by_cases ha : a.Ok
  · simp -implicitDefEqProofs (disch := first | omega | (simp only [LnZ]; omega)) [wrap64, ha, Fa]
    refine (c_l13Merge Ra ha).go ?_
    intro u h2 H
    obtain ⟨z1, z2, z3, rfl, S1, S2, S3⟩ := Rep_Aut.1 H.rep
    simp -implicitDefEqProofs (disch := first | omega | (simp only [LnZ]; omega)) [wrap64, S1.one, S2.one, S3.one]
    exact RetK.keep (hk _ _ (okR.yes ha H))
  · simp -implicitDefEqProofs (disch := first | omega | (simp only [LnZ]; omega)) [wrap64, ha]
    exact RetK.keep (hk _ _ (okR.no ha HS.init))
end Go.Proofs.YtglnelcmcimljaaGreat

namespace Go.Proofs.YtglnelcmcimljaaGreat
open Go
theorem c_Equal_int {h : Heap} {a b : Value} {x y : List Int} (Ra : Rep h a x) (Rb : Rep h b y) : CallE Tryz.prog fn_slices_Equal_S_int_int [a, b] h (fun u h' => h' = h ∧ u = .bool (decide (x = y))) := by
  have hL := Ra.lt
  refine CallE.gen fun k hk => EN_slices_Equal_S_int_int rfl ?_
  by_cases hl : (x.length : Int) = y.length
  case neg =>
    simp -implicitDefEqProofs (disch := first | omega | (simp only [LnZ]; omega)) [wrap64, Ra.len, Rb.len, hl]
    exact RetK.keep (hk _ _ ⟨rfl, by congr 1; rw [eq_comm, decide_eq_false_iff_not]; intro e; subst e; exact hl rfl⟩)
  simp -implicitDefEqProofs (disch := first | omega | (simp only [LnZ]; omega)) [wrap64, Ra.len, Rb.len, hl]
  refine wp_count x.length (fun i e h' => e = [some a, some b, none, none, some (.int .i64 x.length), some (.int .i64 i)] ∧ h' = h ∧ x.take i = y.take i) ⟨by simp [hl], rfl, rfl⟩ ?_
  rintro J i _ h1 hJ hi ⟨rfl, rfl, hq⟩
  simp -implicitDefEqProofs (disch := first | omega | (simp only [LnZ]; omega)) [wrap64]
  refine IteW.mk (fun hlt => ?_) (fun hge => ?_)
  · have hlx : i < x.length := by omega
    have hly : i < y.length := by omega
    by_cases he : x[i] = y[i]
    · simp -implicitDefEqProofs (disch := first | omega | (simp only [LnZ]; omega)) [wrap64, Ra.I, Rb.I, he]
      exact hJ _ _ hlx ⟨rfl, rfl, take_step hq hlx hly he⟩
    · simp -implicitDefEqProofs (disch := first | omega | (simp only [LnZ]; omega)) [wrap64, Ra.I, Rb.I, he]
      exact RetK.keep (hk _ _ ⟨rfl, by congr 1; rw [eq_comm, decide_eq_false_iff_not]; intro e; subst e; exact he rfl⟩)
  · simp -implicitDefEqProofs (disch := first | omega | (simp only [LnZ]; omega)) [wrap64]
    rw [List.take_of_length_le (by omega), List.take_of_length_le (by omega)] at hq
    exact RetK.keep (hk _ _ ⟨rfl, by simp [hq]⟩)
theorem c_Equal_bool {h : Heap} {a b : Value} {x y : List Bool} (Ra : Rep h a x) (Rb : Rep h b y) : CallE Tryz.prog fn_slices_Equal_S_bool_bool [a, b] h (fun u h' => h' = h ∧ u = .bool (decide (x = y))) := by
  have hL := Ra.lt
  refine CallE.gen fun k hk => EN_slices_Equal_S_bool_bool rfl ?_
  by_cases hl : (x.length : Int) = y.length
  case neg =>
    simp -implicitDefEqProofs (disch := first | omega | (simp only [LnZ]; omega)) [wrap64, Ra.len, Rb.len, hl]
    exact RetK.keep (hk _ _ ⟨rfl, by congr 1; rw [eq_comm, decide_eq_false_iff_not]; intro e; subst e; exact hl rfl⟩)
  simp -implicitDefEqProofs (disch := first | omega | (simp only [LnZ]; omega)) [wrap64, Ra.len, Rb.len, hl]
  refine wp_count x.length (fun i e h' => e = [some a, some b, none, none, some (.int .i64 x.length), some (.int .i64 i)] ∧ h' = h ∧ x.take i = y.take i) ⟨by simp [hl], rfl, rfl⟩ ?_
  rintro J i _ h1 hJ hi ⟨rfl, rfl, hq⟩
  simp -implicitDefEqProofs (disch := first | omega | (simp only [LnZ]; omega)) [wrap64]
  refine IteW.mk (fun hlt => ?_) (fun hge => ?_)
  · have hlx : i < x.length := by omega
    have hly : i < y.length := by omega
    by_cases he : x[i] = y[i]
    · simp -implicitDefEqProofs (disch := first | omega | (simp only [LnZ]; omega)) [wrap64, Ra.B, Rb.B, he]
      exact hJ _ _ hlx ⟨rfl, rfl, take_step hq hlx hly he⟩
    · simp -implicitDefEqProofs (disch := first | omega | (simp only [LnZ]; omega)) [wrap64, Ra.B, Rb.B, he]
      exact RetK.keep (hk _ _ ⟨rfl, by congr 1; rw [eq_comm, decide_eq_false_iff_not]; intro e; subst e; exact he rfl⟩)
  · simp -implicitDefEqProofs (disch := first | omega | (simp only [LnZ]; omega)) [wrap64]
    rw [List.take_of_length_le (by omega), List.take_of_length_le (by omega)] at hq
    exact RetK.keep (hk _ _ ⟨rfl, by simp [hq]⟩)
theorem c_Equal_Tr {h : Heap} {a b : Value} {x y : List Tr} (Ra : Rep h a x) (Rb : Rep h b y) : CallE Tryz.prog fn_slices_Equal_S_impl_Transition_impl_Transition [a, b] h (fun u h' => h' = h ∧ u = .bool (decide (x = y))) := by
  have hL := Ra.lt
  refine CallE.gen fun k hk => EN_slices_Equal_S_impl_Transition_impl_Transition rfl ?_
  by_cases hl : (x.length : Int) = y.length
  case neg =>
    simp -implicitDefEqProofs (disch := first | omega | (simp only [LnZ]; omega)) [wrap64, Ra.len, Rb.len, hl]
    exact RetK.keep (hk _ _ ⟨rfl, by congr 1; rw [eq_comm, decide_eq_false_iff_not]; intro e; subst e; exact hl rfl⟩)
  simp -implicitDefEqProofs (disch := first | omega | (simp only [LnZ]; omega)) [wrap64, Ra.len, Rb.len, hl]
  refine wp_count x.length (fun i e h' => e = [some a, some b, none, none, some (.int .i64 x.length), some (.int .i64 i)] ∧ h' = h ∧ x.take i = y.take i) ⟨by simp [hl], rfl, rfl⟩ ?_
  rintro J i _ h1 hJ hi ⟨rfl, rfl, hq⟩
  simp -implicitDefEqProofs (disch := first | omega | (simp only [LnZ]; omega)) [wrap64]
  refine IteW.mk (fun hlt => ?_) (fun hge => ?_)
  · have hlx : i < x.length := by omega
    have hly : i < y.length := by omega
    by_cases he : x[i] = y[i]
    · simp -implicitDefEqProofs (disch := first | omega | (simp only [LnZ]; omega)) [wrap64, Ra.xTr, Rb.xTr, Tr.v, he]
      exact hJ _ _ hlx ⟨rfl, rfl, take_step hq hlx hly he⟩
    · have he2 := he
      rw [Tr.ext_iff'] at he2
      simp -implicitDefEqProofs (disch := first | omega | (simp only [LnZ]; omega)) [wrap64, Ra.xTr, Rb.xTr, Tr.v]
      refine IteW.mk (fun _ => ?_) (fun hh => absurd ?_ he2)
      · simp -implicitDefEqProofs (disch := first | omega | (simp only [LnZ]; omega)) [wrap64]
        exact RetK.keep (hk _ _ ⟨rfl, by congr 1; rw [eq_comm, decide_eq_false_iff_not]; intro e; subst e; exact he rfl⟩)
      · simpa [Classical.not_imp] using hh
  · simp -implicitDefEqProofs (disch := first | omega | (simp only [LnZ]; omega)) [wrap64]
    rw [List.take_of_length_le (by omega), List.take_of_length_le (by omega)] at hq
    exact RetK.keep (hk _ _ ⟨rfl, by simp [hq]⟩)
theorem c_AutomatonSame {h : Heap} {v w : Value} {a b : Aut} (Ra : Rep h v a) (Rb : Rep h w b) : CallE Tryz.prog fn_impl_AutomatonSame [v, w] h (fun u h' => h' = h ∧ u = .bool (decide (a = b))) := by
  obtain ⟨v1, v2, v3, rfl, R1, R2, R3⟩ := Rep_Aut.1 Ra
  obtain ⟨w1, w2, w3, rfl, S1, S2, S3⟩ := Rep_Aut.1 Rb
  refine CallE.gen fun k hk => EN_impl_AutomatonSame rfl ?_
  have hno : ¬ a = b → k (.bool false) h := fun hn => hk _ _ ⟨rfl, by simp [hn]⟩
  simp -implicitDefEqProofs (disch := first | omega | (simp only [LnZ]; omega)) [wrap64]
  refine (c_Equal_int R1 S1).go ?_
  rintro _ _ ⟨rfl, rfl⟩
  by_cases h1 : a.init = b.init
  case neg =>
    simp -implicitDefEqProofs (disch := first | omega | (simp only [LnZ]; omega)) [wrap64, h1]
    exact RetK.keep (hno fun e => h1 (e ▸ rfl))
  simp -implicitDefEqProofs (disch := first | omega | (simp only [LnZ]; omega)) [wrap64, h1]
  refine (c_Equal_bool R2 S2).go ?_
  rintro _ _ ⟨rfl, rfl⟩
  by_cases h2 : a.acc = b.acc
  case neg =>
    simp -implicitDefEqProofs (disch := first | omega | (simp only [LnZ]; omega)) [wrap64, h2]
    exact RetK.keep (hno fun e => h2 (e ▸ rfl))
  simp -implicitDefEqProofs (disch := first | omega | (simp only [LnZ]; omega)) [wrap64, h2]
  refine (c_Equal_Tr R3 S3).go ?_
  rintro _ _ ⟨rfl, rfl⟩
  by_cases h3 : a.edges = b.edges
  case neg =>
    simp -implicitDefEqProofs (disch := first | omega | (simp only [LnZ]; omega)) [wrap64, h3]
    exact RetK.keep (hno fun e => h3 (e ▸ rfl))
  simp -implicitDefEqProofs (disch := first | omega | (simp only [LnZ]; omega)) [wrap64, h3]
  exact RetK.keep (hk _ _ ⟨rfl, by simp [Aut.ext3 h1 h2 h3]⟩)
end Go.Proofs.YtglnelcmcimljaaGreat

namespace Go.Proofs.YtglnelcmcimljaaGreat
open Go
def SimR (a : Aut) (M : List (List Bool)) : Prop := (¬ a.Ok ∧ M = []) ∨ (a.Ok ∧ M.length = a.acc.length ∧ (∀ r ∈ M, r.length = a.acc.length) ∧ Great a (matR M))
theorem SimR.fn {a : Aut} {M M' : List (List Bool)} (h : SimR a M) (h' : SimR a M') : M = M' := by
  rcases h with ⟨h1, rfl⟩ | ⟨h1, h2, h3, h4⟩
  · rcases h' with ⟨_, rfl⟩ | ⟨h5, _⟩
    · rfl
    · exact absurd h5 h1
  · rcases h' with ⟨h5, _⟩ | ⟨h5, h6, h7, h8⟩
    · exact absurd h1 h5
    refine List.ext_getElem (by omega) fun i hi hi' => ?_
    have g1 := h3 _ (List.getElem_mem hi)
    have g2 := h7 _ (List.getElem_mem hi')
    refine List.ext_getElem (by omega) fun j hj hj' => ?_
    rw [← matR_get hi hj, ← matR_get hi' hj']
    exact h4.eq h8 (by omega) (by omega)
theorem c_AcceptsV {h : Heap} {v w : Value} {a : Aut} {l : Las} (Ra : Rep h v a) (Rl : Rep h w l) (ha : a.Ok) : CallE Tryz.prog fn_impl_Accepts [v, w] h (fun u h' => h.le h' ∧ u = .tuple #[.bool (a.accB l), .bool (decide l.Ok)]) :=
  (c_Accepts Ra Rl).mono fun _ _ ⟨h1, h2⟩ => ⟨h1, by rw [h2, decide_eq_decide.2 (show a.Ok ∧ l.Ok ↔ l.Ok from ⟨fun hh => hh.2, fun hh => ⟨ha, hh⟩⟩)]⟩
theorem lasso_letters {l : Las} (hl : l.Ok) : Letters l.word := fun t => Las.word_ok hl t
theorem accB_eq {a b : Aut} {l : Las} (ha : a.Ok) (hb : b.Ok) (h : l.Ok → (a.Lang l.word ↔ b.Lang l.word)) : a.accB l = b.accB l := by
  by_cases hl : l.Ok
  · rw [Bool.eq_iff_iff, Aut.accB_lang ha hl, Aut.accB_lang hb hl]
    exact h hl
  · simp [Aut.accB, hl]
end Go.Proofs.YtglnelcmcimljaaGreat

namespace Go.Proofs.YtglnelcmcimljaaGreat
open Go
set_option maxHeartbeats 2000000 in
theorem c_FnMergeStates {h : Heap} {v w : Value} {l m : List (BitVec 8)} (R : Rep h v l) (RM0 : Rep h w m) : CallE Tryz.prog fn_laws_FnMergeStates [v, w] h (fun u h' => h.le h' ∧ u = .bool true) := by
  refine CallE.gen fun k hk => EN_laws_FnMergeStates rfl ?_
  by_cases a1 : (1048576 : Int) < l.length
  · simp -implicitDefEqProofs (disch := first | omega | (simp only [LnZ]; omega)) [wrap64, R.len, a1]
    exact RetK.keep (hk _ _ ⟨Heap.le.refl _, rfl⟩)
  by_cases a2 : (1048576 : Int) < m.length
  · simp -implicitDefEqProofs (disch := first | omega | (simp only [LnZ]; omega)) [wrap64, R.len, RM0.len, a1, a2]
    exact RetK.keep (hk _ _ ⟨Heap.le.refl _, rfl⟩)
  simp -implicitDefEqProofs (disch := first | omega | (simp only [LnZ]; omega)) [wrap64, R.len, RM0.len, a1, a2]
  refine (c_DrawMergeStates R).go ?_
  rintro va h1 ⟨a, H, hz⟩
  have FA := H.rep.aAut
  simp -implicitDefEqProofs (disch := first | omega | (simp only [LnZ]; omega)) [wrap64, FA, setC]
  refine (c_DrawAccepts (RM0.on H)).go ?_
  rintro _ h2 ⟨u1, u2, a', x, rfl, l2, Ra', Rx, _⟩
  have H := H.le l2
  have FX := Rx.aLas
  have FA' := Ra'.aAut
  simp -implicitDefEqProofs (disch := first | omega | (simp only [LnZ]; omega)) [wrap64, FA, FX, FA', setC]
  refine (c_MergeStates H.rep).go ?_
  rintro _ h3 ⟨w1, rfl, H2⟩
  have H := H2.app H
  have FW := H.rep.aAut
  simp -implicitDefEqProofs (disch := first | omega | (simp only [LnZ]; omega)) [wrap64, FA, FW, setC]
  refine (c_spec_MergeStates H.sw1.rep).go ?_
  rintro _ h4 ⟨w2, rfl, H3⟩
  have Rx := (Rx.on H2).on H3
  have H := H3.app H
  have FV := H.rep.aAut
  have RV := H.rep
  have RW := H.sw1.rep
  have Ra := H.sw2.rep
  have lb := H.base
  clear H H2 H3
  by_cases ha : a.Ok
  case neg =>
    simp -implicitDefEqProofs (disch := first | omega | (simp only [LnZ]; omega)) [wrap64, ha, FA, FW, FV, setC]
    refine (c_AutomatonSame RW RV).go ?_
    rintro _ _ ⟨rfl, rfl⟩
    simp -implicitDefEqProofs (disch := first | omega | (simp only [LnZ]; omega)) [wrap64, FW, FV]
    refine (c_AutomatonSame RW RV).go ?_
    rintro _ _ ⟨rfl, rfl⟩
    simp -implicitDefEqProofs (disch := first | omega | (simp only [LnZ]; omega)) [wrap64]
    exact RetK.keep (hk _ _ ⟨lb, rfl⟩)
  rw [if_pos ha] at RV RW
  have hb := Aut.mrg_ok ha
  simp -implicitDefEqProofs (disch := first | omega | (simp only [LnZ]; omega)) [wrap64, ha, FA, FW, FV, setC]
  refine (c_AutomatonSame RW RV).go ?_
  rintro _ _ ⟨rfl, rfl⟩
  simp -implicitDefEqProofs (disch := first | omega | (simp only [LnZ]; omega)) [wrap64, FA, FX]
  refine (c_AcceptsV Ra Rx ha).go ?_
  rintro _ h5 ⟨l5, rfl⟩
  simp -implicitDefEqProofs (disch := first | omega | (simp only [LnZ]; omega)) [wrap64, FW, FX]
  refine (c_AcceptsV (RW.le l5) (Rx.le l5) hb).go ?_
  rintro _ h6 ⟨l6, rfl⟩
  have d3 : a.mrg.accB x = a.accB x := accB_eq hb ha fun hl => mrg_lang ha (lasso_letters hl)
  rw [d3]
  have hle := (Aut.mrg_len ha).1
  have lb6 := lb.trans (l5.trans l6)
  have RW6 := RW.le (l5.trans l6)
  have Ra6 := Ra.le (l5.trans l6)
  obtain ⟨t1, t2, t3, htw, T1, T2, T3⟩ := Rep_Aut.1 RW6
  obtain ⟨w1', w2', w3', hta, A1, A2, A3⟩ := Rep_Aut.1 Ra6
  subst htw hta
  simp -implicitDefEqProofs (disch := first | omega | (simp only [LnZ]; omega)) [wrap64, FW]
  refine (c_AutomatonValid RW6).go ?_
  rintro _ h7 ⟨l7, rfl⟩
  have hlei : (a.mrg.acc.length : Int) ≤ a.acc.length := by omega
  simp -implicitDefEqProofs (disch := first | omega | (simp only [LnZ]; omega)) [wrap64, hb, setC, T1.one, T2.one, T3.one, A1.one, A2.one, A3.one, (T2.le l7).len, (A2.le l7).len, hle, hlei]
  exact RetK.keep (hk _ _ ⟨lb6.trans l7, rfl⟩)
end Go.Proofs.YtglnelcmcimljaaGreat
