/-
  What the helpers of the laws do: copying, counting, comparing, marking. Printed by a program.
-/
import Derived.Test.YthgimpheeemooaaGreatI6
import Derived.Test.YthgimpheeemooaaGreatI9
import Derived.Test.YthgimpheeemooaaGreatPE
import Derived.Test.YthgimpheeemooaaGreatD2
import Derived.Test.YthgimpheeemooaaGreatPF0
namespace Go.Proofs.YthgimpheeemooaaGreat
open Go
set_option linter.all false
set_option linter.unusedVariables false
set_option linter.unusedSimpArgs false
set_option linter.defProp false
set_option maxRecDepth 1000000

def Sta.zero : Sta := ⟨[], []⟩
theorem own_zeroSt : Ty.own Heap.nil [.slice none 0 0, .slice none 0 0] Sta.zero := ⟨[_], [_], Heap.nil, Heap.nil, rfl, by simp, by simp, own_nils, own_nils⟩

theorem c_eqState {h : Heap} {a b : Value} {x y : Sta} (Ra : Rep h a x) (Rb : Rep h b y) : CallE Tryz.prog fn_laws_eqState [a, b] h (fun v h' => h' = h ∧ v = .bool (decide (x = y))) := by
  obtain ⟨v1, v2, rfl, R1, R2⟩ := Rep_Sta.1 Ra
  obtain ⟨w1, w2, rfl, S1, S2⟩ := Rep_Sta.1 Rb
  refine CallE.gen fun k hk => EN_laws_eqState rfl ?_
  simp -implicitDefEqProofs (disch := first | omega | (simp only [List.length_set, List.length_replicate, List.length_append, List.length_map, List.length_take, List.length_cons, List.length_nil]; omega)) [wrap64]
  refine (c_eqIntS R1 S1).go ?_
  rintro _ _ ⟨rfl, rfl⟩
  simp -implicitDefEqProofs (disch := first | omega | (simp only [List.length_set, List.length_replicate, List.length_append, List.length_map, List.length_take, List.length_cons, List.length_nil]; omega)) [wrap64]
  refine IteW.mkr (fun h1 => ?_) (fun h1 => ?_)
  · simp -implicitDefEqProofs (disch := first | omega | (simp only [List.length_set, List.length_replicate, List.length_append, List.length_map, List.length_take, List.length_cons, List.length_nil]; omega)) [wrap64]
    exact RetK.keep (hk _ _ ⟨rfl, by simp_all [Sta.ext_iff']⟩)
  simp -implicitDefEqProofs (disch := first | omega | (simp only [List.length_set, List.length_replicate, List.length_append, List.length_map, List.length_take, List.length_cons, List.length_nil]; omega)) [wrap64]
  refine (c_eqIntS R2 S2).go ?_
  rintro _ _ ⟨rfl, rfl⟩
  simp -implicitDefEqProofs (disch := first | omega | (simp only [List.length_set, List.length_replicate, List.length_append, List.length_map, List.length_take, List.length_cons, List.length_nil]; omega)) [wrap64]
  refine IteW.mkr (fun h2 => ?_) (fun h2 => ?_)
  · simp -implicitDefEqProofs (disch := first | omega | (simp only [List.length_set, List.length_replicate, List.length_append, List.length_map, List.length_take, List.length_cons, List.length_nil]; omega)) [wrap64]
    exact RetK.keep (hk _ _ ⟨rfl, by simp_all [Sta.ext_iff']⟩)
  try simp -implicitDefEqProofs (disch := first | omega | (simp only [List.length_set, List.length_replicate, List.length_append, List.length_map, List.length_take, List.length_cons, List.length_nil]; omega)) [wrap64]
  exact RetK.keep (hk _ _ ⟨rfl, by simp_all [Sta.ext_iff']⟩)

theorem c_eqStateS {h : Heap} {a b : Value} {x y : List Sta} (Ra : Rep h a x) (Rb : Rep h b y) : CallE Tryz.prog fn_laws_eqStateS [a, b] h (fun v h' => h' = h ∧ v = .bool (decide (x = y))) := by
  refine CallE.gen fun k hk => EN_laws_eqStateS rfl ?_
  have hL := Ra.lt
  simp -implicitDefEqProofs (disch := first | omega | (simp only [List.length_set, List.length_replicate, List.length_append, List.length_map, List.length_take, List.length_cons, List.length_nil]; omega)) [wrap64, Ra.len, Rb.len]
  refine IteW.mkr (fun hne => ?_) (fun heq => ?_)
  · simp -implicitDefEqProofs (disch := first | omega | (simp only [List.length_set, List.length_replicate, List.length_append, List.length_map, List.length_take, List.length_cons, List.length_nil]; omega)) [wrap64]
    exact RetK.keep (hk _ _ ⟨rfl, by simp; rintro rfl; exact hne rfl⟩)
  simp -implicitDefEqProofs (disch := first | omega | (simp only [List.length_set, List.length_replicate, List.length_append, List.length_map, List.length_take, List.length_cons, List.length_nil]; omega)) [wrap64]
  refine wp_count x.length (fun i e h' => h' = h ∧ e = [some a, some b, none, some (.int .i64 i)] ∧ x.take i = y.take i) ⟨rfl, rfl, rfl⟩ ?_
  rintro J i _ _ hJ hi ⟨rfl, rfl, hxy⟩
  simp -implicitDefEqProofs (disch := first | omega | (simp only [List.length_set, List.length_replicate, List.length_append, List.length_map, List.length_take, List.length_cons, List.length_nil]; omega)) [wrap64, Ra.len]
  refine IteW.mk (fun hlt => ?_) (fun hge => ?_)
  · have hly : i < y.length := by omega
    have hlx : i < x.length := by omega
    obtain ⟨u, hu, Ru⟩ := Ra.ld hlx
    obtain ⟨w, hw, Rw⟩ := Rb.ld hly
    change hload _ (some (elp 2 a i)) (some 2) = some u at hu
    change hload _ (some (elp 2 b i)) (some 2) = some w at hw
    simp -implicitDefEqProofs (disch := first | omega | (simp only [List.length_set, List.length_replicate, List.length_append, List.length_map, List.length_take, List.length_cons, List.length_nil]; omega)) [wrap64, Ra.X (n := 2) rfl, Rb.X (n := 2) rfl, hu, hw]
    refine (c_eqState Ru Rw).go ?_
    rintro _ _ ⟨rfl, rfl⟩
    simp -implicitDefEqProofs (disch := first | omega | (simp only [List.length_set, List.length_replicate, List.length_append, List.length_map, List.length_take, List.length_cons, List.length_nil]; omega)) [wrap64]
    refine IteW.mkr (fun hne => ?_) (fun heq => ?_)
    · simp -implicitDefEqProofs (disch := first | omega | (simp only [List.length_set, List.length_replicate, List.length_append, List.length_map, List.length_take, List.length_cons, List.length_nil]; omega)) [wrap64]
      exact RetK.keep (hk _ _ ⟨rfl, by simp; rintro rfl; exact hne rfl⟩)
    simp -implicitDefEqProofs (disch := first | omega | (simp only [List.length_set, List.length_replicate, List.length_append, List.length_map, List.length_take, List.length_cons, List.length_nil]; omega)) [wrap64]
    exact hJ _ _ hlx ⟨rfl, rfl, take_step hxy hlx hly heq⟩
  · simp -implicitDefEqProofs (disch := first | omega | (simp only [List.length_set, List.length_replicate, List.length_append, List.length_map, List.length_take, List.length_cons, List.length_nil]; omega)) [wrap64]
    refine RetK.keep (hk _ _ ⟨rfl, ?_⟩)
    simp
    rw [List.take_of_length_le (by omega), List.take_of_length_le (by omega)] at hxy
    exact hxy

theorem c_eqIntSS {h : Heap} {a b : Value} {x y : List (List Int)} (Ra : Rep h a x) (Rb : Rep h b y) : CallE Tryz.prog fn_laws_eqIntSS [a, b] h (fun v h' => h' = h ∧ v = .bool (decide (x = y))) := by
  refine CallE.gen fun k hk => EN_laws_eqIntSS rfl ?_
  have hL := Ra.lt
  simp -implicitDefEqProofs (disch := first | omega | (simp only [List.length_set, List.length_replicate, List.length_append, List.length_map, List.length_take, List.length_cons, List.length_nil]; omega)) [wrap64, Ra.len, Rb.len]
  refine IteW.mkr (fun hne => ?_) (fun heq => ?_)
  · simp -implicitDefEqProofs (disch := first | omega | (simp only [List.length_set, List.length_replicate, List.length_append, List.length_map, List.length_take, List.length_cons, List.length_nil]; omega)) [wrap64]
    exact RetK.keep (hk _ _ ⟨rfl, by simp; rintro rfl; exact hne rfl⟩)
  simp -implicitDefEqProofs (disch := first | omega | (simp only [List.length_set, List.length_replicate, List.length_append, List.length_map, List.length_take, List.length_cons, List.length_nil]; omega)) [wrap64]
  refine wp_count x.length (fun i e h' => h' = h ∧ e = [some a, some b, none, some (.int .i64 i)] ∧ x.take i = y.take i) ⟨rfl, rfl, rfl⟩ ?_
  rintro J i _ _ hJ hi ⟨rfl, rfl, hxy⟩
  simp -implicitDefEqProofs (disch := first | omega | (simp only [List.length_set, List.length_replicate, List.length_append, List.length_map, List.length_take, List.length_cons, List.length_nil]; omega)) [wrap64, Ra.len]
  refine IteW.mk (fun hlt => ?_) (fun hge => ?_)
  · have hly : i < y.length := by omega
    have hlx : i < x.length := by omega
    obtain ⟨u, hu, Ru⟩ := Ra.ld hlx
    obtain ⟨w, hw, Rw⟩ := Rb.ld hly
    change hload _ (some (elp 1 a i)) none = some u at hu
    change hload _ (some (elp 1 b i)) none = some w at hw
    simp -implicitDefEqProofs (disch := first | omega | (simp only [List.length_set, List.length_replicate, List.length_append, List.length_map, List.length_take, List.length_cons, List.length_nil]; omega)) [wrap64, Ra.X (n := 1) rfl, Rb.X (n := 1) rfl, hu, hw]
    refine (c_eqIntS Ru Rw).go ?_
    rintro _ _ ⟨rfl, rfl⟩
    simp -implicitDefEqProofs (disch := first | omega | (simp only [List.length_set, List.length_replicate, List.length_append, List.length_map, List.length_take, List.length_cons, List.length_nil]; omega)) [wrap64]
    refine IteW.mkr (fun hne => ?_) (fun heq => ?_)
    · simp -implicitDefEqProofs (disch := first | omega | (simp only [List.length_set, List.length_replicate, List.length_append, List.length_map, List.length_take, List.length_cons, List.length_nil]; omega)) [wrap64]
      exact RetK.keep (hk _ _ ⟨rfl, by simp; rintro rfl; exact hne rfl⟩)
    simp -implicitDefEqProofs (disch := first | omega | (simp only [List.length_set, List.length_replicate, List.length_append, List.length_map, List.length_take, List.length_cons, List.length_nil]; omega)) [wrap64]
    exact hJ _ _ hlx ⟨rfl, rfl, take_step hxy hlx hly heq⟩
  · simp -implicitDefEqProofs (disch := first | omega | (simp only [List.length_set, List.length_replicate, List.length_append, List.length_map, List.length_take, List.length_cons, List.length_nil]; omega)) [wrap64]
    refine RetK.keep (hk _ _ ⟨rfl, ?_⟩)
    simp
    rw [List.take_of_length_le (by omega), List.take_of_length_le (by omega)] at hxy
    exact hxy

theorem c_markIntSS {g h : Heap} {Γ : List HP} {v : Value} {x : List (List Int)} {k0 : Int} (H : HS g (ow v x :: Γ) h) (hk0 : 0 ≤ k0) (hk1 : k0 + Mk.cnt x < 4611686018427387904) : CallE Tryz.prog fn_laws_markIntSS [v, .int .i64 k0] h (fun u h' => HS g (ow v (Mk.wr k0 x) :: Γ) h' ∧ u = .int .i64 (k0 + Mk.cnt x)) := by
  refine CallE.gen fun k hk => EN_laws_markIntSS rfl ?_
  simp -implicitDefEqProofs (disch := first | omega | (simp only [List.length_set, List.length_replicate, List.length_append, List.length_map, List.length_take, List.length_cons, List.length_nil]; omega)) [wrap64]
  refine wp_count x.length (fun i e h' => e = [some v, some (.int .i64 (k0 + cntL (x.take i))), none, some (.int .i64 i)] ∧ ∃ y, HS g (ow v y :: Γ) h' ∧ Mkd k0 x y i) ⟨by simp [cntL], x, H, Mkd.zero⟩ ?_
  rintro J i _ h2 hJ hi ⟨rfl, y, H, M⟩
  have hl := M.len
  have hL := H.rep.lt
  have hcx : Mk.cnt x = cntL x := rfl
  simp -implicitDefEqProofs (disch := first | omega | (simp only [List.length_set, List.length_replicate, List.length_append, List.length_map, List.length_take, List.length_cons, List.length_nil]; omega)) [wrap64, H.rep.len]
  refine IteW.mk (fun hlt => ?_) (fun hge => ?_)
  · have hlx : i < x.length := by omega
    have hly : i < y.length := by omega
    have hb := cntL_le x (i + 1)
    have hc := cntL_take x i hlx
    obtain ⟨u, hu, H⟩ := HS.take H hly
    change hload _ (some (elp 1 v i)) none = some u at hu
    have hia := HS.holeia H.sw1 (n := 1) (kd := .i64) rfl hly
    rw [M.get hlx] at H
    simp -implicitDefEqProofs (disch := first | omega | (simp only [List.length_set, List.length_replicate, List.length_append, List.length_map, List.length_take, List.length_cons, List.length_nil]; omega)) [wrap64, hia, hu]
    refine (c_markIntS (k0 := k0 + cntL (x.take i)) H (by omega) (by have : cntL x[i] = Mk.cnt x[i] := rfl; omega)).go ?_
    rintro _ h3 ⟨H, rfl⟩
    have h1 : Mk.cnt x[i] = cntL x[i] := rfl
    simp -implicitDefEqProofs (disch := first | omega | (simp only [List.length_set, List.length_replicate, List.length_append, List.length_map, List.length_take, List.length_cons, List.length_nil]; omega)) [wrap64]
    refine hJ _ _ hlx ⟨?_, _, HS.put H, M.step hlx⟩
    rw [hc]; push_cast; simp [Int.add_assoc] <;> rfl
  · simp -implicitDefEqProofs (disch := first | omega | (simp only [List.length_set, List.length_replicate, List.length_append, List.length_map, List.length_take, List.length_cons, List.length_nil]; omega)) [wrap64]
    have h2 : x.take i = x := List.take_of_length_le (by omega)
    refine RetK.keep (hk _ _ ⟨?_, by rw [h2]; rfl⟩)
    have h3 : y = Mk.wr k0 x := M.all (by omega)
    rw [← h3]; exact H

theorem c_eqGraph {h : Heap} {a b : Value} {x y : Gr} (Ra : Rep h a x) (Rb : Rep h b y) : CallE Tryz.prog fn_laws_eqGraph [a, b] h (fun v h' => h' = h ∧ v = .bool (decide (x = y))) := by
  obtain ⟨v1, v2, rfl, R1, R2⟩ := Rep_Gr.1 Ra
  obtain ⟨w1, w2, rfl, S1, S2⟩ := Rep_Gr.1 Rb
  refine CallE.gen fun k hk => EN_laws_eqGraph rfl ?_
  simp -implicitDefEqProofs (disch := first | omega | (simp only [List.length_set, List.length_replicate, List.length_append, List.length_map, List.length_take, List.length_cons, List.length_nil]; omega)) [wrap64]
  refine (c_eqStateS R1 S1).go ?_
  rintro _ _ ⟨rfl, rfl⟩
  simp -implicitDefEqProofs (disch := first | omega | (simp only [List.length_set, List.length_replicate, List.length_append, List.length_map, List.length_take, List.length_cons, List.length_nil]; omega)) [wrap64]
  refine IteW.mkr (fun h1 => ?_) (fun h1 => ?_)
  · simp -implicitDefEqProofs (disch := first | omega | (simp only [List.length_set, List.length_replicate, List.length_append, List.length_map, List.length_take, List.length_cons, List.length_nil]; omega)) [wrap64]
    exact RetK.keep (hk _ _ ⟨rfl, by simp_all [Gr.ext_iff']⟩)
  simp -implicitDefEqProofs (disch := first | omega | (simp only [List.length_set, List.length_replicate, List.length_append, List.length_map, List.length_take, List.length_cons, List.length_nil]; omega)) [wrap64]
  refine (c_eqIntSS R2 S2).go ?_
  rintro _ _ ⟨rfl, rfl⟩
  simp -implicitDefEqProofs (disch := first | omega | (simp only [List.length_set, List.length_replicate, List.length_append, List.length_map, List.length_take, List.length_cons, List.length_nil]; omega)) [wrap64]
  refine IteW.mkr (fun h2 => ?_) (fun h2 => ?_)
  · simp -implicitDefEqProofs (disch := first | omega | (simp only [List.length_set, List.length_replicate, List.length_append, List.length_map, List.length_take, List.length_cons, List.length_nil]; omega)) [wrap64]
    exact RetK.keep (hk _ _ ⟨rfl, by simp_all [Gr.ext_iff']⟩)
  try simp -implicitDefEqProofs (disch := first | omega | (simp only [List.length_set, List.length_replicate, List.length_append, List.length_map, List.length_take, List.length_cons, List.length_nil]; omega)) [wrap64]
  exact RetK.keep (hk _ _ ⟨rfl, by simp_all [Gr.ext_iff']⟩)

theorem cnt_Sta (s : Sta) : Mk.cnt s = Mk.cnt s.locs + Mk.cnt s.vals := rfl
theorem c_markStateS {g h : Heap} {Γ : List HP} {v : Value} {x : List Sta} {k0 : Int} (H : HS g (ow v x :: Γ) h) (hk0 : 0 ≤ k0) (hk1 : k0 + Mk.cnt x < 4611686018427387904) :
    CallE Tryz.prog fn_laws_markStateS [v, .int .i64 k0] h (fun u h' => HS g (ow v (Mk.wr k0 x) :: Γ) h' ∧ u = .int .i64 (k0 + Mk.cnt x)) := by
  refine CallE.gen fun k hk => EN_laws_markStateS rfl ?_
  simp -implicitDefEqProofs (disch := first | omega | (simp only [List.length_set, List.length_replicate, List.length_append, List.length_map, List.length_take, List.length_cons, List.length_nil]; omega)) [wrap64]
  refine wp_count x.length (fun i e h' => e = [some v, some (.int .i64 (k0 + cntL (x.take i))), none, some (.int .i64 i)] ∧ ∃ y, HS g (ow v y :: Γ) h' ∧ Mkd k0 x y i) ⟨by simp [cntL], x, H, Mkd.zero⟩ ?_
  rintro J i _ h2 hJ hi ⟨rfl, y, H, M⟩
  have hl := M.len
  have hL := H.rep.lt
  have hcx : Mk.cnt x = cntL x := rfl
  simp -implicitDefEqProofs (disch := first | omega | (simp only [List.length_set, List.length_replicate, List.length_append, List.length_map, List.length_take, List.length_cons, List.length_nil]; omega)) [wrap64, H.rep.len]
  refine IteW.mk (fun hlt => ?_) (fun hge => ?_)
  · have hlx : i < x.length := by omega
    have hly : i < y.length := by omega
    have hb := cntL_le x (i + 1)
    have hc := cntL_take x i hlx
    have hce := cnt_Sta x[i]
    have M' := M.step hlx
    obtain ⟨q, hq⟩ : ∃ q, q = k0 + cntL (x.take i) := ⟨_, rfl⟩
    obtain ⟨u, hu, H0⟩ := HS.take H hly
    rw [M.get hlx] at H0
    obtain ⟨w1, w2, rfl, H1⟩ := H0.unSta
    have hia := HS.holeia H1.sw2 (n := 2) (kd := .i64) rfl hly
    have hP := hld_parts (HS.holeP H1.sw2 (n := 2) rfl rfl)
    rw [← hq] at M' ⊢
    simp -implicitDefEqProofs (disch := first | omega | (simp only [List.length_set, List.length_replicate, List.length_append, List.length_map, List.length_take, List.length_cons, List.length_nil]; omega)) [wrap64, hia, hP.1, hP.2.2.1]
    refine (c_markIntS (x := x[i].locs) (k0 := q) H1 (by omega) (by omega)).go ?_
    rintro _ h3 ⟨H1, rfl⟩
    have hP := hld_parts (HS.holeP H1.sw2 (n := 2) rfl rfl)
    simp -implicitDefEqProofs (disch := first | omega | (simp only [List.length_set, List.length_replicate, List.length_append, List.length_map, List.length_take, List.length_cons, List.length_nil]; omega)) [wrap64, hia, hP.1, hP.2.2.1]
    refine (c_markIntS (x := x[i].vals) (k0 := q + (Mk.cnt x[i].locs : Nat)) H1.sw1 (by omega) (by omega)).go ?_
    rintro _ h5 ⟨H2, rfl⟩
    have H := HS.put (HS.mkSta (a := ⟨Mk.wr q x[i].locs, Mk.wr (q + (Mk.cnt x[i].locs : Nat)) x[i].vals⟩) H2.sw1)
    simp -implicitDefEqProofs (disch := first | omega | (simp only [List.length_set, List.length_replicate, List.length_append, List.length_map, List.length_take, List.length_cons, List.length_nil]; omega)) [wrap64]
    refine hJ _ _ hlx ⟨?_, _, H, ?_⟩
    · simp only [List.cons.injEq, Option.some.injEq, Value.int.injEq, true_and, and_true]
      refine ⟨?_, by simp⟩
      rw [hc]; push_cast; omega
    · exact M'
  · simp -implicitDefEqProofs (disch := first | omega | (simp only [List.length_set, List.length_replicate, List.length_append, List.length_map, List.length_take, List.length_cons, List.length_nil]; omega)) [wrap64]
    have h2 : x.take i = x := List.take_of_length_le (by omega)
    refine RetK.keep (hk _ _ ⟨?_, by rw [h2]; rfl⟩)
    have h3 : y = Mk.wr k0 x := M.all (by omega)
    rw [← h3]; exact H
theorem cnt_Gr (s : Gr) : Mk.cnt s = Mk.cnt s.states + Mk.cnt s.next := rfl
theorem c_markGraph {g h : Heap} {Γ : List HP} {v : Value} {x : Gr} {k0 : Int} (H : HS g (ow v x :: Γ) h) (hk0 : 0 ≤ k0) (hk1 : k0 + Mk.cnt x < 4611686018427387904) :
    CallE Tryz.prog fn_laws_markGraph [v, .int .i64 k0] h (fun u h' => HS g (ow v (Mk.wr k0 x) :: Γ) h' ∧ u = .int .i64 (k0 + Mk.cnt x)) := by
  have hc := cnt_Gr x
  obtain ⟨v1, v2, rfl, H0⟩ := H.unGr
  refine CallE.gen fun k hk => EN_laws_markGraph rfl ?_
  simp -implicitDefEqProofs (disch := first | omega | (simp only [List.length_set, List.length_replicate, List.length_append, List.length_map, List.length_take, List.length_cons, List.length_nil]; omega)) [wrap64]
  refine (c_markStateS (x := x.states) (k0 := k0) H0 (by omega) (by omega)).go ?_
  rintro _ h1 ⟨H, rfl⟩
  simp -implicitDefEqProofs (disch := first | omega | (simp only [List.length_set, List.length_replicate, List.length_append, List.length_map, List.length_take, List.length_cons, List.length_nil]; omega)) [wrap64]
  refine (c_markIntSS (x := x.next) (k0 := k0 + (Mk.cnt x.states : Nat)) H.sw1 (by omega) (by omega)).go ?_
  rintro _ h2 ⟨H, rfl⟩
  simp -implicitDefEqProofs (disch := first | omega | (simp only [List.length_set, List.length_replicate, List.length_append, List.length_map, List.length_take, List.length_cons, List.length_nil]; omega)) [wrap64]
  refine RetK.keep (hk _ _ ⟨HS.mkGr (a := Mk.wr k0 x) H.sw1, ?_⟩)
  rw [hc]; congr 1; push_cast; omega
end Go.Proofs.YthgimpheeemooaaGreat
