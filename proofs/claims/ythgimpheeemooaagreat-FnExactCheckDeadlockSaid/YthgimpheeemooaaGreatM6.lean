/-
  Texts of this proof, one behind the other.
-/
import Derived.Test.YthgimpheeemooaaGreatM5
/-
  What the helpers of the laws do: copying, counting, comparing, marking. Printed by a program.
-/
namespace Go.Proofs.YthgimpheeemooaaGreat
open Go
set_option linter.all false
set_option linter.unusedVariables false
set_option linter.unusedSimpArgs false
set_option linter.defProp false
set_option maxRecDepth 1000000

theorem c_toIntS {h : Heap} {a : Value} {x : List Int} (Ra : Rep h a x) (hs : Sz.sz x ≤ 1048576) : CallE Tryz.prog fn_laws_toIntS [a] h (fun v h' => HS h [ow v x] h') := by
  rw [sz_list] at hs
  refine CallE.gen fun k hk => EN_laws_toIntS rfl ?_
  simp -implicitDefEqProofs (disch := first | omega | (simp only [List.length_set, List.length_replicate, List.length_append, List.length_map, List.length_take, List.length_cons, List.length_nil]; omega)) [wrap64, Ra.I]
  refine HS.init.mks (z := (0 : Int)) rfl rfl (own_zero (by decide) (by decide)) (Nat.le_refl _) (by omega) (by omega) fun v h1 H => ?_
  simp -implicitDefEqProofs (disch := first | omega | (simp only [List.length_set, List.length_replicate, List.length_append, List.length_map, List.length_take, List.length_cons, List.length_nil]; omega)) [wrap64]
  refine wp_count x.length (fun i e h' => e = [some a, none, some v, some (.int .i64 i)] ∧ ∃ y, HS h [ow v y] h' ∧ y.length = x.length ∧ y.take i = x.take i) ⟨rfl, _, H, by simp, by simp⟩ ?_
  rintro J i _ h2 hJ hi ⟨rfl, y, H, hl, hy⟩
  simp -implicitDefEqProofs (disch := first | omega | (simp only [List.length_set, List.length_replicate, List.length_append, List.length_map, List.length_take, List.length_cons, List.length_nil]; omega)) [wrap64, Ra.I]
  refine IteW.mk (fun hlt => ?_) (fun hge => ?_)
  · have hlx : i < x.length := by omega
    simp -implicitDefEqProofs (disch := first | omega | (simp only [List.length_set, List.length_replicate, List.length_append, List.length_map, List.length_take, List.length_cons, List.length_nil]; omega)) [wrap64, H.rep.I, (Ra.on H).I]
    refine H.storeF x[i] (by omega) rfl rfl (Ra.okI hlx) rfl fun h3 H => ?_
    simp -implicitDefEqProofs (disch := first | omega | (simp only [List.length_set, List.length_replicate, List.length_append, List.length_map, List.length_take, List.length_cons, List.length_nil]; omega)) [wrap64]
    exact hJ _ _ hlx ⟨rfl, _, H, by simp [hl], take_set_succ hy hlx hl⟩
  · simp -implicitDefEqProofs (disch := first | omega | (simp only [List.length_set, List.length_replicate, List.length_append, List.length_map, List.length_take, List.length_cons, List.length_nil]; omega)) [wrap64]
    refine RetK.keep (hk _ _ ?_)
    rw [← eq_of_take hy (by omega) hl]; exact H

theorem c_szIntS {h : Heap} {a : Value} {x : List Int} (Ra : Rep h a x) {n : Int} (hn : 0 ≤ n ∧ n ≤ 1048576) : CallE Tryz.prog fn_laws_szIntS [a, .int .i64 n] h (fun v h' => h' = h ∧ ∃ m : Int, v = .int .i64 m ∧ (m = -1 ∨ (0 ≤ m ∧ m + Sz.sz x = n))) := by
  rw [sz_list, szL_zero (fun _ => rfl)]
  refine CallE.gen fun k hk => EN_laws_szIntS rfl ?_
  have hL := Ra.lt
  simp -implicitDefEqProofs (disch := first | omega | (simp only [List.length_set, List.length_replicate, List.length_append, List.length_map, List.length_take, List.length_cons, List.length_nil]; omega)) [wrap64, Ra.I]
  refine IteW.mk (fun hlt => ?_) (fun hge => ?_)
  · simp -implicitDefEqProofs (disch := first | omega | (simp only [List.length_set, List.length_replicate, List.length_append, List.length_map, List.length_take, List.length_cons, List.length_nil]; omega)) [wrap64]
    exact RetK.keep (hk _ _ ⟨rfl, _, rfl, .inl rfl⟩)
  · simp -implicitDefEqProofs (disch := first | omega | (simp only [List.length_set, List.length_replicate, List.length_append, List.length_map, List.length_take, List.length_cons, List.length_nil]; omega)) [wrap64]
    exact RetK.keep (hk _ _ ⟨rfl, _, rfl, .inr (by omega)⟩)

theorem c_eqIntS {h : Heap} {a b : Value} {x y : List Int} (Ra : Rep h a x) (Rb : Rep h b y) : CallE Tryz.prog fn_laws_eqIntS [a, b] h (fun v h' => h' = h ∧ v = .bool (decide (x = y))) := by
  refine CallE.gen fun k hk => EN_laws_eqIntS rfl ?_
  have hL := Ra.lt
  simp -implicitDefEqProofs (disch := first | omega | (simp only [List.length_set, List.length_replicate, List.length_append, List.length_map, List.length_take, List.length_cons, List.length_nil]; omega)) [wrap64, Ra.len, Rb.len]
  refine IteW.mkr (fun hne => ?_) (fun heq => ?_)
  · simp -implicitDefEqProofs (disch := first | omega | (simp only [List.length_set, List.length_replicate, List.length_append, List.length_map, List.length_take, List.length_cons, List.length_nil]; omega)) [wrap64]
    exact RetK.keep (hk _ _ ⟨rfl, by simp; rintro rfl; exact hne rfl⟩)
  simp -implicitDefEqProofs (disch := first | omega | (simp only [List.length_set, List.length_replicate, List.length_append, List.length_map, List.length_take, List.length_cons, List.length_nil]; omega)) [wrap64]
  refine wp_count x.length (fun i e h' => h' = h ∧ e = [some a, some b, none, some (.int .i64 i)] ∧ x.take i = y.take i) ⟨rfl, rfl, rfl⟩ ?_
  rintro J i _ _ hJ hi ⟨rfl, rfl, hxy⟩
  simp -implicitDefEqProofs (disch := first | omega | (simp only [List.length_set, List.length_replicate, List.length_append, List.length_map, List.length_take, List.length_cons, List.length_nil]; omega)) [wrap64, Ra.len]
  refine IteW.mk (fun hlt => ?_) (fun hge => ?_)
  · have hly : i < y.length := by omega
    have hlx : i < x.length := by omega
    simp -implicitDefEqProofs (disch := first | omega | (simp only [List.length_set, List.length_replicate, List.length_append, List.length_map, List.length_take, List.length_cons, List.length_nil]; omega)) [wrap64, Ra.I, Rb.I]
    refine IteW.mkr (fun hne => ?_) (fun heq => ?_)
    · simp -implicitDefEqProofs (disch := first | omega | (simp only [List.length_set, List.length_replicate, List.length_append, List.length_map, List.length_take, List.length_cons, List.length_nil]; omega)) [wrap64]
      exact RetK.keep (hk _ _ ⟨rfl, by simp; rintro rfl; exact hne rfl⟩)
    simp -implicitDefEqProofs (disch := first | omega | (simp only [List.length_set, List.length_replicate, List.length_append, List.length_map, List.length_take, List.length_cons, List.length_nil]; omega)) [wrap64]
    exact hJ _ _ hlx ⟨rfl, rfl, take_step hxy hlx hly heq⟩
  · simp -implicitDefEqProofs (disch := first | omega | (simp only [List.length_set, List.length_replicate, List.length_append, List.length_map, List.length_take, List.length_cons, List.length_nil]; omega)) [wrap64]
    refine RetK.keep (hk _ _ ⟨rfl, ?_⟩)
    simp
    rw [List.take_of_length_le (by omega), List.take_of_length_le (by omega)] at hxy
    exact hxy

theorem c_markIntS {g h : Heap} {Γ : List HP} {v : Value} {x : List Int} {k0 : Int} (H : HS g (ow v x :: Γ) h) (hk0 : 0 ≤ k0) (hk1 : k0 + Mk.cnt x < 4611686018427387904) : CallE Tryz.prog fn_laws_markIntS [v, .int .i64 k0] h (fun u h' => HS g (ow v (Mk.wr k0 x) :: Γ) h' ∧ u = .int .i64 (k0 + Mk.cnt x)) := by
  refine CallE.gen fun k hk => EN_laws_markIntS rfl ?_
  simp -implicitDefEqProofs (disch := first | omega | (simp only [List.length_set, List.length_replicate, List.length_append, List.length_map, List.length_take, List.length_cons, List.length_nil]; omega)) [wrap64]
  refine wp_count x.length (fun i e h' => e = [some v, some (.int .i64 (k0 + cntL (x.take i))), none, some (.int .i64 i)] ∧ ∃ y, HS g (ow v y :: Γ) h' ∧ Mkd k0 x y i) ⟨by simp [cntL], x, H, Mkd.zero⟩ ?_
  rintro J i _ h2 hJ hi ⟨rfl, y, H, M⟩
  have hl := M.len
  have hL := H.rep.lt
  have hcx : Mk.cnt x = cntL x := rfl
  simp -implicitDefEqProofs (disch := first | omega | (simp only [List.length_set, List.length_replicate, List.length_append, List.length_map, List.length_take, List.length_cons, List.length_nil]; omega)) [wrap64, H.rep.len]
  refine IteW.mk (fun hlt => ?_) (fun hge => ?_)
  · have hlx : i < x.length := by omega
    have hly : i < y.length := by omega
    have hb := cntL_le x (i + 1)
    have hc := cntL_take x i hlx
    have h1 : Mk.cnt x[i] = 1 := rfl
    have h4 : IntKind.i64.wrap (k0 + (cntL (x.take i) : Nat) + 1) = k0 + (cntL (x.take i) : Nat) + 1 := wrap64 (by omega) (by omega)
    simp -implicitDefEqProofs (disch := first | omega | (simp only [List.length_set, List.length_replicate, List.length_append, List.length_map, List.length_take, List.length_cons, List.length_nil]; omega)) [wrap64, H.rep.I]
    refine H.storeF (k0 + cntL (x.take i)) hly rfl rfl ⟨by omega, by omega⟩ rfl fun h3 H => ?_
    simp -implicitDefEqProofs (disch := first | omega | (simp only [List.length_set, List.length_replicate, List.length_append, List.length_map, List.length_take, List.length_cons, List.length_nil]; omega)) [wrap64]
    refine hJ _ _ hlx ⟨?_, _, H, M.step hlx⟩
    rw [hc, h1]; push_cast; simp [Int.add_assoc]
  · simp -implicitDefEqProofs (disch := first | omega | (simp only [List.length_set, List.length_replicate, List.length_append, List.length_map, List.length_take, List.length_cons, List.length_nil]; omega)) [wrap64]
    have h2 : x.take i = x := List.take_of_length_le (by omega)
    refine RetK.keep (hk _ _ ⟨?_, by rw [h2]; rfl⟩)
    have h3 : y = Mk.wr k0 x := M.all (by omega)
    rw [← h3]; exact H

end Go.Proofs.YthgimpheeemooaaGreat

/-
  What the helpers of the laws do with expressions, edges, processes and systems: copying, counting, comparing. Printed by a program.
-/
namespace Go.Proofs.YthgimpheeemooaaGreat
open Go
set_option linter.all false
set_option linter.unusedVariables false
set_option linter.unusedSimpArgs false
set_option linter.defProp false
set_option maxRecDepth 1000000

theorem i64_0 : I64 0 := ⟨by decide, by decide⟩
def Ed.zero : Ed := ⟨0, 0, Exq.zero, 0, Exq.zero, 0⟩
def Pr.zero : Pr := ⟨0, []⟩
theorem own_zeroE : Ty.own Heap.nil [.int .i64 0, .int .i64 0, .slice none 0 0] Exq.zero := ownExq.2 ⟨_, rfl, i64_0, i64_0, Own_nils⟩
theorem own_zeroEd : Ty.own Heap.nil [.int .i64 0, .int .i64 0, .int .i64 0, .int .i64 0, .slice none 0 0, .int .i64 0, .int .i64 0, .int .i64 0, .slice none 0 0, .int .i64 0] Ed.zero :=
  ownEd.2 ⟨.slice none 0 0, .slice none 0 0, Heap.nil, Heap.nil, rfl, ⟨i64_0, i64_0, i64_0, i64_0, i64_0, i64_0, i64_0, i64_0⟩, by simp, by simp, Own_nils, Own_nils⟩
theorem own_zeroPr : Ty.own Heap.nil [.int .i64 0, .slice none 0 0] Pr.zero := ⟨[_], [_], Heap.nil, Heap.nil, rfl, by simp, by simp, ⟨rfl, rfl, i64_0⟩, own_nils⟩

theorem c_toExprS_of {h : Heap} {a : Value} {x : List Exq} (ih : ∀ y ∈ x, ∀ {h : Heap} {v : Value}, Rep h v y → Sz.sz y ≤ 1048576 → CallE Tryz.prog fn_laws_toExpr [v] h (fun u h' => HS h [ow u y] h')) (Ra : Rep h a x) (hs : Sz.sz x ≤ 1048576) : CallE Tryz.prog fn_laws_toExprS [a] h (fun v h' => HS h [ow v x] h') := by
  rw [sz_list] at hs
  refine CallE.gen fun k hk => EN_laws_toExprS rfl ?_
  simp -implicitDefEqProofs (disch := first | omega | (simp only [List.length_set, List.length_replicate, List.length_append, List.length_map, List.length_take, List.length_cons, List.length_nil]; omega)) [wrap64, Ra.len]
  refine HS.init.mks (α := Exq) (z := Exq.zero) rfl rfl (own_zeroE) (Nat.le_refl _) (by omega) (by omega) fun v h1 H => ?_
  simp -implicitDefEqProofs (disch := first | omega | (simp only [List.length_set, List.length_replicate, List.length_append, List.length_map, List.length_take, List.length_cons, List.length_nil]; omega)) [wrap64]
  refine wp_count x.length (fun i e h' => e = [some a, none, some v, some (.int .i64 i)] ∧ ∃ y, HS h [ow v y] h' ∧ y.length = x.length ∧ y.take i = x.take i) ⟨rfl, _, H, by simp, by simp⟩ ?_
  clear H
  rintro J i _ h2 hJ hi ⟨rfl, y, H, hl, hy⟩
  simp -implicitDefEqProofs (disch := first | omega | (simp only [List.length_set, List.length_replicate, List.length_append, List.length_map, List.length_take, List.length_cons, List.length_nil]; omega)) [wrap64, Ra.len]
  refine IteW.mk (fun hlt => ?_) (fun hge => ?_)
  · have hlx : i < x.length := by omega
    obtain ⟨u, hu, Ru⟩ := (Ra.on H).ld hlx
    change hload _ (some (elp 3 a i)) (some 3) = some u at hu
    have hsi := szL_get hlx
    simp -implicitDefEqProofs (disch := first | omega | (simp only [List.length_set, List.length_replicate, List.length_append, List.length_map, List.length_take, List.length_cons, List.length_nil]; omega)) [wrap64, Ra.X (n := 3) rfl, hu]
    refine (ih _ (List.getElem_mem hlx) Ru (by omega)).go ?_
    intro w h3 G
    have H := G.app H
    simp -implicitDefEqProofs (disch := first | omega | (simp only [List.length_set, List.length_replicate, List.length_append, List.length_map, List.length_take, List.length_cons, List.length_nil]; omega)) [wrap64, H.sw1.rep.X (n := 3) rfl, G.rep.aExq]
    refine HS.store H (by omega) rfl rfl rfl fun h4 H => ?_
    simp -implicitDefEqProofs (disch := first | omega | (simp only [List.length_set, List.length_replicate, List.length_append, List.length_map, List.length_take, List.length_cons, List.length_nil]; omega)) [wrap64]
    exact hJ _ _ hlx ⟨rfl, _, H, by simp [hl], take_set_succ hy hlx hl⟩
  · simp -implicitDefEqProofs (disch := first | omega | (simp only [List.length_set, List.length_replicate, List.length_append, List.length_map, List.length_take, List.length_cons, List.length_nil]; omega)) [wrap64]
    refine RetK.keep (hk _ _ ?_)
    rw [← eq_of_take hy (by omega) hl]; exact H

theorem c_toExpr : ∀ (x : Exq) {h : Heap} {v : Value}, Rep h v x → Sz.sz x ≤ 1048576 → CallE Tryz.prog fn_laws_toExpr [v] h (fun u h' => HS h [ow u x] h') := by
  refine Exq.ind fun x ih h v R hs => ?_
  obtain ⟨w, rfl, k1, k2, R1⟩ := Rep_Exq.1 R
  rw [sz_Exq] at hs
  refine CallE.gen fun k hk => EN_laws_toExpr rfl ?_
  simp -implicitDefEqProofs (disch := first | omega | (simp only [List.length_set, List.length_replicate, List.length_append, List.length_map, List.length_take, List.length_cons, List.length_nil]; omega)) [wrap64, setC]
  refine (c_toExprS_of ih R1 hs).go ?_
  intro u h1 G
  simp -implicitDefEqProofs (disch := first | omega | (simp only [List.length_set, List.length_replicate, List.length_append, List.length_map, List.length_take, List.length_cons, List.length_nil]; omega)) [wrap64, setC, G.rep.cells, G.rep.one]
  exact RetK.keep (hk _ _ (G.mkExq k1 k2))
theorem c_toEdge {e : Ed} {h : Heap} {v : Value} (R : Rep h v e) (hs : Sz.sz e ≤ 1048576) : CallE Tryz.prog fn_laws_toEdge [v] h (fun u h' => HS h [ow u e] h') := by
  obtain ⟨w1, w2, rfl, ok, R1, R2⟩ := Rep_Ed.1 R
  have hs' : Sz.sz e.guard + Sz.sz e.value ≤ 1048576 := hs
  have G1 : Rep h (.agg #[.int .i64 e.guard.kind, .int .i64 e.guard.val, w1]) e.guard := Rep_Exq.2 ⟨w1, rfl, ok.gk, ok.gv, R1⟩
  have G2 : Rep h (.agg #[.int .i64 e.value.kind, .int .i64 e.value.val, w2]) e.value := Rep_Exq.2 ⟨w2, rfl, ok.vk, ok.vv, R2⟩
  refine CallE.gen fun k hk => EN_laws_toEdge rfl ?_
  simp -implicitDefEqProofs (disch := first | omega | (simp only [List.length_set, List.length_replicate, List.length_append, List.length_map, List.length_take, List.length_cons, List.length_nil]; omega)) [wrap64, setC, Ed.cs]
  refine (c_toExpr _ G1 (by omega)).go ?_
  intro u1 h1 H1
  obtain ⟨x1, rfl, _, _, H1⟩ := H1.unExq
  have F1 := H1.rep.cells
  have F2 := H1.rep.one
  simp -implicitDefEqProofs (disch := first | omega | (simp only [List.length_set, List.length_replicate, List.length_append, List.length_map, List.length_take, List.length_cons, List.length_nil]; omega)) [wrap64, setC, Ed.cs, F1, F2]
  refine (c_toExpr _ (G2.on H1) (by omega)).go ?_
  intro u2 h2 H2
  obtain ⟨x2, rfl, _, _, H2⟩ := H2.unExq
  have F3 := H2.rep.cells
  have F4 := H2.rep.one
  have H := H2.app H1
  simp -implicitDefEqProofs (disch := first | omega | (simp only [List.length_set, List.length_replicate, List.length_append, List.length_map, List.length_take, List.length_cons, List.length_nil]; omega)) [wrap64, setC, Ed.cs, F1, F2, F3, F4]
  exact RetK.keep (hk _ _ (H.sw1.mkEd ok))

theorem c_toEdgeS {h : Heap} {a : Value} {x : List Ed} (Ra : Rep h a x) (hs : Sz.sz x ≤ 1048576) : CallE Tryz.prog fn_laws_toEdgeS [a] h (fun v h' => HS h [ow v x] h') := by
  rw [sz_list] at hs
  refine CallE.gen fun k hk => EN_laws_toEdgeS rfl ?_
  simp -implicitDefEqProofs (disch := first | omega | (simp only [List.length_set, List.length_replicate, List.length_append, List.length_map, List.length_take, List.length_cons, List.length_nil]; omega)) [wrap64, Ra.len]
  refine HS.init.mks (α := Ed) (z := Ed.zero) rfl rfl (own_zeroEd) (Nat.le_refl _) (by omega) (by omega) fun v h1 H => ?_
  simp -implicitDefEqProofs (disch := first | omega | (simp only [List.length_set, List.length_replicate, List.length_append, List.length_map, List.length_take, List.length_cons, List.length_nil]; omega)) [wrap64]
  refine wp_count x.length (fun i e h' => e = [some a, none, some v, some (.int .i64 i)] ∧ ∃ y, HS h [ow v y] h' ∧ y.length = x.length ∧ y.take i = x.take i) ⟨rfl, _, H, by simp, by simp⟩ ?_
  clear H
  rintro J i _ h2 hJ hi ⟨rfl, y, H, hl, hy⟩
  simp -implicitDefEqProofs (disch := first | omega | (simp only [List.length_set, List.length_replicate, List.length_append, List.length_map, List.length_take, List.length_cons, List.length_nil]; omega)) [wrap64, Ra.len]
  refine IteW.mk (fun hlt => ?_) (fun hge => ?_)
  · have hlx : i < x.length := by omega
    obtain ⟨u, hu, Ru⟩ := (Ra.on H).ld hlx
    change hload _ (some (elp 10 a i)) (some 10) = some u at hu
    have hsi := szL_get hlx
    simp -implicitDefEqProofs (disch := first | omega | (simp only [List.length_set, List.length_replicate, List.length_append, List.length_map, List.length_take, List.length_cons, List.length_nil]; omega)) [wrap64, Ra.X (n := 10) rfl, hu]
    refine (c_toEdge Ru (by omega)).go ?_
    intro w h3 G
    have H := G.app H
    simp -implicitDefEqProofs (disch := first | omega | (simp only [List.length_set, List.length_replicate, List.length_append, List.length_map, List.length_take, List.length_cons, List.length_nil]; omega)) [wrap64, H.sw1.rep.X (n := 10) rfl, G.rep.aEd]
    refine HS.store H (by omega) rfl rfl rfl fun h4 H => ?_
    simp -implicitDefEqProofs (disch := first | omega | (simp only [List.length_set, List.length_replicate, List.length_append, List.length_map, List.length_take, List.length_cons, List.length_nil]; omega)) [wrap64]
    exact hJ _ _ hlx ⟨rfl, _, H, by simp [hl], take_set_succ hy hlx hl⟩
  · simp -implicitDefEqProofs (disch := first | omega | (simp only [List.length_set, List.length_replicate, List.length_append, List.length_map, List.length_take, List.length_cons, List.length_nil]; omega)) [wrap64]
    refine RetK.keep (hk _ _ ?_)
    rw [← eq_of_take hy (by omega) hl]; exact H

theorem c_toProcess {p : Pr} {h : Heap} {v : Value} (R : Rep h v p) (hs : Sz.sz p ≤ 1048576) : CallE Tryz.prog fn_laws_toProcess [v] h (fun u h' => HS h [ow u p] h') := by
  obtain ⟨w, rfl, k1, R1⟩ := Rep_Pr.1 R
  refine CallE.gen fun k hk => EN_laws_toProcess rfl ?_
  simp -implicitDefEqProofs (disch := first | omega | (simp only [List.length_set, List.length_replicate, List.length_append, List.length_map, List.length_take, List.length_cons, List.length_nil]; omega)) [wrap64, setC]
  refine (c_toEdgeS R1 hs).go ?_
  intro u h1 G
  simp -implicitDefEqProofs (disch := first | omega | (simp only [List.length_set, List.length_replicate, List.length_append, List.length_map, List.length_take, List.length_cons, List.length_nil]; omega)) [wrap64, setC, G.rep.cells, G.rep.one]
  exact RetK.keep (hk _ _ (G.mkPr k1))

theorem c_toProcessS {h : Heap} {a : Value} {x : List Pr} (Ra : Rep h a x) (hs : Sz.sz x ≤ 1048576) : CallE Tryz.prog fn_laws_toProcessS [a] h (fun v h' => HS h [ow v x] h') := by
  rw [sz_list] at hs
  refine CallE.gen fun k hk => EN_laws_toProcessS rfl ?_
  simp -implicitDefEqProofs (disch := first | omega | (simp only [List.length_set, List.length_replicate, List.length_append, List.length_map, List.length_take, List.length_cons, List.length_nil]; omega)) [wrap64, Ra.len]
  refine HS.init.mks (α := Pr) (z := Pr.zero) rfl rfl (own_zeroPr) (Nat.le_refl _) (by omega) (by omega) fun v h1 H => ?_
  simp -implicitDefEqProofs (disch := first | omega | (simp only [List.length_set, List.length_replicate, List.length_append, List.length_map, List.length_take, List.length_cons, List.length_nil]; omega)) [wrap64]
  refine wp_count x.length (fun i e h' => e = [some a, none, some v, some (.int .i64 i)] ∧ ∃ y, HS h [ow v y] h' ∧ y.length = x.length ∧ y.take i = x.take i) ⟨rfl, _, H, by simp, by simp⟩ ?_
  clear H
  rintro J i _ h2 hJ hi ⟨rfl, y, H, hl, hy⟩
  simp -implicitDefEqProofs (disch := first | omega | (simp only [List.length_set, List.length_replicate, List.length_append, List.length_map, List.length_take, List.length_cons, List.length_nil]; omega)) [wrap64, Ra.len]
  refine IteW.mk (fun hlt => ?_) (fun hge => ?_)
  · have hlx : i < x.length := by omega
    obtain ⟨u, hu, Ru⟩ := (Ra.on H).ld hlx
    change hload _ (some (elp 2 a i)) (some 2) = some u at hu
    have hsi := szL_get hlx
    simp -implicitDefEqProofs (disch := first | omega | (simp only [List.length_set, List.length_replicate, List.length_append, List.length_map, List.length_take, List.length_cons, List.length_nil]; omega)) [wrap64, Ra.X (n := 2) rfl, hu]
    refine (c_toProcess Ru (by omega)).go ?_
    intro w h3 G
    have H := G.app H
    simp -implicitDefEqProofs (disch := first | omega | (simp only [List.length_set, List.length_replicate, List.length_append, List.length_map, List.length_take, List.length_cons, List.length_nil]; omega)) [wrap64, H.sw1.rep.X (n := 2) rfl, G.rep.aPr]
    refine HS.store H (by omega) rfl rfl rfl fun h4 H => ?_
    simp -implicitDefEqProofs (disch := first | omega | (simp only [List.length_set, List.length_replicate, List.length_append, List.length_map, List.length_take, List.length_cons, List.length_nil]; omega)) [wrap64]
    exact hJ _ _ hlx ⟨rfl, _, H, by simp [hl], take_set_succ hy hlx hl⟩
  · simp -implicitDefEqProofs (disch := first | omega | (simp only [List.length_set, List.length_replicate, List.length_append, List.length_map, List.length_take, List.length_cons, List.length_nil]; omega)) [wrap64]
    refine RetK.keep (hk _ _ ?_)
    rw [← eq_of_take hy (by omega) hl]; exact H

theorem c_toSystem {h : Heap} {v : Value} {a : Sy} (Ra : Rep h v a) (hs : Sz.sz a ≤ 1048576) : CallE Tryz.prog fn_laws_toSystem [v] h (fun v h' => HS h [ow v a] h') := by
  have hs' : Sz.sz a.init + Sz.sz a.procs ≤ 1048576 := hs
  obtain ⟨v1, v2, rfl, R1, R2⟩ := Rep_Sy.1 Ra
  refine CallE.gen fun k hk => EN_laws_toSystem rfl ?_
  have H0 : HS h [] h := HS.init
  simp -implicitDefEqProofs (disch := first | omega | (simp only [List.length_set, List.length_replicate, List.length_append, List.length_map, List.length_take, List.length_cons, List.length_nil]; omega)) [wrap64, setC]
  refine (c_toIntS (R1.on H0) (by omega)).go ?_
  intro u1 h1 G1
  have H1 := HS.app G1 H0
  simp -implicitDefEqProofs (disch := first | omega | (simp only [List.length_set, List.length_replicate, List.length_append, List.length_map, List.length_take, List.length_cons, List.length_nil]; omega)) [wrap64, setC, G1.rep.cells, G1.rep.one]
  refine (c_toProcessS (R2.on H1) (by omega)).go ?_
  intro u2 h2 G2
  have H2 := HS.app G2 H1
  simp -implicitDefEqProofs (disch := first | omega | (simp only [List.length_set, List.length_replicate, List.length_append, List.length_map, List.length_take, List.length_cons, List.length_nil]; omega)) [wrap64, setC, G1.rep.cells, G1.rep.one, G2.rep.cells, G2.rep.one]
  exact RetK.keep (hk _ _ (HS.mkSy H2.sw1))

theorem c_szExprS_of {h : Heap} {a : Value} {x : List Exq} (ih : ∀ y ∈ x, ∀ {h : Heap} {a : Value}, Rep h a y → ∀ {n : Int}, 0 ≤ n ∧ n ≤ 1048576 → CallE Tryz.prog fn_laws_szExpr [a, .int .i64 n] h (fun v h' => h' = h ∧ ∃ m : Int, v = .int .i64 m ∧ (m = -1 ∨ (0 ≤ m ∧ m + Sz.sz y = n)))) (Ra : Rep h a x) {n : Int} (hn : 0 ≤ n ∧ n ≤ 1048576) : CallE Tryz.prog fn_laws_szExprS [a, .int .i64 n] h (fun v h' => h' = h ∧ ∃ m : Int, v = .int .i64 m ∧ (m = -1 ∨ (0 ≤ m ∧ m + Sz.sz x = n))) := by
  rw [sz_list]
  refine CallE.gen fun k hk => EN_laws_szExprS rfl ?_
  have hL := Ra.lt
  simp -implicitDefEqProofs (disch := first | omega | (simp only [List.length_set, List.length_replicate, List.length_append, List.length_map, List.length_take, List.length_cons, List.length_nil]; omega)) [wrap64, Ra.len]
  refine IteW.mk (fun hlt => ?_) (fun hge => ?_)
  · simp -implicitDefEqProofs (disch := first | omega | (simp only [List.length_set, List.length_replicate, List.length_append, List.length_map, List.length_take, List.length_cons, List.length_nil]; omega)) [wrap64]
    exact RetK.keep (hk _ _ ⟨rfl, _, rfl, .inl rfl⟩)
  simp -implicitDefEqProofs (disch := first | omega | (simp only [List.length_set, List.length_replicate, List.length_append, List.length_map, List.length_take, List.length_cons, List.length_nil]; omega)) [wrap64]
  refine wp_count x.length (fun i e h' => h' = h ∧ ∃ m : Int, e = [some a, some (.int .i64 m), none, some (.int .i64 i)] ∧ 0 ≤ m ∧ m + x.length + szL (x.take i) = n) ⟨rfl, _, rfl, by omega, by simp [szL]⟩ ?_
  rintro J i _ _ hJ hi ⟨rfl, m, rfl, hm, hmn⟩
  simp -implicitDefEqProofs (disch := first | omega | (simp only [List.length_set, List.length_replicate, List.length_append, List.length_map, List.length_take, List.length_cons, List.length_nil]; omega)) [wrap64, Ra.len]
  refine IteW.mk (fun hlt => ?_) (fun hge2 => ?_)
  · have hlx : i < x.length := by omega
    obtain ⟨u, hu, Ru⟩ := Ra.ld hlx
    change hload _ (some (elp 3 a i)) (some 3) = some u at hu
    simp -implicitDefEqProofs (disch := first | omega | (simp only [List.length_set, List.length_replicate, List.length_append, List.length_map, List.length_take, List.length_cons, List.length_nil]; omega)) [wrap64, Ra.X (n := 3) rfl, hu]
    refine (ih _ (List.getElem_mem hlx) Ru (n := m) (by omega)).go ?_
    rintro _ _ ⟨rfl, m2, rfl, q⟩
    simp -implicitDefEqProofs (disch := first | omega | (simp only [List.length_set, List.length_replicate, List.length_append, List.length_map, List.length_take, List.length_cons, List.length_nil]; omega)) [wrap64]
    refine IteW.mk (fun hlt => ?_) (fun hge => ?_)
    · simp -implicitDefEqProofs (disch := first | omega | (simp only [List.length_set, List.length_replicate, List.length_append, List.length_map, List.length_take, List.length_cons, List.length_nil]; omega)) [wrap64]
      exact RetK.keep (hk _ _ ⟨rfl, _, rfl, .inl rfl⟩)
    · simp -implicitDefEqProofs (disch := first | omega | (simp only [List.length_set, List.length_replicate, List.length_append, List.length_map, List.length_take, List.length_cons, List.length_nil]; omega)) [wrap64]
      exact hJ _ _ hlx ⟨rfl, _, rfl, by omega, by rw [szL_take hlx]; omega⟩
  · simp -implicitDefEqProofs (disch := first | omega | (simp only [List.length_set, List.length_replicate, List.length_append, List.length_map, List.length_take, List.length_cons, List.length_nil]; omega)) [wrap64]
    rw [List.take_of_length_le (by omega)] at hmn
    exact RetK.keep (hk _ _ ⟨rfl, _, rfl, .inr (by omega)⟩)

theorem c_szExpr : ∀ (x : Exq) {h : Heap} {a : Value}, Rep h a x → ∀ {n : Int}, 0 ≤ n ∧ n ≤ 1048576 → CallE Tryz.prog fn_laws_szExpr [a, .int .i64 n] h (fun v h' => h' = h ∧ ∃ m : Int, v = .int .i64 m ∧ (m = -1 ∨ (0 ≤ m ∧ m + Sz.sz x = n))) := by
  refine Exq.ind fun x ih h a R n hn => ?_
  obtain ⟨w, rfl, k1, k2, R1⟩ := Rep_Exq.1 R
  rw [sz_Exq]
  refine CallE.gen fun k hk => EN_laws_szExpr rfl ?_
  simp -implicitDefEqProofs (disch := first | omega | (simp only [List.length_set, List.length_replicate, List.length_append, List.length_map, List.length_take, List.length_cons, List.length_nil]; omega)) [wrap64]
  refine (c_szExprS_of ih R1 hn).go ?_
  rintro _ _ ⟨rfl, m, rfl, q⟩
  simp -implicitDefEqProofs (disch := first | omega | (simp only [List.length_set, List.length_replicate, List.length_append, List.length_map, List.length_take, List.length_cons, List.length_nil]; omega)) [wrap64]
  refine IteW.mk (fun hlt => ?_) (fun hge => ?_)
  · simp -implicitDefEqProofs (disch := first | omega | (simp only [List.length_set, List.length_replicate, List.length_append, List.length_map, List.length_take, List.length_cons, List.length_nil]; omega)) [wrap64]
    exact RetK.keep (hk _ _ ⟨rfl, _, rfl, .inl rfl⟩)
  · simp -implicitDefEqProofs (disch := first | omega | (simp only [List.length_set, List.length_replicate, List.length_append, List.length_map, List.length_take, List.length_cons, List.length_nil]; omega)) [wrap64]
    exact RetK.keep (hk _ _ ⟨rfl, _, rfl, .inr (by omega)⟩)
theorem c_szEdge {e : Ed} {h : Heap} {a : Value} (R : Rep h a e) {n : Int} (hn : 0 ≤ n ∧ n ≤ 1048576) : CallE Tryz.prog fn_laws_szEdge [a, .int .i64 n] h (fun v h' => h' = h ∧ ∃ m : Int, v = .int .i64 m ∧ (m = -1 ∨ (0 ≤ m ∧ m + Sz.sz e = n))) := by
  obtain ⟨w1, w2, rfl, ok, R1, R2⟩ := Rep_Ed.1 R
  have G1 : Rep h (.agg #[.int .i64 e.guard.kind, .int .i64 e.guard.val, w1]) e.guard := Rep_Exq.2 ⟨w1, rfl, ok.gk, ok.gv, R1⟩
  have G2 : Rep h (.agg #[.int .i64 e.value.kind, .int .i64 e.value.val, w2]) e.value := Rep_Exq.2 ⟨w2, rfl, ok.vk, ok.vv, R2⟩
  have hz : Sz.sz e = Sz.sz e.guard + Sz.sz e.value := rfl
  refine CallE.gen fun k hk => EN_laws_szEdge rfl ?_
  simp -implicitDefEqProofs (disch := first | omega | (simp only [List.length_set, List.length_replicate, List.length_append, List.length_map, List.length_take, List.length_cons, List.length_nil]; omega)) [wrap64, Ed.cs]
  refine (c_szExpr _ G1 hn).go ?_
  rintro _ _ ⟨rfl, m, rfl, q⟩
  simp -implicitDefEqProofs (disch := first | omega | (simp only [List.length_set, List.length_replicate, List.length_append, List.length_map, List.length_take, List.length_cons, List.length_nil]; omega)) [wrap64]
  refine IteW.mk (fun hlt => ?_) (fun hge => ?_)
  · simp -implicitDefEqProofs (disch := first | omega | (simp only [List.length_set, List.length_replicate, List.length_append, List.length_map, List.length_take, List.length_cons, List.length_nil]; omega)) [wrap64]
    exact RetK.keep (hk _ _ ⟨rfl, _, rfl, .inl rfl⟩)
  simp -implicitDefEqProofs (disch := first | omega | (simp only [List.length_set, List.length_replicate, List.length_append, List.length_map, List.length_take, List.length_cons, List.length_nil]; omega)) [wrap64, Ed.cs]
  refine (c_szExpr _ G2 (by omega)).go ?_
  rintro _ _ ⟨rfl, m2, rfl, q2⟩
  simp -implicitDefEqProofs (disch := first | omega | (simp only [List.length_set, List.length_replicate, List.length_append, List.length_map, List.length_take, List.length_cons, List.length_nil]; omega)) [wrap64]
  refine IteW.mk (fun hlt => ?_) (fun hge => ?_)
  · simp -implicitDefEqProofs (disch := first | omega | (simp only [List.length_set, List.length_replicate, List.length_append, List.length_map, List.length_take, List.length_cons, List.length_nil]; omega)) [wrap64]
    exact RetK.keep (hk _ _ ⟨rfl, _, rfl, .inl rfl⟩)
  simp -implicitDefEqProofs (disch := first | omega | (simp only [List.length_set, List.length_replicate, List.length_append, List.length_map, List.length_take, List.length_cons, List.length_nil]; omega)) [wrap64]
  exact RetK.keep (hk _ _ ⟨rfl, _, rfl, .inr (by omega)⟩)

theorem c_szEdgeS {h : Heap} {a : Value} {x : List Ed} (Ra : Rep h a x) {n : Int} (hn : 0 ≤ n ∧ n ≤ 1048576) : CallE Tryz.prog fn_laws_szEdgeS [a, .int .i64 n] h (fun v h' => h' = h ∧ ∃ m : Int, v = .int .i64 m ∧ (m = -1 ∨ (0 ≤ m ∧ m + Sz.sz x = n))) := by
  rw [sz_list]
  refine CallE.gen fun k hk => EN_laws_szEdgeS rfl ?_
  have hL := Ra.lt
  simp -implicitDefEqProofs (disch := first | omega | (simp only [List.length_set, List.length_replicate, List.length_append, List.length_map, List.length_take, List.length_cons, List.length_nil]; omega)) [wrap64, Ra.len]
  refine IteW.mk (fun hlt => ?_) (fun hge => ?_)
  · simp -implicitDefEqProofs (disch := first | omega | (simp only [List.length_set, List.length_replicate, List.length_append, List.length_map, List.length_take, List.length_cons, List.length_nil]; omega)) [wrap64]
    exact RetK.keep (hk _ _ ⟨rfl, _, rfl, .inl rfl⟩)
  simp -implicitDefEqProofs (disch := first | omega | (simp only [List.length_set, List.length_replicate, List.length_append, List.length_map, List.length_take, List.length_cons, List.length_nil]; omega)) [wrap64]
  refine wp_count x.length (fun i e h' => h' = h ∧ ∃ m : Int, e = [some a, some (.int .i64 m), none, some (.int .i64 i)] ∧ 0 ≤ m ∧ m + x.length + szL (x.take i) = n) ⟨rfl, _, rfl, by omega, by simp [szL]⟩ ?_
  rintro J i _ _ hJ hi ⟨rfl, m, rfl, hm, hmn⟩
  simp -implicitDefEqProofs (disch := first | omega | (simp only [List.length_set, List.length_replicate, List.length_append, List.length_map, List.length_take, List.length_cons, List.length_nil]; omega)) [wrap64, Ra.len]
  refine IteW.mk (fun hlt => ?_) (fun hge2 => ?_)
  · have hlx : i < x.length := by omega
    obtain ⟨u, hu, Ru⟩ := Ra.ld hlx
    change hload _ (some (elp 10 a i)) (some 10) = some u at hu
    simp -implicitDefEqProofs (disch := first | omega | (simp only [List.length_set, List.length_replicate, List.length_append, List.length_map, List.length_take, List.length_cons, List.length_nil]; omega)) [wrap64, Ra.X (n := 10) rfl, hu]
    refine (c_szEdge Ru (n := m) (by omega)).go ?_
    rintro _ _ ⟨rfl, m2, rfl, q⟩
    simp -implicitDefEqProofs (disch := first | omega | (simp only [List.length_set, List.length_replicate, List.length_append, List.length_map, List.length_take, List.length_cons, List.length_nil]; omega)) [wrap64]
    refine IteW.mk (fun hlt => ?_) (fun hge => ?_)
    · simp -implicitDefEqProofs (disch := first | omega | (simp only [List.length_set, List.length_replicate, List.length_append, List.length_map, List.length_take, List.length_cons, List.length_nil]; omega)) [wrap64]
      exact RetK.keep (hk _ _ ⟨rfl, _, rfl, .inl rfl⟩)
    · simp -implicitDefEqProofs (disch := first | omega | (simp only [List.length_set, List.length_replicate, List.length_append, List.length_map, List.length_take, List.length_cons, List.length_nil]; omega)) [wrap64]
      exact hJ _ _ hlx ⟨rfl, _, rfl, by omega, by rw [szL_take hlx]; omega⟩
  · simp -implicitDefEqProofs (disch := first | omega | (simp only [List.length_set, List.length_replicate, List.length_append, List.length_map, List.length_take, List.length_cons, List.length_nil]; omega)) [wrap64]
    rw [List.take_of_length_le (by omega)] at hmn
    exact RetK.keep (hk _ _ ⟨rfl, _, rfl, .inr (by omega)⟩)

theorem c_szProcess {p : Pr} {h : Heap} {a : Value} (R : Rep h a p) {n : Int} (hn : 0 ≤ n ∧ n ≤ 1048576) : CallE Tryz.prog fn_laws_szProcess [a, .int .i64 n] h (fun v h' => h' = h ∧ ∃ m : Int, v = .int .i64 m ∧ (m = -1 ∨ (0 ≤ m ∧ m + Sz.sz p = n))) := by
  obtain ⟨w, rfl, k1, R1⟩ := Rep_Pr.1 R
  have hz : Sz.sz p = Sz.sz p.edges := rfl
  refine CallE.gen fun k hk => EN_laws_szProcess rfl ?_
  simp -implicitDefEqProofs (disch := first | omega | (simp only [List.length_set, List.length_replicate, List.length_append, List.length_map, List.length_take, List.length_cons, List.length_nil]; omega)) [wrap64]
  refine (c_szEdgeS R1 hn).go ?_
  rintro _ _ ⟨rfl, m, rfl, q⟩
  simp -implicitDefEqProofs (disch := first | omega | (simp only [List.length_set, List.length_replicate, List.length_append, List.length_map, List.length_take, List.length_cons, List.length_nil]; omega)) [wrap64]
  refine IteW.mk (fun hlt => ?_) (fun hge => ?_)
  · simp -implicitDefEqProofs (disch := first | omega | (simp only [List.length_set, List.length_replicate, List.length_append, List.length_map, List.length_take, List.length_cons, List.length_nil]; omega)) [wrap64]
    exact RetK.keep (hk _ _ ⟨rfl, _, rfl, .inl rfl⟩)
  · simp -implicitDefEqProofs (disch := first | omega | (simp only [List.length_set, List.length_replicate, List.length_append, List.length_map, List.length_take, List.length_cons, List.length_nil]; omega)) [wrap64]
    exact RetK.keep (hk _ _ ⟨rfl, _, rfl, .inr (by omega)⟩)

theorem c_szProcessS {h : Heap} {a : Value} {x : List Pr} (Ra : Rep h a x) {n : Int} (hn : 0 ≤ n ∧ n ≤ 1048576) : CallE Tryz.prog fn_laws_szProcessS [a, .int .i64 n] h (fun v h' => h' = h ∧ ∃ m : Int, v = .int .i64 m ∧ (m = -1 ∨ (0 ≤ m ∧ m + Sz.sz x = n))) := by
  rw [sz_list]
  refine CallE.gen fun k hk => EN_laws_szProcessS rfl ?_
  have hL := Ra.lt
  simp -implicitDefEqProofs (disch := first | omega | (simp only [List.length_set, List.length_replicate, List.length_append, List.length_map, List.length_take, List.length_cons, List.length_nil]; omega)) [wrap64, Ra.len]
  refine IteW.mk (fun hlt => ?_) (fun hge => ?_)
  · simp -implicitDefEqProofs (disch := first | omega | (simp only [List.length_set, List.length_replicate, List.length_append, List.length_map, List.length_take, List.length_cons, List.length_nil]; omega)) [wrap64]
    exact RetK.keep (hk _ _ ⟨rfl, _, rfl, .inl rfl⟩)
  simp -implicitDefEqProofs (disch := first | omega | (simp only [List.length_set, List.length_replicate, List.length_append, List.length_map, List.length_take, List.length_cons, List.length_nil]; omega)) [wrap64]
  refine wp_count x.length (fun i e h' => h' = h ∧ ∃ m : Int, e = [some a, some (.int .i64 m), none, some (.int .i64 i)] ∧ 0 ≤ m ∧ m + x.length + szL (x.take i) = n) ⟨rfl, _, rfl, by omega, by simp [szL]⟩ ?_
  rintro J i _ _ hJ hi ⟨rfl, m, rfl, hm, hmn⟩
  simp -implicitDefEqProofs (disch := first | omega | (simp only [List.length_set, List.length_replicate, List.length_append, List.length_map, List.length_take, List.length_cons, List.length_nil]; omega)) [wrap64, Ra.len]
  refine IteW.mk (fun hlt => ?_) (fun hge2 => ?_)
  · have hlx : i < x.length := by omega
    obtain ⟨u, hu, Ru⟩ := Ra.ld hlx
    change hload _ (some (elp 2 a i)) (some 2) = some u at hu
    simp -implicitDefEqProofs (disch := first | omega | (simp only [List.length_set, List.length_replicate, List.length_append, List.length_map, List.length_take, List.length_cons, List.length_nil]; omega)) [wrap64, Ra.X (n := 2) rfl, hu]
    refine (c_szProcess Ru (n := m) (by omega)).go ?_
    rintro _ _ ⟨rfl, m2, rfl, q⟩
    simp -implicitDefEqProofs (disch := first | omega | (simp only [List.length_set, List.length_replicate, List.length_append, List.length_map, List.length_take, List.length_cons, List.length_nil]; omega)) [wrap64]
    refine IteW.mk (fun hlt => ?_) (fun hge => ?_)
    · simp -implicitDefEqProofs (disch := first | omega | (simp only [List.length_set, List.length_replicate, List.length_append, List.length_map, List.length_take, List.length_cons, List.length_nil]; omega)) [wrap64]
      exact RetK.keep (hk _ _ ⟨rfl, _, rfl, .inl rfl⟩)
    · simp -implicitDefEqProofs (disch := first | omega | (simp only [List.length_set, List.length_replicate, List.length_append, List.length_map, List.length_take, List.length_cons, List.length_nil]; omega)) [wrap64]
      exact hJ _ _ hlx ⟨rfl, _, rfl, by omega, by rw [szL_take hlx]; omega⟩
  · simp -implicitDefEqProofs (disch := first | omega | (simp only [List.length_set, List.length_replicate, List.length_append, List.length_map, List.length_take, List.length_cons, List.length_nil]; omega)) [wrap64]
    rw [List.take_of_length_le (by omega)] at hmn
    exact RetK.keep (hk _ _ ⟨rfl, _, rfl, .inr (by omega)⟩)

theorem c_szSystem {h : Heap} {a : Value} {x : Sy} (Ra : Rep h a x) {n : Int} (hn : 0 ≤ n ∧ n ≤ 1048576) : CallE Tryz.prog fn_laws_szSystem [a, .int .i64 n] h (fun v h' => h' = h ∧ ∃ m : Int, v = .int .i64 m ∧ (m = -1 ∨ (0 ≤ m ∧ m + Sz.sz x = n))) := by
  have hz : Sz.sz x = Sz.sz x.init + Sz.sz x.procs := rfl
  obtain ⟨v1, v2, rfl, R1, R2⟩ := Rep_Sy.1 Ra
  refine CallE.gen fun k hk => EN_laws_szSystem rfl ?_
  simp -implicitDefEqProofs (disch := first | omega | (simp only [List.length_set, List.length_replicate, List.length_append, List.length_map, List.length_take, List.length_cons, List.length_nil]; omega)) [wrap64]
  refine (c_szIntS R1 (by omega)).go ?_
  rintro _ _ ⟨rfl, m1, rfl, q1⟩
  simp -implicitDefEqProofs (disch := first | omega | (simp only [List.length_set, List.length_replicate, List.length_append, List.length_map, List.length_take, List.length_cons, List.length_nil]; omega)) [wrap64]
  refine IteW.mk (fun hlt => ?_) (fun hge => ?_)
  · simp -implicitDefEqProofs (disch := first | omega | (simp only [List.length_set, List.length_replicate, List.length_append, List.length_map, List.length_take, List.length_cons, List.length_nil]; omega)) [wrap64]
    exact RetK.keep (hk _ _ ⟨rfl, _, rfl, .inl rfl⟩)
  simp -implicitDefEqProofs (disch := first | omega | (simp only [List.length_set, List.length_replicate, List.length_append, List.length_map, List.length_take, List.length_cons, List.length_nil]; omega)) [wrap64]
  refine (c_szProcessS R2 (by omega)).go ?_
  rintro _ _ ⟨rfl, m2, rfl, q2⟩
  simp -implicitDefEqProofs (disch := first | omega | (simp only [List.length_set, List.length_replicate, List.length_append, List.length_map, List.length_take, List.length_cons, List.length_nil]; omega)) [wrap64]
  refine IteW.mk (fun hlt => ?_) (fun hge => ?_)
  · simp -implicitDefEqProofs (disch := first | omega | (simp only [List.length_set, List.length_replicate, List.length_append, List.length_map, List.length_take, List.length_cons, List.length_nil]; omega)) [wrap64]
    exact RetK.keep (hk _ _ ⟨rfl, _, rfl, .inl rfl⟩)
  try simp -implicitDefEqProofs (disch := first | omega | (simp only [List.length_set, List.length_replicate, List.length_append, List.length_map, List.length_take, List.length_cons, List.length_nil]; omega)) [wrap64]
  exact RetK.keep (hk _ _ ⟨rfl, _, rfl, .inr (by omega)⟩)

theorem c_eqExprS_of {h : Heap} {a b : Value} {x y : List Exq} (ih : ∀ z ∈ x, ∀ {h : Heap} {a b : Value} {w : Exq}, Rep h a z → Rep h b w → CallE Tryz.prog fn_laws_eqExpr [a, b] h (fun v h' => h' = h ∧ v = .bool (decide (z = w)))) (Ra : Rep h a x) (Rb : Rep h b y) : CallE Tryz.prog fn_laws_eqExprS [a, b] h (fun v h' => h' = h ∧ v = .bool (decide (x = y))) := by
  refine CallE.gen fun k hk => EN_laws_eqExprS rfl ?_
  have hL := Ra.lt
  simp -implicitDefEqProofs (disch := first | omega | (simp only [List.length_set, List.length_replicate, List.length_append, List.length_map, List.length_take, List.length_cons, List.length_nil]; omega)) [wrap64, Ra.len, Rb.len]
  refine IteW.mkr (fun hne => ?_) (fun heq => ?_)
  · simp -implicitDefEqProofs (disch := first | omega | (simp only [List.length_set, List.length_replicate, List.length_append, List.length_map, List.length_take, List.length_cons, List.length_nil]; omega)) [wrap64]
    exact RetK.keep (hk _ _ ⟨rfl, by simp; rintro rfl; exact hne rfl⟩)
  simp -implicitDefEqProofs (disch := first | omega | (simp only [List.length_set, List.length_replicate, List.length_append, List.length_map, List.length_take, List.length_cons, List.length_nil]; omega)) [wrap64]
  refine wp_count x.length (fun i e h' => h' = h ∧ e = [some a, some b, none, some (.int .i64 i)] ∧ x.take i = y.take i) ⟨rfl, rfl, rfl⟩ ?_
  rintro J i _ _ hJ hi ⟨rfl, rfl, hxy⟩
  simp -implicitDefEqProofs (disch := first | omega | (simp only [List.length_set, List.length_replicate, List.length_append, List.length_map, List.length_take, List.length_cons, List.length_nil]; omega)) [wrap64, Ra.len]
  refine IteW.mk (fun hlt => ?_) (fun hge => ?_)
  · have hly : i < y.length := by omega
    have hlx : i < x.length := by omega
    obtain ⟨u, hu, Ru⟩ := Ra.ld hlx
    obtain ⟨w, hw, Rw⟩ := Rb.ld hly
    change hload _ (some (elp 3 a i)) (some 3) = some u at hu
    change hload _ (some (elp 3 b i)) (some 3) = some w at hw
    simp -implicitDefEqProofs (disch := first | omega | (simp only [List.length_set, List.length_replicate, List.length_append, List.length_map, List.length_take, List.length_cons, List.length_nil]; omega)) [wrap64, Ra.X (n := 3) rfl, Rb.X (n := 3) rfl, hu, hw]
    refine (ih _ (List.getElem_mem hlx) Ru Rw).go ?_
    rintro _ _ ⟨rfl, rfl⟩
    simp -implicitDefEqProofs (disch := first | omega | (simp only [List.length_set, List.length_replicate, List.length_append, List.length_map, List.length_take, List.length_cons, List.length_nil]; omega)) [wrap64]
    refine IteW.mkr (fun hne => ?_) (fun heq => ?_)
    · simp -implicitDefEqProofs (disch := first | omega | (simp only [List.length_set, List.length_replicate, List.length_append, List.length_map, List.length_take, List.length_cons, List.length_nil]; omega)) [wrap64]
      exact RetK.keep (hk _ _ ⟨rfl, by simp; rintro rfl; exact hne rfl⟩)
    simp -implicitDefEqProofs (disch := first | omega | (simp only [List.length_set, List.length_replicate, List.length_append, List.length_map, List.length_take, List.length_cons, List.length_nil]; omega)) [wrap64]
    exact hJ _ _ hlx ⟨rfl, rfl, take_step hxy hlx hly heq⟩
  · simp -implicitDefEqProofs (disch := first | omega | (simp only [List.length_set, List.length_replicate, List.length_append, List.length_map, List.length_take, List.length_cons, List.length_nil]; omega)) [wrap64]
    refine RetK.keep (hk _ _ ⟨rfl, ?_⟩)
    simp
    rw [List.take_of_length_le (by omega), List.take_of_length_le (by omega)] at hxy
    exact hxy

theorem c_eqExpr' : ∀ (x : Exq) {h : Heap} {a b : Value} {y : Exq}, Rep h a x → Rep h b y → CallE Tryz.prog fn_laws_eqExpr [a, b] h (fun v h' => h' = h ∧ v = .bool (decide (x = y))) := by
  refine Exq.ind fun x ih h a b y Ra Rb => ?_
  obtain ⟨w, rfl, k1, k2, R1⟩ := Rep_Exq.1 Ra
  obtain ⟨w2, rfl, k3, k4, R2⟩ := Rep_Exq.1 Rb
  refine CallE.gen fun k hk => EN_laws_eqExpr rfl ?_
  simp -implicitDefEqProofs (disch := first | omega | (simp only [List.length_set, List.length_replicate, List.length_append, List.length_map, List.length_take, List.length_cons, List.length_nil]; omega)) [wrap64]
  refine IteW.mkr (fun h1 => ?_) (fun h1 => ?_)
  · simp -implicitDefEqProofs (disch := first | omega | (simp only [List.length_set, List.length_replicate, List.length_append, List.length_map, List.length_take, List.length_cons, List.length_nil]; omega)) [wrap64]
    exact RetK.keep (hk _ _ ⟨rfl, by simp [Exq.ext_iff', h1]⟩)
  simp -implicitDefEqProofs (disch := first | omega | (simp only [List.length_set, List.length_replicate, List.length_append, List.length_map, List.length_take, List.length_cons, List.length_nil]; omega)) [wrap64]
  refine IteW.mkr (fun h2 => ?_) (fun h2 => ?_)
  · simp -implicitDefEqProofs (disch := first | omega | (simp only [List.length_set, List.length_replicate, List.length_append, List.length_map, List.length_take, List.length_cons, List.length_nil]; omega)) [wrap64]
    exact RetK.keep (hk _ _ ⟨rfl, by simp [Exq.ext_iff', h2]⟩)
  simp -implicitDefEqProofs (disch := first | omega | (simp only [List.length_set, List.length_replicate, List.length_append, List.length_map, List.length_take, List.length_cons, List.length_nil]; omega)) [wrap64]
  refine (c_eqExprS_of ih R1 R2).go ?_
  rintro _ _ ⟨rfl, rfl⟩
  simp -implicitDefEqProofs (disch := first | omega | (simp only [List.length_set, List.length_replicate, List.length_append, List.length_map, List.length_take, List.length_cons, List.length_nil]; omega)) [wrap64]
  refine IteW.mkr (fun h3 => ?_) (fun h3 => ?_)
  · simp -implicitDefEqProofs (disch := first | omega | (simp only [List.length_set, List.length_replicate, List.length_append, List.length_map, List.length_take, List.length_cons, List.length_nil]; omega)) [wrap64]
    exact RetK.keep (hk _ _ ⟨rfl, by simp [Exq.ext_iff', h3]⟩)
  simp -implicitDefEqProofs (disch := first | omega | (simp only [List.length_set, List.length_replicate, List.length_append, List.length_map, List.length_take, List.length_cons, List.length_nil]; omega)) [wrap64]
  exact RetK.keep (hk _ _ ⟨rfl, by simp [Exq.ext_iff', h1, h2, h3]⟩)
theorem c_eqExpr {x : Exq} {h : Heap} {a b : Value} {y : Exq} (Ra : Rep h a x) (Rb : Rep h b y) : CallE Tryz.prog fn_laws_eqExpr [a, b] h (fun v h' => h' = h ∧ v = .bool (decide (x = y))) := c_eqExpr' x Ra Rb
theorem c_eqEdge {x y : Ed} {h : Heap} {a b : Value} (Ra : Rep h a x) (Rb : Rep h b y) : CallE Tryz.prog fn_laws_eqEdge [a, b] h (fun v h' => h' = h ∧ v = .bool (decide (x = y))) := by
  obtain ⟨w1, w2, rfl, ok, R1, R2⟩ := Rep_Ed.1 Ra
  obtain ⟨w3, w4, rfl, ok2, R3, R4⟩ := Rep_Ed.1 Rb
  have G1 : Rep h (.agg #[.int .i64 x.guard.kind, .int .i64 x.guard.val, w1]) x.guard := Rep_Exq.2 ⟨w1, rfl, ok.gk, ok.gv, R1⟩
  have G2 : Rep h (.agg #[.int .i64 x.value.kind, .int .i64 x.value.val, w2]) x.value := Rep_Exq.2 ⟨w2, rfl, ok.vk, ok.vv, R2⟩
  have G3 : Rep h (.agg #[.int .i64 y.guard.kind, .int .i64 y.guard.val, w3]) y.guard := Rep_Exq.2 ⟨w3, rfl, ok2.gk, ok2.gv, R3⟩
  have G4 : Rep h (.agg #[.int .i64 y.value.kind, .int .i64 y.value.val, w4]) y.value := Rep_Exq.2 ⟨w4, rfl, ok2.vk, ok2.vv, R4⟩
  refine CallE.gen fun k hk => EN_laws_eqEdge rfl ?_
  simp -implicitDefEqProofs (disch := first | omega | (simp only [List.length_set, List.length_replicate, List.length_append, List.length_map, List.length_take, List.length_cons, List.length_nil]; omega)) [wrap64, Ed.cs]
  refine IteW.mkr (fun h1 => ?_) (fun h1 => ?_)
  · simp -implicitDefEqProofs (disch := first | omega | (simp only [List.length_set, List.length_replicate, List.length_append, List.length_map, List.length_take, List.length_cons, List.length_nil]; omega)) [wrap64]
    exact RetK.keep (hk _ _ ⟨rfl, by simp [Ed.ext_iff', h1]⟩)
  simp -implicitDefEqProofs (disch := first | omega | (simp only [List.length_set, List.length_replicate, List.length_append, List.length_map, List.length_take, List.length_cons, List.length_nil]; omega)) [wrap64, Ed.cs]
  refine IteW.mkr (fun h2 => ?_) (fun h2 => ?_)
  · simp -implicitDefEqProofs (disch := first | omega | (simp only [List.length_set, List.length_replicate, List.length_append, List.length_map, List.length_take, List.length_cons, List.length_nil]; omega)) [wrap64]
    exact RetK.keep (hk _ _ ⟨rfl, by simp [Ed.ext_iff', h2]⟩)
  simp -implicitDefEqProofs (disch := first | omega | (simp only [List.length_set, List.length_replicate, List.length_append, List.length_map, List.length_take, List.length_cons, List.length_nil]; omega)) [wrap64, Ed.cs]
  refine (c_eqExpr G1 G3).go ?_
  rintro _ _ ⟨rfl, rfl⟩
  simp -implicitDefEqProofs (disch := first | omega | (simp only [List.length_set, List.length_replicate, List.length_append, List.length_map, List.length_take, List.length_cons, List.length_nil]; omega)) [wrap64, Ed.cs]
  refine IteW.mkr (fun h3 => ?_) (fun h3 => ?_)
  · simp -implicitDefEqProofs (disch := first | omega | (simp only [List.length_set, List.length_replicate, List.length_append, List.length_map, List.length_take, List.length_cons, List.length_nil]; omega)) [wrap64]
    exact RetK.keep (hk _ _ ⟨rfl, by simp [Ed.ext_iff', h3]⟩)
  simp -implicitDefEqProofs (disch := first | omega | (simp only [List.length_set, List.length_replicate, List.length_append, List.length_map, List.length_take, List.length_cons, List.length_nil]; omega)) [wrap64, Ed.cs]
  refine IteW.mkr (fun h4 => ?_) (fun h4 => ?_)
  · simp -implicitDefEqProofs (disch := first | omega | (simp only [List.length_set, List.length_replicate, List.length_append, List.length_map, List.length_take, List.length_cons, List.length_nil]; omega)) [wrap64]
    exact RetK.keep (hk _ _ ⟨rfl, by simp [Ed.ext_iff', h4]⟩)
  simp -implicitDefEqProofs (disch := first | omega | (simp only [List.length_set, List.length_replicate, List.length_append, List.length_map, List.length_take, List.length_cons, List.length_nil]; omega)) [wrap64, Ed.cs]
  refine (c_eqExpr G2 G4).go ?_
  rintro _ _ ⟨rfl, rfl⟩
  simp -implicitDefEqProofs (disch := first | omega | (simp only [List.length_set, List.length_replicate, List.length_append, List.length_map, List.length_take, List.length_cons, List.length_nil]; omega)) [wrap64, Ed.cs]
  refine IteW.mkr (fun h5 => ?_) (fun h5 => ?_)
  · simp -implicitDefEqProofs (disch := first | omega | (simp only [List.length_set, List.length_replicate, List.length_append, List.length_map, List.length_take, List.length_cons, List.length_nil]; omega)) [wrap64]
    exact RetK.keep (hk _ _ ⟨rfl, by simp [Ed.ext_iff', h5]⟩)
  simp -implicitDefEqProofs (disch := first | omega | (simp only [List.length_set, List.length_replicate, List.length_append, List.length_map, List.length_take, List.length_cons, List.length_nil]; omega)) [wrap64, Ed.cs]
  refine IteW.mkr (fun h6 => ?_) (fun h6 => ?_)
  · simp -implicitDefEqProofs (disch := first | omega | (simp only [List.length_set, List.length_replicate, List.length_append, List.length_map, List.length_take, List.length_cons, List.length_nil]; omega)) [wrap64]
    exact RetK.keep (hk _ _ ⟨rfl, by simp [Ed.ext_iff', h6]⟩)
  simp -implicitDefEqProofs (disch := first | omega | (simp only [List.length_set, List.length_replicate, List.length_append, List.length_map, List.length_take, List.length_cons, List.length_nil]; omega)) [wrap64]
  exact RetK.keep (hk _ _ ⟨rfl, by simp [Ed.ext_iff', h1, h2, h3, h4, h5, h6]⟩)

theorem c_eqEdgeS {h : Heap} {a b : Value} {x y : List Ed} (Ra : Rep h a x) (Rb : Rep h b y) : CallE Tryz.prog fn_laws_eqEdgeS [a, b] h (fun v h' => h' = h ∧ v = .bool (decide (x = y))) := by
  refine CallE.gen fun k hk => EN_laws_eqEdgeS rfl ?_
  have hL := Ra.lt
  simp -implicitDefEqProofs (disch := first | omega | (simp only [List.length_set, List.length_replicate, List.length_append, List.length_map, List.length_take, List.length_cons, List.length_nil]; omega)) [wrap64, Ra.len, Rb.len]
  refine IteW.mkr (fun hne => ?_) (fun heq => ?_)
  · simp -implicitDefEqProofs (disch := first | omega | (simp only [List.length_set, List.length_replicate, List.length_append, List.length_map, List.length_take, List.length_cons, List.length_nil]; omega)) [wrap64]
    exact RetK.keep (hk _ _ ⟨rfl, by simp; rintro rfl; exact hne rfl⟩)
  simp -implicitDefEqProofs (disch := first | omega | (simp only [List.length_set, List.length_replicate, List.length_append, List.length_map, List.length_take, List.length_cons, List.length_nil]; omega)) [wrap64]
  refine wp_count x.length (fun i e h' => h' = h ∧ e = [some a, some b, none, some (.int .i64 i)] ∧ x.take i = y.take i) ⟨rfl, rfl, rfl⟩ ?_
  rintro J i _ _ hJ hi ⟨rfl, rfl, hxy⟩
  simp -implicitDefEqProofs (disch := first | omega | (simp only [List.length_set, List.length_replicate, List.length_append, List.length_map, List.length_take, List.length_cons, List.length_nil]; omega)) [wrap64, Ra.len]
  refine IteW.mk (fun hlt => ?_) (fun hge => ?_)
  · have hly : i < y.length := by omega
    have hlx : i < x.length := by omega
    obtain ⟨u, hu, Ru⟩ := Ra.ld hlx
    obtain ⟨w, hw, Rw⟩ := Rb.ld hly
    change hload _ (some (elp 10 a i)) (some 10) = some u at hu
    change hload _ (some (elp 10 b i)) (some 10) = some w at hw
    simp -implicitDefEqProofs (disch := first | omega | (simp only [List.length_set, List.length_replicate, List.length_append, List.length_map, List.length_take, List.length_cons, List.length_nil]; omega)) [wrap64, Ra.X (n := 10) rfl, Rb.X (n := 10) rfl, hu, hw]
    refine (c_eqEdge Ru Rw).go ?_
    rintro _ _ ⟨rfl, rfl⟩
    simp -implicitDefEqProofs (disch := first | omega | (simp only [List.length_set, List.length_replicate, List.length_append, List.length_map, List.length_take, List.length_cons, List.length_nil]; omega)) [wrap64]
    refine IteW.mkr (fun hne => ?_) (fun heq => ?_)
    · simp -implicitDefEqProofs (disch := first | omega | (simp only [List.length_set, List.length_replicate, List.length_append, List.length_map, List.length_take, List.length_cons, List.length_nil]; omega)) [wrap64]
      exact RetK.keep (hk _ _ ⟨rfl, by simp; rintro rfl; exact hne rfl⟩)
    simp -implicitDefEqProofs (disch := first | omega | (simp only [List.length_set, List.length_replicate, List.length_append, List.length_map, List.length_take, List.length_cons, List.length_nil]; omega)) [wrap64]
    exact hJ _ _ hlx ⟨rfl, rfl, take_step hxy hlx hly heq⟩
  · simp -implicitDefEqProofs (disch := first | omega | (simp only [List.length_set, List.length_replicate, List.length_append, List.length_map, List.length_take, List.length_cons, List.length_nil]; omega)) [wrap64]
    refine RetK.keep (hk _ _ ⟨rfl, ?_⟩)
    simp
    rw [List.take_of_length_le (by omega), List.take_of_length_le (by omega)] at hxy
    exact hxy

theorem c_eqProcess {x y : Pr} {h : Heap} {a b : Value} (Ra : Rep h a x) (Rb : Rep h b y) : CallE Tryz.prog fn_laws_eqProcess [a, b] h (fun v h' => h' = h ∧ v = .bool (decide (x = y))) := by
  obtain ⟨w, rfl, k1, R1⟩ := Rep_Pr.1 Ra
  obtain ⟨w2, rfl, k3, R2⟩ := Rep_Pr.1 Rb
  refine CallE.gen fun k hk => EN_laws_eqProcess rfl ?_
  simp -implicitDefEqProofs (disch := first | omega | (simp only [List.length_set, List.length_replicate, List.length_append, List.length_map, List.length_take, List.length_cons, List.length_nil]; omega)) [wrap64]
  refine IteW.mkr (fun h1 => ?_) (fun h1 => ?_)
  · simp -implicitDefEqProofs (disch := first | omega | (simp only [List.length_set, List.length_replicate, List.length_append, List.length_map, List.length_take, List.length_cons, List.length_nil]; omega)) [wrap64]
    exact RetK.keep (hk _ _ ⟨rfl, by simp [Pr.ext_iff', h1]⟩)
  simp -implicitDefEqProofs (disch := first | omega | (simp only [List.length_set, List.length_replicate, List.length_append, List.length_map, List.length_take, List.length_cons, List.length_nil]; omega)) [wrap64]
  refine (c_eqEdgeS R1 R2).go ?_
  rintro _ _ ⟨rfl, rfl⟩
  simp -implicitDefEqProofs (disch := first | omega | (simp only [List.length_set, List.length_replicate, List.length_append, List.length_map, List.length_take, List.length_cons, List.length_nil]; omega)) [wrap64]
  refine IteW.mkr (fun h3 => ?_) (fun h3 => ?_)
  · simp -implicitDefEqProofs (disch := first | omega | (simp only [List.length_set, List.length_replicate, List.length_append, List.length_map, List.length_take, List.length_cons, List.length_nil]; omega)) [wrap64]
    exact RetK.keep (hk _ _ ⟨rfl, by simp [Pr.ext_iff', h3]⟩)
  simp -implicitDefEqProofs (disch := first | omega | (simp only [List.length_set, List.length_replicate, List.length_append, List.length_map, List.length_take, List.length_cons, List.length_nil]; omega)) [wrap64]
  exact RetK.keep (hk _ _ ⟨rfl, by simp [Pr.ext_iff', h1, h3]⟩)

theorem c_eqProcessS {h : Heap} {a b : Value} {x y : List Pr} (Ra : Rep h a x) (Rb : Rep h b y) : CallE Tryz.prog fn_laws_eqProcessS [a, b] h (fun v h' => h' = h ∧ v = .bool (decide (x = y))) := by
  refine CallE.gen fun k hk => EN_laws_eqProcessS rfl ?_
  have hL := Ra.lt
  simp -implicitDefEqProofs (disch := first | omega | (simp only [List.length_set, List.length_replicate, List.length_append, List.length_map, List.length_take, List.length_cons, List.length_nil]; omega)) [wrap64, Ra.len, Rb.len]
  refine IteW.mkr (fun hne => ?_) (fun heq => ?_)
  · simp -implicitDefEqProofs (disch := first | omega | (simp only [List.length_set, List.length_replicate, List.length_append, List.length_map, List.length_take, List.length_cons, List.length_nil]; omega)) [wrap64]
    exact RetK.keep (hk _ _ ⟨rfl, by simp; rintro rfl; exact hne rfl⟩)
  simp -implicitDefEqProofs (disch := first | omega | (simp only [List.length_set, List.length_replicate, List.length_append, List.length_map, List.length_take, List.length_cons, List.length_nil]; omega)) [wrap64]
  refine wp_count x.length (fun i e h' => h' = h ∧ e = [some a, some b, none, some (.int .i64 i)] ∧ x.take i = y.take i) ⟨rfl, rfl, rfl⟩ ?_
  rintro J i _ _ hJ hi ⟨rfl, rfl, hxy⟩
  simp -implicitDefEqProofs (disch := first | omega | (simp only [List.length_set, List.length_replicate, List.length_append, List.length_map, List.length_take, List.length_cons, List.length_nil]; omega)) [wrap64, Ra.len]
  refine IteW.mk (fun hlt => ?_) (fun hge => ?_)
  · have hly : i < y.length := by omega
    have hlx : i < x.length := by omega
    obtain ⟨u, hu, Ru⟩ := Ra.ld hlx
    obtain ⟨w, hw, Rw⟩ := Rb.ld hly
    change hload _ (some (elp 2 a i)) (some 2) = some u at hu
    change hload _ (some (elp 2 b i)) (some 2) = some w at hw
    simp -implicitDefEqProofs (disch := first | omega | (simp only [List.length_set, List.length_replicate, List.length_append, List.length_map, List.length_take, List.length_cons, List.length_nil]; omega)) [wrap64, Ra.X (n := 2) rfl, Rb.X (n := 2) rfl, hu, hw]
    refine (c_eqProcess Ru Rw).go ?_
    rintro _ _ ⟨rfl, rfl⟩
    simp -implicitDefEqProofs (disch := first | omega | (simp only [List.length_set, List.length_replicate, List.length_append, List.length_map, List.length_take, List.length_cons, List.length_nil]; omega)) [wrap64]
    refine IteW.mkr (fun hne => ?_) (fun heq => ?_)
    · simp -implicitDefEqProofs (disch := first | omega | (simp only [List.length_set, List.length_replicate, List.length_append, List.length_map, List.length_take, List.length_cons, List.length_nil]; omega)) [wrap64]
      exact RetK.keep (hk _ _ ⟨rfl, by simp; rintro rfl; exact hne rfl⟩)
    simp -implicitDefEqProofs (disch := first | omega | (simp only [List.length_set, List.length_replicate, List.length_append, List.length_map, List.length_take, List.length_cons, List.length_nil]; omega)) [wrap64]
    exact hJ _ _ hlx ⟨rfl, rfl, take_step hxy hlx hly heq⟩
  · simp -implicitDefEqProofs (disch := first | omega | (simp only [List.length_set, List.length_replicate, List.length_append, List.length_map, List.length_take, List.length_cons, List.length_nil]; omega)) [wrap64]
    refine RetK.keep (hk _ _ ⟨rfl, ?_⟩)
    simp
    rw [List.take_of_length_le (by omega), List.take_of_length_le (by omega)] at hxy
    exact hxy

theorem c_eqSystem {h : Heap} {a b : Value} {x y : Sy} (Ra : Rep h a x) (Rb : Rep h b y) : CallE Tryz.prog fn_laws_eqSystem [a, b] h (fun v h' => h' = h ∧ v = .bool (decide (x = y))) := by
  obtain ⟨v1, v2, rfl, R1, R2⟩ := Rep_Sy.1 Ra
  obtain ⟨w1, w2, rfl, S1, S2⟩ := Rep_Sy.1 Rb
  refine CallE.gen fun k hk => EN_laws_eqSystem rfl ?_
  simp -implicitDefEqProofs (disch := first | omega | (simp only [List.length_set, List.length_replicate, List.length_append, List.length_map, List.length_take, List.length_cons, List.length_nil]; omega)) [wrap64]
  refine (c_eqIntS R1 S1).go ?_
  rintro _ _ ⟨rfl, rfl⟩
  simp -implicitDefEqProofs (disch := first | omega | (simp only [List.length_set, List.length_replicate, List.length_append, List.length_map, List.length_take, List.length_cons, List.length_nil]; omega)) [wrap64]
  refine IteW.mkr (fun h1 => ?_) (fun h1 => ?_)
  · simp -implicitDefEqProofs (disch := first | omega | (simp only [List.length_set, List.length_replicate, List.length_append, List.length_map, List.length_take, List.length_cons, List.length_nil]; omega)) [wrap64]
    exact RetK.keep (hk _ _ ⟨rfl, by simp_all [Sy.ext_iff']⟩)
  simp -implicitDefEqProofs (disch := first | omega | (simp only [List.length_set, List.length_replicate, List.length_append, List.length_map, List.length_take, List.length_cons, List.length_nil]; omega)) [wrap64]
  refine (c_eqProcessS R2 S2).go ?_
  rintro _ _ ⟨rfl, rfl⟩
  simp -implicitDefEqProofs (disch := first | omega | (simp only [List.length_set, List.length_replicate, List.length_append, List.length_map, List.length_take, List.length_cons, List.length_nil]; omega)) [wrap64]
  refine IteW.mkr (fun h2 => ?_) (fun h2 => ?_)
  · simp -implicitDefEqProofs (disch := first | omega | (simp only [List.length_set, List.length_replicate, List.length_append, List.length_map, List.length_take, List.length_cons, List.length_nil]; omega)) [wrap64]
    exact RetK.keep (hk _ _ ⟨rfl, by simp_all [Sy.ext_iff']⟩)
  try simp -implicitDefEqProofs (disch := first | omega | (simp only [List.length_set, List.length_replicate, List.length_append, List.length_map, List.length_take, List.length_cons, List.length_nil]; omega)) [wrap64]
  exact RetK.keep (hk _ _ ⟨rfl, by simp_all [Sy.ext_iff']⟩)

end Go.Proofs.YthgimpheeemooaaGreat

/-
  Instances of functions over slices: copies, and whether some element meets a condition. Printed by a program.
-/
namespace Go.Proofs.YthgimpheeemooaaGreat
open Go
set_option linter.all false
set_option linter.unusedVariables false
set_option linter.unusedSimpArgs false
set_option linter.defProp false
set_option maxRecDepth 1000000

theorem c_IndexFunc_int {h : Heap} {a fv : Value} {x : List (Int)} (Ra : Rep h a x) {f : FuncId} {c1 c2 : List Value} (hf : fnOf fv = some (f, c1, c2)) (p : (Int) → Bool)
    (hp : ∀ h1, h.le h1 → ∀ (i : Nat) (hi : i < x.length) (u : Value), Rep h1 u x[i] → CallE Tryz.prog f (c1 ++ u :: c2) h1 (fun v h' => h1.le h' ∧ v = .bool (p x[i]))) :
    CallE Tryz.prog fn_slices_IndexFunc_S_int_int [a, fv] h (fun v h' => h.le h' ∧ v = .int .i64 (match x.findIdx? p with | some i => (i : Int) | none => -1)) := by
  refine CallE.gen fun k hk => EN_slices_IndexFunc_S_int_int rfl ?_
  have hL := Ra.lt
  simp -implicitDefEqProofs (disch := first | omega | (simp only [List.length_set, List.length_replicate, List.length_append, List.length_map, List.length_take, List.length_cons, List.length_nil]; omega)) [wrap64, Ra.len]
  refine wp_count x.length (fun i e h' => e = [some a, some fv, none, none, some (.int .i64 x.length), some (.int .i64 i)] ∧ h.le h' ∧ ∀ (j : Nat) (hj : j < x.length), j < i → p x[j] = false) ⟨rfl, Heap.le.refl h, fun j _ hj => absurd hj (Nat.not_lt_zero j)⟩ ?_
  rintro J i _ h1 hJ hi ⟨rfl, hl, hn⟩
  simp -implicitDefEqProofs (disch := first | omega | (simp only [List.length_set, List.length_replicate, List.length_append, List.length_map, List.length_take, List.length_cons, List.length_nil]; omega)) [wrap64]
  refine IteW.mk (fun hlt => ?_) (fun hge => ?_)
  · have hlx : i < x.length := by omega
    obtain ⟨u, hu, Ru⟩ := (Ra.le hl).ld hlx
    change hload _ (some (elp 1 a i)) none = some u at hu
    simp -implicitDefEqProofs (disch := first | omega | (simp only [List.length_set, List.length_replicate, List.length_append, List.length_map, List.length_take, List.length_cons, List.length_nil]; omega)) [wrap64, (Ra.le hl).X (n := 1) rfl, hu, hf]
    refine (hp h1 hl i hlx u Ru).go ?_
    rintro _ h2 ⟨hl2, rfl⟩
    simp -implicitDefEqProofs (disch := first | omega | (simp only [List.length_set, List.length_replicate, List.length_append, List.length_map, List.length_take, List.length_cons, List.length_nil]; omega)) [wrap64]
    refine IteW.mk (fun hq => ?_) (fun hq => ?_)
    · simp -implicitDefEqProofs (disch := first | omega | (simp only [List.length_set, List.length_replicate, List.length_append, List.length_map, List.length_take, List.length_cons, List.length_nil]; omega)) [wrap64]
      refine RetK.keep (hk _ _ ⟨hl.trans hl2, ?_⟩)
      have h3 : x.findIdx? p = some i := by
        rw [List.findIdx?_eq_some_iff_getElem]
        exact ⟨hlx, hq, fun j hj => by rw [hn j (by omega) hj]; simp⟩
      rw [h3]
    · simp -implicitDefEqProofs (disch := first | omega | (simp only [List.length_set, List.length_replicate, List.length_append, List.length_map, List.length_take, List.length_cons, List.length_nil]; omega)) [wrap64]
      refine hJ _ _ hlx ⟨rfl, hl.trans hl2, fun j hj hji => ?_⟩
      by_cases hji2 : j = i
      · subst hji2; simpa using hq
      · exact hn j hj (by omega)
  · simp -implicitDefEqProofs (disch := first | omega | (simp only [List.length_set, List.length_replicate, List.length_append, List.length_map, List.length_take, List.length_cons, List.length_nil]; omega)) [wrap64]
    refine RetK.keep (hk _ _ ⟨hl, ?_⟩)
    have h3 : x.findIdx? p = none := by
      rw [List.findIdx?_eq_none_iff]
      intro y hy
      obtain ⟨j, hj, rfl⟩ := List.mem_iff_getElem.1 hy
      exact hn j hj (by omega)
    rw [h3]

theorem c_ContainsFunc_int {h : Heap} {a fv : Value} {x : List (Int)} (Ra : Rep h a x) {f : FuncId} {c1 c2 : List Value} (hf : fnOf fv = some (f, c1, c2)) (p : (Int) → Bool)
    (hp : ∀ h1, h.le h1 → ∀ (i : Nat) (hi : i < x.length) (u : Value), Rep h1 u x[i] → CallE Tryz.prog f (c1 ++ u :: c2) h1 (fun v h' => h1.le h' ∧ v = .bool (p x[i]))) :
    CallE Tryz.prog fn_slices_ContainsFunc_S_int_int [a, fv] h (fun v h' => h.le h' ∧ v = .bool (x.any p)) := by
  refine CallE.gen fun k hk => EN_slices_ContainsFunc_S_int_int rfl ?_
  simp -implicitDefEqProofs (disch := first | omega | (simp only [List.length_set, List.length_replicate, List.length_append, List.length_map, List.length_take, List.length_cons, List.length_nil]; omega)) [wrap64]
  refine (c_IndexFunc_int Ra hf p hp).go ?_
  rintro _ h1 ⟨hl, rfl⟩
  simp -implicitDefEqProofs (disch := first | omega | (simp only [List.length_set, List.length_replicate, List.length_append, List.length_map, List.length_take, List.length_cons, List.length_nil]; omega)) [wrap64]
  refine RetK.keep (hk _ _ ⟨hl, ?_⟩)
  congr 1
  rw [← List.findIdx?_isSome]
  cases x.findIdx? p <;> simp

end Go.Proofs.YthgimpheeemooaaGreat

/-
  Valid expressions, by the program.
-/
namespace Go.Proofs.YthgimpheeemooaaGreat
open Go
set_option linter.all false
set_option linter.unusedVariables false
set_option linter.unusedSimpArgs false
set_option linter.defProp false
set_option maxRecDepth 1000000

@[simp] theorem nilcV_ptr {a : Addr} : nilcV (.pointer (some a)) = some (.pointer (some a)) := rfl
theorem c_in {h : Heap} {n lo hi : Int} : CallE Tryz.prog fn_impl_in [.int .i64 n, .int .i64 lo, .int .i64 hi] h (fun u h' => h' = h ∧ u = .bool (decide (lo ≤ n ∧ n ≤ hi))) := by
  refine CallE.gen fun k hk => EN_impl_in rfl ?_
  by_cases h1 : lo ≤ n
  · simp -implicitDefEqProofs (disch := first | omega | (simp only [List.length_set, List.length_replicate, List.length_append, List.length_map, List.length_take, List.length_cons, List.length_nil]; omega)) [wrap64, h1]
    exact RetK.keep (hk _ _ ⟨rfl, by simp [h1]⟩)
  · simp -implicitDefEqProofs (disch := first | omega | (simp only [List.length_set, List.length_replicate, List.length_append, List.length_map, List.length_take, List.length_cons, List.length_nil]; omega)) [wrap64, h1]
    exact RetK.keep (hk _ _ ⟨rfl, by simp [h1]⟩)
/-- what counting the nodes does: the number goes on, as long as all is well -/
def WalkQ (g : Heap) (Γ : List HP) (b n m : Nat) (x : Exq) (neg : Bool) (v : Value) (h' : Heap) : Prop :=
  ∃ (n' : Nat) (ok : Bool), v = .bool (ok != neg) ∧ HS g (bx b [.int .i64 n'] :: Γ) h' ∧ (ok = true ↔ x.Shp m ∧ n + x.nod ≤ 15) ∧ (ok = true → n' = n + x.nod)

theorem c_IndexFunc_walk {g h : Heap} {Γ : List HP} {a fv : Value} {l : List Exq} {b n m : Nat} (Ra : Rep g a l) {f : FuncId} {c1 c2 : List Value} (hf : fnOf fv = some (f, c1, c2)) (H : HS g (bx b [.int .i64 n] :: Γ) h) (hn : n ≤ 15)
    (hp : ∀ (i : Nat) (hi : i < l.length) (u : Value) (n : Nat) (h1 : Heap), Rep g u l[i] → HS g (bx b [.int .i64 n] :: Γ) h1 → n ≤ 15 → CallE Tryz.prog f (c1 ++ u :: c2) h1 (WalkQ g Γ b n m l[i] true)) :
    CallE Tryz.prog fn_slices_IndexFunc_S_impl_Expr_impl_Expr [a, fv] h (fun v h' => ∃ (n' : Nat) (j : Int), v = .int .i64 j ∧ HS g (bx b [.int .i64 n'] :: Γ) h' ∧ (j < 0 ↔ (∀ y ∈ l, y.Shp m) ∧ n + Exq.nods l ≤ 15) ∧ (j < 0 → n' = n + Exq.nods l)) := by
  refine CallE.gen fun k hk => EN_slices_IndexFunc_S_impl_Expr_impl_Expr rfl ?_
  have hL := Ra.lt
  simp -implicitDefEqProofs (disch := first | omega | (simp only [List.length_set, List.length_replicate, List.length_append, List.length_map, List.length_take, List.length_cons, List.length_nil]; omega)) [wrap64, Ra.len]
  refine wp_count l.length (fun i e h' => e = [some a, some fv, none, none, some (.int .i64 l.length), some (.int .i64 i)] ∧ HS g (bx b [.int .i64 ((n + Exq.nods (l.take i) : Nat) : Int)] :: Γ) h' ∧ n + Exq.nods (l.take i) ≤ 15 ∧ ∀ (j : Nat) (hj : j < l.length), j < i → l[j].Shp m) ⟨rfl, by simpa [Exq.nods] using H, by simpa [Exq.nods] using hn, fun j _ hj => absurd hj (Nat.not_lt_zero j)⟩ ?_
  clear H
  rintro J i _ h1 hJ hi ⟨rfl, H, hle, hall⟩
  simp -implicitDefEqProofs (disch := first | omega | (simp only [List.length_set, List.length_replicate, List.length_append, List.length_map, List.length_take, List.length_cons, List.length_nil]; omega)) [wrap64]
  refine IteW.mk (fun hlt => ?_) (fun hge => ?_)
  · have hlx : i < l.length := by omega
    have hnt := Exq.nods_take hlx
    have hnl := Exq.nods_le l (i + 1)
    obtain ⟨u, hu, Ru⟩ := Ra.ld hlx
    have hu2 := hload_le H.base hu
    change hload _ (some (elp 3 a i)) (some 3) = some u at hu2
    simp -implicitDefEqProofs (disch := first | omega | (simp only [List.length_set, List.length_replicate, List.length_append, List.length_map, List.length_take, List.length_cons, List.length_nil]; omega)) [wrap64, Ra.X (n := 3) rfl, hu2, hf]
    refine (hp i hlx u _ h1 Ru H hle).go ?_
    rintro _ h2 ⟨n', ok, rfl, H, hok, hn'⟩
    simp -implicitDefEqProofs (disch := first | omega | (simp only [List.length_set, List.length_replicate, List.length_append, List.length_map, List.length_take, List.length_cons, List.length_nil]; omega)) [wrap64]
    refine IteW.mk (fun hq => ?_) (fun hq => ?_)
    · simp -implicitDefEqProofs (disch := first | omega | (simp only [List.length_set, List.length_replicate, List.length_append, List.length_map, List.length_take, List.length_cons, List.length_nil]; omega)) [wrap64]
      refine RetK.keep (hk _ _ ⟨n', _, rfl, H, ⟨fun hh => absurd hh (by omega), fun ⟨e1, e2⟩ => ?_⟩, fun hh => absurd hh (by omega)⟩)
      have : ok = true := hok.2 ⟨e1 _ (List.getElem_mem hlx), by omega⟩
      rw [this] at hq
      simp at hq
    · have hok1 : ok = true := by simpa using hq
      have e1 := hok.1 hok1
      have e2 := hn' hok1
      subst e2
      simp -implicitDefEqProofs (disch := first | omega | (simp only [List.length_set, List.length_replicate, List.length_append, List.length_map, List.length_take, List.length_cons, List.length_nil]; omega)) [wrap64]
      refine hJ _ _ hlx ⟨rfl, ?_, by omega, fun j hj hji => ?_⟩
      · rw [hnt, ← Nat.add_assoc]; exact H
      · by_cases hji2 : j = i
        · subst hji2; exact e1.1
        · exact hall j hj (by omega)
  · simp -implicitDefEqProofs (disch := first | omega | (simp only [List.length_set, List.length_replicate, List.length_append, List.length_map, List.length_take, List.length_cons, List.length_nil]; omega)) [wrap64]
    rw [List.take_of_length_le (by omega)] at H hle
    refine RetK.keep (hk _ _ ⟨_, _, rfl, H, ⟨fun _ => ⟨fun y hy => ?_, hle⟩, fun _ => by omega⟩, fun _ => rfl⟩)
    obtain ⟨j, hj, rfl⟩ := List.mem_iff_getElem.1 hy
    exact hall j hj (by omega)

theorem c_ContainsFunc_walk {g h : Heap} {Γ : List HP} {a fv : Value} {l : List Exq} {b n m : Nat} (Ra : Rep g a l) {f : FuncId} {c1 c2 : List Value} (hf : fnOf fv = some (f, c1, c2)) (H : HS g (bx b [.int .i64 n] :: Γ) h) (hn : n ≤ 15)
    (hp : ∀ (i : Nat) (hi : i < l.length) (u : Value) (n : Nat) (h1 : Heap), Rep g u l[i] → HS g (bx b [.int .i64 n] :: Γ) h1 → n ≤ 15 → CallE Tryz.prog f (c1 ++ u :: c2) h1 (WalkQ g Γ b n m l[i] true)) :
    CallE Tryz.prog fn_slices_ContainsFunc_S_impl_Expr_impl_Expr [a, fv] h (fun v h' => ∃ (n' : Nat) (ok : Bool), v = .bool (!ok) ∧ HS g (bx b [.int .i64 n'] :: Γ) h' ∧ (ok = true ↔ (∀ y ∈ l, y.Shp m) ∧ n + Exq.nods l ≤ 15) ∧ (ok = true → n' = n + Exq.nods l)) := by
  refine CallE.gen fun k hk => EN_slices_ContainsFunc_S_impl_Expr_impl_Expr rfl ?_
  simp -implicitDefEqProofs (disch := first | omega | (simp only [List.length_set, List.length_replicate, List.length_append, List.length_map, List.length_take, List.length_cons, List.length_nil]; omega)) [wrap64]
  refine (c_IndexFunc_walk Ra hf H hn hp).go ?_
  rintro _ h1 ⟨n', j, rfl, H, hj, hn'⟩
  simp -implicitDefEqProofs (disch := first | omega | (simp only [List.length_set, List.length_replicate, List.length_append, List.length_map, List.length_take, List.length_cons, List.length_nil]; omega)) [wrap64]
  refine RetK.keep (hk _ _ ⟨n', decide (j < 0), ?_, H, by rw [decide_eq_true_iff]; exact hj, by rw [decide_eq_true_iff]; exact hn'⟩)
  congr 1
  by_cases e : j < 0
  · simp [e]
  · simp [e]; omega

theorem c_walk : ∀ (x : Exq) {g h : Heap} {Γ : List HP} {v : Value} {b n d : Nat} {dv : Int}, dv = d → Rep g v x → HS g (bx b [.int .i64 n] :: Γ) h → n ≤ 15 → 1 ≤ d → d ≤ 7 →
    CallE Tryz.prog fn_impl_Expr_walk [v, .int .i64 dv, .pointer (some ⟨b, 0, none⟩)] h (WalkQ g Γ b n (7 - d) x false) := by
  refine Exq.ind fun x ih g h Γ v b n d dv hdv R H hn hd1 hd7 => ?_
  obtain ⟨w, rfl, k1, k2, R1⟩ := Rep_Exq.1 R
  have hnod := x.nod_eq
  have hkl := R1.lt
  obtain ⟨ln, hln⟩ : ∃ ln : Int, ln = x.kids.length := ⟨_, rfl⟩
  have hlen := R1.len
  rw [← hln] at hlen
  refine CallE.gen fun k hk => EN_impl_Expr_walk rfl ?_
  simp -implicitDefEqProofs (disch := first | omega | (simp only [List.length_set, List.length_replicate, List.length_append, List.length_map, List.length_take, List.length_cons, List.length_nil]; omega)) [wrap64]
  refine H.alloc rfl fun b4 h1 H => ?_
  simp -implicitDefEqProofs (disch := first | omega | (simp only [List.length_set, List.length_replicate, List.length_append, List.length_map, List.length_take, List.length_cons, List.length_nil]; omega)) [wrap64]
  refine H.alloc rfl fun b5 h2 H => ?_
  simp only [cells_int, cells_pointer] at H
  simp -implicitDefEqProofs (disch := first | omega | (simp only [List.length_set, List.length_replicate, List.length_append, List.length_map, List.length_take, List.length_cons, List.length_nil]; omega)) [wrap64, H.bxld0, H.sw2.bxld0]
  refine HS.bxst (o := 0) (sz := 1) (u := .int .i64 ((n : Int) + 1)) H.sw2 rfl rfl rfl rfl (by simp) fun h3 H => ?_
  have H : HS g (bx b [.int .i64 ((n + 1 : Nat) : Int)] :: bx b5 [.pointer (some ⟨b, 0, none⟩)] :: bx b4 [.int .i64 dv] :: Γ) h3 := H
  -- what is wanted where it fails
  have hno : ¬ (x.Shp (7 - d) ∧ n + x.nod ≤ 15) → k (.bool false) h3 := fun hh => hk _ _ ⟨_, false, rfl, H.sw1.drop.sw1.drop, ⟨fun e => by simp at e, fun e => absurd e hh⟩, fun e => by simp at e⟩
  -- and where the operands were asked
  have hfin : x.Nd → d ≤ 6 → ∀ {h4 : Heap} {n' : Nat} {ok : Bool}, (ok = true ↔ (∀ y ∈ x.kids, y.Shp (6 - d)) ∧ n + 1 + Exq.nods x.kids ≤ 15) → (ok = true → n' = n + 1 + Exq.nods x.kids) →
      HS g (bx b [.int .i64 n'] :: bx b5 [.pointer (some ⟨b, 0, none⟩)] :: bx b4 [.int .i64 dv] :: Γ) h4 → k (.bool ok) h4 := by
    intro hnd hd6 h4 n' ok g1 g2 H4
    refine hk _ _ ⟨n', ok, by simp, H4.sw1.drop.sw1.drop, ?_, fun e => by have := g2 e; omega⟩
    rw [g1, show 7 - d = (6 - d) + 1 by omega]
    exact ⟨fun ⟨h5, h6⟩ => ⟨⟨hnd, h5⟩, by omega⟩, fun ⟨h5, h6⟩ => ⟨h5.2, by omega⟩⟩
  -- an operand
  have hkid : d ≤ 6 → ∀ (i : Nat) (hi : i < x.kids.length) (u : Value) (n : Nat) (h1 : Heap), Rep g u x.kids[i] → HS g (bx b [.int .i64 n] :: bx b5 [.pointer (some ⟨b, 0, none⟩)] :: bx b4 [.int .i64 dv] :: Γ) h1 → n ≤ 15 →
      CallE Tryz.prog fn_impl_Expr_walk_1 ([] ++ u :: [.pointer (some ⟨b4, 0, none⟩), .pointer (some ⟨b5, 0, none⟩)]) h1 (WalkQ g (bx b5 [.pointer (some ⟨b, 0, none⟩)] :: bx b4 [.int .i64 dv] :: Γ) b n (6 - d) x.kids[i] true) := by
    intro hd6 i hi u n h1 Ru H hn
    refine CallE.gen fun k hk => EN_impl_Expr_walk_1 rfl ?_
    have Fu := Ru.aExq
    simp -implicitDefEqProofs (disch := first | omega | (simp only [List.length_set, List.length_replicate, List.length_append, List.length_map, List.length_take, List.length_cons, List.length_nil]; omega)) [wrap64, Fu, H.sw2.bxld0, H.sw1.bxld0]
    refine (ih _ (List.getElem_mem hi) (d := d + 1) (dv := dv + 1) (by omega) Ru H hn (by omega) (by omega)).go ?_
    rintro _ h2 ⟨n', ok, rfl, H, g1, g2⟩
    rw [show 7 - (d + 1) = 6 - d by omega] at g1
    simp -implicitDefEqProofs (disch := first | omega | (simp only [List.length_set, List.length_replicate, List.length_append, List.length_map, List.length_take, List.length_cons, List.length_nil]; omega)) [wrap64]
    exact RetK.keep (hk _ _ ⟨n', ok, by simp, H, g1, g2⟩)
  by_cases c1 : x.kind = 1
  · revert hno hfin
    intro hno hfin
    by_cases e1 : (6 : Int) < dv
    · simp -implicitDefEqProofs (disch := first | omega | (simp only [List.length_set, List.length_replicate, List.length_append, List.length_map, List.length_take, List.length_cons, List.length_nil]; omega)) [wrap64, c1, H.bxld0, H.sw1.bxld0, H.sw2.bxld0, e1]
      exact RetK.keep (hno fun hh => by have := hh.1; rw [show 7 - d = 0 by omega] at this; exact this)
    by_cases e2 : (15 : Int) < (n : Int) + 1
    · simp -implicitDefEqProofs (disch := first | omega | (simp only [List.length_set, List.length_replicate, List.length_append, List.length_map, List.length_take, List.length_cons, List.length_nil]; omega)) [wrap64, c1, H.bxld0, H.sw1.bxld0, H.sw2.bxld0, e1, e2]
      exact RetK.keep (hno fun hh => by have := hh.2; omega)
    simp -implicitDefEqProofs (disch := first | omega | (simp only [List.length_set, List.length_replicate, List.length_append, List.length_map, List.length_take, List.length_cons, List.length_nil]; omega)) [wrap64, c1, H.bxld0, H.sw1.bxld0, H.sw2.bxld0, e1, e2]
    refine c_in.go ?_
    rintro _ _ ⟨rfl, rfl⟩
    have e3 : 1 ≤ x.kind ∧ x.kind ≤ 9 := by omega
    have e6 := e3
    simp -implicitDefEqProofs (disch := first | omega | (simp only [List.length_set, List.length_replicate, List.length_append, List.length_map, List.length_take, List.length_cons, List.length_nil]; omega)) [wrap64, c1, e3]
    refine c_in.go ?_
    rintro _ _ ⟨rfl, rfl⟩
    by_cases e4 : 0 ≤ x.val ∧ x.val ≤ 3
    case neg =>
      simp -implicitDefEqProofs (disch := first | omega | (simp only [List.length_set, List.length_replicate, List.length_append, List.length_map, List.length_take, List.length_cons, List.length_nil]; omega)) [wrap64, c1, e4]
      exact RetK.keep (hno fun hh => e4 ⟨hh.1.nd.lo, by have := hh.1.nd.hi; simpa [Exq.most, c1] using this⟩)
    simp -implicitDefEqProofs (disch := first | omega | (simp only [List.length_set, List.length_replicate, List.length_append, List.length_map, List.length_take, List.length_cons, List.length_nil]; omega)) [wrap64, c1, e4, hlen]
    by_cases e5 : ln = 0
    case neg =>
      simp -implicitDefEqProofs (disch := first | omega | (simp only [List.length_set, List.length_replicate, List.length_append, List.length_map, List.length_take, List.length_cons, List.length_nil]; omega)) [wrap64, c1, e5, hlen]
      exact RetK.keep (hno fun hh => e5 (by have := hh.1.nd.ar; rw [← hln] at this; simpa [Exq.arity, c1, e3, e6] using this))
    simp -implicitDefEqProofs (disch := first | omega | (simp only [List.length_set, List.length_replicate, List.length_append, List.length_map, List.length_take, List.length_cons, List.length_nil]; omega)) [wrap64, c1, e5, hlen]
    refine (c_ContainsFunc_walk (m := 6 - d) R1 (c1 := []) (c2 := [.pointer (some ⟨b4, 0, none⟩), .pointer (some ⟨b5, 0, none⟩)]) rfl H (by omega) (hkid (by omega))).go ?_
    rintro _ h4 ⟨n', ok, rfl, H4, g1, g2⟩
    simp -implicitDefEqProofs (disch := first | omega | (simp only [List.length_set, List.length_replicate, List.length_append, List.length_map, List.length_take, List.length_cons, List.length_nil]; omega)) [wrap64]
    exact RetK.keep (hfin ⟨by rw [← hln]; simp only [Exq.arity, c1]; simpa [e3, e6] using e5, e4.1, by simp only [Exq.most, c1]; simpa using e4.2⟩ (by omega) g1 g2 H4)
  by_cases c2 : x.kind = 2
  · revert hno hfin
    intro hno hfin
    by_cases e1 : (6 : Int) < dv
    · simp -implicitDefEqProofs (disch := first | omega | (simp only [List.length_set, List.length_replicate, List.length_append, List.length_map, List.length_take, List.length_cons, List.length_nil]; omega)) [wrap64, c1, c2, H.bxld0, H.sw1.bxld0, H.sw2.bxld0, e1]
      exact RetK.keep (hno fun hh => by have := hh.1; rw [show 7 - d = 0 by omega] at this; exact this)
    by_cases e2 : (15 : Int) < (n : Int) + 1
    · simp -implicitDefEqProofs (disch := first | omega | (simp only [List.length_set, List.length_replicate, List.length_append, List.length_map, List.length_take, List.length_cons, List.length_nil]; omega)) [wrap64, c1, c2, H.bxld0, H.sw1.bxld0, H.sw2.bxld0, e1, e2]
      exact RetK.keep (hno fun hh => by have := hh.2; omega)
    simp -implicitDefEqProofs (disch := first | omega | (simp only [List.length_set, List.length_replicate, List.length_append, List.length_map, List.length_take, List.length_cons, List.length_nil]; omega)) [wrap64, c1, c2, H.bxld0, H.sw1.bxld0, H.sw2.bxld0, e1, e2]
    refine c_in.go ?_
    rintro _ _ ⟨rfl, rfl⟩
    have e3 : 1 ≤ x.kind ∧ x.kind ≤ 9 := by omega
    have e6 := e3
    simp -implicitDefEqProofs (disch := first | omega | (simp only [List.length_set, List.length_replicate, List.length_append, List.length_map, List.length_take, List.length_cons, List.length_nil]; omega)) [wrap64, c1, c2, e3]
    refine c_in.go ?_
    rintro _ _ ⟨rfl, rfl⟩
    by_cases e4 : 0 ≤ x.val ∧ x.val ≤ 2
    case neg =>
      simp -implicitDefEqProofs (disch := first | omega | (simp only [List.length_set, List.length_replicate, List.length_append, List.length_map, List.length_take, List.length_cons, List.length_nil]; omega)) [wrap64, c1, c2, e4]
      exact RetK.keep (hno fun hh => e4 ⟨hh.1.nd.lo, by have := hh.1.nd.hi; simpa [Exq.most, c1, c2] using this⟩)
    simp -implicitDefEqProofs (disch := first | omega | (simp only [List.length_set, List.length_replicate, List.length_append, List.length_map, List.length_take, List.length_cons, List.length_nil]; omega)) [wrap64, c1, c2, e4, hlen]
    by_cases e5 : ln = 0
    case neg =>
      simp -implicitDefEqProofs (disch := first | omega | (simp only [List.length_set, List.length_replicate, List.length_append, List.length_map, List.length_take, List.length_cons, List.length_nil]; omega)) [wrap64, c1, c2, e5, hlen]
      exact RetK.keep (hno fun hh => e5 (by have := hh.1.nd.ar; rw [← hln] at this; simpa [Exq.arity, c1, c2, e3, e6] using this))
    simp -implicitDefEqProofs (disch := first | omega | (simp only [List.length_set, List.length_replicate, List.length_append, List.length_map, List.length_take, List.length_cons, List.length_nil]; omega)) [wrap64, c1, c2, e5, hlen]
    refine (c_ContainsFunc_walk (m := 6 - d) R1 (c1 := []) (c2 := [.pointer (some ⟨b4, 0, none⟩), .pointer (some ⟨b5, 0, none⟩)]) rfl H (by omega) (hkid (by omega))).go ?_
    rintro _ h4 ⟨n', ok, rfl, H4, g1, g2⟩
    simp -implicitDefEqProofs (disch := first | omega | (simp only [List.length_set, List.length_replicate, List.length_append, List.length_map, List.length_take, List.length_cons, List.length_nil]; omega)) [wrap64]
    exact RetK.keep (hfin ⟨by rw [← hln]; simp only [Exq.arity, c1, c2]; simpa [e3, e6] using e5, e4.1, by simp only [Exq.most, c1, c2]; simpa using e4.2⟩ (by omega) g1 g2 H4)
  by_cases c3 : x.kind = 3
  · revert hno hfin
    intro hno hfin
    by_cases e1 : (6 : Int) < dv
    · simp -implicitDefEqProofs (disch := first | omega | (simp only [List.length_set, List.length_replicate, List.length_append, List.length_map, List.length_take, List.length_cons, List.length_nil]; omega)) [wrap64, c1, c2, c3, H.bxld0, H.sw1.bxld0, H.sw2.bxld0, e1]
      exact RetK.keep (hno fun hh => by have := hh.1; rw [show 7 - d = 0 by omega] at this; exact this)
    by_cases e2 : (15 : Int) < (n : Int) + 1
    · simp -implicitDefEqProofs (disch := first | omega | (simp only [List.length_set, List.length_replicate, List.length_append, List.length_map, List.length_take, List.length_cons, List.length_nil]; omega)) [wrap64, c1, c2, c3, H.bxld0, H.sw1.bxld0, H.sw2.bxld0, e1, e2]
      exact RetK.keep (hno fun hh => by have := hh.2; omega)
    simp -implicitDefEqProofs (disch := first | omega | (simp only [List.length_set, List.length_replicate, List.length_append, List.length_map, List.length_take, List.length_cons, List.length_nil]; omega)) [wrap64, c1, c2, c3, H.bxld0, H.sw1.bxld0, H.sw2.bxld0, e1, e2]
    refine c_in.go ?_
    rintro _ _ ⟨rfl, rfl⟩
    have e3 : 1 ≤ x.kind ∧ x.kind ≤ 9 := by omega
    have e6 := e3
    simp -implicitDefEqProofs (disch := first | omega | (simp only [List.length_set, List.length_replicate, List.length_append, List.length_map, List.length_take, List.length_cons, List.length_nil]; omega)) [wrap64, c1, c2, c3, e3]
    refine c_in.go ?_
    rintro _ _ ⟨rfl, rfl⟩
    by_cases e4 : 0 ≤ x.val ∧ x.val ≤ 0
    case neg =>
      simp -implicitDefEqProofs (disch := first | omega | (simp only [List.length_set, List.length_replicate, List.length_append, List.length_map, List.length_take, List.length_cons, List.length_nil]; omega)) [wrap64, c1, c2, c3, e4]
      exact RetK.keep (hno fun hh => e4 ⟨hh.1.nd.lo, by have := hh.1.nd.hi; simpa [Exq.most, c1, c2, c3] using this⟩)
    simp -implicitDefEqProofs (disch := first | omega | (simp only [List.length_set, List.length_replicate, List.length_append, List.length_map, List.length_take, List.length_cons, List.length_nil]; omega)) [wrap64, c1, c2, c3, e4, hlen]
    by_cases e5 : ln = 1
    case neg =>
      simp -implicitDefEqProofs (disch := first | omega | (simp only [List.length_set, List.length_replicate, List.length_append, List.length_map, List.length_take, List.length_cons, List.length_nil]; omega)) [wrap64, c1, c2, c3, e5, hlen]
      exact RetK.keep (hno fun hh => e5 (by have := hh.1.nd.ar; rw [← hln] at this; simpa [Exq.arity, c1, c2, c3, e3, e6] using this))
    simp -implicitDefEqProofs (disch := first | omega | (simp only [List.length_set, List.length_replicate, List.length_append, List.length_map, List.length_take, List.length_cons, List.length_nil]; omega)) [wrap64, c1, c2, c3, e5, hlen]
    refine (c_ContainsFunc_walk (m := 6 - d) R1 (c1 := []) (c2 := [.pointer (some ⟨b4, 0, none⟩), .pointer (some ⟨b5, 0, none⟩)]) rfl H (by omega) (hkid (by omega))).go ?_
    rintro _ h4 ⟨n', ok, rfl, H4, g1, g2⟩
    simp -implicitDefEqProofs (disch := first | omega | (simp only [List.length_set, List.length_replicate, List.length_append, List.length_map, List.length_take, List.length_cons, List.length_nil]; omega)) [wrap64]
    exact RetK.keep (hfin ⟨by rw [← hln]; simp only [Exq.arity, c1, c2, c3]; simpa [e3, e6] using e5, e4.1, by simp only [Exq.most, c1, c2, c3]; simpa using e4.2⟩ (by omega) g1 g2 H4)
  by_cases e1 : (6 : Int) < dv
  · simp -implicitDefEqProofs (disch := first | omega | (simp only [List.length_set, List.length_replicate, List.length_append, List.length_map, List.length_take, List.length_cons, List.length_nil]; omega)) [wrap64, c1, c2, c3, H.bxld0, H.sw1.bxld0, H.sw2.bxld0, e1]
    exact RetK.keep (hno fun hh => by have := hh.1; rw [show 7 - d = 0 by omega] at this; exact this)
  by_cases e2 : (15 : Int) < (n : Int) + 1
  · simp -implicitDefEqProofs (disch := first | omega | (simp only [List.length_set, List.length_replicate, List.length_append, List.length_map, List.length_take, List.length_cons, List.length_nil]; omega)) [wrap64, c1, c2, c3, H.bxld0, H.sw1.bxld0, H.sw2.bxld0, e1, e2]
    exact RetK.keep (hno fun hh => by have := hh.2; omega)
  simp -implicitDefEqProofs (disch := first | omega | (simp only [List.length_set, List.length_replicate, List.length_append, List.length_map, List.length_take, List.length_cons, List.length_nil]; omega)) [wrap64, c1, c2, c3, H.bxld0, H.sw1.bxld0, H.sw2.bxld0, e1, e2]
  refine c_in.go ?_
  rintro _ _ ⟨rfl, rfl⟩
  by_cases e3 : 1 ≤ x.kind ∧ x.kind ≤ 9
  case neg =>
    simp -implicitDefEqProofs (disch := first | omega | (simp only [List.length_set, List.length_replicate, List.length_append, List.length_map, List.length_take, List.length_cons, List.length_nil]; omega)) [wrap64, c1, c2, c3, e3]
    exact RetK.keep (hno fun hh => e3 hh.1.nd.kind)
  have e6 : 4 ≤ x.kind := by omega
  simp -implicitDefEqProofs (disch := first | omega | (simp only [List.length_set, List.length_replicate, List.length_append, List.length_map, List.length_take, List.length_cons, List.length_nil]; omega)) [wrap64, c1, c2, c3, e3]
  refine c_in.go ?_
  rintro _ _ ⟨rfl, rfl⟩
  by_cases e4 : 0 ≤ x.val ∧ x.val ≤ 0
  case neg =>
    simp -implicitDefEqProofs (disch := first | omega | (simp only [List.length_set, List.length_replicate, List.length_append, List.length_map, List.length_take, List.length_cons, List.length_nil]; omega)) [wrap64, c1, c2, c3, e4]
    exact RetK.keep (hno fun hh => e4 ⟨hh.1.nd.lo, by have := hh.1.nd.hi; simpa [Exq.most, c1, c2, c3] using this⟩)
  simp -implicitDefEqProofs (disch := first | omega | (simp only [List.length_set, List.length_replicate, List.length_append, List.length_map, List.length_take, List.length_cons, List.length_nil]; omega)) [wrap64, c1, c2, c3, e4, hlen]
  by_cases e5 : ln = 2
  case neg =>
    simp -implicitDefEqProofs (disch := first | omega | (simp only [List.length_set, List.length_replicate, List.length_append, List.length_map, List.length_take, List.length_cons, List.length_nil]; omega)) [wrap64, c1, c2, c3, e5, hlen]
    exact RetK.keep (hno fun hh => e5 (by have := hh.1.nd.ar; rw [← hln] at this; simpa [Exq.arity, c1, c2, c3, e3, e6] using this))
  simp -implicitDefEqProofs (disch := first | omega | (simp only [List.length_set, List.length_replicate, List.length_append, List.length_map, List.length_take, List.length_cons, List.length_nil]; omega)) [wrap64, c1, c2, c3, e5, hlen]
  refine (c_ContainsFunc_walk (m := 6 - d) R1 (c1 := []) (c2 := [.pointer (some ⟨b4, 0, none⟩), .pointer (some ⟨b5, 0, none⟩)]) rfl H (by omega) (hkid (by omega))).go ?_
  rintro _ h4 ⟨n', ok, rfl, H4, g1, g2⟩
  simp -implicitDefEqProofs (disch := first | omega | (simp only [List.length_set, List.length_replicate, List.length_append, List.length_map, List.length_take, List.length_cons, List.length_nil]; omega)) [wrap64]
  exact RetK.keep (hfin ⟨by rw [← hln]; simp only [Exq.arity, c1, c2, c3]; simpa [e3, e6] using e5, e4.1, by simp only [Exq.most, c1, c2, c3]; simpa using e4.2⟩ (by omega) g1 g2 H4)
end Go.Proofs.YthgimpheeemooaaGreat

/-
  Instances of functions over slices: copies, and whether some element meets a condition. Printed by a program.
-/
namespace Go.Proofs.YthgimpheeemooaaGreat
open Go
set_option linter.all false
set_option linter.unusedVariables false
set_option linter.unusedSimpArgs false
set_option linter.defProp false
set_option maxRecDepth 1000000

theorem c_IndexFunc_impl_Edge {h : Heap} {a fv : Value} {x : List (Ed)} (Ra : Rep h a x) {f : FuncId} {c1 c2 : List Value} (hf : fnOf fv = some (f, c1, c2)) (p : (Ed) → Bool)
    (hp : ∀ h1, h.le h1 → ∀ (i : Nat) (hi : i < x.length) (u : Value), Rep h1 u x[i] → CallE Tryz.prog f (c1 ++ u :: c2) h1 (fun v h' => h1.le h' ∧ v = .bool (p x[i]))) :
    CallE Tryz.prog fn_slices_IndexFunc_S_impl_Edge_impl_Edge [a, fv] h (fun v h' => h.le h' ∧ v = .int .i64 (match x.findIdx? p with | some i => (i : Int) | none => -1)) := by
  refine CallE.gen fun k hk => EN_slices_IndexFunc_S_impl_Edge_impl_Edge rfl ?_
  have hL := Ra.lt
  simp -implicitDefEqProofs (disch := first | omega | (simp only [List.length_set, List.length_replicate, List.length_append, List.length_map, List.length_take, List.length_cons, List.length_nil]; omega)) [wrap64, Ra.len]
  refine wp_count x.length (fun i e h' => e = [some a, some fv, none, none, some (.int .i64 x.length), some (.int .i64 i)] ∧ h.le h' ∧ ∀ (j : Nat) (hj : j < x.length), j < i → p x[j] = false) ⟨rfl, Heap.le.refl h, fun j _ hj => absurd hj (Nat.not_lt_zero j)⟩ ?_
  rintro J i _ h1 hJ hi ⟨rfl, hl, hn⟩
  simp -implicitDefEqProofs (disch := first | omega | (simp only [List.length_set, List.length_replicate, List.length_append, List.length_map, List.length_take, List.length_cons, List.length_nil]; omega)) [wrap64]
  refine IteW.mk (fun hlt => ?_) (fun hge => ?_)
  · have hlx : i < x.length := by omega
    obtain ⟨u, hu, Ru⟩ := (Ra.le hl).ld hlx
    change hload _ (some (elp 10 a i)) (some 10) = some u at hu
    simp -implicitDefEqProofs (disch := first | omega | (simp only [List.length_set, List.length_replicate, List.length_append, List.length_map, List.length_take, List.length_cons, List.length_nil]; omega)) [wrap64, (Ra.le hl).X (n := 10) rfl, hu, hf]
    refine (hp h1 hl i hlx u Ru).go ?_
    rintro _ h2 ⟨hl2, rfl⟩
    simp -implicitDefEqProofs (disch := first | omega | (simp only [List.length_set, List.length_replicate, List.length_append, List.length_map, List.length_take, List.length_cons, List.length_nil]; omega)) [wrap64]
    refine IteW.mk (fun hq => ?_) (fun hq => ?_)
    · simp -implicitDefEqProofs (disch := first | omega | (simp only [List.length_set, List.length_replicate, List.length_append, List.length_map, List.length_take, List.length_cons, List.length_nil]; omega)) [wrap64]
      refine RetK.keep (hk _ _ ⟨hl.trans hl2, ?_⟩)
      have h3 : x.findIdx? p = some i := by
        rw [List.findIdx?_eq_some_iff_getElem]
        exact ⟨hlx, hq, fun j hj => by rw [hn j (by omega) hj]; simp⟩
      rw [h3]
    · simp -implicitDefEqProofs (disch := first | omega | (simp only [List.length_set, List.length_replicate, List.length_append, List.length_map, List.length_take, List.length_cons, List.length_nil]; omega)) [wrap64]
      refine hJ _ _ hlx ⟨rfl, hl.trans hl2, fun j hj hji => ?_⟩
      by_cases hji2 : j = i
      · subst hji2; simpa using hq
      · exact hn j hj (by omega)
  · simp -implicitDefEqProofs (disch := first | omega | (simp only [List.length_set, List.length_replicate, List.length_append, List.length_map, List.length_take, List.length_cons, List.length_nil]; omega)) [wrap64]
    refine RetK.keep (hk _ _ ⟨hl, ?_⟩)
    have h3 : x.findIdx? p = none := by
      rw [List.findIdx?_eq_none_iff]
      intro y hy
      obtain ⟨j, hj, rfl⟩ := List.mem_iff_getElem.1 hy
      exact hn j hj (by omega)
    rw [h3]

theorem c_ContainsFunc_impl_Edge {h : Heap} {a fv : Value} {x : List (Ed)} (Ra : Rep h a x) {f : FuncId} {c1 c2 : List Value} (hf : fnOf fv = some (f, c1, c2)) (p : (Ed) → Bool)
    (hp : ∀ h1, h.le h1 → ∀ (i : Nat) (hi : i < x.length) (u : Value), Rep h1 u x[i] → CallE Tryz.prog f (c1 ++ u :: c2) h1 (fun v h' => h1.le h' ∧ v = .bool (p x[i]))) :
    CallE Tryz.prog fn_slices_ContainsFunc_S_impl_Edge_impl_Edge [a, fv] h (fun v h' => h.le h' ∧ v = .bool (x.any p)) := by
  refine CallE.gen fun k hk => EN_slices_ContainsFunc_S_impl_Edge_impl_Edge rfl ?_
  simp -implicitDefEqProofs (disch := first | omega | (simp only [List.length_set, List.length_replicate, List.length_append, List.length_map, List.length_take, List.length_cons, List.length_nil]; omega)) [wrap64]
  refine (c_IndexFunc_impl_Edge Ra hf p hp).go ?_
  rintro _ h1 ⟨hl, rfl⟩
  simp -implicitDefEqProofs (disch := first | omega | (simp only [List.length_set, List.length_replicate, List.length_append, List.length_map, List.length_take, List.length_cons, List.length_nil]; omega)) [wrap64]
  refine RetK.keep (hk _ _ ⟨hl, ?_⟩)
  congr 1
  rw [← List.findIdx?_isSome]
  cases x.findIdx? p <;> simp

end Go.Proofs.YthgimpheeemooaaGreat

/-
  Valid expressions, edges, systems and labels, by the program.
-/
namespace Go.Proofs.YthgimpheeemooaaGreat
open Go
set_option linter.all false
set_option linter.unusedVariables false
set_option linter.unusedSimpArgs false
set_option linter.defProp false
set_option maxRecDepth 1000000

theorem c_ExprNodes {h : Heap} {v : Value} {x : Exq} (R : Rep h v x) : CallE Tryz.prog fn_impl_ExprNodes [v] h (fun u h' => h.le h' ∧ u = .int .i64 (if x.Ok then (x.nod : Int) else 0)) := by
  have F := R.aExq
  refine CallE.gen fun k hk => EN_impl_ExprNodes rfl ?_
  simp -implicitDefEqProofs (disch := first | omega | (simp only [List.length_set, List.length_replicate, List.length_append, List.length_map, List.length_take, List.length_cons, List.length_nil]; omega)) [wrap64]
  refine HS.init.alloc rfl fun b h1 H => ?_
  simp only [cells_int] at H
  simp -implicitDefEqProofs (disch := first | omega | (simp only [List.length_set, List.length_replicate, List.length_append, List.length_map, List.length_take, List.length_cons, List.length_nil]; omega)) [wrap64]
  refine HS.bxst (o := 0) (sz := 1) (u := .int .i64 0) H rfl rfl rfl rfl (by simp) fun h2 H => ?_
  have H : HS h [bx b [.int .i64 ((0 : Nat) : Int)]] h2 := H
  simp -implicitDefEqProofs (disch := first | omega | (simp only [List.length_set, List.length_replicate, List.length_append, List.length_map, List.length_take, List.length_cons, List.length_nil]; omega)) [wrap64, F]
  refine (c_walk x (d := 1) rfl R H (by omega) (by omega) (by omega)).go ?_
  rintro _ h3 ⟨n', ok, rfl, H, g1, g2⟩
  have hok : ok = true ↔ x.Ok := by rw [g1]; simp [Exq.Ok]
  cases ok with
  | true =>
    have e := g2 rfl
    have ho := hok.1 rfl
    simp -implicitDefEqProofs (disch := first | omega | (simp only [List.length_set, List.length_replicate, List.length_append, List.length_map, List.length_take, List.length_cons, List.length_nil]; omega)) [wrap64, H.bxld0]
    refine RetK.keep (hk _ _ ⟨H.base, ?_⟩)
    rw [if_pos ho, e]; simp
  | false =>
    simp -implicitDefEqProofs (disch := first | omega | (simp only [List.length_set, List.length_replicate, List.length_append, List.length_map, List.length_take, List.length_cons, List.length_nil]; omega)) [wrap64]
    refine RetK.keep (hk _ _ ⟨H.base, ?_⟩)
    rw [if_neg (fun ho => by have := hok.2 ho; simp at this)]
theorem Exq.nod_pos (x : Exq) : 0 < x.nod := by rw [Exq.nod_eq]; omega
theorem c_ExprValid {h : Heap} {v : Value} {x : Exq} (R : Rep h v x) : CallE Tryz.prog fn_impl_ExprValid [v] h (fun u h' => h.le h' ∧ u = .bool (decide x.Ok)) := by
  have F := R.aExq
  have hp := x.nod_pos
  refine CallE.gen fun k hk => EN_impl_ExprValid rfl ?_
  simp -implicitDefEqProofs (disch := first | omega | (simp only [List.length_set, List.length_replicate, List.length_append, List.length_map, List.length_take, List.length_cons, List.length_nil]; omega)) [wrap64, F]
  refine (c_ExprNodes R).go ?_
  rintro _ h1 ⟨hl, rfl⟩
  simp -implicitDefEqProofs (disch := first | omega | (simp only [List.length_set, List.length_replicate, List.length_append, List.length_map, List.length_take, List.length_cons, List.length_nil]; omega)) [wrap64]
  refine RetK.keep (hk _ _ ⟨hl, ?_⟩)
  congr 1
  by_cases e : x.Ok
  · simp [e]; omega
  · simp [e]

theorem c_EqualFunc_Expr {h : Heap} {a b fv : Value} {x y : List Exq} (Ra : Rep h a x) (Rb : Rep h b y) {f : FuncId} (hf : fnOf fv = some (f, [], []))
    (hp : ∀ z ∈ x, ∀ {h : Heap} {a b : Value} {w : Exq}, Rep h a z → Rep h b w → CallE Tryz.prog f [a, b] h (fun u h' => h' = h ∧ u = .bool (decide (z = w)))) :
    CallE Tryz.prog fn_slices_EqualFunc_S_impl_Expr_S_impl_Expr_impl_Expr_impl_Expr [a, b, fv] h (fun u h' => h' = h ∧ u = .bool (decide (x = y))) := by
  refine CallE.gen fun k hk => EN_slices_EqualFunc_S_impl_Expr_S_impl_Expr_impl_Expr_impl_Expr rfl ?_
  have hL := Ra.lt
  simp -implicitDefEqProofs (disch := first | omega | (simp only [List.length_set, List.length_replicate, List.length_append, List.length_map, List.length_take, List.length_cons, List.length_nil]; omega)) [wrap64, Ra.len, Rb.len]
  refine IteW.mkr (fun hne => ?_) (fun heq => ?_)
  · simp -implicitDefEqProofs (disch := first | omega | (simp only [List.length_set, List.length_replicate, List.length_append, List.length_map, List.length_take, List.length_cons, List.length_nil]; omega)) [wrap64]
    exact RetK.keep (hk _ _ ⟨rfl, by simp; rintro rfl; exact hne rfl⟩)
  simp -implicitDefEqProofs (disch := first | omega | (simp only [List.length_set, List.length_replicate, List.length_append, List.length_map, List.length_take, List.length_cons, List.length_nil]; omega)) [wrap64, Ra.len]
  refine wp_count x.length (fun i e h' => h' = h ∧ e = [none, some b, some fv, none, none, none, none, some a, some (.int .i64 x.length), some (.int .i64 i)] ∧ x.take i = y.take i) ⟨rfl, by simp [heq], rfl⟩ ?_
  rintro J i _ _ hJ hi ⟨rfl, rfl, hxy⟩
  simp -implicitDefEqProofs (disch := first | omega | (simp only [List.length_set, List.length_replicate, List.length_append, List.length_map, List.length_take, List.length_cons, List.length_nil]; omega)) [wrap64]
  refine IteW.mk (fun hlt => ?_) (fun hge => ?_)
  · have hly : i < y.length := by omega
    have hlx : i < x.length := by omega
    obtain ⟨u, hu, Ru⟩ := Ra.ld hlx
    obtain ⟨w, hw, Rw⟩ := Rb.ld hly
    change hload _ (some (elp 3 a i)) (some 3) = some u at hu
    change hload _ (some (elp 3 b i)) (some 3) = some w at hw
    simp -implicitDefEqProofs (disch := first | omega | (simp only [List.length_set, List.length_replicate, List.length_append, List.length_map, List.length_take, List.length_cons, List.length_nil]; omega)) [wrap64, Ra.X (n := 3) rfl, Rb.X (n := 3) rfl, hu, hw, Ru.aExq, Rw.aExq, hf]
    refine (hp _ (List.getElem_mem hlx) Ru Rw).go ?_
    rintro _ _ ⟨rfl, rfl⟩
    simp -implicitDefEqProofs (disch := first | omega | (simp only [List.length_set, List.length_replicate, List.length_append, List.length_map, List.length_take, List.length_cons, List.length_nil]; omega)) [wrap64]
    refine IteW.mkr (fun hne => ?_) (fun heq => ?_)
    · simp -implicitDefEqProofs (disch := first | omega | (simp only [List.length_set, List.length_replicate, List.length_append, List.length_map, List.length_take, List.length_cons, List.length_nil]; omega)) [wrap64]
      exact RetK.keep (hk _ _ ⟨rfl, by simp; rintro rfl; exact hne rfl⟩)
    simp -implicitDefEqProofs (disch := first | omega | (simp only [List.length_set, List.length_replicate, List.length_append, List.length_map, List.length_take, List.length_cons, List.length_nil]; omega)) [wrap64]
    exact hJ _ _ hlx ⟨rfl, rfl, take_step hxy hlx hly heq⟩
  · simp -implicitDefEqProofs (disch := first | omega | (simp only [List.length_set, List.length_replicate, List.length_append, List.length_map, List.length_take, List.length_cons, List.length_nil]; omega)) [wrap64]
    refine RetK.keep (hk _ _ ⟨rfl, ?_⟩)
    simp
    rw [List.take_of_length_le (by omega), List.take_of_length_le (by omega)] at hxy
    exact hxy
theorem c_ExprSame' : ∀ (x : Exq) {h : Heap} {a b : Value} {y : Exq}, Rep h a x → Rep h b y → CallE Tryz.prog fn_impl_ExprSame [a, b] h (fun u h' => h' = h ∧ u = .bool (decide (x = y))) := by
  refine Exq.ind fun x ih h a b y Ra Rb => ?_
  obtain ⟨w, rfl, k1, k2, R1⟩ := Rep_Exq.1 Ra
  obtain ⟨w2, rfl, k3, k4, R2⟩ := Rep_Exq.1 Rb
  refine CallE.gen fun k hk => EN_impl_ExprSame rfl ?_
  by_cases h1 : x.kind = y.kind
  case neg =>
    simp -implicitDefEqProofs (disch := first | omega | (simp only [List.length_set, List.length_replicate, List.length_append, List.length_map, List.length_take, List.length_cons, List.length_nil]; omega)) [wrap64, h1]
    exact RetK.keep (hk _ _ ⟨rfl, by simp [Exq.ext_iff', h1]⟩)
  by_cases h2 : x.val = y.val
  case neg =>
    simp -implicitDefEqProofs (disch := first | omega | (simp only [List.length_set, List.length_replicate, List.length_append, List.length_map, List.length_take, List.length_cons, List.length_nil]; omega)) [wrap64, h1, h2]
    exact RetK.keep (hk _ _ ⟨rfl, by simp [Exq.ext_iff', h2]⟩)
  simp -implicitDefEqProofs (disch := first | omega | (simp only [List.length_set, List.length_replicate, List.length_append, List.length_map, List.length_take, List.length_cons, List.length_nil]; omega)) [wrap64, h1, h2]
  refine (c_EqualFunc_Expr R1 R2 (f := fn_impl_ExprSame) rfl ih).go ?_
  rintro _ _ ⟨rfl, rfl⟩
  simp -implicitDefEqProofs (disch := first | omega | (simp only [List.length_set, List.length_replicate, List.length_append, List.length_map, List.length_take, List.length_cons, List.length_nil]; omega)) [wrap64]
  exact RetK.keep (hk _ _ ⟨rfl, by simp [Exq.ext_iff', h1, h2]⟩)
theorem c_ExprSame {x : Exq} {h : Heap} {a b : Value} {y : Exq} (Ra : Rep h a x) (Rb : Rep h b y) : CallE Tryz.prog fn_impl_ExprSame [a, b] h (fun u h' => h' = h ∧ u = .bool (decide (x = y))) := c_ExprSame' x Ra Rb
theorem rep_zero {h : Heap} : Rep h (.agg #[.int .i64 0, .int .i64 0, .slice none 0 0]) Exq.zero := Rep_Exq.2 ⟨_, rfl, i64_0, i64_0, (Own_nils.rep.le fun _ _ h => by simp [Heap.nil] at h)⟩

theorem c_EdgeValid {h : Heap} {v : Value} {e : Ed} (R : Rep h v e) {n : Int} (hn : I64 n) : CallE Tryz.prog fn_impl_EdgeValid [v, .int .i64 n] h (fun u h' => h.le h' ∧ u = .bool (decide (e.Ok n))) := by
  obtain ⟨w1, w2, rfl, ok, R1, R2⟩ := Rep_Ed.1 R
  have G1 : Rep h (.agg #[.int .i64 e.guard.kind, .int .i64 e.guard.val, w1]) e.guard := Rep_Exq.2 ⟨w1, rfl, ok.gk, ok.gv, R1⟩
  have G2 : Rep h (.agg #[.int .i64 e.value.kind, .int .i64 e.value.val, w2]) e.value := Rep_Exq.2 ⟨w2, rfl, ok.vk, ok.vv, R2⟩
  refine CallE.gen fun k hk => EN_impl_EdgeValid rfl ?_
  have hno : ∀ {h'}, h.le h' → ¬ e.Ok n → k (.bool false) h' := fun hl hh => hk _ _ ⟨hl, by rw [decide_eq_false hh]⟩
  have hyes : ∀ {h'}, h.le h' → e.Ok n → k (.bool true) h' := fun hl hh => hk _ _ ⟨hl, by rw [decide_eq_true hh]⟩
  simp -implicitDefEqProofs (disch := first | omega | (simp only [List.length_set, List.length_replicate, List.length_append, List.length_map, List.length_take, List.length_cons, List.length_nil]; omega)) [wrap64]
  refine c_in.go ?_
  rintro _ _ ⟨rfl, rfl⟩
  by_cases q1 : 1 ≤ n ∧ n ≤ 4
  case neg => simp -implicitDefEqProofs (disch := first | omega | (simp only [List.length_set, List.length_replicate, List.length_append, List.length_map, List.length_take, List.length_cons, List.length_nil]; omega)) [wrap64, q1]; exact RetK.keep (hno (Heap.le.refl _) fun hh => q1 ⟨hh.n1, hh.n4⟩)
  simp -implicitDefEqProofs (disch := first | omega | (simp only [List.length_set, List.length_replicate, List.length_append, List.length_map, List.length_take, List.length_cons, List.length_nil]; omega)) [wrap64, q1, Ed.cs]
  refine c_in.go ?_
  rintro _ _ ⟨rfl, rfl⟩
  by_cases q2 : 0 ≤ e.frm ∧ e.frm ≤ n - 1
  case neg => simp -implicitDefEqProofs (disch := first | omega | (simp only [List.length_set, List.length_replicate, List.length_append, List.length_map, List.length_take, List.length_cons, List.length_nil]; omega)) [wrap64, q2]; exact RetK.keep (hno (Heap.le.refl _) fun hh => q2 ⟨hh.f0, by have := hh.f1; omega⟩)
  simp -implicitDefEqProofs (disch := first | omega | (simp only [List.length_set, List.length_replicate, List.length_append, List.length_map, List.length_take, List.length_cons, List.length_nil]; omega)) [wrap64, q2, Ed.cs]
  refine c_in.go ?_
  rintro _ _ ⟨rfl, rfl⟩
  by_cases q3 : 0 ≤ e.to ∧ e.to ≤ n - 1
  case neg => simp -implicitDefEqProofs (disch := first | omega | (simp only [List.length_set, List.length_replicate, List.length_append, List.length_map, List.length_take, List.length_cons, List.length_nil]; omega)) [wrap64, q3]; exact RetK.keep (hno (Heap.le.refl _) fun hh => q3 ⟨hh.t0, by have := hh.t1; omega⟩)
  simp -implicitDefEqProofs (disch := first | omega | (simp only [List.length_set, List.length_replicate, List.length_append, List.length_map, List.length_take, List.length_cons, List.length_nil]; omega)) [wrap64, q3, Ed.cs]
  refine (c_ExprValid G1).go ?_
  rintro _ h1 ⟨l1, rfl⟩
  by_cases q4 : e.guard.Ok
  case neg => simp -implicitDefEqProofs (disch := first | omega | (simp only [List.length_set, List.length_replicate, List.length_append, List.length_map, List.length_take, List.length_cons, List.length_nil]; omega)) [wrap64, q4]; exact RetK.keep (hno l1 fun hh => q4 hh.gd)
  simp -implicitDefEqProofs (disch := first | omega | (simp only [List.length_set, List.length_replicate, List.length_append, List.length_map, List.length_take, List.length_cons, List.length_nil]; omega)) [wrap64, q4, Ed.cs]
  refine c_in.go ?_
  rintro _ _ ⟨rfl, rfl⟩
  by_cases q5 : -1 ≤ e.var ∧ e.var ≤ 2
  case neg => simp -implicitDefEqProofs (disch := first | omega | (simp only [List.length_set, List.length_replicate, List.length_append, List.length_map, List.length_take, List.length_cons, List.length_nil]; omega)) [wrap64, q5]; exact RetK.keep (hno l1 fun hh => q5 ⟨hh.v0, hh.v1⟩)
  by_cases q6 : 0 ≤ e.var
  · simp -implicitDefEqProofs (disch := first | omega | (simp only [List.length_set, List.length_replicate, List.length_append, List.length_map, List.length_take, List.length_cons, List.length_nil]; omega)) [wrap64, q5, q6, Ed.cs]
    refine (c_ExprValid (G2.le l1)).go ?_
    rintro _ h2 ⟨l2, rfl⟩
    by_cases q7 : e.value.Ok
    case neg => simp -implicitDefEqProofs (disch := first | omega | (simp only [List.length_set, List.length_replicate, List.length_append, List.length_map, List.length_take, List.length_cons, List.length_nil]; omega)) [wrap64, q7, q6, Ed.cs, show ¬ e.var < 0 by omega]; exact RetK.keep (hno (l1.trans l2) fun hh => hh.vl.elim (fun h3 => q7 h3.2) (fun h3 => absurd h3.1 (by omega)))
    simp -implicitDefEqProofs (disch := first | omega | (simp only [List.length_set, List.length_replicate, List.length_append, List.length_map, List.length_take, List.length_cons, List.length_nil]; omega)) [wrap64, q7, Ed.cs]
    refine c_in.go ?_
    rintro _ _ ⟨rfl, rfl⟩
    by_cases q8 : -2 ≤ e.sync ∧ e.sync ≤ 2
    case neg => simp -implicitDefEqProofs (disch := first | omega | (simp only [List.length_set, List.length_replicate, List.length_append, List.length_map, List.length_take, List.length_cons, List.length_nil]; omega)) [wrap64, q8]; exact RetK.keep (hno (l1.trans l2) fun hh => q8 ⟨hh.s0, hh.s1⟩)
    simp -implicitDefEqProofs (disch := first | omega | (simp only [List.length_set, List.length_replicate, List.length_append, List.length_map, List.length_take, List.length_cons, List.length_nil]; omega)) [wrap64, q8]
    exact RetK.keep (hyes (l1.trans l2) ⟨q1.1, q1.2, q2.1, by omega, q3.1, by omega, q4, q5.1, q5.2, .inl ⟨q6, q7⟩, q8.1, q8.2⟩)
  · simp -implicitDefEqProofs (disch := first | omega | (simp only [List.length_set, List.length_replicate, List.length_append, List.length_map, List.length_take, List.length_cons, List.length_nil]; omega)) [wrap64, q5, q6, Ed.cs, show e.var < 0 by omega]
    refine (c_ExprSame (G2.le l1) rep_zero).go ?_
    rintro _ _ ⟨rfl, rfl⟩
    by_cases q7 : e.value = Exq.zero
    case neg => simp -implicitDefEqProofs (disch := first | omega | (simp only [List.length_set, List.length_replicate, List.length_append, List.length_map, List.length_take, List.length_cons, List.length_nil]; omega)) [wrap64, q7]; exact RetK.keep (hno l1 fun hh => hh.vl.elim (fun h3 => q6 h3.1) (fun h3 => q7 h3.2))
    simp -implicitDefEqProofs (disch := first | omega | (simp only [List.length_set, List.length_replicate, List.length_append, List.length_map, List.length_take, List.length_cons, List.length_nil]; omega)) [wrap64, q7, Ed.cs]
    refine c_in.go ?_
    rintro _ _ ⟨rfl, rfl⟩
    by_cases q8 : -2 ≤ e.sync ∧ e.sync ≤ 2
    case neg => simp -implicitDefEqProofs (disch := first | omega | (simp only [List.length_set, List.length_replicate, List.length_append, List.length_map, List.length_take, List.length_cons, List.length_nil]; omega)) [wrap64, q8]; exact RetK.keep (hno l1 fun hh => q8 ⟨hh.s0, hh.s1⟩)
    simp -implicitDefEqProofs (disch := first | omega | (simp only [List.length_set, List.length_replicate, List.length_append, List.length_map, List.length_take, List.length_cons, List.length_nil]; omega)) [wrap64, q8]
    exact RetK.keep (hyes l1 ⟨q1.1, q1.2, q2.1, by omega, q3.1, by omega, q4, q5.1, q5.2, .inr ⟨by omega, q7⟩, q8.1, q8.2⟩)

theorem c_valsOk_1 {h : Heap} {n : Int} : CallE Tryz.prog fn_impl_valsOk_1 [.int .i64 n] h (fun u h' => h' = h ∧ u = .bool (!decide (0 ≤ n ∧ n ≤ 3))) := by
  refine CallE.gen fun k hk => EN_impl_valsOk_1 rfl ?_
  simp -implicitDefEqProofs (disch := first | omega | (simp only [List.length_set, List.length_replicate, List.length_append, List.length_map, List.length_take, List.length_cons, List.length_nil]; omega)) [wrap64]
  refine c_in.go ?_
  rintro _ _ ⟨rfl, rfl⟩
  simp -implicitDefEqProofs (disch := first | omega | (simp only [List.length_set, List.length_replicate, List.length_append, List.length_map, List.length_take, List.length_cons, List.length_nil]; omega)) [wrap64]
  exact RetK.keep (hk _ _ ⟨rfl, by simp⟩)
theorem c_valsOk {h : Heap} {w : Value} {W : List Int} (Rw : Rep h w W) : CallE Tryz.prog fn_impl_valsOk [w] h (fun u h' => h.le h' ∧ u = .bool (decide (VOk W))) := by
  have hL := Rw.lt
  refine CallE.gen fun k hk => EN_impl_valsOk rfl ?_
  by_cases h1 : (W.length : Int) = 3
  case neg =>
    simp -implicitDefEqProofs (disch := first | omega | (simp only [List.length_set, List.length_replicate, List.length_append, List.length_map, List.length_take, List.length_cons, List.length_nil]; omega)) [wrap64, Rw.len, h1]
    exact RetK.keep (hk _ _ ⟨Heap.le.refl _, by rw [decide_eq_false (fun hh : VOk W => h1 (by rw [hh.len]; rfl))]⟩)
  simp -implicitDefEqProofs (disch := first | omega | (simp only [List.length_set, List.length_replicate, List.length_append, List.length_map, List.length_take, List.length_cons, List.length_nil]; omega)) [wrap64, Rw.len, h1]
  refine (c_ContainsFunc_int Rw (c1 := []) (c2 := []) (f := fn_impl_valsOk_1) rfl (fun n => !decide (0 ≤ n ∧ n ≤ 3)) ?_).go ?_
  · intro h3 hl j hj u Ru
    obtain ⟨rfl, _⟩ := Rep_int.1 Ru
    exact (c_valsOk_1 (n := W[j])).to fun _ _ ⟨h4, h5⟩ => ⟨h4 ▸ Heap.le.refl _, h5⟩
  · rintro _ h3 ⟨hl, rfl⟩
    simp -implicitDefEqProofs (disch := first | omega | (simp only [List.length_set, List.length_replicate, List.length_append, List.length_map, List.length_take, List.length_cons, List.length_nil]; omega)) [wrap64]
    refine RetK.keep (hk _ _ ⟨hl, ?_⟩)
    congr 1
    rw [Bool.eq_iff_iff]
    have : W.length = 3 := by omega
    simp [VOk, this]

theorem c_SystemValid_1 {h : Heap} {v : Value} {e : Ed} {b : Nat} {n : Int} (R : Rep h v e) (hn : I64 n) (hb : hload h (some (.pointer (some ⟨b, 0, none⟩))) none = some (.int .i64 n)) :
    CallE Tryz.prog fn_impl_SystemValid_1 [v, .pointer (some ⟨b, 0, none⟩)] h (fun u h' => h.le h' ∧ u = .bool (!decide (e.Ok n))) := by
  have F := R.aEd
  refine CallE.gen fun k hk => EN_impl_SystemValid_1 rfl ?_
  simp -implicitDefEqProofs (disch := first | omega | (simp only [List.length_set, List.length_replicate, List.length_append, List.length_map, List.length_take, List.length_cons, List.length_nil]; omega)) [wrap64, F, hb]
  refine (c_EdgeValid R hn).go ?_
  rintro _ h1 ⟨l1, rfl⟩
  simp -implicitDefEqProofs (disch := first | omega | (simp only [List.length_set, List.length_replicate, List.length_append, List.length_map, List.length_take, List.length_cons, List.length_nil]; omega)) [wrap64]
  exact RetK.keep (hk _ _ ⟨l1, rfl⟩)
theorem c_SystemValid {h : Heap} {v : Value} {s : Sy} (R : Rep h v s) : CallE Tryz.prog fn_impl_SystemValid [v] h (fun u h' => h.le h' ∧ u = .bool (decide s.Ok)) := by
  obtain ⟨v1, v2, rfl, R1, R2⟩ := Rep_Sy.1 R
  have hL := R2.lt
  refine CallE.gen fun k hk => EN_impl_SystemValid rfl ?_
  have hno : ∀ {h'}, h.le h' → ¬ s.Ok → k (.bool false) h' := fun hl hh => hk _ _ ⟨hl, by rw [decide_eq_false hh]⟩
  simp -implicitDefEqProofs (disch := first | omega | (simp only [List.length_set, List.length_replicate, List.length_append, List.length_map, List.length_take, List.length_cons, List.length_nil]; omega)) [wrap64]
  refine (c_valsOk R1).go ?_
  rintro _ h1 ⟨l1, rfl⟩
  by_cases q1 : VOk s.init
  case neg => simp -implicitDefEqProofs (disch := first | omega | (simp only [List.length_set, List.length_replicate, List.length_append, List.length_map, List.length_take, List.length_cons, List.length_nil]; omega)) [wrap64, q1]; exact RetK.keep (hno l1 fun hh => q1 hh.vs)
  simp -implicitDefEqProofs (disch := first | omega | (simp only [List.length_set, List.length_replicate, List.length_append, List.length_map, List.length_take, List.length_cons, List.length_nil]; omega)) [wrap64, q1, R2.len]
  refine c_in.go ?_
  rintro _ _ ⟨rfl, rfl⟩
  by_cases q2 : (1 : Int) ≤ s.procs.length ∧ (s.procs.length : Int) ≤ 3
  case neg => simp -implicitDefEqProofs (disch := first | omega | (simp only [List.length_set, List.length_replicate, List.length_append, List.length_map, List.length_take, List.length_cons, List.length_nil]; omega)) [wrap64, q2]; exact RetK.keep (hno l1 fun hh => q2 ⟨by have := hh.p1; omega, by have := hh.p3; omega⟩)
  simp -implicitDefEqProofs (disch := first | omega | (simp only [List.length_set, List.length_replicate, List.length_append, List.length_map, List.length_take, List.length_cons, List.length_nil]; omega)) [wrap64, q2, R2.len]
  refine wp_count s.procs.length (fun i e h' => h.le h' ∧ e = [none, none, none, none, some v2, some (.int .i64 s.procs.length), some (.int .i64 i)] ∧ ∀ p ∈ s.procs.take i, p.Ok) ⟨l1, by simp, by simp⟩ ?_
  rintro J i _ h2 hJ hi ⟨l2, rfl, hall⟩
  simp -implicitDefEqProofs (disch := first | omega | (simp only [List.length_set, List.length_replicate, List.length_append, List.length_map, List.length_take, List.length_cons, List.length_nil]; omega)) [wrap64]
  refine IteW.mk (fun hlt => ?_) (fun hge => ?_)
  · have hlx : i < s.procs.length := by omega
    obtain ⟨u, hu, Ru⟩ := (R2.le l2).ld hlx
    change hload _ (some (elp 2 v2 i)) (some 2) = some u at hu
    obtain ⟨w, rfl, k1, R3⟩ := Rep_Pr.1 Ru
    have hw1 := R3.cells
    have hw2 := R3.one
    have hel := R3.lt
    simp -implicitDefEqProofs (disch := first | omega | (simp only [List.length_set, List.length_replicate, List.length_append, List.length_map, List.length_take, List.length_cons, List.length_nil]; omega)) [wrap64, R2.X (n := 2) rfl, hu]
    refine HS.init.alloc rfl fun b h3 H => ?_
    simp -implicitDefEqProofs (disch := first | omega | (simp only [List.length_set, List.length_replicate, List.length_append, List.length_map, List.length_take, List.length_cons, List.length_nil]; omega)) [wrap64]
    refine HS.bxst (o := 0) (sz := 2) H rfl rfl rfl (by simp [hw2]) (by simp) fun h4 H => ?_
    have H : HS h2 [bx b [.int .i64 s.procs[i].locs, w]] h4 := H
    have l4 := l2.trans H.base
    have hb0 := H.bxld (o := 0) (u := .int .i64 s.procs[i].locs) rfl
    have hb1 := H.bxld (o := 1) (u := w) rfl
    simp -implicitDefEqProofs (disch := first | omega | (simp only [List.length_set, List.length_replicate, List.length_append, List.length_map, List.length_take, List.length_cons, List.length_nil]; omega)) [wrap64, hb0]
    refine c_in.go ?_
    rintro _ _ ⟨rfl, rfl⟩
    by_cases q3 : 1 ≤ s.procs[i].locs ∧ s.procs[i].locs ≤ 4
    case neg => simp -implicitDefEqProofs (disch := first | omega | (simp only [List.length_set, List.length_replicate, List.length_append, List.length_map, List.length_take, List.length_cons, List.length_nil]; omega)) [wrap64, q3, hb1, (R3.on H).len]; exact RetK.keep (hno l4 fun hh => q3 ⟨(hh.at hlx).n1, (hh.at hlx).n4⟩)
    by_cases q4 : (6 : Int) < s.procs[i].edges.length
    · simp -implicitDefEqProofs (disch := first | omega | (simp only [List.length_set, List.length_replicate, List.length_append, List.length_map, List.length_take, List.length_cons, List.length_nil]; omega)) [wrap64, q3, q4, hb1, (R3.on H).len]; exact RetK.keep (hno l4 fun hh => by have := (hh.at hlx).el; omega)
    simp -implicitDefEqProofs (disch := first | omega | (simp only [List.length_set, List.length_replicate, List.length_append, List.length_map, List.length_take, List.length_cons, List.length_nil]; omega)) [wrap64, q3, q4, hb1, (R3.on H).len]
    refine (c_ContainsFunc_impl_Edge (R3.on H) (c1 := []) (c2 := [.pointer (some ⟨b, 0, none⟩)]) (f := fn_impl_SystemValid_1) rfl (fun e => !decide (e.Ok s.procs[i].locs)) ?_).go ?_
    · intro h5 hl5 j hj u Ru
      exact c_SystemValid_1 Ru k1 (hload_le hl5 hb0)
    · rintro _ h5 ⟨l5, rfl⟩
      have hex : s.procs[i].edges.any (fun e => !decide (e.Ok s.procs[i].locs)) = false ↔ s.procs[i].Ok := by
        simp only [List.any_eq_false, Bool.not_eq_true, Bool.not_eq_false', decide_eq_true_iff]
        exact ⟨fun hh => ⟨q3.1, q3.2, by omega, hh⟩, fun hh => hh.ed⟩
      by_cases q5 : s.procs[i].Ok
      · simp -implicitDefEqProofs (disch := first | omega | (simp only [List.length_set, List.length_replicate, List.length_append, List.length_map, List.length_take, List.length_cons, List.length_nil]; omega)) [wrap64, hex.2 q5]
        refine hJ _ _ hlx ⟨l4.trans l5, by simp, fun p hp => ?_⟩
        rw [List.take_add_one, List.getElem?_eq_getElem hlx] at hp
        rcases List.mem_append.1 hp with hp | hp
        · exact hall p hp
        · simp at hp; subst hp; exact q5
      · have hf : s.procs[i].edges.any (fun e => !decide (e.Ok s.procs[i].locs)) = true := by
          cases hh : s.procs[i].edges.any (fun e => !decide (e.Ok s.procs[i].locs)) with
          | true => rfl
          | false => exact absurd (hex.1 hh) q5
        simp -implicitDefEqProofs (disch := first | omega | (simp only [List.length_set, List.length_replicate, List.length_append, List.length_map, List.length_take, List.length_cons, List.length_nil]; omega)) [wrap64, hf]
        exact RetK.keep (hno (l4.trans l5) fun hh => q5 (hh.at hlx))
  · simp -implicitDefEqProofs (disch := first | omega | (simp only [List.length_set, List.length_replicate, List.length_append, List.length_map, List.length_take, List.length_cons, List.length_nil]; omega)) [wrap64]
    rw [List.take_of_length_le (by omega)] at hall
    exact RetK.keep (hk _ _ ⟨l2, by rw [decide_eq_true (show s.Ok from ⟨q1, by omega, by omega, hall⟩)]⟩)
end Go.Proofs.YthgimpheeemooaaGreat

/-
  Valid expressions, edges, systems and labels, by the reference.
-/
namespace Go.Proofs.YthgimpheeemooaaGreat
open Go
set_option linter.all false
set_option linter.unusedVariables false
set_option linter.unusedSimpArgs false
set_option linter.defProp false
set_option maxRecDepth 1000000

theorem c_l1Arity {h : Heap} {n : Int} : CallE Tryz.prog fn_spec_l1Arity [.int .i64 n] h (fun u h' => h' = h ∧ u = .int .i64 (Exq.arity n)) := by
  refine CallE.gen fun k hk => EN_spec_l1Arity rfl ?_
  by_cases c1 : n = 1
  · simp -implicitDefEqProofs (disch := first | omega | (simp only [List.length_set, List.length_replicate, List.length_append, List.length_map, List.length_take, List.length_cons, List.length_nil]; omega)) [wrap64, c1]
    exact RetK.keep (hk _ _ ⟨rfl, by simp [Exq.arity, c1]⟩)
  by_cases c2 : n = 2
  · simp -implicitDefEqProofs (disch := first | omega | (simp only [List.length_set, List.length_replicate, List.length_append, List.length_map, List.length_take, List.length_cons, List.length_nil]; omega)) [wrap64, c1, c2]
    exact RetK.keep (hk _ _ ⟨rfl, by simp [Exq.arity, c2]⟩)
  by_cases c3 : n = 3
  · simp -implicitDefEqProofs (disch := first | omega | (simp only [List.length_set, List.length_replicate, List.length_append, List.length_map, List.length_take, List.length_cons, List.length_nil]; omega)) [wrap64, c1, c2, c3]
    exact RetK.keep (hk _ _ ⟨rfl, by simp [Exq.arity, c3]⟩)
  by_cases c4 : 4 ≤ n
  case neg =>
    simp -implicitDefEqProofs (disch := first | omega | (simp only [List.length_set, List.length_replicate, List.length_append, List.length_map, List.length_take, List.length_cons, List.length_nil]; omega)) [wrap64, c1, c2, c3, c4]
    exact RetK.keep (hk _ _ ⟨rfl, by simp [Exq.arity, c1, c2, c3, c4]⟩)
  by_cases c5 : n ≤ 9
  case neg =>
    simp -implicitDefEqProofs (disch := first | omega | (simp only [List.length_set, List.length_replicate, List.length_append, List.length_map, List.length_take, List.length_cons, List.length_nil]; omega)) [wrap64, c1, c2, c3, c4, c5]
    exact RetK.keep (hk _ _ ⟨rfl, by simp [Exq.arity, c1, c2, c3, c4, c5]⟩)
  simp -implicitDefEqProofs (disch := first | omega | (simp only [List.length_set, List.length_replicate, List.length_append, List.length_map, List.length_take, List.length_cons, List.length_nil]; omega)) [wrap64, c1, c2, c3, c4, c5]
  exact RetK.keep (hk _ _ ⟨rfl, by simp [Exq.arity, c1, c2, c3, c4, c5]⟩)

noncomputable instance {n : Nat} {x : Exq} : Decidable (x.Shp n) := Classical.propDecidable _
theorem c_l1Shape : ∀ (n : Nat) {x : Exq} {h : Heap} {v : Value} {dv : Int}, dv = n → n ≤ 6 → Rep h v x → CallE Tryz.prog fn_spec_l1Shape [v, .int .i64 dv] h (fun u h' => h' = h ∧ u = .bool (decide (x.Shp n))) := by
  intro n
  induction n with
  | zero =>
    intro x h v dv hd _ R
    have hd : dv = 0 := hd
    obtain ⟨w, rfl, k1, k2, R1⟩ := Rep_Exq.1 R
    refine CallE.gen fun k hk => EN_spec_l1Shape rfl ?_
    simp -implicitDefEqProofs (disch := first | omega | (simp only [List.length_set, List.length_replicate, List.length_append, List.length_map, List.length_take, List.length_cons, List.length_nil]; omega)) [wrap64, hd]
    exact RetK.keep (hk _ _ ⟨rfl, by rw [decide_eq_false (fun hh : x.Shp 0 => hh)]⟩)
  | succ n ih =>
    intro x h v dv hd hd6 R
    obtain ⟨w, rfl, k1, k2, R1⟩ := Rep_Exq.1 R
    have hL := R1.lt
    obtain ⟨ln, hln⟩ : ∃ ln : Int, ln = x.kids.length := ⟨_, rfl⟩
    have hlen := R1.len
    rw [← hln] at hlen
    refine CallE.gen fun k hk => EN_spec_l1Shape rfl ?_
    have hno : ¬ x.Shp (n + 1) → k (.bool false) h := fun hh => hk _ _ ⟨rfl, by rw [decide_eq_false hh]⟩
    simp -implicitDefEqProofs (disch := first | omega | (simp only [List.length_set, List.length_replicate, List.length_append, List.length_map, List.length_take, List.length_cons, List.length_nil]; omega)) [wrap64, hlen, show ¬ dv < 1 by omega]
    refine c_l1Arity.go ?_
    rintro _ h ⟨rfl, rfl⟩
    by_cases q1 : ln = Exq.arity x.kind
    case neg => simp -implicitDefEqProofs (disch := first | omega | (simp only [List.length_set, List.length_replicate, List.length_append, List.length_map, List.length_take, List.length_cons, List.length_nil]; omega)) [wrap64, q1]; exact RetK.keep (hno fun hh => q1 (by rw [hln]; exact hh.1.ar))
    have hm : (x.kind = 1 ∧ Exq.most x.kind = 3) ∨ (x.kind = 2 ∧ Exq.most x.kind = 2) ∨ ((¬ x.kind = 1 ∧ ¬ x.kind = 2) ∧ Exq.most x.kind = 0) := by
      unfold Exq.most
      by_cases c1 : x.kind = 1
      · exact .inl ⟨c1, by simp [c1]⟩
      by_cases c2 : x.kind = 2
      · exact .inr (.inl ⟨c2, by simp [c2]⟩)
      · exact .inr (.inr ⟨⟨c1, c2⟩, by simp [c1, c2]⟩)
    rcases hm with ⟨c1, hmo⟩ | ⟨c1, hmo⟩ | ⟨c1, hmo⟩
    all_goals
      by_cases q2 : x.val < 0
      · simp -implicitDefEqProofs (disch := first | omega | (simp only [List.length_set, List.length_replicate, List.length_append, List.length_map, List.length_take, List.length_cons, List.length_nil]; omega)) [wrap64, q1, c1, q2]; exact RetK.keep (hno fun hh => by have := hh.1.lo; omega)
      by_cases q3 : Exq.most x.kind < x.val
      · rw [hmo] at q3
        simp -implicitDefEqProofs (disch := first | omega | (simp only [List.length_set, List.length_replicate, List.length_append, List.length_map, List.length_take, List.length_cons, List.length_nil]; omega)) [wrap64, q1, c1, q2, q3]; exact RetK.keep (hno fun hh => by have := hh.1.hi; omega)
      rw [hmo] at q3
      simp -implicitDefEqProofs (disch := first | omega | (simp only [List.length_set, List.length_replicate, List.length_append, List.length_map, List.length_take, List.length_cons, List.length_nil]; omega)) [wrap64, q1, c1, q2, q3]
      refine wp_count x.kids.length (fun i e h' => h' = h ∧ (∃ kd : Int, kd = x.kind ∧ e = [none, some (.int .i64 dv), some (.agg #[.int .i64 kd, .int .i64 x.val, w]), none, none, some (.int .i64 i), none]) ∧ ∀ y ∈ x.kids.take i, y.Shp n) ⟨rfl, ⟨_, rfl, by simp [c1]⟩, by simp⟩ ?_
      rintro J i _ _ hJ hi ⟨rfl, ⟨kd, hkd, rfl⟩, hall⟩
      simp -implicitDefEqProofs (disch := first | omega | (simp only [List.length_set, List.length_replicate, List.length_append, List.length_map, List.length_take, List.length_cons, List.length_nil]; omega)) [wrap64, R1.len]
      refine IteW.mk (fun hlt => ?_) (fun hge => ?_)
      · have hlx : i < x.kids.length := by omega
        obtain ⟨u, hu, Ru⟩ := R1.ld hlx
        change hload _ (some (elp 3 w i)) (some 3) = some u at hu
        simp -implicitDefEqProofs (disch := first | omega | (simp only [List.length_set, List.length_replicate, List.length_append, List.length_map, List.length_take, List.length_cons, List.length_nil]; omega)) [wrap64, R1.X (n := 3) rfl, hu]
        refine (ih (dv := dv - 1) (by omega) (by omega) Ru).go ?_
        rintro _ _ ⟨rfl, rfl⟩
        by_cases q4 : x.kids[i].Shp n
        case neg => simp -implicitDefEqProofs (disch := first | omega | (simp only [List.length_set, List.length_replicate, List.length_append, List.length_map, List.length_take, List.length_cons, List.length_nil]; omega)) [wrap64, q4]; exact RetK.keep (hno fun hh => q4 (hh.kid hlx))
        simp -implicitDefEqProofs (disch := first | omega | (simp only [List.length_set, List.length_replicate, List.length_append, List.length_map, List.length_take, List.length_cons, List.length_nil]; omega)) [wrap64, q4]
        refine hJ _ _ hlx ⟨rfl, ⟨kd, hkd, by simp⟩, fun y hy => ?_⟩
        rw [List.take_add_one, List.getElem?_eq_getElem hlx] at hy
        rcases List.mem_append.1 hy with hy | hy
        · exact hall y hy
        · simp at hy; subst hy; exact q4
      · simp -implicitDefEqProofs (disch := first | omega | (simp only [List.length_set, List.length_replicate, List.length_append, List.length_map, List.length_take, List.length_cons, List.length_nil]; omega)) [wrap64]
        rw [List.take_of_length_le (by omega)] at hall
        refine RetK.keep (hk _ _ ⟨rfl, ?_⟩)
        rw [decide_eq_true (show x.Shp (n + 1) from ⟨⟨by omega, by omega, by omega⟩, hall⟩)]

theorem c_l1Count : ∀ (n : Nat) {x : Exq} {h : Heap} {v : Value} {dv : Int}, dv = n → n ≤ 6 → x.Shp n → Rep h v x → CallE Tryz.prog fn_spec_l1Count [v, .int .i64 dv] h (fun u h' => h' = h ∧ u = .int .i64 x.nod) := by
  intro n
  induction n with
  | zero => intro x h v dv hd _ hs; exact hs.elim
  | succ n ih =>
    intro x h v dv hd hd6 hs R
    obtain ⟨w, rfl, k1, k2, R1⟩ := Rep_Exq.1 R
    have hL := R1.lt
    have hbnd := hs.bnd
    have hpow : 2 ^ (n + 1) ≤ 2 ^ 6 := Nat.pow_le_pow_right (by decide) hd6
    have hnod := x.nod_eq
    refine CallE.gen fun k hk => EN_spec_l1Count rfl ?_
    simp -implicitDefEqProofs (disch := first | omega | (simp only [List.length_set, List.length_replicate, List.length_append, List.length_map, List.length_take, List.length_cons, List.length_nil]; omega)) [wrap64]
    refine wp_count x.kids.length (fun i e h' => h' = h ∧ e = [none, some (.int .i64 dv), some (.agg #[.int .i64 x.kind, .int .i64 x.val, w]), none, some (.int .i64 ((1 + Exq.nods (x.kids.take i) : Nat) : Int)), some (.int .i64 i)]) ⟨rfl, by simp [Exq.nods]⟩ ?_
    rintro J i _ _ hJ hi ⟨rfl, rfl⟩
    by_cases hlt : i < x.kids.length
    · obtain ⟨u, hu, Ru⟩ := R1.ld hlt
      change hload _ (some (elp 3 w i)) (some 3) = some u at hu
      have hn1 := Exq.nods_take hlt
      have hn2 := Exq.nods_le x.kids (i + 1)
      simp -implicitDefEqProofs (disch := first | omega | (simp only [List.length_set, List.length_replicate, List.length_append, List.length_map, List.length_take, List.length_cons, List.length_nil]; omega)) [wrap64, hlt, R1.len, R1.X (n := 3) rfl, hu, show 0 < dv by omega]
      refine (ih (dv := dv - 1) (by omega) (by omega) (hs.kid hlt) Ru).go ?_
      rintro _ _ ⟨rfl, rfl⟩
      simp -implicitDefEqProofs (disch := first | omega | (simp only [List.length_set, List.length_replicate, List.length_append, List.length_map, List.length_take, List.length_cons, List.length_nil]; omega)) [wrap64]
      refine hJ _ _ hlt ⟨rfl, ?_⟩
      simp [hn1]; omega
    · simp -implicitDefEqProofs (disch := first | omega | (simp only [List.length_set, List.length_replicate, List.length_append, List.length_map, List.length_take, List.length_cons, List.length_nil]; omega)) [wrap64, hlt, R1.len]
      rw [List.take_of_length_le (by omega)]
      refine RetK.keep (hk _ _ ⟨rfl, ?_⟩)
      rw [hnod]; push_cast; rfl

theorem c_spec_ExprValid {h : Heap} {v : Value} {x : Exq} (R : Rep h v x) : CallE Tryz.prog fn_spec_ExprValid [v] h (fun u h' => h' = h ∧ u = .bool (decide x.Ok)) := by
  have F := R.aExq
  refine CallE.gen fun k hk => EN_spec_ExprValid rfl ?_
  simp -implicitDefEqProofs (disch := first | omega | (simp only [List.length_set, List.length_replicate, List.length_append, List.length_map, List.length_take, List.length_cons, List.length_nil]; omega)) [wrap64, F]
  refine (c_l1Shape 6 (dv := 6) rfl (by omega) R).go ?_
  rintro _ _ ⟨rfl, rfl⟩
  by_cases q1 : x.Shp 6
  case neg => simp -implicitDefEqProofs (disch := first | omega | (simp only [List.length_set, List.length_replicate, List.length_append, List.length_map, List.length_take, List.length_cons, List.length_nil]; omega)) [wrap64, q1]; exact RetK.keep (hk _ _ ⟨rfl, by rw [decide_eq_false (fun hh : x.Ok => q1 hh.1)]⟩)
  simp -implicitDefEqProofs (disch := first | omega | (simp only [List.length_set, List.length_replicate, List.length_append, List.length_map, List.length_take, List.length_cons, List.length_nil]; omega)) [wrap64, q1, F]
  refine (c_l1Count 6 (dv := 6) rfl (by omega) q1 R).go ?_
  rintro _ _ ⟨rfl, rfl⟩
  simp -implicitDefEqProofs (disch := first | omega | (simp only [List.length_set, List.length_replicate, List.length_append, List.length_map, List.length_take, List.length_cons, List.length_nil]; omega)) [wrap64]
  refine RetK.keep (hk _ _ ⟨rfl, ?_⟩)
  congr 1
  rw [Bool.eq_iff_iff]
  simp [Exq.Ok, q1]
  omega

theorem c_l2None {h : Heap} {v : Value} {x : Exq} (R : Rep h v x) : CallE Tryz.prog fn_spec_l2None [v] h (fun u h' => h' = h ∧ u = .bool (decide (x = Exq.zero))) := by
  obtain ⟨w, rfl, k1, k2, R1⟩ := Rep_Exq.1 R
  have hno : ∀ {P : Prop}, (P → x = Exq.zero → False) → P → x ≠ Exq.zero := fun hh hp he => hh hp he
  refine CallE.gen fun k hk => EN_spec_l2None rfl ?_
  by_cases q1 : x.kind = 0
  case neg => simp -implicitDefEqProofs (disch := first | omega | (simp only [List.length_set, List.length_replicate, List.length_append, List.length_map, List.length_take, List.length_cons, List.length_nil]; omega)) [wrap64, q1]; exact RetK.keep (hk _ _ ⟨rfl, by rw [decide_eq_false (fun hh : x = Exq.zero => q1 (by rw [hh]; rfl))]⟩)
  by_cases q2 : x.val = 0
  case neg => simp -implicitDefEqProofs (disch := first | omega | (simp only [List.length_set, List.length_replicate, List.length_append, List.length_map, List.length_take, List.length_cons, List.length_nil]; omega)) [wrap64, q1, q2]; exact RetK.keep (hk _ _ ⟨rfl, by rw [decide_eq_false (fun hh : x = Exq.zero => q2 (by rw [hh]; rfl))]⟩)
  simp -implicitDefEqProofs (disch := first | omega | (simp only [List.length_set, List.length_replicate, List.length_append, List.length_map, List.length_take, List.length_cons, List.length_nil]; omega)) [wrap64, q1, q2, R1.len]
  refine RetK.keep (hk _ _ ⟨rfl, ?_⟩)
  congr 1
  rw [Bool.eq_iff_iff]
  simp [Exq.ext_iff', q1, q2, Exq.zero]

theorem c_spec_EdgeValid {h : Heap} {v : Value} {e : Ed} (R : Rep h v e) {n : Int} : CallE Tryz.prog fn_spec_EdgeValid [v, .int .i64 n] h (fun u h' => h' = h ∧ u = .bool (decide (e.Ok n))) := by
  obtain ⟨w1, w2, rfl, ok, R1, R2⟩ := Rep_Ed.1 R
  have G1 : Rep h (.agg #[.int .i64 e.guard.kind, .int .i64 e.guard.val, w1]) e.guard := Rep_Exq.2 ⟨w1, rfl, ok.gk, ok.gv, R1⟩
  have G2 : Rep h (.agg #[.int .i64 e.value.kind, .int .i64 e.value.val, w2]) e.value := Rep_Exq.2 ⟨w2, rfl, ok.vk, ok.vv, R2⟩
  refine CallE.gen fun k hk => EN_spec_EdgeValid rfl ?_
  have hno : ¬ e.Ok n → k (.bool false) h := fun hh => hk _ _ ⟨rfl, by rw [decide_eq_false hh]⟩
  have hyes : e.Ok n → k (.bool true) h := fun hh => hk _ _ ⟨rfl, by rw [decide_eq_true hh]⟩
  by_cases a1 : e.frm < 0
  · simp -implicitDefEqProofs (disch := first | omega | (simp only [List.length_set, List.length_replicate, List.length_append, List.length_map, List.length_take, List.length_cons, List.length_nil]; omega)) [wrap64, a1, Ed.cs]; exact RetK.keep (hno fun hh => by have := hh.f0; omega)
  by_cases a2 : n ≤ e.frm
  · simp -implicitDefEqProofs (disch := first | omega | (simp only [List.length_set, List.length_replicate, List.length_append, List.length_map, List.length_take, List.length_cons, List.length_nil]; omega)) [wrap64, a1, a2, Ed.cs]; exact RetK.keep (hno fun hh => by have := hh.f1; omega)
  by_cases a3 : e.to < 0
  · simp -implicitDefEqProofs (disch := first | omega | (simp only [List.length_set, List.length_replicate, List.length_append, List.length_map, List.length_take, List.length_cons, List.length_nil]; omega)) [wrap64, a1, a2, a3, Ed.cs]; exact RetK.keep (hno fun hh => by have := hh.t0; omega)
  by_cases a4 : n ≤ e.to
  · simp -implicitDefEqProofs (disch := first | omega | (simp only [List.length_set, List.length_replicate, List.length_append, List.length_map, List.length_take, List.length_cons, List.length_nil]; omega)) [wrap64, a1, a2, a3, a4, Ed.cs]; exact RetK.keep (hno fun hh => by have := hh.t1; omega)
  by_cases a5 : 4 < n
  · simp -implicitDefEqProofs (disch := first | omega | (simp only [List.length_set, List.length_replicate, List.length_append, List.length_map, List.length_take, List.length_cons, List.length_nil]; omega)) [wrap64, a1, a2, a3, a4, a5, Ed.cs]; exact RetK.keep (hno fun hh => by have := hh.n4; omega)
  simp -implicitDefEqProofs (disch := first | omega | (simp only [List.length_set, List.length_replicate, List.length_append, List.length_map, List.length_take, List.length_cons, List.length_nil]; omega)) [wrap64, a1, a2, a3, a4, a5, Ed.cs]
  refine (c_spec_ExprValid G1).go ?_
  rintro _ _ ⟨rfl, rfl⟩
  by_cases q4 : e.guard.Ok
  case neg => simp -implicitDefEqProofs (disch := first | omega | (simp only [List.length_set, List.length_replicate, List.length_append, List.length_map, List.length_take, List.length_cons, List.length_nil]; omega)) [wrap64, q4]; exact RetK.keep (hno fun hh => q4 hh.gd)
  by_cases b1 : e.sync < -2
  · simp -implicitDefEqProofs (disch := first | omega | (simp only [List.length_set, List.length_replicate, List.length_append, List.length_map, List.length_take, List.length_cons, List.length_nil]; omega)) [wrap64, q4, b1, Ed.cs]; exact RetK.keep (hno fun hh => by have := hh.s0; omega)
  by_cases b2 : 2 < e.sync
  · simp -implicitDefEqProofs (disch := first | omega | (simp only [List.length_set, List.length_replicate, List.length_append, List.length_map, List.length_take, List.length_cons, List.length_nil]; omega)) [wrap64, q4, b1, b2, Ed.cs]; exact RetK.keep (hno fun hh => by have := hh.s1; omega)
  by_cases b3 : e.var < -1
  · simp -implicitDefEqProofs (disch := first | omega | (simp only [List.length_set, List.length_replicate, List.length_append, List.length_map, List.length_take, List.length_cons, List.length_nil]; omega)) [wrap64, q4, b1, b2, b3, Ed.cs]; exact RetK.keep (hno fun hh => by have := hh.v0; omega)
  by_cases b4 : 3 ≤ e.var
  · simp -implicitDefEqProofs (disch := first | omega | (simp only [List.length_set, List.length_replicate, List.length_append, List.length_map, List.length_take, List.length_cons, List.length_nil]; omega)) [wrap64, q4, b1, b2, b3, b4, Ed.cs]; exact RetK.keep (hno fun hh => by have := hh.v1; omega)
  by_cases q6 : e.var < 0
  · simp -implicitDefEqProofs (disch := first | omega | (simp only [List.length_set, List.length_replicate, List.length_append, List.length_map, List.length_take, List.length_cons, List.length_nil]; omega)) [wrap64, q4, b1, b2, b3, b4, q6, Ed.cs]
    refine (c_l2None G2).go ?_
    rintro _ _ ⟨rfl, rfl⟩
    by_cases q7 : e.value = Exq.zero
    case neg => simp -implicitDefEqProofs (disch := first | omega | (simp only [List.length_set, List.length_replicate, List.length_append, List.length_map, List.length_take, List.length_cons, List.length_nil]; omega)) [wrap64, q7, q6, Ed.cs, show ¬ 0 ≤ e.var by omega]; exact RetK.keep (hno fun hh => hh.vl.elim (fun h3 => by omega) (fun h3 => q7 h3.2))
    simp -implicitDefEqProofs (disch := first | omega | (simp only [List.length_set, List.length_replicate, List.length_append, List.length_map, List.length_take, List.length_cons, List.length_nil]; omega)) [wrap64, q7]
    exact RetK.keep (hyes ⟨by omega, by omega, by omega, by omega, by omega, by omega, q4, by omega, by omega, .inr ⟨q6, q7⟩, by omega, by omega⟩)
  · simp -implicitDefEqProofs (disch := first | omega | (simp only [List.length_set, List.length_replicate, List.length_append, List.length_map, List.length_take, List.length_cons, List.length_nil]; omega)) [wrap64, q4, b1, b2, b3, b4, q6, Ed.cs, show 0 ≤ e.var by omega]
    refine (c_spec_ExprValid G2).go ?_
    rintro _ _ ⟨rfl, rfl⟩
    by_cases q7 : e.value.Ok
    case neg => simp -implicitDefEqProofs (disch := first | omega | (simp only [List.length_set, List.length_replicate, List.length_append, List.length_map, List.length_take, List.length_cons, List.length_nil]; omega)) [wrap64, q7]; exact RetK.keep (hno fun hh => hh.vl.elim (fun h3 => q7 h3.2) (fun h3 => by omega))
    simp -implicitDefEqProofs (disch := first | omega | (simp only [List.length_set, List.length_replicate, List.length_append, List.length_map, List.length_take, List.length_cons, List.length_nil]; omega)) [wrap64, q7]
    exact RetK.keep (hyes ⟨by omega, by omega, by omega, by omega, by omega, by omega, q4, by omega, by omega, .inl ⟨by omega, q7⟩, by omega, by omega⟩)

theorem c_l1Vals {h : Heap} {w : Value} {W : List Int} (Rw : Rep h w W) : CallE Tryz.prog fn_spec_l1Vals [w] h (fun u h' => h' = h ∧ u = .bool (decide (VOk W))) := by
  have hL := Rw.lt
  refine CallE.gen fun k hk => EN_spec_l1Vals rfl ?_
  simp -implicitDefEqProofs (disch := first | omega | (simp only [List.length_set, List.length_replicate, List.length_append, List.length_map, List.length_take, List.length_cons, List.length_nil]; omega)) [wrap64]
  refine wp_count W.length (fun i e h' => e = [some w, none, some (.int .i64 i)] ∧ h' = h ∧ ∀ (j : Nat) (hj : j < W.length), j < i → 0 ≤ W[j] ∧ W[j] ≤ 3) ⟨rfl, rfl, fun j _ hj => absurd hj (Nat.not_lt_zero j)⟩ ?_
  rintro J i _ h1 hJ hi ⟨rfl, rfl, hn⟩
  simp -implicitDefEqProofs (disch := first | omega | (simp only [List.length_set, List.length_replicate, List.length_append, List.length_map, List.length_take, List.length_cons, List.length_nil]; omega)) [wrap64, Rw.len]
  refine IteW.mk (fun hlt => ?_) (fun hge => ?_)
  · have hlx : i < W.length := by omega
    have hno : ¬ (0 ≤ W[i] ∧ W[i] ≤ 3) → k (.bool false) h1 := fun hx => hk _ _ ⟨rfl, by rw [decide_eq_false (fun hh : VOk W => hx (hh.at hlx))]⟩
    by_cases h1 : W[i] < 0
    · simp -implicitDefEqProofs (disch := first | omega | (simp only [List.length_set, List.length_replicate, List.length_append, List.length_map, List.length_take, List.length_cons, List.length_nil]; omega)) [wrap64, Rw.I, h1]
      exact RetK.keep (hno (by omega))
    by_cases h2 : 3 < W[i]
    · simp -implicitDefEqProofs (disch := first | omega | (simp only [List.length_set, List.length_replicate, List.length_append, List.length_map, List.length_take, List.length_cons, List.length_nil]; omega)) [wrap64, Rw.I, h1, h2]
      exact RetK.keep (hno (by omega))
    simp -implicitDefEqProofs (disch := first | omega | (simp only [List.length_set, List.length_replicate, List.length_append, List.length_map, List.length_take, List.length_cons, List.length_nil]; omega)) [wrap64, Rw.I, h1, h2]
    refine hJ _ _ hlx ⟨rfl, rfl, fun j hj hji => ?_⟩
    by_cases hji2 : j = i
    · subst hji2; omega
    · exact hn j hj (by omega)
  · simp -implicitDefEqProofs (disch := first | omega | (simp only [List.length_set, List.length_replicate, List.length_append, List.length_map, List.length_take, List.length_cons, List.length_nil]; omega)) [wrap64, Rw.len]
    refine RetK.keep (hk _ _ ⟨rfl, ?_⟩)
    congr 1
    rw [Bool.eq_iff_iff, decide_eq_true_iff, decide_eq_true_iff]
    refine ⟨fun h3 => ⟨by omega, fun x hx => ?_⟩, fun h3 => by have := h3.len; omega⟩
    obtain ⟨j, hj, rfl⟩ := List.mem_iff_getElem.1 hx
    exact hn j hj (by omega)

theorem c_l2Process {h : Heap} {v : Value} {p : Pr} (R : Rep h v p) : CallE Tryz.prog fn_spec_l2Process [v] h (fun u h' => h' = h ∧ u = .bool (decide p.Ok)) := by
  obtain ⟨w, rfl, k1, R1⟩ := Rep_Pr.1 R
  have hL := R1.lt
  refine CallE.gen fun k hk => EN_spec_l2Process rfl ?_
  simp -implicitDefEqProofs (disch := first | omega | (simp only [List.length_set, List.length_replicate, List.length_append, List.length_map, List.length_take, List.length_cons, List.length_nil]; omega)) [wrap64]
  refine wp_count p.edges.length (fun i e h' => e = [none, some (.agg #[.int .i64 p.locs, w]), none, some (.int .i64 i)] ∧ h' = h ∧ ∀ x ∈ p.edges.take i, x.Ok p.locs) ⟨by simp, rfl, by simp⟩ ?_
  rintro J i _ h1 hJ hi ⟨rfl, rfl, hall⟩
  simp -implicitDefEqProofs (disch := first | omega | (simp only [List.length_set, List.length_replicate, List.length_append, List.length_map, List.length_take, List.length_cons, List.length_nil]; omega)) [wrap64, R1.len]
  refine IteW.mk (fun hlt => ?_) (fun hge => ?_)
  · have hlx : i < p.edges.length := by omega
    obtain ⟨u, hu, Ru⟩ := R1.ld hlx
    change hload _ (some (elp 10 w i)) (some 10) = some u at hu
    simp -implicitDefEqProofs (disch := first | omega | (simp only [List.length_set, List.length_replicate, List.length_append, List.length_map, List.length_take, List.length_cons, List.length_nil]; omega)) [wrap64, R1.X (n := 10) rfl, hu]
    refine (c_spec_EdgeValid Ru).go ?_
    rintro _ _ ⟨rfl, rfl⟩
    by_cases q : p.edges[i].Ok p.locs
    case neg => simp -implicitDefEqProofs (disch := first | omega | (simp only [List.length_set, List.length_replicate, List.length_append, List.length_map, List.length_take, List.length_cons, List.length_nil]; omega)) [wrap64, q]; exact RetK.keep (hk _ _ ⟨rfl, by rw [decide_eq_false (fun hh : p.Ok => q (hh.at hlx))]⟩)
    simp -implicitDefEqProofs (disch := first | omega | (simp only [List.length_set, List.length_replicate, List.length_append, List.length_map, List.length_take, List.length_cons, List.length_nil]; omega)) [wrap64, q]
    refine hJ _ _ hlx ⟨by simp, rfl, fun x hx => ?_⟩
    rw [List.take_add_one, List.getElem?_eq_getElem hlx] at hx
    rcases List.mem_append.1 hx with hx | hx
    · exact hall x hx
    · simp at hx; subst hx; exact q
  · simp -implicitDefEqProofs (disch := first | omega | (simp only [List.length_set, List.length_replicate, List.length_append, List.length_map, List.length_take, List.length_cons, List.length_nil]; omega)) [wrap64]
    rw [List.take_of_length_le (by omega)] at hall
    have hno : ¬ p.Ok → k (.bool false) h1 := fun hx => hk _ _ ⟨rfl, by rw [decide_eq_false hx]⟩
    by_cases a1 : 1 ≤ p.locs
    case neg => simp -implicitDefEqProofs (disch := first | omega | (simp only [List.length_set, List.length_replicate, List.length_append, List.length_map, List.length_take, List.length_cons, List.length_nil]; omega)) [wrap64, a1]; exact RetK.keep (hno fun hh => a1 hh.n1)
    by_cases a2 : p.locs ≤ 4
    case neg => simp -implicitDefEqProofs (disch := first | omega | (simp only [List.length_set, List.length_replicate, List.length_append, List.length_map, List.length_take, List.length_cons, List.length_nil]; omega)) [wrap64, a1, a2]; exact RetK.keep (hno fun hh => a2 hh.n4)
    simp -implicitDefEqProofs (disch := first | omega | (simp only [List.length_set, List.length_replicate, List.length_append, List.length_map, List.length_take, List.length_cons, List.length_nil]; omega)) [wrap64, a1, a2, R1.len]
    refine RetK.keep (hk _ _ ⟨rfl, ?_⟩)
    congr 1
    rw [Bool.eq_iff_iff, decide_eq_true_iff, decide_eq_true_iff]
    exact ⟨fun h3 => ⟨a1, a2, by omega, hall⟩, fun h3 => by have := h3.el; omega⟩

theorem c_spec_SystemValid {h : Heap} {v : Value} {s : Sy} (R : Rep h v s) : CallE Tryz.prog fn_spec_SystemValid [v] h (fun u h' => h' = h ∧ u = .bool (decide s.Ok)) := by
  obtain ⟨v1, v2, rfl, R0, R1⟩ := Rep_Sy.1 R
  have hL := R1.lt
  refine CallE.gen fun k hk => EN_spec_SystemValid rfl ?_
  simp -implicitDefEqProofs (disch := first | omega | (simp only [List.length_set, List.length_replicate, List.length_append, List.length_map, List.length_take, List.length_cons, List.length_nil]; omega)) [wrap64]
  refine wp_count s.procs.length (fun i e h' => e = [none, some (.agg #[v1, v2]), none, some (.int .i64 i)] ∧ h' = h ∧ ∀ x ∈ s.procs.take i, x.Ok) ⟨by simp, rfl, by simp⟩ ?_
  rintro J i _ h1 hJ hi ⟨rfl, rfl, hall⟩
  simp -implicitDefEqProofs (disch := first | omega | (simp only [List.length_set, List.length_replicate, List.length_append, List.length_map, List.length_take, List.length_cons, List.length_nil]; omega)) [wrap64, R1.len]
  refine IteW.mk (fun hlt => ?_) (fun hge => ?_)
  · have hlx : i < s.procs.length := by omega
    obtain ⟨u, hu, Ru⟩ := R1.ld hlx
    change hload _ (some (elp 2 v2 i)) (some 2) = some u at hu
    simp -implicitDefEqProofs (disch := first | omega | (simp only [List.length_set, List.length_replicate, List.length_append, List.length_map, List.length_take, List.length_cons, List.length_nil]; omega)) [wrap64, R1.X (n := 2) rfl, hu]
    refine (c_l2Process Ru).go ?_
    rintro _ _ ⟨rfl, rfl⟩
    by_cases q : s.procs[i].Ok
    case neg => simp -implicitDefEqProofs (disch := first | omega | (simp only [List.length_set, List.length_replicate, List.length_append, List.length_map, List.length_take, List.length_cons, List.length_nil]; omega)) [wrap64, q]; exact RetK.keep (hk _ _ ⟨rfl, by rw [decide_eq_false (fun hh : s.Ok => q (hh.at hlx))]⟩)
    simp -implicitDefEqProofs (disch := first | omega | (simp only [List.length_set, List.length_replicate, List.length_append, List.length_map, List.length_take, List.length_cons, List.length_nil]; omega)) [wrap64, q]
    refine hJ _ _ hlx ⟨by simp, rfl, fun x hx => ?_⟩
    rw [List.take_add_one, List.getElem?_eq_getElem hlx] at hx
    rcases List.mem_append.1 hx with hx | hx
    · exact hall x hx
    · simp at hx; subst hx; exact q
  · simp -implicitDefEqProofs (disch := first | omega | (simp only [List.length_set, List.length_replicate, List.length_append, List.length_map, List.length_take, List.length_cons, List.length_nil]; omega)) [wrap64]
    rw [List.take_of_length_le (by omega)] at hall
    have hno : ¬ s.Ok → k (.bool false) h1 := fun hx => hk _ _ ⟨rfl, by rw [decide_eq_false hx]⟩
    refine (c_l1Vals R0).go ?_
    rintro _ _ ⟨rfl, rfl⟩
    by_cases a0 : VOk s.init
    case neg => simp -implicitDefEqProofs (disch := first | omega | (simp only [List.length_set, List.length_replicate, List.length_append, List.length_map, List.length_take, List.length_cons, List.length_nil]; omega)) [wrap64, a0]; exact RetK.keep (hno fun hh => a0 hh.vs)
    by_cases a1 : (1 : Int) ≤ s.procs.length
    case neg => simp -implicitDefEqProofs (disch := first | omega | (simp only [List.length_set, List.length_replicate, List.length_append, List.length_map, List.length_take, List.length_cons, List.length_nil]; omega)) [wrap64, a0, a1, R1.len]; exact RetK.keep (hno fun hh => a1 (by have := hh.p1; omega))
    simp -implicitDefEqProofs (disch := first | omega | (simp only [List.length_set, List.length_replicate, List.length_append, List.length_map, List.length_take, List.length_cons, List.length_nil]; omega)) [wrap64, a0, a1, R1.len]
    refine RetK.keep (hk _ _ ⟨rfl, ?_⟩)
    congr 1
    rw [Bool.eq_iff_iff, decide_eq_true_iff, decide_eq_true_iff]
    exact ⟨fun h3 => ⟨a0, by omega, by omega, hall⟩, fun h3 => by have := h3.p3; omega⟩

end Go.Proofs.YthgimpheeemooaaGreat

/-
  Which variables matter, by the program and by the reference.
-/
namespace Go.Proofs.YthgimpheeemooaaGreat
open Go
set_option linter.all false
set_option linter.unusedVariables false
set_option linter.unusedSimpArgs false
set_option linter.defProp false
set_option maxRecDepth 1000000

/-- an edge's two expressions, as values -/
theorem Rep.gd {h : Heap} {e : Ed} {w1 w2 : Value} (ok : e.ok) (R1 : Rep h w1 e.guard.kids) : Rep h (.agg #[.int .i64 e.guard.kind, .int .i64 e.guard.val, w1]) e.guard := Rep_Exq.2 ⟨w1, rfl, ok.gk, ok.gv, R1⟩
theorem Rep.vl {h : Heap} {e : Ed} {w2 : Value} (ok : e.ok) (R1 : Rep h w2 e.value.kids) : Rep h (.agg #[.int .i64 e.value.kind, .int .i64 e.value.val, w2]) e.value := Rep_Exq.2 ⟨w2, rfl, ok.vk, ok.vv, R1⟩

end Go.Proofs.YthgimpheeemooaaGreat

/-
  Marks in expressions, edges, processes, systems.
-/
namespace Go.Proofs.YthgimpheeemooaaGreat
open Go
set_option linter.all false
set_option linter.unusedVariables false
set_option linter.unusedSimpArgs false
set_option linter.defProp false
set_option maxRecDepth 1000000

theorem c_markExprS' : ∀ (x0 : Exq) {g h : Heap} {Γ : List HP} {v : Value} {k0 : Int}, HS g (ow v x0.kids :: Γ) h → 0 ≤ k0 → k0 + Mk.cnt x0.kids < 4611686018427387904 →
    CallE Tryz.prog fn_laws_markExprS [v, .int .i64 k0] h (fun u h' => HS g (ow v (Mk.wr k0 x0.kids) :: Γ) h' ∧ u = .int .i64 (k0 + Mk.cnt x0.kids)) := by
  refine Exq.ind fun x0 ih g h Γ v k0 H hk0 hk1 => ?_
  generalize hx0 : x0.kids = x at *
  refine CallE.gen fun k hk => EN_laws_markExprS rfl ?_
  simp -implicitDefEqProofs (disch := first | omega | (simp only [List.length_set, List.length_replicate, List.length_append, List.length_map, List.length_take, List.length_cons, List.length_nil]; omega)) [wrap64]
  refine wp_count x.length (fun i e h' => e = [some v, some (.int .i64 (k0 + cntL (x.take i))), none, some (.int .i64 i)] ∧ ∃ y, HS g (ow v y :: Γ) h' ∧ Mkd k0 x y i) ⟨by simp [cntL], x, H, Mkd.zero⟩ ?_
  rintro J i _ h2 hJ hi ⟨rfl, y, H, M⟩
  have hl := M.len
  have hL := H.rep.lt
  have hcx : Mk.cnt x = cntL x := rfl
  simp -implicitDefEqProofs (disch := first | omega | (simp only [List.length_set, List.length_replicate, List.length_append, List.length_map, List.length_take, List.length_cons, List.length_nil]; omega)) [wrap64, H.rep.len]
  refine IteW.mk (fun hlt => ?_) (fun hge => ?_)
  · have hlx : i < x.length := by omega
    have hly : i < y.length := by omega
    have hb := cntL_le x (i + 1)
    have hc := cntL_take x i hlx
    have hce := cnt_Exq x[i]
    have hwe := wr_Exq (k0 + cntL (x.take i)) x[i]
    have M' := M.step hlx
    obtain ⟨q, hq⟩ : ∃ q, q = k0 + cntL (x.take i) := ⟨_, rfl⟩
    obtain ⟨u, hu, H⟩ := HS.take H hly
    rw [M.get hlx] at H
    obtain ⟨w, rfl, k1, k2, H⟩ := H.unExq
    have hia := HS.holeia H.sw1 (n := 3) (kd := .i64) rfl hly
    have hP := hld_parts (HS.holeP H.sw1 (n := 3) rfl rfl)
    rw [← hq] at hwe M' ⊢
    simp -implicitDefEqProofs (disch := first | omega | (simp only [List.length_set, List.length_replicate, List.length_append, List.length_map, List.length_take, List.length_cons, List.length_nil]; omega)) [wrap64, hia, hP.1]
    refine HS.holest H.sw1 rfl (n := 3) rfl rfl rfl rfl rfl (by decide) fun h3 H => ?_
    replace H : HS g (hole v y i (.agg #[.int .i64 q, .int .i64 x[i].val, w]) :: ow w x[i].kids :: Γ) h3 := H
    have hP := hld_parts (HS.holeP H (n := 3) rfl rfl)
    simp -implicitDefEqProofs (disch := first | omega | (simp only [List.length_set, List.length_replicate, List.length_append, List.length_map, List.length_take, List.length_cons, List.length_nil]; omega)) [wrap64, hia, hP.1]
    refine HS.holest H rfl (n := 3) rfl rfl rfl rfl rfl (by decide) fun h4 H => ?_
    replace H : HS g (hole v y i (.agg #[.int .i64 q, .int .i64 (q + 1), w]) :: ow w x[i].kids :: Γ) h4 := H
    have hP := hld_parts (HS.holeP H (n := 3) rfl rfl)
    simp -implicitDefEqProofs (disch := first | omega | (simp only [List.length_set, List.length_replicate, List.length_append, List.length_map, List.length_take, List.length_cons, List.length_nil]; omega)) [wrap64, hia, hP.1, hP.2.2.1]
    refine (ih x[i] (List.getElem_mem hlx) (k0 := q + 1 + 1) H.sw1 (by omega) (by omega)).go ?_
    rintro _ h5 ⟨H, rfl⟩
    have H := HS.put (H.mkExq' (kd := q) (vl := q + 1) ⟨by omega, by omega⟩ ⟨by omega, by omega⟩)
    simp -implicitDefEqProofs (disch := first | omega | (simp only [List.length_set, List.length_replicate, List.length_append, List.length_map, List.length_take, List.length_cons, List.length_nil]; omega)) [wrap64]
    refine hJ _ _ hlx ⟨?_, _, H, ?_⟩
    · simp only [List.cons.injEq, Option.some.injEq, Value.int.injEq, true_and, and_true]
      refine ⟨?_, by simp⟩
      rw [hc]; push_cast; omega
    · rw [hwe, show q + 2 = q + 1 + 1 by omega] at M'
      exact M'
  · simp -implicitDefEqProofs (disch := first | omega | (simp only [List.length_set, List.length_replicate, List.length_append, List.length_map, List.length_take, List.length_cons, List.length_nil]; omega)) [wrap64]
    have h2 : x.take i = x := List.take_of_length_le (by omega)
    refine RetK.keep (hk _ _ ⟨?_, by rw [h2]; rfl⟩)
    have h3 : y = Mk.wr k0 x := M.all (by omega)
    rw [← h3]; exact H
theorem c_markExprS {g h : Heap} {Γ : List HP} {v : Value} {x : List Exq} {k0 : Int} (H : HS g (ow v x :: Γ) h) (hk0 : 0 ≤ k0) (hk1 : k0 + Mk.cnt x < 4611686018427387904) :
    CallE Tryz.prog fn_laws_markExprS [v, .int .i64 k0] h (fun u h' => HS g (ow v (Mk.wr k0 x) :: Γ) h' ∧ u = .int .i64 (k0 + Mk.cnt x)) := c_markExprS' (Exq.mk 0 0 x) H hk0 hk1

theorem c_markEdgeS {g h : Heap} {Γ : List HP} {v : Value} {x : List Ed} {k0 : Int} (H : HS g (ow v x :: Γ) h) (hk0 : 0 ≤ k0) (hk1 : k0 + Mk.cnt x < 4611686018427387904) :
    CallE Tryz.prog fn_laws_markEdgeS [v, .int .i64 k0] h (fun u h' => HS g (ow v (Mk.wr k0 x) :: Γ) h' ∧ u = .int .i64 (k0 + Mk.cnt x)) := by
  refine CallE.gen fun k hk => EN_laws_markEdgeS rfl ?_
  simp -implicitDefEqProofs (disch := first | omega | (simp only [List.length_set, List.length_replicate, List.length_append, List.length_map, List.length_take, List.length_cons, List.length_nil]; omega)) [wrap64]
  refine wp_count x.length (fun i e h' => e = [some v, some (.int .i64 (k0 + cntL (x.take i))), none, some (.int .i64 i)] ∧ ∃ y, HS g (ow v y :: Γ) h' ∧ Mkd k0 x y i) ⟨by simp [cntL], x, H, Mkd.zero⟩ ?_
  rintro J i _ h2 hJ hi ⟨rfl, y, H, M⟩
  have hl := M.len
  have hL := H.rep.lt
  have hcx : Mk.cnt x = cntL x := rfl
  simp -implicitDefEqProofs (disch := first | omega | (simp only [List.length_set, List.length_replicate, List.length_append, List.length_map, List.length_take, List.length_cons, List.length_nil]; omega)) [wrap64, H.rep.len]
  refine IteW.mk (fun hlt => ?_) (fun hge => ?_)
  · have hlx : i < x.length := by omega
    have hly : i < y.length := by omega
    have hb := cntL_le x (i + 1)
    have hc := cntL_take x i hlx
    have hce := cnt_Ed x[i]
    have M' := M.step hlx
    obtain ⟨q, hq⟩ : ∃ q, q = k0 + cntL (x.take i) := ⟨_, rfl⟩
    obtain ⟨u, hu, H⟩ := HS.take H hly
    rw [M.get hlx] at H
    obtain ⟨n1, hn1⟩ : ∃ n1, n1 = Mk.cnt x[i].guard.kids := ⟨_, rfl⟩
    obtain ⟨n2, hn2⟩ : ∃ n2, n2 = Mk.cnt x[i].value.kids := ⟨_, rfl⟩
    have hwe : Mk.wr q x[i] = ⟨q, q + 1, .mk (q + 1 + 1) (q + 1 + 1 + 1) (Mk.wr (q + 1 + 1 + 1 + 1) x[i].guard.kids), q + 1 + 1 + 1 + 1 + n1,
        .mk (q + 1 + 1 + 1 + 1 + n1 + 1) (q + 1 + 1 + 1 + 1 + n1 + 1 + 1) (Mk.wr (q + 1 + 1 + 1 + 1 + n1 + 1 + 1 + 1) x[i].value.kids), q + 1 + 1 + 1 + 1 + n1 + 1 + 1 + 1 + n2⟩ := by
      show (⟨_, _, Mk.wr _ x[i].guard, _, Mk.wr _ x[i].value, _⟩ : Ed) = _
      rw [wr_Exq, wr_Exq, Ed.ext_iff']
      have e1 := cnt_Exq x[i].guard
      have e2 := cnt_Exq x[i].value
      have e3 : Mk.cnt x[i].frm = 1 := rfl
      have e4 : Mk.cnt x[i].to = 1 := rfl
      have e5 : Mk.cnt x[i].var = 1 := rfl
      have e6 : ∀ (a b : Int) (l : List Exq), a = b → Mk.wr a l = Mk.wr b l := fun a b l h => by rw [h]
      simp only [Exq.ext_iff', Exq.kind_mk, Exq.val_mk, Exq.kids_mk]
      refine ⟨rfl, ?_, ⟨?_, ?_, e6 _ _ _ ?_⟩, ?_, ⟨?_, ?_, e6 _ _ _ ?_⟩, ?_⟩ <;> (try show _ + _ = _) <;> (try show Mk.wr _ (_ : Int) = _) <;> (try simp only [Mk.wr]) <;> push_cast [e1, e2, e3, e4, e5] <;> omega
    rw [← hn1, ← hn2] at hce
    obtain ⟨w1, w2, rfl, ok, H⟩ := H.unEd
    replace H := H.sw2
    have hia := HS.holeia H (n := 10) (kd := .i64) rfl hly
    have hP := hld_parts (HS.holeP H (n := 10) rfl rfl)
    rw [← hq] at M' ⊢
    simp -implicitDefEqProofs (disch := first | omega | (simp only [List.length_set, List.length_replicate, List.length_append, List.length_map, List.length_take, List.length_cons, List.length_nil]; omega)) [wrap64, hia, hP.1, hP.2.1]
    refine HS.holest H rfl (n := 10) rfl rfl rfl rfl rfl (by decide) fun h3 H => ?_
    have hP := hld_parts (HS.holeP H (n := 10) rfl rfl)
    simp -implicitDefEqProofs (disch := first | omega | (simp only [List.length_set, List.length_replicate, List.length_append, List.length_map, List.length_take, List.length_cons, List.length_nil]; omega)) [wrap64, hia, hP.1, hP.2.1]
    refine HS.holest H rfl (n := 10) rfl rfl rfl rfl rfl (by decide) fun h4 H => ?_
    have hP := hld_parts (HS.holeP H (n := 10) rfl rfl)
    simp -implicitDefEqProofs (disch := first | omega | (simp only [List.length_set, List.length_replicate, List.length_append, List.length_map, List.length_take, List.length_cons, List.length_nil]; omega)) [wrap64, hia, hP.1, hP.2.1]
    refine HS.holest H rfl (n := 10) rfl rfl rfl rfl rfl (by decide) fun h5 H => ?_
    have hP := hld_parts (HS.holeP H (n := 10) rfl rfl)
    simp -implicitDefEqProofs (disch := first | omega | (simp only [List.length_set, List.length_replicate, List.length_append, List.length_map, List.length_take, List.length_cons, List.length_nil]; omega)) [wrap64, hia, hP.1, hP.2.1]
    refine HS.holest H rfl (n := 10) rfl rfl rfl rfl rfl (by decide) fun h6 H => ?_
    replace H : HS g (hole v y i (.agg #[.int .i64 q, .int .i64 (q + 1), .int .i64 (q + 1 + 1), .int .i64 (q + 1 + 1 + 1), w1, .int .i64 x[i].var, .int .i64 x[i].value.kind, .int .i64 x[i].value.val, w2, .int .i64 x[i].sync]) :: ow w1 x[i].guard.kids :: ow w2 x[i].value.kids :: Γ) h6 := H
    have hP := hld_parts (HS.holeP H (n := 10) rfl rfl)
    simp -implicitDefEqProofs (disch := first | omega | (simp only [List.length_set, List.length_replicate, List.length_append, List.length_map, List.length_take, List.length_cons, List.length_nil]; omega)) [wrap64, hia, hP.1, hP.2.1, hP.2.2.1]
    refine (c_markExprS (k0 := q + 1 + 1 + 1 + 1) H.sw1 (by omega) (by omega)).go ?_
    rintro _ h7 ⟨H, rfl⟩
    rw [← hn1]
    replace H := H.sw1
    have hP := hld_parts (HS.holeP H (n := 10) rfl rfl)
    simp -implicitDefEqProofs (disch := first | omega | (simp only [List.length_set, List.length_replicate, List.length_append, List.length_map, List.length_take, List.length_cons, List.length_nil]; omega)) [wrap64, hia, hP.1, hP.2.1]
    refine HS.holest H rfl (n := 10) rfl rfl rfl rfl rfl (by decide) fun h8 H => ?_
    have hP := hld_parts (HS.holeP H (n := 10) rfl rfl)
    simp -implicitDefEqProofs (disch := first | omega | (simp only [List.length_set, List.length_replicate, List.length_append, List.length_map, List.length_take, List.length_cons, List.length_nil]; omega)) [wrap64, hia, hP.1, hP.2.1]
    refine HS.holest H rfl (n := 10) rfl rfl rfl rfl rfl (by decide) fun h9 H => ?_
    have hP := hld_parts (HS.holeP H (n := 10) rfl rfl)
    simp -implicitDefEqProofs (disch := first | omega | (simp only [List.length_set, List.length_replicate, List.length_append, List.length_map, List.length_take, List.length_cons, List.length_nil]; omega)) [wrap64, hia, hP.1, hP.2.1]
    refine HS.holest H rfl (n := 10) rfl rfl rfl rfl rfl (by decide) fun h10 H => ?_
    replace H : HS g (hole v y i (.agg #[.int .i64 q, .int .i64 (q + 1), .int .i64 (q + 1 + 1), .int .i64 (q + 1 + 1 + 1), w1, .int .i64 (q + 1 + 1 + 1 + 1 + n1), .int .i64 (q + 1 + 1 + 1 + 1 + n1 + 1), .int .i64 (q + 1 + 1 + 1 + 1 + n1 + 1 + 1), w2, .int .i64 x[i].sync]) :: ow w1 (Mk.wr (q + 1 + 1 + 1 + 1) x[i].guard.kids) :: ow w2 x[i].value.kids :: Γ) h10 := H
    have hP := hld_parts (HS.holeP H (n := 10) rfl rfl)
    simp -implicitDefEqProofs (disch := first | omega | (simp only [List.length_set, List.length_replicate, List.length_append, List.length_map, List.length_take, List.length_cons, List.length_nil]; omega)) [wrap64, hia, hP.1, hP.2.1, hP.2.2.1]
    refine (c_markExprS (k0 := q + 1 + 1 + 1 + 1 + n1 + 1 + 1 + 1) H.sw2 (by omega) (by omega)).go ?_
    rintro _ h11 ⟨H, rfl⟩
    rw [← hn2]
    replace H := H.sw1
    have hP := hld_parts (HS.holeP H (n := 10) rfl rfl)
    simp -implicitDefEqProofs (disch := first | omega | (simp only [List.length_set, List.length_replicate, List.length_append, List.length_map, List.length_take, List.length_cons, List.length_nil]; omega)) [wrap64, hia, hP.1, hP.2.1]
    refine HS.holest H rfl (n := 10) rfl rfl rfl rfl rfl (by decide) fun h12 H => ?_
    have ok' : Ed.ok ⟨q, q + 1, .mk (q + 1 + 1) (q + 1 + 1 + 1) (Mk.wr (q + 1 + 1 + 1 + 1) x[i].guard.kids), q + 1 + 1 + 1 + 1 + n1,
        .mk (q + 1 + 1 + 1 + 1 + n1 + 1) (q + 1 + 1 + 1 + 1 + n1 + 1 + 1) (Mk.wr (q + 1 + 1 + 1 + 1 + n1 + 1 + 1 + 1) x[i].value.kids), q + 1 + 1 + 1 + 1 + n1 + 1 + 1 + 1 + n2⟩ := by
      refine ⟨?_, ?_, ?_, ?_, ?_, ?_, ?_, ?_⟩ <;> (simp only [I64, Exq.kind_mk, Exq.val_mk]) <;> constructor <;> omega
    have H := HS.put (HS.mkEd (e := ⟨q, q + 1, .mk (q + 1 + 1) (q + 1 + 1 + 1) (Mk.wr (q + 1 + 1 + 1 + 1) x[i].guard.kids), q + 1 + 1 + 1 + 1 + n1,
        .mk (q + 1 + 1 + 1 + 1 + n1 + 1) (q + 1 + 1 + 1 + 1 + n1 + 1 + 1) (Mk.wr (q + 1 + 1 + 1 + 1 + n1 + 1 + 1 + 1) x[i].value.kids), q + 1 + 1 + 1 + 1 + n1 + 1 + 1 + 1 + n2⟩) H.sw2.sw2.sw1 ok')
    simp -implicitDefEqProofs (disch := first | omega | (simp only [List.length_set, List.length_replicate, List.length_append, List.length_map, List.length_take, List.length_cons, List.length_nil]; omega)) [wrap64]
    refine hJ _ _ hlx ⟨?_, _, H, ?_⟩
    · simp only [List.cons.injEq, Option.some.injEq, Value.int.injEq, true_and, and_true]
      refine ⟨?_, by simp⟩
      rw [hc]; push_cast; omega
    · rw [← hwe]; exact M'
  · simp -implicitDefEqProofs (disch := first | omega | (simp only [List.length_set, List.length_replicate, List.length_append, List.length_map, List.length_take, List.length_cons, List.length_nil]; omega)) [wrap64]
    have h2 : x.take i = x := List.take_of_length_le (by omega)
    refine RetK.keep (hk _ _ ⟨?_, by rw [h2]; rfl⟩)
    have h3 : y = Mk.wr k0 x := M.all (by omega)
    rw [← h3]; exact H

theorem c_markProcessS {g h : Heap} {Γ : List HP} {v : Value} {x : List Pr} {k0 : Int} (H : HS g (ow v x :: Γ) h) (hk0 : 0 ≤ k0) (hk1 : k0 + Mk.cnt x < 4611686018427387904) :
    CallE Tryz.prog fn_laws_markProcessS [v, .int .i64 k0] h (fun u h' => HS g (ow v (Mk.wr k0 x) :: Γ) h' ∧ u = .int .i64 (k0 + Mk.cnt x)) := by
  refine CallE.gen fun k hk => EN_laws_markProcessS rfl ?_
  simp -implicitDefEqProofs (disch := first | omega | (simp only [List.length_set, List.length_replicate, List.length_append, List.length_map, List.length_take, List.length_cons, List.length_nil]; omega)) [wrap64]
  refine wp_count x.length (fun i e h' => e = [some v, some (.int .i64 (k0 + cntL (x.take i))), none, some (.int .i64 i)] ∧ ∃ y, HS g (ow v y :: Γ) h' ∧ Mkd k0 x y i) ⟨by simp [cntL], x, H, Mkd.zero⟩ ?_
  rintro J i _ h2 hJ hi ⟨rfl, y, H, M⟩
  have hl := M.len
  have hL := H.rep.lt
  have hcx : Mk.cnt x = cntL x := rfl
  simp -implicitDefEqProofs (disch := first | omega | (simp only [List.length_set, List.length_replicate, List.length_append, List.length_map, List.length_take, List.length_cons, List.length_nil]; omega)) [wrap64, H.rep.len]
  refine IteW.mk (fun hlt => ?_) (fun hge => ?_)
  · have hlx : i < x.length := by omega
    have hly : i < y.length := by omega
    have hb := cntL_le x (i + 1)
    have hc := cntL_take x i hlx
    have hce := cnt_Pr x[i]
    have M' := M.step hlx
    obtain ⟨q, hq⟩ : ∃ q, q = k0 + cntL (x.take i) := ⟨_, rfl⟩
    obtain ⟨u, hu, H⟩ := HS.take H hly
    rw [M.get hlx] at H
    obtain ⟨w, rfl, k1, H⟩ := H.unPr
    replace H := H.sw1
    have hia := HS.holeia H (n := 2) (kd := .i64) rfl hly
    have hP := hld_parts (HS.holeP H (n := 2) rfl rfl)
    rw [← hq] at M' ⊢
    simp -implicitDefEqProofs (disch := first | omega | (simp only [List.length_set, List.length_replicate, List.length_append, List.length_map, List.length_take, List.length_cons, List.length_nil]; omega)) [wrap64, hia, hP.1]
    refine HS.holest H rfl (n := 2) rfl rfl rfl rfl rfl (by decide) fun h3 H => ?_
    replace H : HS g (hole v y i (.agg #[.int .i64 q, w]) :: ow w x[i].edges :: Γ) h3 := H
    have hP := hld_parts (HS.holeP H (n := 2) rfl rfl)
    simp -implicitDefEqProofs (disch := first | omega | (simp only [List.length_set, List.length_replicate, List.length_append, List.length_map, List.length_take, List.length_cons, List.length_nil]; omega)) [wrap64, hia, hP.1, hP.2.2.1]
    refine (c_markEdgeS (k0 := q + 1) H.sw1 (by omega) (by omega)).go ?_
    rintro _ h5 ⟨H, rfl⟩
    have H := HS.put (HS.mkPr (p := ⟨q, Mk.wr (q + 1) x[i].edges⟩) H ⟨by dsimp only; omega, by dsimp only; omega⟩)
    simp -implicitDefEqProofs (disch := first | omega | (simp only [List.length_set, List.length_replicate, List.length_append, List.length_map, List.length_take, List.length_cons, List.length_nil]; omega)) [wrap64]
    refine hJ _ _ hlx ⟨?_, _, H, ?_⟩
    · simp only [List.cons.injEq, Option.some.injEq, Value.int.injEq, true_and, and_true]
      refine ⟨?_, by simp⟩
      rw [hc]; push_cast; omega
    · exact M'
  · simp -implicitDefEqProofs (disch := first | omega | (simp only [List.length_set, List.length_replicate, List.length_append, List.length_map, List.length_take, List.length_cons, List.length_nil]; omega)) [wrap64]
    have h2 : x.take i = x := List.take_of_length_le (by omega)
    refine RetK.keep (hk _ _ ⟨?_, by rw [h2]; rfl⟩)
    have h3 : y = Mk.wr k0 x := M.all (by omega)
    rw [← h3]; exact H

theorem c_markSystem {g h : Heap} {Γ : List HP} {v : Value} {x : Sy} {k0 : Int} (H : HS g (ow v x :: Γ) h) (hk0 : 0 ≤ k0) (hk1 : k0 + Mk.cnt x < 4611686018427387904) :
    CallE Tryz.prog fn_laws_markSystem [v, .int .i64 k0] h (fun u h' => HS g (ow v (Mk.wr k0 x) :: Γ) h' ∧ u = .int .i64 (k0 + Mk.cnt x)) := by
  have hc := cnt_Sy x
  obtain ⟨v1, v2, rfl, H0⟩ := H.unSy
  refine CallE.gen fun k hk => EN_laws_markSystem rfl ?_
  simp -implicitDefEqProofs (disch := first | omega | (simp only [List.length_set, List.length_replicate, List.length_append, List.length_map, List.length_take, List.length_cons, List.length_nil]; omega)) [wrap64]
  refine (c_markIntS (x := x.init) (k0 := k0) H0 (by omega) (by omega)).go ?_
  rintro _ h1 ⟨H, rfl⟩
  simp -implicitDefEqProofs (disch := first | omega | (simp only [List.length_set, List.length_replicate, List.length_append, List.length_map, List.length_take, List.length_cons, List.length_nil]; omega)) [wrap64]
  refine (c_markProcessS (x := x.procs) (k0 := k0 + (Mk.cnt x.init : Nat)) H.sw1 (by omega) (by omega)).go ?_
  rintro _ h2 ⟨H, rfl⟩
  simp -implicitDefEqProofs (disch := first | omega | (simp only [List.length_set, List.length_replicate, List.length_append, List.length_map, List.length_take, List.length_cons, List.length_nil]; omega)) [wrap64]
  refine RetK.keep (hk _ _ ⟨HS.mkSy (s := Mk.wr k0 x) H.sw1, ?_⟩)
  rw [hc]; congr 1; push_cast; omega
end Go.Proofs.YthgimpheeemooaaGreat

/-
  Which variables matter: the functions of the packages. How much systems and expressions hold.
-/
namespace Go.Proofs.YthgimpheeemooaaGreat
open Go
set_option linter.all false
set_option linter.unusedVariables false
set_option linter.unusedSimpArgs false
set_option linter.defProp false
set_option maxRecDepth 1000000

theorem HS.only {g h : Heap} {Γ : List HP} {p : HP} (H : HS g (p :: Γ) h) : HS g [p] h := by
  obtain ⟨g', r, e, d, hp, H⟩ := H
  exact ⟨g', r, e, d, hp, H.base⟩
def R2 {α : Type} [Ty α] (b : Bool) (y : α) (h : Heap) (u : Value) (h' : Heap) : Prop := ∃ v, u = .tuple #[v, .bool b] ∧ HS h [ow v y] h'

noncomputable def relR (s : Sy) (L : List Exq) : List Bool := if s.Ok ∧ LOk L then s.rel L else []
theorem cnt_ints (l : List Int) : Mk.cnt l = l.length := by
  induction l with
  | nil => rfl
  | cons b r ih => show 1 + cntL r = _; have : cntL r = Mk.cnt r := rfl; rw [this, ih]; simp; omega
theorem cnt_cons {α : Type} [Mk α] (x : α) (l : List α) : Mk.cnt (x :: l) = Mk.cnt x + Mk.cnt l := rfl
theorem sz_cons {α : Type} [Sz α] (x : α) (l : List α) : Sz.sz (x :: l) = 1 + Sz.sz x + Sz.sz l := by
  simp only [sz_list, szL, List.length_cons]; omega
theorem cnt_le {α : Type} [Mk α] [Sz α] {c : Nat} : ∀ {l : List α}, (∀ x ∈ l, Mk.cnt x ≤ c * (1 + Sz.sz x)) → Mk.cnt l ≤ c * Sz.sz l
  | [], _ => by show 0 ≤ _; omega
  | x :: l, h => by
    have h1 := cnt_le (l := l) fun y hy => h y (by simp [hy])
    have h2 := h x (by simp)
    rw [cnt_cons, sz_cons, Nat.mul_add]
    omega
theorem cnt_Expr' : ∀ x : Exq, Mk.cnt x.kids ≤ 2 * Sz.sz x.kids := by
  refine Exq.ind fun x ih => cnt_le fun y hy => ?_
  have h1 := ih y hy
  rw [cnt_Exq, sz_Exq]; omega
theorem cnt_ExprS' (l : List Exq) : Mk.cnt l ≤ 2 * Sz.sz l := cnt_Expr' (Exq.mk 0 0 l)
theorem cnt_EdgeS' (l : List Ed) : Mk.cnt l ≤ 8 * Sz.sz l := cnt_le fun e _ => by
  have h1 := cnt_ExprS' e.guard.kids
  have h2 := cnt_ExprS' e.value.kids
  have h3 : Sz.sz e = Sz.sz e.guard.kids + Sz.sz e.value.kids := by rw [← sz_Exq, ← sz_Exq]; rfl
  rw [cnt_Ed, h3]; omega
theorem cnt_ProcessS' (l : List Pr) : Mk.cnt l ≤ 8 * Sz.sz l := cnt_le fun p _ => by
  have h1 := cnt_EdgeS' p.edges
  have h3 : Sz.sz p = Sz.sz p.edges := rfl
  rw [cnt_Pr, h3]; omega
theorem cnt_System {x : Sy} (h : Sz.sz x ≤ 1048576) : Mk.cnt x ≤ 8388608 := by
  have h1 := cnt_ProcessS' x.procs
  have h2 := cnt_ints x.init
  have h3 : Sz.sz x = Sz.sz x.init + Sz.sz x.procs := rfl
  have h4 := sz_list x.init
  rw [cnt_Sy]; omega
end Go.Proofs.YthgimpheeemooaaGreat

/-
  Bodies of functions in the small language, as a program printed them, and that each is what the translation gives.
-/
namespace Go.Proofs.YthgimpheeemooaaGreat
open Go
set_option linter.all false
set_option linter.defProp false
set_option maxRecDepth 1000000

def H_laws_eqState : Hint := ⟨[(0, false), (1, false), (2, true), (3, true), (4, false)], []⟩
def K62_1 : C := .seq (.pl <| .st (.ext 5 0) <|
    .st (.act none (.px (some 4) (.mv (.c (.bool true))))) .done) (.ret)
@[simp] def W62_1 := @C.wpe _ _ K62_1.eq_1
def K62_2 : C := .seq (.pl <| .st (.ext 5 0) <|
    .st (.act none (.px (some 4) (.mv (.c (.bool false))))) .done) (.ret)
@[simp] def W62_2 := @C.wpe _ _ K62_2.eq_1
def K62_3 : C := .cond 5 (.v 10) K62_2 (.skip)
@[simp] def W62_3 := @C.wpe _ _ K62_3.eq_1
def K62_4 : Pl := .st (.act none (.px (some 10) (.un .not (.v 9)))) .done
@[simp] def W62_4 := @Pl.wpe _ _ K62_4.eq_1
def K62_5 : C := .seq (.seq (.pl <| .st (.ext 5 6) <|
    .st (.act none (.als 5 none 2)) <|
    .st (.act none (.pget (some 6) (some 5) 2 1 none)) <|
    .st (.act none (.als 7 none 3)) <|
    .st (.act none (.pget (some 8) (some 7) 3 1 none)) <|
    .st (.act none (.ex (some 9) (.call fn_laws_eqIntS [.v 6, .v 8]))) K62_4) K62_3) K62_1
@[simp] def W62_5 := @C.wpe _ _ K62_5.eq_1
def K62_6 : C := .seq (.pl <| .st (.ext 5 0) <|
    .st (.act none (.px (some 4) (.mv (.c (.bool false))))) .done) (.ret)
@[simp] def W62_6 := @C.wpe _ _ K62_6.eq_1
def K62_7 : C := .cond 5 (.v 10) K62_6 (.skip)
@[simp] def W62_7 := @C.wpe _ _ K62_7.eq_1
def K62_8 : Pl := .st (.act none (.px (some 10) (.un .not (.v 9)))) .done
@[simp] def W62_8 := @Pl.wpe _ _ K62_8.eq_1
def K62_9 : C := .seq (.seq (.pl <| .st (.ext 5 6) <|
    .st (.act none (.als 5 none 2)) <|
    .st (.act none (.pget (some 6) (some 5) 2 0 none)) <|
    .st (.act none (.als 7 none 3)) <|
    .st (.act none (.pget (some 8) (some 7) 3 0 none)) <|
    .st (.act none (.ex (some 9) (.call fn_laws_eqIntS [.v 6, .v 8]))) K62_8) K62_7) K62_5
@[simp] def W62_9 := @C.wpe _ _ K62_9.eq_1
def B_laws_eqState : C := .seq (.pl <| .st (.ext 5 0) <|
    .st (.act none (.pnew 2 (.v 0) [])) <|
    .st (.act none (.pnew 3 (.v 1) [])) <|
    .st (.act none (.px (some 4) (.mv (.c (.bool false))))) .done) K62_9
@[simp] def WB_laws_eqState := @C.wpe _ _ B_laws_eqState.eq_1
def R_laws_eqState : FIR := ⟨B_laws_eqState, 5, [(4, none)]⟩
theorem IR_laws_eqState : cfun Tryz.prog H_laws_eqState Tryz.f62 = some R_laws_eqState := by kernel_rfl
theorem EN_laws_eqState {args : List Value} {h : Heap} {k : Value → Heap → Prop} (hargs : args.length = 2) (hw : B_laws_eqState.wp Tryz.prog (retQ [(4, none)] k) (env0 args 5) h) : CallE Tryz.prog fn_laws_eqState args h k := enter Tryz.func62 rfl IR_laws_eqState hargs hw

def H_laws_eqStateS : Hint := ⟨[(0, false), (1, false), (4, false), (5, false)], [[2]]⟩
def K25_1 : C := .seq (.pl <| .st (.ext 4 0) <|
    .st (.act none (.px (some 2) (.mv (.c (.bool true))))) .done) (.ret)
@[simp] def W25_1 := @C.wpe _ _ K25_1.eq_1
def K25_2 : C := .pl <| .st (.ext 4 2) <|
    .st (.act none (.px (some 4) (.mv (.v 3)))) <|
    .st (.act none (.px (some 5) (.bin .add (.v 4) (.c (.int .i64 1))))) <|
    .st (.act none (.px (some 3) (.mv (.v 5)))) .done
@[simp] def W25_2 := @C.wpe _ _ K25_2.eq_1
def K25_3 : C := .seq (.pl <| .st (.ext 4 0) <|
    .st (.act none (.px (some 2) (.mv (.c (.bool false))))) .done) (.ret)
@[simp] def W25_3 := @C.wpe _ _ K25_3.eq_1
def K25_4 : C := .cond 4 (.v 13) K25_3 (.skip)
@[simp] def W25_4 := @C.wpe _ _ K25_4.eq_1
def K25_5 : Pl := .st (.act none (.px (some 13) (.un .not (.v 12)))) .done
@[simp] def W25_5 := @Pl.wpe _ _ K25_5.eq_1
def K25_6 : C := .seq (.block 1 (.seq (.pl <| .st (.ext 4 10) <|
    .st (.act none (.px (some 4) (.mv (.v 0)))) <|
    .st (.act none (.px (some 5) (.mv (.v 3)))) <|
    .st (.act none (.px (some 6) (.ia 2 (.v 4) (.v 5)))) <|
    .st (.act none (.ld (some 7) (.v 6) (some 2))) <|
    .st (.act none (.px (some 8) (.mv (.v 1)))) <|
    .st (.act none (.px (some 9) (.mv (.v 3)))) <|
    .st (.act none (.px (some 10) (.ia 2 (.v 8) (.v 9)))) <|
    .st (.act none (.ld (some 11) (.v 10) (some 2))) <|
    .st (.act none (.ex (some 12) (.call fn_laws_eqState [.v 7, .v 11]))) K25_5) K25_4)) K25_2
@[simp] def W25_6 := @C.wpe _ _ K25_6.eq_1
def K25_7 : C := .cond 4 (.v 7) (.skip) (.exit 0)
@[simp] def W25_7 := @C.wpe _ _ K25_7.eq_1
def K25_8 : C := .seq (.seq (.pl <| .st (.ext 4 4) <|
    .st (.act none (.px (some 4) (.mv (.v 3)))) <|
    .st (.act none (.px (some 5) (.mv (.v 0)))) <|
    .st (.act none (.px (some 6) (.lenV (.v 5)))) <|
    .st (.act none (.px (some 7) (.bin .lss (.v 4) (.v 6)))) .done) K25_7) K25_6
@[simp] def W25_8 := @C.wpe _ _ K25_8.eq_1
def K25_9 : C := .block 0 (.loop 4 [2] K25_8)
@[simp] def W25_9 := @C.wpe _ _ K25_9.eq_1
def K25_10 : C := .seq (.seq (.pl <| .st (.ext 4 0) <|
    .st (.act none (.px (some 3) (.mv (.c (.int .i64 0))))) .done) K25_9) K25_1
@[simp] def W25_10 := @C.wpe _ _ K25_10.eq_1
def K25_11 : C := .seq (.pl <| .st (.ext 4 0) <|
    .st (.act none (.px (some 2) (.mv (.c (.bool false))))) .done) (.ret)
@[simp] def W25_11 := @C.wpe _ _ K25_11.eq_1
def K25_12 : C := .cond 4 (.v 8) K25_11 (.skip)
@[simp] def W25_12 := @C.wpe _ _ K25_12.eq_1
def K25_13 : C := .seq (.seq (.pl <| .st (.ext 4 5) <|
    .st (.act none (.px (some 4) (.mv (.v 0)))) <|
    .st (.act none (.px (some 5) (.lenV (.v 4)))) <|
    .st (.act none (.px (some 6) (.mv (.v 1)))) <|
    .st (.act none (.px (some 7) (.lenV (.v 6)))) <|
    .st (.act none (.px (some 8) (.bin .neq (.v 5) (.v 7)))) .done) K25_12) K25_10
@[simp] def W25_13 := @C.wpe _ _ K25_13.eq_1
def B_laws_eqStateS : C := .seq (.pl <| .st (.ext 4 0) <|
    .st (.act none (.px (some 2) (.mv (.c (.bool false))))) .done) K25_13
@[simp] def WB_laws_eqStateS := @C.wpe _ _ B_laws_eqStateS.eq_1
def R_laws_eqStateS : FIR := ⟨B_laws_eqStateS, 4, [(2, none)]⟩
theorem IR_laws_eqStateS : cfun Tryz.prog H_laws_eqStateS Tryz.f25 = some R_laws_eqStateS := by kernel_rfl
theorem EN_laws_eqStateS {args : List Value} {h : Heap} {k : Value → Heap → Prop} (hargs : args.length = 2) (hw : B_laws_eqStateS.wp Tryz.prog (retQ [(2, none)] k) (env0 args 4) h) : CallE Tryz.prog fn_laws_eqStateS args h k := enter Tryz.func25 rfl IR_laws_eqStateS hargs hw

def H_laws_heldIntS : Hint := ⟨[(0, false), (1, false), (4, false), (5, false)], [[2]]⟩
def K65_1 : C := .seq (.pl <| .st (.ext 4 1) <|
    .st (.act none (.px (some 4) (.mv (.v 1)))) <|
    .st (.act none (.px (some 2) (.mv (.v 4)))) .done) (.ret)
@[simp] def W65_1 := @C.wpe _ _ K65_1.eq_1
def K65_2 : C := .pl <| .st (.ext 4 2) <|
    .st (.act none (.px (some 4) (.mv (.v 3)))) <|
    .st (.act none (.px (some 5) (.bin .add (.v 4) (.c (.int .i64 1))))) <|
    .st (.act none (.px (some 3) (.mv (.v 5)))) .done
@[simp] def W65_2 := @C.wpe _ _ K65_2.eq_1
def K65_3 : C := .pl <| .st (.ext 4 2) <|
    .st (.act none (.px (some 4) (.mv (.v 1)))) <|
    .st (.act none (.px (some 5) (.bin .add (.v 4) (.c (.int .i64 1))))) <|
    .st (.act none (.px (some 1) (.mv (.v 5)))) .done
@[simp] def W65_3 := @C.wpe _ _ K65_3.eq_1
def K65_4 : C := .seq (.pl <| .st (.ext 4 0) <|
    .st (.act none (.px (some 2) (.mv (.c (.int .i64 (-1)))))) .done) (.ret)
@[simp] def W65_4 := @C.wpe _ _ K65_4.eq_1
def K65_5 : C := .cond 4 (.v 9) K65_4 (.skip)
@[simp] def W65_5 := @C.wpe _ _ K65_5.eq_1
def K65_6 : C := .seq (.block 1 (.seq (.seq (.pl <| .st (.ext 4 6) <|
    .st (.act none (.px (some 4) (.mv (.v 0)))) <|
    .st (.act none (.px (some 5) (.mv (.v 3)))) <|
    .st (.act none (.px (some 6) (.ia 1 (.v 4) (.v 5)))) <|
    .st (.act none (.ld (some 7) (.v 6) none)) <|
    .st (.act none (.px (some 8) (.mv (.v 1)))) <|
    .st (.act none (.px (some 9) (.bin .neq (.v 7) (.v 8)))) .done) K65_5) K65_3)) K65_2
@[simp] def W65_6 := @C.wpe _ _ K65_6.eq_1
def K65_7 : C := .cond 4 (.v 7) (.skip) (.exit 0)
@[simp] def W65_7 := @C.wpe _ _ K65_7.eq_1
def K65_8 : C := .seq (.seq (.pl <| .st (.ext 4 4) <|
    .st (.act none (.px (some 4) (.mv (.v 3)))) <|
    .st (.act none (.px (some 5) (.mv (.v 0)))) <|
    .st (.act none (.px (some 6) (.lenV (.v 5)))) <|
    .st (.act none (.px (some 7) (.bin .lss (.v 4) (.v 6)))) .done) K65_7) K65_6
@[simp] def W65_8 := @C.wpe _ _ K65_8.eq_1
def K65_9 : C := .block 0 (.loop 4 [2] K65_8)
@[simp] def W65_9 := @C.wpe _ _ K65_9.eq_1
def K65_10 : C := .seq (.seq (.pl <| .st (.ext 4 0) <|
    .st (.act none (.px (some 3) (.mv (.c (.int .i64 0))))) .done) K65_9) K65_1
@[simp] def W65_10 := @C.wpe _ _ K65_10.eq_1
def B_laws_heldIntS : C := .seq (.pl <| .st (.ext 4 0) <|
    .st (.act none (.px (some 2) (.mv (.c (.int .i64 0))))) .done) K65_10
@[simp] def WB_laws_heldIntS := @C.wpe _ _ B_laws_heldIntS.eq_1
def R_laws_heldIntS : FIR := ⟨B_laws_heldIntS, 4, [(2, none)]⟩
theorem IR_laws_heldIntS : cfun Tryz.prog H_laws_heldIntS Tryz.f65 = some R_laws_heldIntS := by kernel_rfl
theorem EN_laws_heldIntS {args : List Value} {h : Heap} {k : Value → Heap → Prop} (hargs : args.length = 2) (hw : B_laws_heldIntS.wp Tryz.prog (retQ [(2, none)] k) (env0 args 4) h) : CallE Tryz.prog fn_laws_heldIntS args h k := enter Tryz.func65 rfl IR_laws_heldIntS hargs hw

def H_laws_heldStateS : Hint := ⟨[(0, false), (1, false), (4, false), (5, false)], [[2]]⟩
def K29_1 : C := .seq (.pl <| .st (.ext 4 1) <|
    .st (.act none (.px (some 4) (.mv (.v 1)))) <|
    .st (.act none (.px (some 2) (.mv (.v 4)))) .done) (.ret)
@[simp] def W29_1 := @C.wpe _ _ K29_1.eq_1
def K29_2 : C := .pl <| .st (.ext 4 2) <|
    .st (.act none (.px (some 4) (.mv (.v 3)))) <|
    .st (.act none (.px (some 5) (.bin .add (.v 4) (.c (.int .i64 1))))) <|
    .st (.act none (.px (some 3) (.mv (.v 5)))) .done
@[simp] def W29_2 := @C.wpe _ _ K29_2.eq_1
def K29_3 : C := .seq (.pl <| .st (.ext 4 0) <|
    .st (.act none (.px (some 2) (.mv (.c (.int .i64 (-1)))))) .done) (.ret)
@[simp] def W29_3 := @C.wpe _ _ K29_3.eq_1
def K29_4 : C := .cond 4 (.v 5) K29_3 (.skip)
@[simp] def W29_4 := @C.wpe _ _ K29_4.eq_1
def K29_5 : C := .seq (.pl <| .st (.ext 4 2) <|
    .st (.act none (.px (some 4) (.mv (.v 1)))) <|
    .st (.act none (.px (some 5) (.bin .lss (.v 4) (.c (.int .i64 0))))) .done) K29_4
@[simp] def W29_5 := @C.wpe _ _ K29_5.eq_1
def K29_6 : Pl := .st (.act none (.px (some 1) (.mv (.v 10)))) .done
@[simp] def W29_6 := @Pl.wpe _ _ K29_6.eq_1
def K29_7 : C := .seq (.pl <| .st (.ext 4 7) <|
    .st (.act none (.px (some 4) (.mv (.v 0)))) <|
    .st (.act none (.px (some 5) (.mv (.v 3)))) <|
    .st (.act none (.px (some 6) (.ia 2 (.v 4) (.v 5)))) <|
    .st (.act none (.px (some 7) (.fa 1 (.v 6)))) <|
    .st (.act none (.ld (some 8) (.v 7) none)) <|
    .st (.act none (.px (some 9) (.mv (.v 1)))) <|
    .st (.act none (.ex (some 10) (.call fn_laws_heldIntS [.v 8, .v 9]))) K29_6) K29_5
@[simp] def W29_7 := @C.wpe _ _ K29_7.eq_1
def K29_8 : C := .seq (.pl <| .st (.ext 4 0) <|
    .st (.act none (.px (some 2) (.mv (.c (.int .i64 (-1)))))) .done) (.ret)
@[simp] def W29_8 := @C.wpe _ _ K29_8.eq_1
def K29_9 : C := .cond 4 (.v 5) K29_8 (.skip)
@[simp] def W29_9 := @C.wpe _ _ K29_9.eq_1
def K29_10 : C := .seq (.seq (.pl <| .st (.ext 4 2) <|
    .st (.act none (.px (some 4) (.mv (.v 1)))) <|
    .st (.act none (.px (some 5) (.bin .lss (.v 4) (.c (.int .i64 0))))) .done) K29_9) K29_7
@[simp] def W29_10 := @C.wpe _ _ K29_10.eq_1
def K29_11 : Pl := .st (.act none (.px (some 1) (.mv (.v 10)))) .done
@[simp] def W29_11 := @Pl.wpe _ _ K29_11.eq_1
def K29_12 : C := .seq (.block 1 (.seq (.pl <| .st (.ext 4 7) <|
    .st (.act none (.px (some 4) (.mv (.v 0)))) <|
    .st (.act none (.px (some 5) (.mv (.v 3)))) <|
    .st (.act none (.px (some 6) (.ia 2 (.v 4) (.v 5)))) <|
    .st (.act none (.px (some 7) (.fa 0 (.v 6)))) <|
    .st (.act none (.ld (some 8) (.v 7) none)) <|
    .st (.act none (.px (some 9) (.mv (.v 1)))) <|
    .st (.act none (.ex (some 10) (.call fn_laws_heldIntS [.v 8, .v 9]))) K29_11) K29_10)) K29_2
@[simp] def W29_12 := @C.wpe _ _ K29_12.eq_1
def K29_13 : C := .cond 4 (.v 7) (.skip) (.exit 0)
@[simp] def W29_13 := @C.wpe _ _ K29_13.eq_1
def K29_14 : C := .seq (.seq (.pl <| .st (.ext 4 4) <|
    .st (.act none (.px (some 4) (.mv (.v 3)))) <|
    .st (.act none (.px (some 5) (.mv (.v 0)))) <|
    .st (.act none (.px (some 6) (.lenV (.v 5)))) <|
    .st (.act none (.px (some 7) (.bin .lss (.v 4) (.v 6)))) .done) K29_13) K29_12
@[simp] def W29_14 := @C.wpe _ _ K29_14.eq_1
def K29_15 : C := .block 0 (.loop 4 [2] K29_14)
@[simp] def W29_15 := @C.wpe _ _ K29_15.eq_1
def K29_16 : C := .seq (.seq (.pl <| .st (.ext 4 0) <|
    .st (.act none (.px (some 3) (.mv (.c (.int .i64 0))))) .done) K29_15) K29_1
@[simp] def W29_16 := @C.wpe _ _ K29_16.eq_1
def B_laws_heldStateS : C := .seq (.pl <| .st (.ext 4 0) <|
    .st (.act none (.px (some 2) (.mv (.c (.int .i64 0))))) .done) K29_16
@[simp] def WB_laws_heldStateS := @C.wpe _ _ B_laws_heldStateS.eq_1
def R_laws_heldStateS : FIR := ⟨B_laws_heldStateS, 4, [(2, none)]⟩
theorem IR_laws_heldStateS : cfun Tryz.prog H_laws_heldStateS Tryz.f29 = some R_laws_heldStateS := by kernel_rfl
theorem EN_laws_heldStateS {args : List Value} {h : Heap} {k : Value → Heap → Prop} (hargs : args.length = 2) (hw : B_laws_heldStateS.wp Tryz.prog (retQ [(2, none)] k) (env0 args 4) h) : CallE Tryz.prog fn_laws_heldStateS args h k := enter Tryz.func29 rfl IR_laws_heldStateS hargs hw

def H_laws_markStateS : Hint := ⟨[(0, false), (1, false), (4, false), (5, false)], [[2]]⟩
def K28_1 : C := .seq (.pl <| .st (.ext 4 1) <|
    .st (.act none (.px (some 4) (.mv (.v 1)))) <|
    .st (.act none (.px (some 2) (.mv (.v 4)))) .done) (.ret)
@[simp] def W28_1 := @C.wpe _ _ K28_1.eq_1
def K28_2 : C := .pl <| .st (.ext 4 2) <|
    .st (.act none (.px (some 4) (.mv (.v 3)))) <|
    .st (.act none (.px (some 5) (.bin .add (.v 4) (.c (.int .i64 1))))) <|
    .st (.act none (.px (some 3) (.mv (.v 5)))) .done
@[simp] def W28_2 := @C.wpe _ _ K28_2.eq_1
def K28_3 : Pl := .st (.act none (.px (some 1) (.mv (.v 10)))) .done
@[simp] def W28_3 := @Pl.wpe _ _ K28_3.eq_1
def K28_4 : C := .pl <| .st (.ext 4 7) <|
    .st (.act none (.px (some 4) (.mv (.v 0)))) <|
    .st (.act none (.px (some 5) (.mv (.v 3)))) <|
    .st (.act none (.px (some 6) (.ia 2 (.v 4) (.v 5)))) <|
    .st (.act none (.px (some 7) (.fa 1 (.v 6)))) <|
    .st (.act none (.ld (some 8) (.v 7) none)) <|
    .st (.act none (.px (some 9) (.mv (.v 1)))) <|
    .st (.act none (.ex (some 10) (.call fn_laws_markIntS [.v 8, .v 9]))) K28_3
@[simp] def W28_4 := @C.wpe _ _ K28_4.eq_1
def K28_5 : Pl := .st (.act none (.px (some 1) (.mv (.v 10)))) .done
@[simp] def W28_5 := @Pl.wpe _ _ K28_5.eq_1
def K28_6 : C := .seq (.block 1 (.seq (.pl <| .st (.ext 4 7) <|
    .st (.act none (.px (some 4) (.mv (.v 0)))) <|
    .st (.act none (.px (some 5) (.mv (.v 3)))) <|
    .st (.act none (.px (some 6) (.ia 2 (.v 4) (.v 5)))) <|
    .st (.act none (.px (some 7) (.fa 0 (.v 6)))) <|
    .st (.act none (.ld (some 8) (.v 7) none)) <|
    .st (.act none (.px (some 9) (.mv (.v 1)))) <|
    .st (.act none (.ex (some 10) (.call fn_laws_markIntS [.v 8, .v 9]))) K28_5) K28_4)) K28_2
@[simp] def W28_6 := @C.wpe _ _ K28_6.eq_1
def K28_7 : C := .cond 4 (.v 7) (.skip) (.exit 0)
@[simp] def W28_7 := @C.wpe _ _ K28_7.eq_1
def K28_8 : C := .seq (.seq (.pl <| .st (.ext 4 4) <|
    .st (.act none (.px (some 4) (.mv (.v 3)))) <|
    .st (.act none (.px (some 5) (.mv (.v 0)))) <|
    .st (.act none (.px (some 6) (.lenV (.v 5)))) <|
    .st (.act none (.px (some 7) (.bin .lss (.v 4) (.v 6)))) .done) K28_7) K28_6
@[simp] def W28_8 := @C.wpe _ _ K28_8.eq_1
def K28_9 : C := .block 0 (.loop 4 [2] K28_8)
@[simp] def W28_9 := @C.wpe _ _ K28_9.eq_1
def K28_10 : C := .seq (.seq (.pl <| .st (.ext 4 0) <|
    .st (.act none (.px (some 3) (.mv (.c (.int .i64 0))))) .done) K28_9) K28_1
@[simp] def W28_10 := @C.wpe _ _ K28_10.eq_1
def B_laws_markStateS : C := .seq (.pl <| .st (.ext 4 0) <|
    .st (.act none (.px (some 2) (.mv (.c (.int .i64 0))))) .done) K28_10
@[simp] def WB_laws_markStateS := @C.wpe _ _ B_laws_markStateS.eq_1
def R_laws_markStateS : FIR := ⟨B_laws_markStateS, 4, [(2, none)]⟩
theorem IR_laws_markStateS : cfun Tryz.prog H_laws_markStateS Tryz.f28 = some R_laws_markStateS := by kernel_rfl
theorem EN_laws_markStateS {args : List Value} {h : Heap} {k : Value → Heap → Prop} (hargs : args.length = 2) (hw : B_laws_markStateS.wp Tryz.prog (retQ [(2, none)] k) (env0 args 4) h) : CallE Tryz.prog fn_laws_markStateS args h k := enter Tryz.func28 rfl IR_laws_markStateS hargs hw


end Go.Proofs.YthgimpheeemooaaGreat

/-
  Bodies of functions in the small language, as a program printed them, and that each is what the translation gives.
-/
namespace Go.Proofs.YthgimpheeemooaaGreat
open Go
set_option linter.all false
set_option linter.defProp false
set_option maxRecDepth 1000000

end Go.Proofs.YthgimpheeemooaaGreat

/-
  Whether the marks in lists of numbers are still held.
-/
namespace Go.Proofs.YthgimpheeemooaaGreat
open Go
set_option linter.all false
set_option linter.unusedVariables false
set_option linter.unusedSimpArgs false
set_option linter.defProp false
set_option maxRecDepth 1000000

theorem c_heldIntS {h : Heap} {v : Value} {x : List Int} {k0 : Int} (Rv : Rep h v x) (hk0 : 0 ≤ k0) (hk1 : k0 + Mk.cnt x < 4611686018427387904) : CallE Tryz.prog fn_laws_heldIntS [v, .int .i64 k0] h (fun u h' => h' = h ∧ u = .int .i64 (if Mk.wr k0 x = x then k0 + Mk.cnt x else -1)) := by
  refine CallE.gen fun k hk => EN_laws_heldIntS rfl ?_
  have hL := Rv.lt
  have hcx : Mk.cnt x = cntL x := rfl
  simp -implicitDefEqProofs (disch := first | omega | (simp only [List.length_set, List.length_replicate, List.length_append, List.length_map, List.length_take, List.length_cons, List.length_nil]; omega)) [wrap64]
  refine wp_count x.length (fun i e h' => h' = h ∧ e = [some v, some (.int .i64 (k0 + cntL (x.take i))), none, some (.int .i64 i)] ∧ (mkL k0 x).take i = x.take i) ⟨rfl, by simp [cntL], rfl⟩ ?_
  rintro J i _ _ hJ hi ⟨rfl, rfl, M⟩
  simp -implicitDefEqProofs (disch := first | omega | (simp only [List.length_set, List.length_replicate, List.length_append, List.length_map, List.length_take, List.length_cons, List.length_nil]; omega)) [wrap64, Rv.len]
  refine IteW.mk (fun hlt => ?_) (fun hge => ?_)
  · have hlx : i < x.length := by omega
    have hb := cntL_le x (i + 1)
    have hc := cntL_take x i hlx
    have hg := mkL_get k0 x i hlx
    have h1 : Mk.cnt x[i] = 1 := rfl
    obtain ⟨q, hq⟩ : ∃ q, q = k0 + cntL (x.take i) := ⟨_, rfl⟩
    rw [← hq] at hg ⊢
    simp -implicitDefEqProofs (disch := first | omega | (simp only [List.length_set, List.length_replicate, List.length_append, List.length_map, List.length_take, List.length_cons, List.length_nil]; omega)) [wrap64, Rv.I]
    refine IteW.mk (fun hq2 => ?_) (fun hq2 => ?_)
    · simp -implicitDefEqProofs (disch := first | omega | (simp only [List.length_set, List.length_replicate, List.length_append, List.length_map, List.length_take, List.length_cons, List.length_nil]; omega)) [wrap64]
      refine hJ _ _ hlx ⟨rfl, by rw [hc, h1, hq]; push_cast; simp [Int.add_assoc], take_step M (by simpa using hlx) hlx ?_⟩
      rw [hg]
      exact hq2.symm
    · simp -implicitDefEqProofs (disch := first | omega | (simp only [List.length_set, List.length_replicate, List.length_append, List.length_map, List.length_take, List.length_cons, List.length_nil]; omega)) [wrap64]
      refine RetK.keep (hk _ _ ⟨rfl, ?_⟩)
      rw [if_neg]
      intro he
      have he2 : mkL k0 x = x := he
      simp only [he2] at hg
      exact hq2 hg
  · simp -implicitDefEqProofs (disch := first | omega | (simp only [List.length_set, List.length_replicate, List.length_append, List.length_map, List.length_take, List.length_cons, List.length_nil]; omega)) [wrap64]
    have h2 : x.take i = x := List.take_of_length_le (by omega)
    rw [List.take_of_length_le (by simp; omega), h2] at M
    exact RetK.keep (hk _ _ ⟨rfl, by rw [h2]; exact congrArg _ (if_pos M).symm⟩)


end Go.Proofs.YthgimpheeemooaaGreat

/-
  What the helpers of the laws do: copying, counting, comparing, marking. Printed by a program.
-/
namespace Go.Proofs.YthgimpheeemooaaGreat
open Go
set_option linter.all false
set_option linter.unusedVariables false
set_option linter.unusedSimpArgs false
set_option linter.defProp false
set_option maxRecDepth 1000000

def Sta.zero : Sta := ⟨[], []⟩
theorem own_zeroSt : Ty.own Heap.nil [.slice none 0 0, .slice none 0 0] Sta.zero := ⟨[_], [_], Heap.nil, Heap.nil, rfl, by simp, by simp, own_nils, own_nils⟩

theorem c_eqState {h : Heap} {a b : Value} {x y : Sta} (Ra : Rep h a x) (Rb : Rep h b y) : CallE Tryz.prog fn_laws_eqState [a, b] h (fun v h' => h' = h ∧ v = .bool (decide (x = y))) := by
  obtain ⟨v1, v2, rfl, R1, R2⟩ := Rep_Sta.1 Ra
  obtain ⟨w1, w2, rfl, S1, S2⟩ := Rep_Sta.1 Rb
  refine CallE.gen fun k hk => EN_laws_eqState rfl ?_
  simp -implicitDefEqProofs (disch := first | omega | (simp only [List.length_set, List.length_replicate, List.length_append, List.length_map, List.length_take, List.length_cons, List.length_nil]; omega)) [wrap64]
  refine (c_eqIntS R1 S1).go ?_
  rintro _ _ ⟨rfl, rfl⟩
  simp -implicitDefEqProofs (disch := first | omega | (simp only [List.length_set, List.length_replicate, List.length_append, List.length_map, List.length_take, List.length_cons, List.length_nil]; omega)) [wrap64]
  refine IteW.mkr (fun h1 => ?_) (fun h1 => ?_)
  · simp -implicitDefEqProofs (disch := first | omega | (simp only [List.length_set, List.length_replicate, List.length_append, List.length_map, List.length_take, List.length_cons, List.length_nil]; omega)) [wrap64]
    exact RetK.keep (hk _ _ ⟨rfl, by simp_all [Sta.ext_iff']⟩)
  simp -implicitDefEqProofs (disch := first | omega | (simp only [List.length_set, List.length_replicate, List.length_append, List.length_map, List.length_take, List.length_cons, List.length_nil]; omega)) [wrap64]
  refine (c_eqIntS R2 S2).go ?_
  rintro _ _ ⟨rfl, rfl⟩
  simp -implicitDefEqProofs (disch := first | omega | (simp only [List.length_set, List.length_replicate, List.length_append, List.length_map, List.length_take, List.length_cons, List.length_nil]; omega)) [wrap64]
  refine IteW.mkr (fun h2 => ?_) (fun h2 => ?_)
  · simp -implicitDefEqProofs (disch := first | omega | (simp only [List.length_set, List.length_replicate, List.length_append, List.length_map, List.length_take, List.length_cons, List.length_nil]; omega)) [wrap64]
    exact RetK.keep (hk _ _ ⟨rfl, by simp_all [Sta.ext_iff']⟩)
  try simp -implicitDefEqProofs (disch := first | omega | (simp only [List.length_set, List.length_replicate, List.length_append, List.length_map, List.length_take, List.length_cons, List.length_nil]; omega)) [wrap64]
  exact RetK.keep (hk _ _ ⟨rfl, by simp_all [Sta.ext_iff']⟩)

theorem c_eqStateS {h : Heap} {a b : Value} {x y : List Sta} (Ra : Rep h a x) (Rb : Rep h b y) : CallE Tryz.prog fn_laws_eqStateS [a, b] h (fun v h' => h' = h ∧ v = .bool (decide (x = y))) := by
  refine CallE.gen fun k hk => EN_laws_eqStateS rfl ?_
  have hL := Ra.lt
  simp -implicitDefEqProofs (disch := first | omega | (simp only [List.length_set, List.length_replicate, List.length_append, List.length_map, List.length_take, List.length_cons, List.length_nil]; omega)) [wrap64, Ra.len, Rb.len]
  refine IteW.mkr (fun hne => ?_) (fun heq => ?_)
  · simp -implicitDefEqProofs (disch := first | omega | (simp only [List.length_set, List.length_replicate, List.length_append, List.length_map, List.length_take, List.length_cons, List.length_nil]; omega)) [wrap64]
    exact RetK.keep (hk _ _ ⟨rfl, by simp; rintro rfl; exact hne rfl⟩)
  simp -implicitDefEqProofs (disch := first | omega | (simp only [List.length_set, List.length_replicate, List.length_append, List.length_map, List.length_take, List.length_cons, List.length_nil]; omega)) [wrap64]
  refine wp_count x.length (fun i e h' => h' = h ∧ e = [some a, some b, none, some (.int .i64 i)] ∧ x.take i = y.take i) ⟨rfl, rfl, rfl⟩ ?_
  rintro J i _ _ hJ hi ⟨rfl, rfl, hxy⟩
  simp -implicitDefEqProofs (disch := first | omega | (simp only [List.length_set, List.length_replicate, List.length_append, List.length_map, List.length_take, List.length_cons, List.length_nil]; omega)) [wrap64, Ra.len]
  refine IteW.mk (fun hlt => ?_) (fun hge => ?_)
  · have hly : i < y.length := by omega
    have hlx : i < x.length := by omega
    obtain ⟨u, hu, Ru⟩ := Ra.ld hlx
    obtain ⟨w, hw, Rw⟩ := Rb.ld hly
    change hload _ (some (elp 2 a i)) (some 2) = some u at hu
    change hload _ (some (elp 2 b i)) (some 2) = some w at hw
    simp -implicitDefEqProofs (disch := first | omega | (simp only [List.length_set, List.length_replicate, List.length_append, List.length_map, List.length_take, List.length_cons, List.length_nil]; omega)) [wrap64, Ra.X (n := 2) rfl, Rb.X (n := 2) rfl, hu, hw]
    refine (c_eqState Ru Rw).go ?_
    rintro _ _ ⟨rfl, rfl⟩
    simp -implicitDefEqProofs (disch := first | omega | (simp only [List.length_set, List.length_replicate, List.length_append, List.length_map, List.length_take, List.length_cons, List.length_nil]; omega)) [wrap64]
    refine IteW.mkr (fun hne => ?_) (fun heq => ?_)
    · simp -implicitDefEqProofs (disch := first | omega | (simp only [List.length_set, List.length_replicate, List.length_append, List.length_map, List.length_take, List.length_cons, List.length_nil]; omega)) [wrap64]
      exact RetK.keep (hk _ _ ⟨rfl, by simp; rintro rfl; exact hne rfl⟩)
    simp -implicitDefEqProofs (disch := first | omega | (simp only [List.length_set, List.length_replicate, List.length_append, List.length_map, List.length_take, List.length_cons, List.length_nil]; omega)) [wrap64]
    exact hJ _ _ hlx ⟨rfl, rfl, take_step hxy hlx hly heq⟩
  · simp -implicitDefEqProofs (disch := first | omega | (simp only [List.length_set, List.length_replicate, List.length_append, List.length_map, List.length_take, List.length_cons, List.length_nil]; omega)) [wrap64]
    refine RetK.keep (hk _ _ ⟨rfl, ?_⟩)
    simp
    rw [List.take_of_length_le (by omega), List.take_of_length_le (by omega)] at hxy
    exact hxy

theorem cnt_Sta (s : Sta) : Mk.cnt s = Mk.cnt s.locs + Mk.cnt s.vals := rfl
theorem c_markStateS {g h : Heap} {Γ : List HP} {v : Value} {x : List Sta} {k0 : Int} (H : HS g (ow v x :: Γ) h) (hk0 : 0 ≤ k0) (hk1 : k0 + Mk.cnt x < 4611686018427387904) :
    CallE Tryz.prog fn_laws_markStateS [v, .int .i64 k0] h (fun u h' => HS g (ow v (Mk.wr k0 x) :: Γ) h' ∧ u = .int .i64 (k0 + Mk.cnt x)) := by
  refine CallE.gen fun k hk => EN_laws_markStateS rfl ?_
  simp -implicitDefEqProofs (disch := first | omega | (simp only [List.length_set, List.length_replicate, List.length_append, List.length_map, List.length_take, List.length_cons, List.length_nil]; omega)) [wrap64]
  refine wp_count x.length (fun i e h' => e = [some v, some (.int .i64 (k0 + cntL (x.take i))), none, some (.int .i64 i)] ∧ ∃ y, HS g (ow v y :: Γ) h' ∧ Mkd k0 x y i) ⟨by simp [cntL], x, H, Mkd.zero⟩ ?_
  rintro J i _ h2 hJ hi ⟨rfl, y, H, M⟩
  have hl := M.len
  have hL := H.rep.lt
  have hcx : Mk.cnt x = cntL x := rfl
  simp -implicitDefEqProofs (disch := first | omega | (simp only [List.length_set, List.length_replicate, List.length_append, List.length_map, List.length_take, List.length_cons, List.length_nil]; omega)) [wrap64, H.rep.len]
  refine IteW.mk (fun hlt => ?_) (fun hge => ?_)
  · have hlx : i < x.length := by omega
    have hly : i < y.length := by omega
    have hb := cntL_le x (i + 1)
    have hc := cntL_take x i hlx
    have hce := cnt_Sta x[i]
    have M' := M.step hlx
    obtain ⟨q, hq⟩ : ∃ q, q = k0 + cntL (x.take i) := ⟨_, rfl⟩
    obtain ⟨u, hu, H0⟩ := HS.take H hly
    rw [M.get hlx] at H0
    obtain ⟨w1, w2, rfl, H1⟩ := H0.unSta
    have hia := HS.holeia H1.sw2 (n := 2) (kd := .i64) rfl hly
    have hP := hld_parts (HS.holeP H1.sw2 (n := 2) rfl rfl)
    rw [← hq] at M' ⊢
    simp -implicitDefEqProofs (disch := first | omega | (simp only [List.length_set, List.length_replicate, List.length_append, List.length_map, List.length_take, List.length_cons, List.length_nil]; omega)) [wrap64, hia, hP.1, hP.2.2.1]
    refine (c_markIntS (x := x[i].locs) (k0 := q) H1 (by omega) (by omega)).go ?_
    rintro _ h3 ⟨H1, rfl⟩
    have hP := hld_parts (HS.holeP H1.sw2 (n := 2) rfl rfl)
    simp -implicitDefEqProofs (disch := first | omega | (simp only [List.length_set, List.length_replicate, List.length_append, List.length_map, List.length_take, List.length_cons, List.length_nil]; omega)) [wrap64, hia, hP.1, hP.2.2.1]
    refine (c_markIntS (x := x[i].vals) (k0 := q + (Mk.cnt x[i].locs : Nat)) H1.sw1 (by omega) (by omega)).go ?_
    rintro _ h5 ⟨H2, rfl⟩
    have H := HS.put (HS.mkSta (a := ⟨Mk.wr q x[i].locs, Mk.wr (q + (Mk.cnt x[i].locs : Nat)) x[i].vals⟩) H2.sw1)
    simp -implicitDefEqProofs (disch := first | omega | (simp only [List.length_set, List.length_replicate, List.length_append, List.length_map, List.length_take, List.length_cons, List.length_nil]; omega)) [wrap64]
    refine hJ _ _ hlx ⟨?_, _, H, ?_⟩
    · simp only [List.cons.injEq, Option.some.injEq, Value.int.injEq, true_and, and_true]
      refine ⟨?_, by simp⟩
      rw [hc]; push_cast; omega
    · exact M'
  · simp -implicitDefEqProofs (disch := first | omega | (simp only [List.length_set, List.length_replicate, List.length_append, List.length_map, List.length_take, List.length_cons, List.length_nil]; omega)) [wrap64]
    have h2 : x.take i = x := List.take_of_length_le (by omega)
    refine RetK.keep (hk _ _ ⟨?_, by rw [h2]; rfl⟩)
    have h3 : y = Mk.wr k0 x := M.all (by omega)
    rw [← h3]; exact H
end Go.Proofs.YthgimpheeemooaaGreat

/-
  How much states and graphs hold.
-/
namespace Go.Proofs.YthgimpheeemooaaGreat
open Go
set_option linter.all false
set_option linter.unusedVariables false
set_option linter.unusedSimpArgs false
set_option linter.defProp false
set_option maxRecDepth 1000000

end Go.Proofs.YthgimpheeemooaaGreat

/-
  Instances of functions over slices: copies, and whether some element meets a condition. Printed by a program.
-/
namespace Go.Proofs.YthgimpheeemooaaGreat
open Go
set_option linter.all false
set_option linter.unusedVariables false
set_option linter.unusedSimpArgs false
set_option linter.defProp false
set_option maxRecDepth 1000000

theorem c_Clone_int {h : Heap} {a : Value} {x : List (Int)} (Ra : Rep h a x) (hs : x.length ≤ 1073741824) : CallE Tryz.prog fn_slices_Clone_S_int_int [a] h (fun v h' => HS h [ow v x] h') := by
  refine CallE.gen fun k hk => EN_slices_Clone_S_int_int rfl ?_
  obtain ⟨b, hb, hb2⟩ := Ra.isNil
  simp -implicitDefEqProofs (disch := first | omega | (simp only [List.length_set, List.length_replicate, List.length_append, List.length_map, List.length_take, List.length_cons, List.length_nil]; omega)) [wrap64, hb]
  refine IteW.mk (fun h1 => ?_) (fun h1 => ?_)
  · simp -implicitDefEqProofs (disch := first | omega | (simp only [List.length_set, List.length_replicate, List.length_append, List.length_map, List.length_take, List.length_cons, List.length_nil]; omega)) [wrap64]
    have h2 : x = [] := hb2 h1
    subst h2
    exact RetK.keep (hk _ _ HS.init.nil_ow)
  · simp -implicitDefEqProofs (disch := first | omega | (simp only [List.length_set, List.length_replicate, List.length_append, List.length_map, List.length_take, List.length_cons, List.length_nil]; omega)) [wrap64]
    refine HS.init.appPL (α := Int) (l2 := x) (u := a) rfl rfl Ra rfl rfl (by omega) fun v h1 H => ?_
    simp -implicitDefEqProofs (disch := first | omega | (simp only [List.length_set, List.length_replicate, List.length_append, List.length_map, List.length_take, List.length_cons, List.length_nil]; omega)) [wrap64]
    exact RetK.keep (hk _ _ H)

theorem c_Clip_int {g h : Heap} {Γ : List HP} {a : Value} {x : List (Int)} (H : HS g (ow a x :: Γ) h) : CallE Tryz.prog fn_slices_Clip_S_int_int [a] h (fun v h' => HS g (ow v x :: Γ) h') := by
  refine CallE.gen fun k hk => EN_slices_Clip_S_int_int rfl ?_
  obtain ⟨v', h1, h2⟩ := H.clip (esz := 1) (k := .i64)
  simp -implicitDefEqProofs (disch := first | omega | (simp only [List.length_set, List.length_replicate, List.length_append, List.length_map, List.length_take, List.length_cons, List.length_nil]; omega)) [wrap64, H.rep.I, h1]
  exact RetK.keep (hk _ _ h2)

theorem c_clone_int {h : Heap} {a : Value} {x : List (Int)} (Ra : Rep h a x) (hs : x.length ≤ 1073741824) : CallE Tryz.prog fn_impl_clone_int [a] h (fun v h' => HS h [ow v x] h') := by
  refine CallE.gen fun k hk => EN_impl_clone_int rfl ?_
  simp -implicitDefEqProofs (disch := first | omega | (simp only [List.length_set, List.length_replicate, List.length_append, List.length_map, List.length_take, List.length_cons, List.length_nil]; omega)) [wrap64]
  refine (c_Clone_int Ra hs).go ?_
  intro v h1 H
  simp -implicitDefEqProofs (disch := first | omega | (simp only [List.length_set, List.length_replicate, List.length_append, List.length_map, List.length_take, List.length_cons, List.length_nil]; omega)) [wrap64]
  refine (c_Clip_int H).go ?_
  intro v' h2 H
  simp -implicitDefEqProofs (disch := first | omega | (simp only [List.length_set, List.length_replicate, List.length_append, List.length_map, List.length_take, List.length_cons, List.length_nil]; omega)) [wrap64]
  exact RetK.keep (hk _ _ H)

end Go.Proofs.YthgimpheeemooaaGreat

/-
  States of systems; projections of states: by the program and by the reference.
-/
namespace Go.Proofs.YthgimpheeemooaaGreat
open Go
set_option linter.all false
set_option linter.unusedVariables false
set_option linter.unusedSimpArgs false
set_option linter.defProp false
set_option maxRecDepth 1000000

/-- a state of a system -/
structure Sta.Ok (s : Sy) (st : Sta) : Prop where
  len : st.locs.length = s.procs.length
  vs : VOk st.vals
  lc : ∀ (i : Nat) (h1 : i < st.locs.length) (h2 : i < s.procs.length), 0 ≤ st.locs[i] ∧ st.locs[i] < s.procs[i].locs
noncomputable instance instDecStaOk {s : Sy} {st : Sta} : Decidable (st.Ok s) := Classical.propDecidable _

theorem c_spec_StateValid {h : Heap} {v w : Value} {s : Sy} {st : Sta} (R : Rep h v s) (Rt : Rep h w st) : CallE Tryz.prog fn_spec_StateValid [v, w] h (fun u h' => h' = h ∧ u = .bool (decide (s.Ok ∧ st.Ok s))) := by
  have F := R.aSy
  obtain ⟨v1, v2, rfl, R1, R2⟩ := Rep_Sy.1 R
  obtain ⟨w1, w2, rfl, T1, T2⟩ := Rep_Sta.1 Rt
  have hL1 := R2.lt
  have hL2 := T1.lt
  refine CallE.gen fun k hk => EN_spec_StateValid rfl ?_
  simp -implicitDefEqProofs (disch := first | omega | (simp only [List.length_set, List.length_replicate, List.length_append, List.length_map, List.length_take, List.length_cons, List.length_nil]; omega)) [wrap64, F]
  refine (c_spec_SystemValid R).go ?_
  rintro _ h ⟨rfl, rfl⟩
  have hno : ¬ (s.Ok ∧ st.Ok s) → k (.bool false) h := fun hh => hk _ _ ⟨rfl, by rw [decide_eq_false hh]⟩
  by_cases hs : s.Ok
  case neg => simp -implicitDefEqProofs (disch := first | omega | (simp only [List.length_set, List.length_replicate, List.length_append, List.length_map, List.length_take, List.length_cons, List.length_nil]; omega)) [wrap64, hs]; exact RetK.keep (hno fun hh => hs hh.1)
  by_cases q1 : (st.locs.length : Int) = s.procs.length
  case neg => simp -implicitDefEqProofs (disch := first | omega | (simp only [List.length_set, List.length_replicate, List.length_append, List.length_map, List.length_take, List.length_cons, List.length_nil]; omega)) [wrap64, hs, T1.len, R2.len, q1]; exact RetK.keep (hno fun hh => q1 (by rw [hh.2.len]))
  simp -implicitDefEqProofs (disch := first | omega | (simp only [List.length_set, List.length_replicate, List.length_append, List.length_map, List.length_take, List.length_cons, List.length_nil]; omega)) [wrap64, hs, T1.len, R2.len, q1]
  refine (c_l1Vals T2).go ?_
  rintro _ h ⟨rfl, rfl⟩
  by_cases q2 : VOk st.vals
  case neg => simp -implicitDefEqProofs (disch := first | omega | (simp only [List.length_set, List.length_replicate, List.length_append, List.length_map, List.length_take, List.length_cons, List.length_nil]; omega)) [wrap64, q2]; exact RetK.keep (hno fun hh => q2 hh.2.vs)
  simp -implicitDefEqProofs (disch := first | omega | (simp only [List.length_set, List.length_replicate, List.length_append, List.length_map, List.length_take, List.length_cons, List.length_nil]; omega)) [wrap64, q2]
  refine wp_count st.locs.length (fun i e h' => e = [none, none, some (.agg #[v1, v2]), some (.agg #[w1, w2]), none, some (.int .i64 i)] ∧ h' = h ∧ ∀ (j : Nat) (a : j < st.locs.length) (b : j < s.procs.length), j < i → 0 ≤ st.locs[j] ∧ st.locs[j] < s.procs[j].locs) ⟨by simp, rfl, fun j _ _ hj => absurd hj (Nat.not_lt_zero j)⟩ ?_
  rintro J i _ h2 hJ hi ⟨rfl, rfl, hall⟩
  simp -implicitDefEqProofs (disch := first | omega | (simp only [List.length_set, List.length_replicate, List.length_append, List.length_map, List.length_take, List.length_cons, List.length_nil]; omega)) [wrap64, T1.len]
  refine IteW.mk (fun hlt => ?_) (fun hge => ?_)
  · have hlx : i < st.locs.length := by omega
    have hlp : i < s.procs.length := by omega
    obtain ⟨u, hu, Ru⟩ := R2.ld hlp
    change hload _ (some (elp 2 v2 i)) (some 2) = some u at hu
    obtain ⟨we, rfl, k1, R3⟩ := Rep_Pr.1 Ru
    have hP := hld_parts hu
    by_cases q3 : st.locs[i] < 0
    · simp -implicitDefEqProofs (disch := first | omega | (simp only [List.length_set, List.length_replicate, List.length_append, List.length_map, List.length_take, List.length_cons, List.length_nil]; omega)) [wrap64, T1.I, q3]; exact RetK.keep (hno fun hh => by have := hh.2.lc i hlx hlp; omega)
    by_cases q4 : s.procs[i].locs ≤ st.locs[i]
    · simp -implicitDefEqProofs (disch := first | omega | (simp only [List.length_set, List.length_replicate, List.length_append, List.length_map, List.length_take, List.length_cons, List.length_nil]; omega)) [wrap64, T1.I, q3, q4, R2.X (n := 2) rfl, hP.1, hP.2.2.1]; exact RetK.keep (hno fun hh => by have := hh.2.lc i hlx hlp; omega)
    simp -implicitDefEqProofs (disch := first | omega | (simp only [List.length_set, List.length_replicate, List.length_append, List.length_map, List.length_take, List.length_cons, List.length_nil]; omega)) [wrap64, T1.I, q3, q4, R2.X (n := 2) rfl, hP.1, hP.2.2.1]
    refine hJ _ _ hlx ⟨by simp, rfl, fun j a b hji => ?_⟩
    by_cases hji2 : j = i
    · subst hji2; omega
    · exact hall j a b (by omega)
  · simp -implicitDefEqProofs (disch := first | omega | (simp only [List.length_set, List.length_replicate, List.length_append, List.length_map, List.length_take, List.length_cons, List.length_nil]; omega)) [wrap64]
    exact RetK.keep (hk _ _ ⟨rfl, by rw [decide_eq_true (show s.Ok ∧ st.Ok s from ⟨hs, by omega, q2, fun i a b => hall i a b (by omega)⟩)]⟩)

theorem c_State_copyOf {h : Heap} {v : Value} {st : Sta} (R : Rep h v st) (h1 : st.locs.length ≤ 1073741824) (h2 : st.vals.length ≤ 1073741824) : CallE Tryz.prog fn_impl_State_copyOf [v] h (fun u h' => HS h [ow u st] h') := by
  obtain ⟨v1, v2, rfl, R1, R2⟩ := Rep_Sta.1 R
  refine CallE.gen fun k hk => EN_impl_State_copyOf rfl ?_
  simp -implicitDefEqProofs (disch := first | omega | (simp only [List.length_set, List.length_replicate, List.length_append, List.length_map, List.length_take, List.length_cons, List.length_nil]; omega)) [wrap64]
  refine (c_clone_int R1 h1).go ?_
  intro u1 m1 H
  simp -implicitDefEqProofs (disch := first | omega | (simp only [List.length_set, List.length_replicate, List.length_append, List.length_map, List.length_take, List.length_cons, List.length_nil]; omega)) [wrap64]
  refine (c_clone_int (R2.on H) h2).go ?_
  intro u2 m2 H2
  have H := H2.app H
  simp -implicitDefEqProofs (disch := first | omega | (simp only [List.length_set, List.length_replicate, List.length_append, List.length_map, List.length_take, List.length_cons, List.length_nil]; omega)) [wrap64, H.rep.cells, H.rep.one, H.sw1.rep.cells, H.sw1.rep.one, setC]
  exact RetK.keep (hk _ _ (HS.mkSta H.sw1))

/-- the values that are kept, and the first values where they don't matter -/
def prV (s : Sy) (L : List Exq) (st : Sta) : List Int := (List.range 3).map fun i => if (s.rel L).getD i false then st.vals.getD i 0 else s.init.getD i 0
noncomputable def prR (s : Sy) (L : List Exq) (st : Sta) : Sta := if s.Ok ∧ LOk L ∧ st.Ok s then ⟨st.locs, prV s L st⟩ else Sta.zero
theorem zero_St {g h : Heap} {Γ : List HP} (H : HS g Γ h) : HS g (ow (.agg #[.slice none 0 0, .slice none 0 0]) Sta.zero :: Γ) h := HS.mkSta (a := Sta.zero) H.nil_ow.nil_ow

end Go.Proofs.YthgimpheeemooaaGreat

/-
  Steps in plain Lean: which are enabled, and what they lead to.
-/
namespace Go.Proofs.YthgimpheeemooaaGreat
open Go
set_option linter.all false
set_option linter.unusedVariables false
set_option linter.unusedSimpArgs false
set_option linter.defProp false
set_option maxRecDepth 1000000

theorem fm_tk {α β : Type} {f : α × Nat → List β} {l : List α} {i : Nat} (hi : i < l.length) : (l.zipIdx.take (i + 1)).flatMap f = (l.zipIdx.take i).flatMap f ++ f (l[i], i) := by
  rw [List.take_add_one, List.getElem?_eq_getElem (by simpa using hi), List.flatMap_append]
  simp
theorem fm_all {α β : Type} {f : α × Nat → List β} {l : List α} {i : Nat} (hi : l.length ≤ i) : (l.zipIdx.take i).flatMap f = l.zipIdx.flatMap f := by
  rw [List.take_of_length_le (by simpa using hi)]
theorem len_fm {α β : Type} {f : α → List β} {c : Nat} : ∀ {l : List α}, (∀ x ∈ l, (f x).length ≤ c) → (l.flatMap f).length ≤ l.length * c
  | [], _ => by simp
  | x :: l, h => by
    have h1 := len_fm (l := l) fun y hy => h y (by simp [hy])
    have h2 := h x (by simp)
    rw [List.flatMap_cons, List.length_append, List.length_cons, Nat.add_mul]
    omega
theorem len_fmz {α β : Type} {f : α × Nat → List β} {c : Nat} {l : List α} (h : ∀ (i : Nat) (hi : i < l.length), (f (l[i], i)).length ≤ c) (n : Nat) : ((l.zipIdx.take n).flatMap f).length ≤ l.length * c := by
  have h1 : ((l.zipIdx.take n).flatMap f).length ≤ (l.zipIdx.take n).length * c := len_fm fun x hx => by
    have h2 := List.mem_of_mem_take hx
    rw [List.mem_zipIdx_iff_getElem?, List.getElem?_eq_some_iff] at h2
    obtain ⟨h3, h4⟩ := h2
    have := h x.2 h3
    rw [h4] at this
    exact this
  have h2 : (l.zipIdx.take n).length * c ≤ l.length * c := Nat.mul_le_mul_right _ (by simp; omega)
  omega
theorem mem_fmz {α β : Type} {f : α × Nat → List β} {l : List α} {t : β} : t ∈ l.zipIdx.flatMap f ↔ ∃ (i : Nat) (hi : i < l.length), t ∈ f (l[i], i) := by
  rw [List.mem_flatMap]
  constructor
  · rintro ⟨x, hx, ht⟩
    rw [List.mem_zipIdx_iff_getElem?, List.getElem?_eq_some_iff] at hx
    obtain ⟨h3, h4⟩ := hx
    exact ⟨x.2, h3, by rw [h4]; exact ht⟩
  · rintro ⟨i, hi, ht⟩
    exact ⟨(l[i], i), by rw [List.mem_zipIdx_iff_getElem?]; simp [hi], ht⟩

/-- an edge is ready -/
def Ed.rdy (e : Ed) (st : Sta) (i : Nat) : Bool := decide (st.locs.getD i 0 = e.frm ∧ e.guard.ev st.vals ≠ 0)
def prt2 (st : Sta) (i k : Nat) (c : Int) (j : Nat) (x : Ed × Nat) : List Stp := if j ≠ i ∧ x.1.sync = -c ∧ x.1.rdy st j = true then [⟨i, k, j, x.2⟩] else []
def prt1 (st : Sta) (i k : Nat) (c : Int) (x : Pr × Nat) : List Stp := x.1.edges.zipIdx.flatMap (prt2 st i k c x.2)
/-- the steps with partners -/
def prt (s : Sy) (st : Sta) (i k : Nat) (c : Int) : List Stp := s.procs.zipIdx.flatMap (prt1 st i k c)
def enb2 (s : Sy) (st : Sta) (i : Nat) (x : Ed × Nat) : List Stp := if x.1.sync < 0 ∨ x.1.rdy st i = false then [] else if x.1.sync = 0 then [⟨i, x.2, -1, -1⟩] else prt s st i x.2 x.1.sync
def enb1 (s : Sy) (st : Sta) (x : Pr × Nat) : List Stp := x.1.edges.zipIdx.flatMap (enb2 s st x.2)
/-- the enabled steps -/
def enb (s : Sy) (st : Sta) : List Stp := s.procs.zipIdx.flatMap (enb1 s st)

theorem prt1_len {st : Sta} {i k : Nat} {c : Int} {p : Pr} {j n : Nat} (hp : p.Ok) : ((p.edges.zipIdx.take n).flatMap (prt2 st i k c j)).length ≤ 6 := by
  have h1 := len_fmz (f := prt2 st i k c j) (c := 1) (l := p.edges) (fun m hm => by unfold prt2; split <;> simp) n
  have := hp.el
  omega
theorem prt_len {s : Sy} {st : Sta} {i k n : Nat} {c : Int} (hs : s.Ok) : ((s.procs.zipIdx.take n).flatMap (prt1 st i k c)).length ≤ 18 := by
  have h1 := len_fmz (f := prt1 st i k c) (c := 6) (l := s.procs) (fun m hm => by
    have := prt1_len (st := st) (i := i) (k := k) (c := c) (j := m) (n := s.procs[m].edges.length) (hs.at hm)
    rw [fm_all (Nat.le_refl _)] at this
    exact this) n
  have := hs.p3
  omega
theorem prt_len' {s : Sy} {st : Sta} {i k : Nat} {c : Int} (hs : s.Ok) : (prt s st i k c).length ≤ 18 := by
  have := prt_len (st := st) (i := i) (k := k) (c := c) (n := s.procs.length) hs
  rwa [fm_all (Nat.le_refl _)] at this
theorem enb2_len {s : Sy} {st : Sta} {i : Nat} {x : Ed × Nat} (hs : s.Ok) : (enb2 s st i x).length ≤ 18 := by
  unfold enb2
  split
  · simp
  · split
    · simp
    · exact prt_len' hs
theorem enb1_len {s : Sy} {st : Sta} {i n : Nat} {p : Pr} (hs : s.Ok) (hp : p.Ok) : ((p.edges.zipIdx.take n).flatMap (enb2 s st i)).length ≤ 108 := by
  have h1 := len_fmz (f := enb2 s st i) (c := 18) (l := p.edges) (fun m hm => enb2_len hs) n
  have := hp.el
  omega
theorem enb_len {s : Sy} {st : Sta} {n : Nat} (hs : s.Ok) : ((s.procs.zipIdx.take n).flatMap (enb1 s st)).length ≤ 324 := by
  have h1 := len_fmz (f := enb1 s st) (c := 108) (l := s.procs) (fun m hm => by
    have := enb1_len (s := s) (st := st) (i := m) (n := s.procs[m].edges.length) hs (hs.at hm)
    rw [fm_all (Nat.le_refl _)] at this
    exact this) n
  have := hs.p3
  omega
theorem enb_len' {s : Sy} {st : Sta} (hs : s.Ok) : (enb s st).length ≤ 324 := by
  have := enb_len (st := st) (n := s.procs.length) hs
  rwa [fm_all (Nat.le_refl _)] at this

/-- where a step's edges lie -/
structure Stp.In (s : Sy) (t : Stp) : Prop where
  ex : ∃ (i k : Nat) (hi : i < s.procs.length) (_ : k < s.procs[i].edges.length), t.proc = i ∧ t.edge = k
  pt : t.partner = -1 ∨ ∃ (j m : Nat) (hj : j < s.procs.length) (_ : m < s.procs[j].edges.length), t.partner = j ∧ t.pedge = m
theorem enb_in {s : Sy} {st : Sta} {t : Stp} (h : t ∈ enb s st) : t.In s := by
  unfold enb at h
  obtain ⟨i, hi, h⟩ := mem_fmz.1 h
  unfold enb1 at h
  obtain ⟨k, hk, h⟩ := mem_fmz.1 h
  unfold enb2 at h
  split at h
  · simp at h
  · split at h
    · simp at h; subst h
      exact ⟨⟨i, k, hi, hk, rfl, rfl⟩, .inl rfl⟩
    · unfold prt at h
      obtain ⟨j, hj, h⟩ := mem_fmz.1 h
      unfold prt1 at h
      obtain ⟨m, hm, h⟩ := mem_fmz.1 h
      unfold prt2 at h
      split at h
      · simp at h; subst h
        exact ⟨⟨i, k, hi, hk, rfl, rfl⟩, .inr ⟨j, m, hj, hm, rfl, rfl⟩⟩
      · simp at h

/-- an edge is taken -/
def Sta.tk (st : Sta) (i : Nat) (e : Ed) : Sta := ⟨st.locs.set i e.to, if 0 ≤ e.var then st.vals.set e.var.toNat (e.value.ev st.vals) else st.vals⟩
def Sy.ed (s : Sy) (i k : Nat) : Ed := (s.procs.getD i ⟨0, []⟩).edges.getD k ⟨0, 0, Exq.zero, 0, Exq.zero, 0⟩
theorem Sy.ed_eq {s : Sy} {i k : Nat} (hi : i < s.procs.length) (hk : k < s.procs[i].edges.length) : s.ed i k = s.procs[i].edges[k] := by
  simp [Sy.ed, hi, hk]
/-- the state after a step -/
def Sta.aft (s : Sy) (st : Sta) (t : Stp) : Sta := if 0 ≤ t.partner then (st.tk t.proc.toNat (s.ed t.proc.toNat t.edge.toNat)).tk t.partner.toNat (s.ed t.partner.toNat t.pedge.toNat) else st.tk t.proc.toNat (s.ed t.proc.toNat t.edge.toNat)
theorem Sta.tk_ok {s : Sy} {st : Sta} {i : Nat} {e : Ed} (h : st.Ok s) (hi : i < s.procs.length) (he : e.Ok s.procs[i].locs) : (st.tk i e).Ok s := by
  have hv := h.vs
  refine ⟨by simp [Sta.tk, h.len], ?_, fun j h1 h2 => ?_⟩
  · unfold Sta.tk
    simp only
    split
    · rename_i h0
      have hvo : e.value.Ok := he.vl.elim (fun hh => hh.2) (fun hh => absurd hh.1 (by omega))
      have hb := Exq.ev_bnd hv hvo.1
      refine ⟨by simp [hv.len], fun x hx => ?_⟩
      rcases List.mem_or_eq_of_mem_set hx with h1 | h1
      · exact hv.2 x h1
      · rw [h1]; exact hb
    · exact hv
  · simp only [Sta.tk, List.getElem_set]
    split
    · rename_i e1
      subst e1
      exact ⟨he.t0, he.t1⟩
    · exact h.lc j (by simpa [Sta.tk] using h1) h2
theorem Sta.aft_ok {s : Sy} {st : Sta} {t : Stp} (hs : s.Ok) (h : st.Ok s) (ht : t.In s) : (st.aft s t).Ok s := by
  obtain ⟨⟨i, k, hi, hk, h1, h2⟩, h3⟩ := ht
  have g1 : (st.tk t.proc.toNat (s.ed t.proc.toNat t.edge.toNat)).Ok s := by
    rw [h1, h2, Int.toNat_natCast, Int.toNat_natCast, Sy.ed_eq hi hk]
    exact Sta.tk_ok h hi ((hs.at hi).at hk)
  unfold Sta.aft
  rcases h3 with h3 | ⟨j, m, hj, hm, h3, h4⟩
  · rw [if_neg (by omega)]; exact g1
  · rw [if_pos (by omega)]
    have : (st.tk t.proc.toNat (s.ed t.proc.toNat t.edge.toNat)).tk t.partner.toNat (s.ed t.partner.toNat t.pedge.toNat) = (st.tk t.proc.toNat (s.ed t.proc.toNat t.edge.toNat)).tk j (s.procs[j].edges[m]) := by
      rw [h3, h4, Int.toNat_natCast, Int.toNat_natCast, Sy.ed_eq hj hm]
    rw [this]
    exact Sta.tk_ok g1 hj ((hs.at hj).at hm)
noncomputable def ens (s : Sy) (st : Sta) : List Stp := if s.Ok ∧ st.Ok s then enb s st else []
end Go.Proofs.YthgimpheeemooaaGreat
