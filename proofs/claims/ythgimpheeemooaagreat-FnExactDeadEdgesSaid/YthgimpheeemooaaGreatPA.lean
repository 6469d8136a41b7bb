/-
  What the helpers of the laws do: copying, counting, comparing, marking. Printed by a program.
-/
import Derived.Test.YthgimpheeemooaaGreatI3
import Derived.Test.YthgimpheeemooaaGreatI10
import Derived.Test.YthgimpheeemooaaGreatGE
namespace Go.Proofs.YthgimpheeemooaaGreat
open Go
set_option linter.all false
set_option linter.unusedVariables false
set_option linter.unusedSimpArgs false
set_option linter.defProp false
set_option maxRecDepth 1000000

theorem c_toIntS {h : Heap} {a : Value} {x : List Int} (Ra : Rep h a x) (hs : Sz.sz x ≤ 1048576) : CallE Tryz.prog fn_laws_toIntS [a] h (fun v h' => HS h [ow v x] h') := by
  rw [sz_list] at hs
  refine CallE.gen fun k hk => EN_laws_toIntS rfl ?_
  simp -implicitDefEqProofs (disch := first | omega | (simp only [List.length_set, List.length_replicate, List.length_append, List.length_map, List.length_take, List.length_cons, List.length_nil]; omega)) [wrap64, Ra.I]
  refine HS.init.mks (z := (0 : Int)) rfl rfl (own_zero (by decide) (by decide)) (Nat.le_refl _) (by omega) (by omega) fun v h1 H => ?_
  simp -implicitDefEqProofs (disch := first | omega | (simp only [List.length_set, List.length_replicate, List.length_append, List.length_map, List.length_take, List.length_cons, List.length_nil]; omega)) [wrap64]
  refine wp_count x.length (fun i e h' => e = [some a, none, some v, some (.int .i64 i)] ∧ ∃ y, HS h [ow v y] h' ∧ y.length = x.length ∧ y.take i = x.take i) ⟨rfl, _, H, by simp, by simp⟩ ?_
  rintro J i _ h2 hJ hi ⟨rfl, y, H, hl, hy⟩
  simp -implicitDefEqProofs (disch := first | omega | (simp only [List.length_set, List.length_replicate, List.length_append, List.length_map, List.length_take, List.length_cons, List.length_nil]; omega)) [wrap64, Ra.I]
  refine IteW.mk (fun hlt => ?_) (fun hge => ?_)
  · have hlx : i < x.length := by omega
    simp -implicitDefEqProofs (disch := first | omega | (simp only [List.length_set, List.length_replicate, List.length_append, List.length_map, List.length_take, List.length_cons, List.length_nil]; omega)) [wrap64, H.rep.I, (Ra.on H).I]
    refine H.storeF x[i] (by omega) rfl rfl (Ra.okI hlx) rfl fun h3 H => ?_
    simp -implicitDefEqProofs (disch := first | omega | (simp only [List.length_set, List.length_replicate, List.length_append, List.length_map, List.length_take, List.length_cons, List.length_nil]; omega)) [wrap64]
    exact hJ _ _ hlx ⟨rfl, _, H, by simp [hl], take_set_succ hy hlx hl⟩
  · simp -implicitDefEqProofs (disch := first | omega | (simp only [List.length_set, List.length_replicate, List.length_append, List.length_map, List.length_take, List.length_cons, List.length_nil]; omega)) [wrap64]
    refine RetK.keep (hk _ _ ?_)
    rw [← eq_of_take hy (by omega) hl]; exact H

theorem c_szIntS {h : Heap} {a : Value} {x : List Int} (Ra : Rep h a x) {n : Int} (hn : 0 ≤ n ∧ n ≤ 1048576) : CallE Tryz.prog fn_laws_szIntS [a, .int .i64 n] h (fun v h' => h' = h ∧ ∃ m : Int, v = .int .i64 m ∧ (m = -1 ∨ (0 ≤ m ∧ m + Sz.sz x = n))) := by
  rw [sz_list, szL_zero (fun _ => rfl)]
  refine CallE.gen fun k hk => EN_laws_szIntS rfl ?_
  have hL := Ra.lt
  simp -implicitDefEqProofs (disch := first | omega | (simp only [List.length_set, List.length_replicate, List.length_append, List.length_map, List.length_take, List.length_cons, List.length_nil]; omega)) [wrap64, Ra.I]
  refine IteW.mk (fun hlt => ?_) (fun hge => ?_)
  · simp -implicitDefEqProofs (disch := first | omega | (simp only [List.length_set, List.length_replicate, List.length_append, List.length_map, List.length_take, List.length_cons, List.length_nil]; omega)) [wrap64]
    exact RetK.keep (hk _ _ ⟨rfl, _, rfl, .inl rfl⟩)
  · simp -implicitDefEqProofs (disch := first | omega | (simp only [List.length_set, List.length_replicate, List.length_append, List.length_map, List.length_take, List.length_cons, List.length_nil]; omega)) [wrap64]
    exact RetK.keep (hk _ _ ⟨rfl, _, rfl, .inr (by omega)⟩)

theorem c_eqIntS {h : Heap} {a b : Value} {x y : List Int} (Ra : Rep h a x) (Rb : Rep h b y) : CallE Tryz.prog fn_laws_eqIntS [a, b] h (fun v h' => h' = h ∧ v = .bool (decide (x = y))) := by
  refine CallE.gen fun k hk => EN_laws_eqIntS rfl ?_
  have hL := Ra.lt
  simp -implicitDefEqProofs (disch := first | omega | (simp only [List.length_set, List.length_replicate, List.length_append, List.length_map, List.length_take, List.length_cons, List.length_nil]; omega)) [wrap64, Ra.len, Rb.len]
  refine IteW.mkr (fun hne => ?_) (fun heq => ?_)
  · simp -implicitDefEqProofs (disch := first | omega | (simp only [List.length_set, List.length_replicate, List.length_append, List.length_map, List.length_take, List.length_cons, List.length_nil]; omega)) [wrap64]
    exact RetK.keep (hk _ _ ⟨rfl, by simp; rintro rfl; exact hne rfl⟩)
  simp -implicitDefEqProofs (disch := first | omega | (simp only [List.length_set, List.length_replicate, List.length_append, List.length_map, List.length_take, List.length_cons, List.length_nil]; omega)) [wrap64]
  refine wp_count x.length (fun i e h' => h' = h ∧ e = [some a, some b, none, some (.int .i64 i)] ∧ x.take i = y.take i) ⟨rfl, rfl, rfl⟩ ?_
  rintro J i _ _ hJ hi ⟨rfl, rfl, hxy⟩
  simp -implicitDefEqProofs (disch := first | omega | (simp only [List.length_set, List.length_replicate, List.length_append, List.length_map, List.length_take, List.length_cons, List.length_nil]; omega)) [wrap64, Ra.len]
  refine IteW.mk (fun hlt => ?_) (fun hge => ?_)
  · have hly : i < y.length := by omega
    have hlx : i < x.length := by omega
    simp -implicitDefEqProofs (disch := first | omega | (simp only [List.length_set, List.length_replicate, List.length_append, List.length_map, List.length_take, List.length_cons, List.length_nil]; omega)) [wrap64, Ra.I, Rb.I]
    refine IteW.mkr (fun hne => ?_) (fun heq => ?_)
    · simp -implicitDefEqProofs (disch := first | omega | (simp only [List.length_set, List.length_replicate, List.length_append, List.length_map, List.length_take, List.length_cons, List.length_nil]; omega)) [wrap64]
      exact RetK.keep (hk _ _ ⟨rfl, by simp; rintro rfl; exact hne rfl⟩)
    simp -implicitDefEqProofs (disch := first | omega | (simp only [List.length_set, List.length_replicate, List.length_append, List.length_map, List.length_take, List.length_cons, List.length_nil]; omega)) [wrap64]
    exact hJ _ _ hlx ⟨rfl, rfl, take_step hxy hlx hly heq⟩
  · simp -implicitDefEqProofs (disch := first | omega | (simp only [List.length_set, List.length_replicate, List.length_append, List.length_map, List.length_take, List.length_cons, List.length_nil]; omega)) [wrap64]
    refine RetK.keep (hk _ _ ⟨rfl, ?_⟩)
    simp
    rw [List.take_of_length_le (by omega), List.take_of_length_le (by omega)] at hxy
    exact hxy

theorem c_markIntS {g h : Heap} {Γ : List HP} {v : Value} {x : List Int} {k0 : Int} (H : HS g (ow v x :: Γ) h) (hk0 : 0 ≤ k0) (hk1 : k0 + Mk.cnt x < 4611686018427387904) : CallE Tryz.prog fn_laws_markIntS [v, .int .i64 k0] h (fun u h' => HS g (ow v (Mk.wr k0 x) :: Γ) h' ∧ u = .int .i64 (k0 + Mk.cnt x)) := by
  refine CallE.gen fun k hk => EN_laws_markIntS rfl ?_
  simp -implicitDefEqProofs (disch := first | omega | (simp only [List.length_set, List.length_replicate, List.length_append, List.length_map, List.length_take, List.length_cons, List.length_nil]; omega)) [wrap64]
  refine wp_count x.length (fun i e h' => e = [some v, some (.int .i64 (k0 + cntL (x.take i))), none, some (.int .i64 i)] ∧ ∃ y, HS g (ow v y :: Γ) h' ∧ Mkd k0 x y i) ⟨by simp [cntL], x, H, Mkd.zero⟩ ?_
  rintro J i _ h2 hJ hi ⟨rfl, y, H, M⟩
  have hl := M.len
  have hL := H.rep.lt
  have hcx : Mk.cnt x = cntL x := rfl
  simp -implicitDefEqProofs (disch := first | omega | (simp only [List.length_set, List.length_replicate, List.length_append, List.length_map, List.length_take, List.length_cons, List.length_nil]; omega)) [wrap64, H.rep.len]
  refine IteW.mk (fun hlt => ?_) (fun hge => ?_)
  · have hlx : i < x.length := by omega
    have hly : i < y.length := by omega
    have hb := cntL_le x (i + 1)
    have hc := cntL_take x i hlx
    have h1 : Mk.cnt x[i] = 1 := rfl
    have h4 : IntKind.i64.wrap (k0 + (cntL (x.take i) : Nat) + 1) = k0 + (cntL (x.take i) : Nat) + 1 := wrap64 (by omega) (by omega)
    simp -implicitDefEqProofs (disch := first | omega | (simp only [List.length_set, List.length_replicate, List.length_append, List.length_map, List.length_take, List.length_cons, List.length_nil]; omega)) [wrap64, H.rep.I]
    refine H.storeF (k0 + cntL (x.take i)) hly rfl rfl ⟨by omega, by omega⟩ rfl fun h3 H => ?_
    simp -implicitDefEqProofs (disch := first | omega | (simp only [List.length_set, List.length_replicate, List.length_append, List.length_map, List.length_take, List.length_cons, List.length_nil]; omega)) [wrap64]
    refine hJ _ _ hlx ⟨?_, _, H, M.step hlx⟩
    rw [hc, h1]; push_cast; simp [Int.add_assoc]
  · simp -implicitDefEqProofs (disch := first | omega | (simp only [List.length_set, List.length_replicate, List.length_append, List.length_map, List.length_take, List.length_cons, List.length_nil]; omega)) [wrap64]
    have h2 : x.take i = x := List.take_of_length_le (by omega)
    refine RetK.keep (hk _ _ ⟨?_, by rw [h2]; rfl⟩)
    have h3 : y = Mk.wr k0 x := M.all (by omega)
    rw [← h3]; exact H

theorem c_eqBoolS {h : Heap} {a b : Value} {x y : List Bool} (Ra : Rep h a x) (Rb : Rep h b y) : CallE Tryz.prog fn_laws_eqBoolS [a, b] h (fun v h' => h' = h ∧ v = .bool (decide (x = y))) := by
  refine CallE.gen fun k hk => EN_laws_eqBoolS rfl ?_
  have hL := Ra.lt
  simp -implicitDefEqProofs (disch := first | omega | (simp only [List.length_set, List.length_replicate, List.length_append, List.length_map, List.length_take, List.length_cons, List.length_nil]; omega)) [wrap64, Ra.len, Rb.len]
  refine IteW.mkr (fun hne => ?_) (fun heq => ?_)
  · simp -implicitDefEqProofs (disch := first | omega | (simp only [List.length_set, List.length_replicate, List.length_append, List.length_map, List.length_take, List.length_cons, List.length_nil]; omega)) [wrap64]
    exact RetK.keep (hk _ _ ⟨rfl, by simp; rintro rfl; exact hne rfl⟩)
  simp -implicitDefEqProofs (disch := first | omega | (simp only [List.length_set, List.length_replicate, List.length_append, List.length_map, List.length_take, List.length_cons, List.length_nil]; omega)) [wrap64]
  refine wp_count x.length (fun i e h' => h' = h ∧ e = [some a, some b, none, some (.int .i64 i)] ∧ x.take i = y.take i) ⟨rfl, rfl, rfl⟩ ?_
  rintro J i _ _ hJ hi ⟨rfl, rfl, hxy⟩
  simp -implicitDefEqProofs (disch := first | omega | (simp only [List.length_set, List.length_replicate, List.length_append, List.length_map, List.length_take, List.length_cons, List.length_nil]; omega)) [wrap64, Ra.len]
  refine IteW.mk (fun hlt => ?_) (fun hge => ?_)
  · have hly : i < y.length := by omega
    have hlx : i < x.length := by omega
    simp -implicitDefEqProofs (disch := first | omega | (simp only [List.length_set, List.length_replicate, List.length_append, List.length_map, List.length_take, List.length_cons, List.length_nil]; omega)) [wrap64, Ra.B, Rb.B]
    refine IteW.mkr (fun hne => ?_) (fun heq => ?_)
    · simp -implicitDefEqProofs (disch := first | omega | (simp only [List.length_set, List.length_replicate, List.length_append, List.length_map, List.length_take, List.length_cons, List.length_nil]; omega)) [wrap64]
      exact RetK.keep (hk _ _ ⟨rfl, by simp; rintro rfl; exact hne rfl⟩)
    simp -implicitDefEqProofs (disch := first | omega | (simp only [List.length_set, List.length_replicate, List.length_append, List.length_map, List.length_take, List.length_cons, List.length_nil]; omega)) [wrap64]
    exact hJ _ _ hlx ⟨rfl, rfl, take_step hxy hlx hly heq⟩
  · simp -implicitDefEqProofs (disch := first | omega | (simp only [List.length_set, List.length_replicate, List.length_append, List.length_map, List.length_take, List.length_cons, List.length_nil]; omega)) [wrap64]
    refine RetK.keep (hk _ _ ⟨rfl, ?_⟩)
    simp
    rw [List.take_of_length_le (by omega), List.take_of_length_le (by omega)] at hxy
    exact hxy

theorem c_markBoolS {g h : Heap} {Γ : List HP} {v : Value} {x : List Bool} {k0 : Int} (H : HS g (ow v x :: Γ) h) (hk0 : 0 ≤ k0) (hk1 : k0 + Mk.cnt x < 4611686018427387904) : CallE Tryz.prog fn_laws_markBoolS [v, .int .i64 k0] h (fun u h' => HS g (ow v (Mk.wr k0 x) :: Γ) h' ∧ u = .int .i64 (k0 + Mk.cnt x)) := by
  refine CallE.gen fun k hk => EN_laws_markBoolS rfl ?_
  simp -implicitDefEqProofs (disch := first | omega | (simp only [List.length_set, List.length_replicate, List.length_append, List.length_map, List.length_take, List.length_cons, List.length_nil]; omega)) [wrap64]
  refine wp_count x.length (fun i e h' => e = [some v, some (.int .i64 (k0 + cntL (x.take i))), none, some (.int .i64 i)] ∧ ∃ y, HS g (ow v y :: Γ) h' ∧ Mkd k0 x y i) ⟨by simp [cntL], x, H, Mkd.zero⟩ ?_
  rintro J i _ h2 hJ hi ⟨rfl, y, H, M⟩
  have hl := M.len
  have hL := H.rep.lt
  have hcx : Mk.cnt x = cntL x := rfl
  simp -implicitDefEqProofs (disch := first | omega | (simp only [List.length_set, List.length_replicate, List.length_append, List.length_map, List.length_take, List.length_cons, List.length_nil]; omega)) [wrap64, H.rep.len]
  refine IteW.mk (fun hlt => ?_) (fun hge => ?_)
  · have hlx : i < x.length := by omega
    have hly : i < y.length := by omega
    have hb := cntL_le x (i + 1)
    have hc := cntL_take x i hlx
    have h1 : Mk.cnt x[i] = 1 := rfl
    have h4 : IntKind.i64.wrap (k0 + (cntL (x.take i) : Nat) + 1) = k0 + (cntL (x.take i) : Nat) + 1 := wrap64 (by omega) (by omega)
    simp -implicitDefEqProofs (disch := first | omega | (simp only [List.length_set, List.length_replicate, List.length_append, List.length_map, List.length_take, List.length_cons, List.length_nil]; omega)) [wrap64, H.rep.B]
    refine H.storeF (Mk.wr (k0 + cntL (x.take i)) x[i]) hly rfl rfl trivial rfl fun h3 H => ?_
    simp -implicitDefEqProofs (disch := first | omega | (simp only [List.length_set, List.length_replicate, List.length_append, List.length_map, List.length_take, List.length_cons, List.length_nil]; omega)) [wrap64]
    refine hJ _ _ hlx ⟨?_, _, H, M.step hlx⟩
    rw [hc, h1]; push_cast; simp [Int.add_assoc]
  · simp -implicitDefEqProofs (disch := first | omega | (simp only [List.length_set, List.length_replicate, List.length_append, List.length_map, List.length_take, List.length_cons, List.length_nil]; omega)) [wrap64]
    have h2 : x.take i = x := List.take_of_length_le (by omega)
    refine RetK.keep (hk _ _ ⟨?_, by rw [h2]; rfl⟩)
    have h3 : y = Mk.wr k0 x := M.all (by omega)
    rw [← h3]; exact H

theorem c_heldBoolS {h : Heap} {v : Value} {x : List Bool} {k0 : Int} (Rv : Rep h v x) (hk0 : 0 ≤ k0) (hk1 : k0 + Mk.cnt x < 4611686018427387904) : CallE Tryz.prog fn_laws_heldBoolS [v, .int .i64 k0] h (fun u h' => h' = h ∧ u = .int .i64 (if Mk.wr k0 x = x then k0 + Mk.cnt x else -1)) := by
  refine CallE.gen fun k hk => EN_laws_heldBoolS rfl ?_
  have hL := Rv.lt
  have hcx : Mk.cnt x = cntL x := rfl
  simp -implicitDefEqProofs (disch := first | omega | (simp only [List.length_set, List.length_replicate, List.length_append, List.length_map, List.length_take, List.length_cons, List.length_nil]; omega)) [wrap64]
  refine wp_count x.length (fun i e h' => h' = h ∧ e = [some v, some (.int .i64 (k0 + cntL (x.take i))), none, some (.int .i64 i)] ∧ (mkL k0 x).take i = x.take i) ⟨rfl, by simp [cntL], rfl⟩ ?_
  rintro J i _ _ hJ hi ⟨rfl, rfl, M⟩
  simp -implicitDefEqProofs (disch := first | omega | (simp only [List.length_set, List.length_replicate, List.length_append, List.length_map, List.length_take, List.length_cons, List.length_nil]; omega)) [wrap64, Rv.len]
  refine IteW.mk (fun hlt => ?_) (fun hge => ?_)
  · have hlx : i < x.length := by omega
    have hb := cntL_le x (i + 1)
    have hc := cntL_take x i hlx
    have hg := mkL_get k0 x i hlx
    have h1 : Mk.cnt x[i] = 1 := rfl
    obtain ⟨q, hq⟩ : ∃ q, q = k0 + cntL (x.take i) := ⟨_, rfl⟩
    rw [← hq] at hg ⊢
    simp -implicitDefEqProofs (disch := first | omega | (simp only [List.length_set, List.length_replicate, List.length_append, List.length_map, List.length_take, List.length_cons, List.length_nil]; omega)) [wrap64, Rv.B]
    refine IteW.mk (fun hq2 => ?_) (fun hq2 => ?_)
    · simp -implicitDefEqProofs (disch := first | omega | (simp only [List.length_set, List.length_replicate, List.length_append, List.length_map, List.length_take, List.length_cons, List.length_nil]; omega)) [wrap64]
      refine hJ _ _ hlx ⟨rfl, by rw [hc, h1, hq]; push_cast; simp [Int.add_assoc], take_step M (by simpa using hlx) hlx ?_⟩
      rw [hg]
      exact hq2.symm
    · simp -implicitDefEqProofs (disch := first | omega | (simp only [List.length_set, List.length_replicate, List.length_append, List.length_map, List.length_take, List.length_cons, List.length_nil]; omega)) [wrap64]
      refine RetK.keep (hk _ _ ⟨rfl, ?_⟩)
      rw [if_neg]
      intro he
      have he2 : mkL k0 x = x := he
      simp only [he2] at hg
      exact hq2 hg
  · simp -implicitDefEqProofs (disch := first | omega | (simp only [List.length_set, List.length_replicate, List.length_append, List.length_map, List.length_take, List.length_cons, List.length_nil]; omega)) [wrap64]
    have h2 : x.take i = x := List.take_of_length_le (by omega)
    rw [List.take_of_length_le (by simp; omega), h2] at M
    exact RetK.keep (hk _ _ ⟨rfl, by rw [h2]; exact congrArg _ (if_pos M).symm⟩)

end Go.Proofs.YthgimpheeemooaaGreat
