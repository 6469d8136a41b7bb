/-
  What the helpers of the laws do: copying, counting, comparing, marking. Printed by a program.
-/
import Derived.Test.YtknkjplnngeebaaIA
import Derived.Test.YtknkjplnngeebaaD1
import Derived.Test.YtknkjplnngeebaaGD
namespace Go.Proofs.Ytknkjplnngeebaa
open Go
set_option linter.all false
set_option linter.unusedVariables false
set_option linter.unusedSimpArgs false
set_option linter.defProp false
set_option maxRecDepth 1000000

theorem c_toIntS {h : Heap} {a : Value} {x : List Int} (Ra : Rep h a x) (hs : Sz.sz x ≤ 1048576) : CallE Try.prog fn_laws_toIntS [a] h (fun v h' => HS h [ow v x] h') := by
  rw [sz_list] at hs
  refine CallE.gen fun k hk => EN_laws_toIntS rfl ?_
  simp -implicitDefEqProofs (disch := first | omega | (simp only [List.length_set, List.length_replicate, List.length_append, List.length_map, List.length_take, List.length_cons, List.length_nil]; omega)) [wrap64, Ra.I]
  refine HS.init.mks (z := (0 : Int)) rfl rfl (own_zero (by decide) (by decide)) (Nat.le_refl _) (by omega) (by omega) fun v h1 H => ?_
  simp -implicitDefEqProofs (disch := first | omega | (simp only [List.length_set, List.length_replicate, List.length_append, List.length_map, List.length_take, List.length_cons, List.length_nil]; omega)) [wrap64]
  refine wp_count x.length (fun i e h' => e = [some a, none, some v, some (.int .i64 i)] ∧ ∃ y, HS h [ow v y] h' ∧ y.length = x.length ∧ y.take i = x.take i) ⟨rfl, _, H, by simp, by simp⟩ ?_
  rintro J i _ h2 hJ hi ⟨rfl, y, H, hl, hy⟩
  simp -implicitDefEqProofs (disch := first | omega | (simp only [List.length_set, List.length_replicate, List.length_append, List.length_map, List.length_take, List.length_cons, List.length_nil]; omega)) [wrap64, Ra.I]
  refine IteW.mk (fun hlt => ?_) (fun hge => ?_)
  · have hlx : i < x.length := by omega
    simp -implicitDefEqProofs (disch := first | omega | (simp only [List.length_set, List.length_replicate, List.length_append, List.length_map, List.length_take, List.length_cons, List.length_nil]; omega)) [wrap64, H.rep.I, (Ra.on H).I]
    refine H.storeF x[i] (by omega) rfl rfl (Ra.okI hlx) rfl fun h3 H => ?_
    simp -implicitDefEqProofs (disch := first | omega | (simp only [List.length_set, List.length_replicate, List.length_append, List.length_map, List.length_take, List.length_cons, List.length_nil]; omega)) [wrap64]
    exact hJ _ _ hlx ⟨rfl, _, H, by simp [hl], take_set_succ hy hlx hl⟩
  · simp -implicitDefEqProofs (disch := first | omega | (simp only [List.length_set, List.length_replicate, List.length_append, List.length_map, List.length_take, List.length_cons, List.length_nil]; omega)) [wrap64]
    refine RetK.keep (hk _ _ ?_)
    rw [← eq_of_take hy (by omega) hl]; exact H

theorem c_szIntS {h : Heap} {a : Value} {x : List Int} (Ra : Rep h a x) {n : Int} (hn : 0 ≤ n ∧ n ≤ 1048576) : CallE Try.prog fn_laws_szIntS [a, .int .i64 n] h (fun v h' => h' = h ∧ ∃ m : Int, v = .int .i64 m ∧ (m = -1 ∨ (0 ≤ m ∧ m + Sz.sz x = n))) := by
  rw [sz_list, szL_zero (fun _ => rfl)]
  refine CallE.gen fun k hk => EN_laws_szIntS rfl ?_
  have hL := Ra.lt
  simp -implicitDefEqProofs (disch := first | omega | (simp only [List.length_set, List.length_replicate, List.length_append, List.length_map, List.length_take, List.length_cons, List.length_nil]; omega)) [wrap64, Ra.I]
  refine IteW.mk (fun hlt => ?_) (fun hge => ?_)
  · simp -implicitDefEqProofs (disch := first | omega | (simp only [List.length_set, List.length_replicate, List.length_append, List.length_map, List.length_take, List.length_cons, List.length_nil]; omega)) [wrap64]
    exact RetK.keep (hk _ _ ⟨rfl, _, rfl, .inl rfl⟩)
  · simp -implicitDefEqProofs (disch := first | omega | (simp only [List.length_set, List.length_replicate, List.length_append, List.length_map, List.length_take, List.length_cons, List.length_nil]; omega)) [wrap64]
    exact RetK.keep (hk _ _ ⟨rfl, _, rfl, .inr (by omega)⟩)

theorem c_eqIntS {h : Heap} {a b : Value} {x y : List Int} (Ra : Rep h a x) (Rb : Rep h b y) : CallE Try.prog fn_laws_eqIntS [a, b] h (fun v h' => h' = h ∧ v = .bool (decide (x = y))) := by
  refine CallE.gen fun k hk => EN_laws_eqIntS rfl ?_
  have hL := Ra.lt
  simp -implicitDefEqProofs (disch := first | omega | (simp only [List.length_set, List.length_replicate, List.length_append, List.length_map, List.length_take, List.length_cons, List.length_nil]; omega)) [wrap64, Ra.len, Rb.len]
  refine IteW.mkr (fun hne => ?_) (fun heq => ?_)
  · simp -implicitDefEqProofs (disch := first | omega | (simp only [List.length_set, List.length_replicate, List.length_append, List.length_map, List.length_take, List.length_cons, List.length_nil]; omega)) [wrap64]
    exact RetK.keep (hk _ _ ⟨rfl, by simp; rintro rfl; exact hne rfl⟩)
  simp -implicitDefEqProofs (disch := first | omega | (simp only [List.length_set, List.length_replicate, List.length_append, List.length_map, List.length_take, List.length_cons, List.length_nil]; omega)) [wrap64]
  refine wp_count x.length (fun i e h' => h' = h ∧ e = [some a, some b, none, some (.int .i64 i)] ∧ x.take i = y.take i) ⟨rfl, rfl, rfl⟩ ?_
  rintro J i _ _ hJ hi ⟨rfl, rfl, hxy⟩
  simp -implicitDefEqProofs (disch := first | omega | (simp only [List.length_set, List.length_replicate, List.length_append, List.length_map, List.length_take, List.length_cons, List.length_nil]; omega)) [wrap64, Ra.len]
  refine IteW.mk (fun hlt => ?_) (fun hge => ?_)
  · have hly : i < y.length := by omega
    have hlx : i < x.length := by omega
    simp -implicitDefEqProofs (disch := first | omega | (simp only [List.length_set, List.length_replicate, List.length_append, List.length_map, List.length_take, List.length_cons, List.length_nil]; omega)) [wrap64, Ra.I, Rb.I]
    refine IteW.mkr (fun hne => ?_) (fun heq => ?_)
    · simp -implicitDefEqProofs (disch := first | omega | (simp only [List.length_set, List.length_replicate, List.length_append, List.length_map, List.length_take, List.length_cons, List.length_nil]; omega)) [wrap64]
      exact RetK.keep (hk _ _ ⟨rfl, by simp; rintro rfl; exact hne rfl⟩)
    simp -implicitDefEqProofs (disch := first | omega | (simp only [List.length_set, List.length_replicate, List.length_append, List.length_map, List.length_take, List.length_cons, List.length_nil]; omega)) [wrap64]
    exact hJ _ _ hlx ⟨rfl, rfl, take_step hxy hlx hly heq⟩
  · simp -implicitDefEqProofs (disch := first | omega | (simp only [List.length_set, List.length_replicate, List.length_append, List.length_map, List.length_take, List.length_cons, List.length_nil]; omega)) [wrap64]
    refine RetK.keep (hk _ _ ⟨rfl, ?_⟩)
    simp
    rw [List.take_of_length_le (by omega), List.take_of_length_le (by omega)] at hxy
    exact hxy

theorem c_markIntS {g h : Heap} {Γ : List HP} {v : Value} {x : List Int} {k0 : Int} (H : HS g (ow v x :: Γ) h) (hk0 : 0 ≤ k0) (hk1 : k0 + Mk.cnt x < 4611686018427387904) : CallE Try.prog fn_laws_markIntS [v, .int .i64 k0] h (fun u h' => HS g (ow v (Mk.wr k0 x) :: Γ) h' ∧ u = .int .i64 (k0 + Mk.cnt x)) := by
  refine CallE.gen fun k hk => EN_laws_markIntS rfl ?_
  simp -implicitDefEqProofs (disch := first | omega | (simp only [List.length_set, List.length_replicate, List.length_append, List.length_map, List.length_take, List.length_cons, List.length_nil]; omega)) [wrap64]
  refine wp_count x.length (fun i e h' => e = [some v, some (.int .i64 (k0 + cntL (x.take i))), none, some (.int .i64 i)] ∧ ∃ y, HS g (ow v y :: Γ) h' ∧ Mkd k0 x y i) ⟨by simp [cntL], x, H, Mkd.zero⟩ ?_
  rintro J i _ h2 hJ hi ⟨rfl, y, H, M⟩
  have hl := M.len
  have hL := H.rep.lt
  have hcx : Mk.cnt x = cntL x := rfl
  simp -implicitDefEqProofs (disch := first | omega | (simp only [List.length_set, List.length_replicate, List.length_append, List.length_map, List.length_take, List.length_cons, List.length_nil]; omega)) [wrap64, H.rep.len]
  refine IteW.mk (fun hlt => ?_) (fun hge => ?_)
  · have hlx : i < x.length := by omega
    have hly : i < y.length := by omega
    have hb := cntL_le x (i + 1)
    have hc := cntL_take x i hlx
    have h1 : Mk.cnt x[i] = 1 := rfl
    have h4 : IntKind.i64.wrap (k0 + (cntL (x.take i) : Nat) + 1) = k0 + (cntL (x.take i) : Nat) + 1 := wrap64 (by omega) (by omega)
    simp -implicitDefEqProofs (disch := first | omega | (simp only [List.length_set, List.length_replicate, List.length_append, List.length_map, List.length_take, List.length_cons, List.length_nil]; omega)) [wrap64, H.rep.I]
    refine H.storeF (k0 + cntL (x.take i)) hly rfl rfl ⟨by omega, by omega⟩ rfl fun h3 H => ?_
    simp -implicitDefEqProofs (disch := first | omega | (simp only [List.length_set, List.length_replicate, List.length_append, List.length_map, List.length_take, List.length_cons, List.length_nil]; omega)) [wrap64]
    refine hJ _ _ hlx ⟨?_, _, H, M.step hlx⟩
    rw [hc, h1]; push_cast; simp [Int.add_assoc]
  · simp -implicitDefEqProofs (disch := first | omega | (simp only [List.length_set, List.length_replicate, List.length_append, List.length_map, List.length_take, List.length_cons, List.length_nil]; omega)) [wrap64]
    have h2 : x.take i = x := List.take_of_length_le (by omega)
    refine RetK.keep (hk _ _ ⟨?_, by rw [h2]; rfl⟩)
    have h3 : y = Mk.wr k0 x := M.all (by omega)
    rw [← h3]; exact H

theorem c_heldIntS {h : Heap} {v : Value} {x : List Int} {k0 : Int} (Rv : Rep h v x) (hk0 : 0 ≤ k0) (hk1 : k0 + Mk.cnt x < 4611686018427387904) : CallE Try.prog fn_laws_heldIntS [v, .int .i64 k0] h (fun u h' => h' = h ∧ u = .int .i64 (if Mk.wr k0 x = x then k0 + Mk.cnt x else -1)) := by
  refine CallE.gen fun k hk => EN_laws_heldIntS rfl ?_
  have hL := Rv.lt
  have hcx : Mk.cnt x = cntL x := rfl
  simp -implicitDefEqProofs (disch := first | omega | (simp only [List.length_set, List.length_replicate, List.length_append, List.length_map, List.length_take, List.length_cons, List.length_nil]; omega)) [wrap64]
  refine wp_count x.length (fun i e h' => h' = h ∧ e = [some v, some (.int .i64 (k0 + cntL (x.take i))), none, some (.int .i64 i)] ∧ (mkL k0 x).take i = x.take i) ⟨rfl, by simp [cntL], rfl⟩ ?_
  rintro J i _ _ hJ hi ⟨rfl, rfl, M⟩
  simp -implicitDefEqProofs (disch := first | omega | (simp only [List.length_set, List.length_replicate, List.length_append, List.length_map, List.length_take, List.length_cons, List.length_nil]; omega)) [wrap64, Rv.len]
  refine IteW.mk (fun hlt => ?_) (fun hge => ?_)
  · have hlx : i < x.length := by omega
    have hb := cntL_le x (i + 1)
    have hc := cntL_take x i hlx
    have hg := mkL_get k0 x i hlx
    have h1 : Mk.cnt x[i] = 1 := rfl
    obtain ⟨q, hq⟩ : ∃ q, q = k0 + cntL (x.take i) := ⟨_, rfl⟩
    rw [← hq] at hg ⊢
    simp -implicitDefEqProofs (disch := first | omega | (simp only [List.length_set, List.length_replicate, List.length_append, List.length_map, List.length_take, List.length_cons, List.length_nil]; omega)) [wrap64, Rv.I]
    refine IteW.mk (fun hq2 => ?_) (fun hq2 => ?_)
    · simp -implicitDefEqProofs (disch := first | omega | (simp only [List.length_set, List.length_replicate, List.length_append, List.length_map, List.length_take, List.length_cons, List.length_nil]; omega)) [wrap64]
      refine hJ _ _ hlx ⟨rfl, by rw [hc, h1, hq]; push_cast; simp [Int.add_assoc], take_step M (by simpa using hlx) hlx ?_⟩
      rw [hg]
      exact hq2.symm
    · simp -implicitDefEqProofs (disch := first | omega | (simp only [List.length_set, List.length_replicate, List.length_append, List.length_map, List.length_take, List.length_cons, List.length_nil]; omega)) [wrap64]
      refine RetK.keep (hk _ _ ⟨rfl, ?_⟩)
      rw [if_neg]
      intro he
      have he2 : mkL k0 x = x := he
      simp only [he2] at hg
      exact hq2 hg
  · simp -implicitDefEqProofs (disch := first | omega | (simp only [List.length_set, List.length_replicate, List.length_append, List.length_map, List.length_take, List.length_cons, List.length_nil]; omega)) [wrap64]
    have h2 : x.take i = x := List.take_of_length_le (by omega)
    rw [List.take_of_length_le (by simp; omega), h2] at M
    exact RetK.keep (hk _ _ ⟨rfl, by rw [h2]; exact congrArg _ (if_pos M).symm⟩)

theorem c_toBoolS {h : Heap} {a : Value} {x : List Bool} (Ra : Rep h a x) (hs : Sz.sz x ≤ 1048576) : CallE Try.prog fn_laws_toBoolS [a] h (fun v h' => HS h [ow v x] h') := by
  rw [sz_list] at hs
  refine CallE.gen fun k hk => EN_laws_toBoolS rfl ?_
  simp -implicitDefEqProofs (disch := first | omega | (simp only [List.length_set, List.length_replicate, List.length_append, List.length_map, List.length_take, List.length_cons, List.length_nil]; omega)) [wrap64, Ra.B]
  refine HS.init.mks (z := false) rfl rfl (own_false) (Nat.le_refl _) (by omega) (by omega) fun v h1 H => ?_
  simp -implicitDefEqProofs (disch := first | omega | (simp only [List.length_set, List.length_replicate, List.length_append, List.length_map, List.length_take, List.length_cons, List.length_nil]; omega)) [wrap64]
  refine wp_count x.length (fun i e h' => e = [some a, none, some v, some (.int .i64 i)] ∧ ∃ y, HS h [ow v y] h' ∧ y.length = x.length ∧ y.take i = x.take i) ⟨rfl, _, H, by simp, by simp⟩ ?_
  rintro J i _ h2 hJ hi ⟨rfl, y, H, hl, hy⟩
  simp -implicitDefEqProofs (disch := first | omega | (simp only [List.length_set, List.length_replicate, List.length_append, List.length_map, List.length_take, List.length_cons, List.length_nil]; omega)) [wrap64, Ra.B]
  refine IteW.mk (fun hlt => ?_) (fun hge => ?_)
  · have hlx : i < x.length := by omega
    simp -implicitDefEqProofs (disch := first | omega | (simp only [List.length_set, List.length_replicate, List.length_append, List.length_map, List.length_take, List.length_cons, List.length_nil]; omega)) [wrap64, H.rep.B, (Ra.on H).B]
    refine H.storeF x[i] (by omega) rfl rfl (trivial) rfl fun h3 H => ?_
    simp -implicitDefEqProofs (disch := first | omega | (simp only [List.length_set, List.length_replicate, List.length_append, List.length_map, List.length_take, List.length_cons, List.length_nil]; omega)) [wrap64]
    exact hJ _ _ hlx ⟨rfl, _, H, by simp [hl], take_set_succ hy hlx hl⟩
  · simp -implicitDefEqProofs (disch := first | omega | (simp only [List.length_set, List.length_replicate, List.length_append, List.length_map, List.length_take, List.length_cons, List.length_nil]; omega)) [wrap64]
    refine RetK.keep (hk _ _ ?_)
    rw [← eq_of_take hy (by omega) hl]; exact H

theorem c_szBoolS {h : Heap} {a : Value} {x : List Bool} (Ra : Rep h a x) {n : Int} (hn : 0 ≤ n ∧ n ≤ 1048576) : CallE Try.prog fn_laws_szBoolS [a, .int .i64 n] h (fun v h' => h' = h ∧ ∃ m : Int, v = .int .i64 m ∧ (m = -1 ∨ (0 ≤ m ∧ m + Sz.sz x = n))) := by
  rw [sz_list, szL_zero (fun _ => rfl)]
  refine CallE.gen fun k hk => EN_laws_szBoolS rfl ?_
  have hL := Ra.lt
  simp -implicitDefEqProofs (disch := first | omega | (simp only [List.length_set, List.length_replicate, List.length_append, List.length_map, List.length_take, List.length_cons, List.length_nil]; omega)) [wrap64, Ra.B]
  refine IteW.mk (fun hlt => ?_) (fun hge => ?_)
  · simp -implicitDefEqProofs (disch := first | omega | (simp only [List.length_set, List.length_replicate, List.length_append, List.length_map, List.length_take, List.length_cons, List.length_nil]; omega)) [wrap64]
    exact RetK.keep (hk _ _ ⟨rfl, _, rfl, .inl rfl⟩)
  · simp -implicitDefEqProofs (disch := first | omega | (simp only [List.length_set, List.length_replicate, List.length_append, List.length_map, List.length_take, List.length_cons, List.length_nil]; omega)) [wrap64]
    exact RetK.keep (hk _ _ ⟨rfl, _, rfl, .inr (by omega)⟩)

theorem c_eqBoolS {h : Heap} {a b : Value} {x y : List Bool} (Ra : Rep h a x) (Rb : Rep h b y) : CallE Try.prog fn_laws_eqBoolS [a, b] h (fun v h' => h' = h ∧ v = .bool (decide (x = y))) := by
  refine CallE.gen fun k hk => EN_laws_eqBoolS rfl ?_
  have hL := Ra.lt
  simp -implicitDefEqProofs (disch := first | omega | (simp only [List.length_set, List.length_replicate, List.length_append, List.length_map, List.length_take, List.length_cons, List.length_nil]; omega)) [wrap64, Ra.len, Rb.len]
  refine IteW.mkr (fun hne => ?_) (fun heq => ?_)
  · simp -implicitDefEqProofs (disch := first | omega | (simp only [List.length_set, List.length_replicate, List.length_append, List.length_map, List.length_take, List.length_cons, List.length_nil]; omega)) [wrap64]
    exact RetK.keep (hk _ _ ⟨rfl, by simp; rintro rfl; exact hne rfl⟩)
  simp -implicitDefEqProofs (disch := first | omega | (simp only [List.length_set, List.length_replicate, List.length_append, List.length_map, List.length_take, List.length_cons, List.length_nil]; omega)) [wrap64]
  refine wp_count x.length (fun i e h' => h' = h ∧ e = [some a, some b, none, some (.int .i64 i)] ∧ x.take i = y.take i) ⟨rfl, rfl, rfl⟩ ?_
  rintro J i _ _ hJ hi ⟨rfl, rfl, hxy⟩
  simp -implicitDefEqProofs (disch := first | omega | (simp only [List.length_set, List.length_replicate, List.length_append, List.length_map, List.length_take, List.length_cons, List.length_nil]; omega)) [wrap64, Ra.len]
  refine IteW.mk (fun hlt => ?_) (fun hge => ?_)
  · have hly : i < y.length := by omega
    have hlx : i < x.length := by omega
    simp -implicitDefEqProofs (disch := first | omega | (simp only [List.length_set, List.length_replicate, List.length_append, List.length_map, List.length_take, List.length_cons, List.length_nil]; omega)) [wrap64, Ra.B, Rb.B]
    refine IteW.mkr (fun hne => ?_) (fun heq => ?_)
    · simp -implicitDefEqProofs (disch := first | omega | (simp only [List.length_set, List.length_replicate, List.length_append, List.length_map, List.length_take, List.length_cons, List.length_nil]; omega)) [wrap64]
      exact RetK.keep (hk _ _ ⟨rfl, by simp; rintro rfl; exact hne rfl⟩)
    simp -implicitDefEqProofs (disch := first | omega | (simp only [List.length_set, List.length_replicate, List.length_append, List.length_map, List.length_take, List.length_cons, List.length_nil]; omega)) [wrap64]
    exact hJ _ _ hlx ⟨rfl, rfl, take_step hxy hlx hly heq⟩
  · simp -implicitDefEqProofs (disch := first | omega | (simp only [List.length_set, List.length_replicate, List.length_append, List.length_map, List.length_take, List.length_cons, List.length_nil]; omega)) [wrap64]
    refine RetK.keep (hk _ _ ⟨rfl, ?_⟩)
    simp
    rw [List.take_of_length_le (by omega), List.take_of_length_le (by omega)] at hxy
    exact hxy

theorem c_markBoolS {g h : Heap} {Γ : List HP} {v : Value} {x : List Bool} {k0 : Int} (H : HS g (ow v x :: Γ) h) (hk0 : 0 ≤ k0) (hk1 : k0 + Mk.cnt x < 4611686018427387904) : CallE Try.prog fn_laws_markBoolS [v, .int .i64 k0] h (fun u h' => HS g (ow v (Mk.wr k0 x) :: Γ) h' ∧ u = .int .i64 (k0 + Mk.cnt x)) := by
  refine CallE.gen fun k hk => EN_laws_markBoolS rfl ?_
  simp -implicitDefEqProofs (disch := first | omega | (simp only [List.length_set, List.length_replicate, List.length_append, List.length_map, List.length_take, List.length_cons, List.length_nil]; omega)) [wrap64]
  refine wp_count x.length (fun i e h' => e = [some v, some (.int .i64 (k0 + cntL (x.take i))), none, some (.int .i64 i)] ∧ ∃ y, HS g (ow v y :: Γ) h' ∧ Mkd k0 x y i) ⟨by simp [cntL], x, H, Mkd.zero⟩ ?_
  rintro J i _ h2 hJ hi ⟨rfl, y, H, M⟩
  have hl := M.len
  have hL := H.rep.lt
  have hcx : Mk.cnt x = cntL x := rfl
  simp -implicitDefEqProofs (disch := first | omega | (simp only [List.length_set, List.length_replicate, List.length_append, List.length_map, List.length_take, List.length_cons, List.length_nil]; omega)) [wrap64, H.rep.len]
  refine IteW.mk (fun hlt => ?_) (fun hge => ?_)
  · have hlx : i < x.length := by omega
    have hly : i < y.length := by omega
    have hb := cntL_le x (i + 1)
    have hc := cntL_take x i hlx
    have h1 : Mk.cnt x[i] = 1 := rfl
    have h4 : IntKind.i64.wrap (k0 + (cntL (x.take i) : Nat) + 1) = k0 + (cntL (x.take i) : Nat) + 1 := wrap64 (by omega) (by omega)
    simp -implicitDefEqProofs (disch := first | omega | (simp only [List.length_set, List.length_replicate, List.length_append, List.length_map, List.length_take, List.length_cons, List.length_nil]; omega)) [wrap64, H.rep.B]
    refine H.storeF (Mk.wr (k0 + cntL (x.take i)) x[i]) hly rfl rfl trivial rfl fun h3 H => ?_
    simp -implicitDefEqProofs (disch := first | omega | (simp only [List.length_set, List.length_replicate, List.length_append, List.length_map, List.length_take, List.length_cons, List.length_nil]; omega)) [wrap64]
    refine hJ _ _ hlx ⟨?_, _, H, M.step hlx⟩
    rw [hc, h1]; push_cast; simp [Int.add_assoc]
  · simp -implicitDefEqProofs (disch := first | omega | (simp only [List.length_set, List.length_replicate, List.length_append, List.length_map, List.length_take, List.length_cons, List.length_nil]; omega)) [wrap64]
    have h2 : x.take i = x := List.take_of_length_le (by omega)
    refine RetK.keep (hk _ _ ⟨?_, by rw [h2]; rfl⟩)
    have h3 : y = Mk.wr k0 x := M.all (by omega)
    rw [← h3]; exact H

theorem c_heldBoolS {h : Heap} {v : Value} {x : List Bool} {k0 : Int} (Rv : Rep h v x) (hk0 : 0 ≤ k0) (hk1 : k0 + Mk.cnt x < 4611686018427387904) : CallE Try.prog fn_laws_heldBoolS [v, .int .i64 k0] h (fun u h' => h' = h ∧ u = .int .i64 (if Mk.wr k0 x = x then k0 + Mk.cnt x else -1)) := by
  refine CallE.gen fun k hk => EN_laws_heldBoolS rfl ?_
  have hL := Rv.lt
  have hcx : Mk.cnt x = cntL x := rfl
  simp -implicitDefEqProofs (disch := first | omega | (simp only [List.length_set, List.length_replicate, List.length_append, List.length_map, List.length_take, List.length_cons, List.length_nil]; omega)) [wrap64]
  refine wp_count x.length (fun i e h' => h' = h ∧ e = [some v, some (.int .i64 (k0 + cntL (x.take i))), none, some (.int .i64 i)] ∧ (mkL k0 x).take i = x.take i) ⟨rfl, by simp [cntL], rfl⟩ ?_
  rintro J i _ _ hJ hi ⟨rfl, rfl, M⟩
  simp -implicitDefEqProofs (disch := first | omega | (simp only [List.length_set, List.length_replicate, List.length_append, List.length_map, List.length_take, List.length_cons, List.length_nil]; omega)) [wrap64, Rv.len]
  refine IteW.mk (fun hlt => ?_) (fun hge => ?_)
  · have hlx : i < x.length := by omega
    have hb := cntL_le x (i + 1)
    have hc := cntL_take x i hlx
    have hg := mkL_get k0 x i hlx
    have h1 : Mk.cnt x[i] = 1 := rfl
    obtain ⟨q, hq⟩ : ∃ q, q = k0 + cntL (x.take i) := ⟨_, rfl⟩
    rw [← hq] at hg ⊢
    simp -implicitDefEqProofs (disch := first | omega | (simp only [List.length_set, List.length_replicate, List.length_append, List.length_map, List.length_take, List.length_cons, List.length_nil]; omega)) [wrap64, Rv.B]
    refine IteW.mk (fun hq2 => ?_) (fun hq2 => ?_)
    · simp -implicitDefEqProofs (disch := first | omega | (simp only [List.length_set, List.length_replicate, List.length_append, List.length_map, List.length_take, List.length_cons, List.length_nil]; omega)) [wrap64]
      refine hJ _ _ hlx ⟨rfl, by rw [hc, h1, hq]; push_cast; simp [Int.add_assoc], take_step M (by simpa using hlx) hlx ?_⟩
      rw [hg]
      exact hq2.symm
    · simp -implicitDefEqProofs (disch := first | omega | (simp only [List.length_set, List.length_replicate, List.length_append, List.length_map, List.length_take, List.length_cons, List.length_nil]; omega)) [wrap64]
      refine RetK.keep (hk _ _ ⟨rfl, ?_⟩)
      rw [if_neg]
      intro he
      have he2 : mkL k0 x = x := he
      simp only [he2] at hg
      exact hq2 hg
  · simp -implicitDefEqProofs (disch := first | omega | (simp only [List.length_set, List.length_replicate, List.length_append, List.length_map, List.length_take, List.length_cons, List.length_nil]; omega)) [wrap64]
    have h2 : x.take i = x := List.take_of_length_le (by omega)
    rw [List.take_of_length_le (by simp; omega), h2] at M
    exact RetK.keep (hk _ _ ⟨rfl, by rw [h2]; exact congrArg _ (if_pos M).symm⟩)

theorem c_toTransition {h : Heap} {t : Tr} : CallE Try.prog fn_laws_toTransition [t.v] h (fun v h' => h' = h ∧ v = t.v) := by
  refine CallE.gen fun k hk => EN_laws_toTransition rfl ?_
  simp -implicitDefEqProofs (disch := first | omega | (simp only [List.length_set, List.length_replicate, List.length_append, List.length_map, List.length_take, List.length_cons, List.length_nil]; omega)) [wrap64, Tr.v, setC]
  exact RetK.keep (hk _ _ ⟨rfl, rfl⟩)

theorem c_eqTransition {h : Heap} {a b : Value} {s t : Tr} (Ra : Rep h a s) (Rb : Rep h b t) : CallE Try.prog fn_laws_eqTransition [a, b] h (fun v h' => h' = h ∧ v = .bool (decide (s = t))) := by
  rw [(Rep_Tr.1 Ra).1, (Rep_Tr.1 Rb).1]
  refine CallE.gen fun k hk => EN_laws_eqTransition rfl ?_
  simp -implicitDefEqProofs (disch := first | omega | (simp only [List.length_set, List.length_replicate, List.length_append, List.length_map, List.length_take, List.length_cons, List.length_nil]; omega)) [wrap64, Tr.v]
  refine IteW.mkr (fun h1 => ?_) (fun h1 => ?_)
  · simp -implicitDefEqProofs (disch := first | omega | (simp only [List.length_set, List.length_replicate, List.length_append, List.length_map, List.length_take, List.length_cons, List.length_nil]; omega)) [wrap64]
    exact RetK.keep (hk _ _ ⟨rfl, by simp_all [Tr.ext_iff']⟩)
  simp -implicitDefEqProofs (disch := first | omega | (simp only [List.length_set, List.length_replicate, List.length_append, List.length_map, List.length_take, List.length_cons, List.length_nil]; omega)) [wrap64]
  refine IteW.mkr (fun h2 => ?_) (fun h2 => ?_)
  · simp -implicitDefEqProofs (disch := first | omega | (simp only [List.length_set, List.length_replicate, List.length_append, List.length_map, List.length_take, List.length_cons, List.length_nil]; omega)) [wrap64]
    exact RetK.keep (hk _ _ ⟨rfl, by simp_all [Tr.ext_iff']⟩)
  simp -implicitDefEqProofs (disch := first | omega | (simp only [List.length_set, List.length_replicate, List.length_append, List.length_map, List.length_take, List.length_cons, List.length_nil]; omega)) [wrap64]
  refine IteW.mkr (fun h3 => ?_) (fun h3 => ?_)
  · simp -implicitDefEqProofs (disch := first | omega | (simp only [List.length_set, List.length_replicate, List.length_append, List.length_map, List.length_take, List.length_cons, List.length_nil]; omega)) [wrap64]
    exact RetK.keep (hk _ _ ⟨rfl, by simp_all [Tr.ext_iff']⟩)
  simp -implicitDefEqProofs (disch := first | omega | (simp only [List.length_set, List.length_replicate, List.length_append, List.length_map, List.length_take, List.length_cons, List.length_nil]; omega)) [wrap64]
  refine IteW.mkr (fun h4 => ?_) (fun h4 => ?_)
  · simp -implicitDefEqProofs (disch := first | omega | (simp only [List.length_set, List.length_replicate, List.length_append, List.length_map, List.length_take, List.length_cons, List.length_nil]; omega)) [wrap64]
    exact RetK.keep (hk _ _ ⟨rfl, by simp_all [Tr.ext_iff']⟩)
  try simp -implicitDefEqProofs (disch := first | omega | (simp only [List.length_set, List.length_replicate, List.length_append, List.length_map, List.length_take, List.length_cons, List.length_nil]; omega)) [wrap64]
  exact RetK.keep (hk _ _ ⟨rfl, by simp_all [Tr.ext_iff']⟩)

theorem c_toTransitionS {h : Heap} {a : Value} {x : List Tr} (Ra : Rep h a x) (hs : Sz.sz x ≤ 1048576) : CallE Try.prog fn_laws_toTransitionS [a] h (fun v h' => HS h [ow v x] h') := by
  rw [sz_list] at hs
  refine CallE.gen fun k hk => EN_laws_toTransitionS rfl ?_
  simp -implicitDefEqProofs (disch := first | omega | (simp only [List.length_set, List.length_replicate, List.length_append, List.length_map, List.length_take, List.length_cons, List.length_nil]; omega)) [wrap64, Ra.xTr]
  refine HS.init.mks (α := Tr) (z := ⟨0, 0, 0, 0⟩) rfl rfl (Flat.own_iff.2 ⟨rfl, rfl, by refine Tr.ok_iff.2 ⟨?_, ?_, ?_, ?_⟩ <;> decide⟩) (Nat.le_refl _) (by omega) (by omega) fun v h1 H => ?_
  simp -implicitDefEqProofs (disch := first | omega | (simp only [List.length_set, List.length_replicate, List.length_append, List.length_map, List.length_take, List.length_cons, List.length_nil]; omega)) [wrap64]
  refine wp_count x.length (fun i e h' => e = [some a, none, some v, some (.int .i64 i)] ∧ ∃ y, HS h [ow v y] h' ∧ y.length = x.length ∧ y.take i = x.take i) ⟨rfl, _, H, by simp, by simp⟩ ?_
  rintro J i _ h2 hJ hi ⟨rfl, y, H, hl, hy⟩
  simp -implicitDefEqProofs (disch := first | omega | (simp only [List.length_set, List.length_replicate, List.length_append, List.length_map, List.length_take, List.length_cons, List.length_nil]; omega)) [wrap64, Ra.xTr]
  refine IteW.mk (fun hlt => ?_) (fun hge => ?_)
  · have hlx : i < x.length := by omega
    simp -implicitDefEqProofs (disch := first | omega | (simp only [List.length_set, List.length_replicate, List.length_append, List.length_map, List.length_take, List.length_cons, List.length_nil]; omega)) [wrap64, (Ra.on H).xTr]
    refine c_toTransition.go ?_
    rintro _ _ ⟨rfl, rfl⟩
    simp -implicitDefEqProofs (disch := first | omega | (simp only [List.length_set, List.length_replicate, List.length_append, List.length_map, List.length_take, List.length_cons, List.length_nil]; omega)) [wrap64, H.rep.xTr]
    refine H.storeF x[i] (by omega) rfl rfl (Ra.okF hlx) rfl fun h3 H => ?_
    simp -implicitDefEqProofs (disch := first | omega | (simp only [List.length_set, List.length_replicate, List.length_append, List.length_map, List.length_take, List.length_cons, List.length_nil]; omega)) [wrap64]
    exact hJ _ _ hlx ⟨rfl, _, H, by simp [hl], take_set_succ hy hlx hl⟩
  · simp -implicitDefEqProofs (disch := first | omega | (simp only [List.length_set, List.length_replicate, List.length_append, List.length_map, List.length_take, List.length_cons, List.length_nil]; omega)) [wrap64]
    refine RetK.keep (hk _ _ ?_)
    rw [← eq_of_take hy (by omega) hl]; exact H

theorem c_szTransitionS {h : Heap} {a : Value} {x : List Tr} (Ra : Rep h a x) {n : Int} (hn : 0 ≤ n ∧ n ≤ 1048576) : CallE Try.prog fn_laws_szTransitionS [a, .int .i64 n] h (fun v h' => h' = h ∧ ∃ m : Int, v = .int .i64 m ∧ (m = -1 ∨ (0 ≤ m ∧ m + Sz.sz x = n))) := by
  rw [sz_list, szL_zero (fun _ => rfl)]
  refine CallE.gen fun k hk => EN_laws_szTransitionS rfl ?_
  have hL := Ra.lt
  simp -implicitDefEqProofs (disch := first | omega | (simp only [List.length_set, List.length_replicate, List.length_append, List.length_map, List.length_take, List.length_cons, List.length_nil]; omega)) [wrap64, Ra.xTr]
  refine IteW.mk (fun hlt => ?_) (fun hge => ?_)
  · simp -implicitDefEqProofs (disch := first | omega | (simp only [List.length_set, List.length_replicate, List.length_append, List.length_map, List.length_take, List.length_cons, List.length_nil]; omega)) [wrap64]
    exact RetK.keep (hk _ _ ⟨rfl, _, rfl, .inl rfl⟩)
  · simp -implicitDefEqProofs (disch := first | omega | (simp only [List.length_set, List.length_replicate, List.length_append, List.length_map, List.length_take, List.length_cons, List.length_nil]; omega)) [wrap64]
    exact RetK.keep (hk _ _ ⟨rfl, _, rfl, .inr (by omega)⟩)

theorem c_eqTransitionS {h : Heap} {a b : Value} {x y : List Tr} (Ra : Rep h a x) (Rb : Rep h b y) : CallE Try.prog fn_laws_eqTransitionS [a, b] h (fun v h' => h' = h ∧ v = .bool (decide (x = y))) := by
  refine CallE.gen fun k hk => EN_laws_eqTransitionS rfl ?_
  have hL := Ra.lt
  simp -implicitDefEqProofs (disch := first | omega | (simp only [List.length_set, List.length_replicate, List.length_append, List.length_map, List.length_take, List.length_cons, List.length_nil]; omega)) [wrap64, Ra.len, Rb.len]
  refine IteW.mkr (fun hne => ?_) (fun heq => ?_)
  · simp -implicitDefEqProofs (disch := first | omega | (simp only [List.length_set, List.length_replicate, List.length_append, List.length_map, List.length_take, List.length_cons, List.length_nil]; omega)) [wrap64]
    exact RetK.keep (hk _ _ ⟨rfl, by simp; rintro rfl; exact hne rfl⟩)
  simp -implicitDefEqProofs (disch := first | omega | (simp only [List.length_set, List.length_replicate, List.length_append, List.length_map, List.length_take, List.length_cons, List.length_nil]; omega)) [wrap64]
  refine wp_count x.length (fun i e h' => h' = h ∧ e = [some a, some b, none, some (.int .i64 i)] ∧ x.take i = y.take i) ⟨rfl, rfl, rfl⟩ ?_
  rintro J i _ _ hJ hi ⟨rfl, rfl, hxy⟩
  simp -implicitDefEqProofs (disch := first | omega | (simp only [List.length_set, List.length_replicate, List.length_append, List.length_map, List.length_take, List.length_cons, List.length_nil]; omega)) [wrap64, Ra.len]
  refine IteW.mk (fun hlt => ?_) (fun hge => ?_)
  · have hly : i < y.length := by omega
    have hlx : i < x.length := by omega
    obtain ⟨u, hu, Ru⟩ := Ra.ld hlx
    obtain ⟨w, hw, Rw⟩ := Rb.ld hly
    change hload _ (some (elp 4 a i)) (some 4) = some u at hu
    change hload _ (some (elp 4 b i)) (some 4) = some w at hw
    simp -implicitDefEqProofs (disch := first | omega | (simp only [List.length_set, List.length_replicate, List.length_append, List.length_map, List.length_take, List.length_cons, List.length_nil]; omega)) [wrap64, Ra.X (n := 4) rfl, Rb.X (n := 4) rfl, hu, hw]
    refine (c_eqTransition Ru Rw).go ?_
    rintro _ _ ⟨rfl, rfl⟩
    simp -implicitDefEqProofs (disch := first | omega | (simp only [List.length_set, List.length_replicate, List.length_append, List.length_map, List.length_take, List.length_cons, List.length_nil]; omega)) [wrap64]
    refine IteW.mkr (fun hne => ?_) (fun heq => ?_)
    · simp -implicitDefEqProofs (disch := first | omega | (simp only [List.length_set, List.length_replicate, List.length_append, List.length_map, List.length_take, List.length_cons, List.length_nil]; omega)) [wrap64]
      exact RetK.keep (hk _ _ ⟨rfl, by simp; rintro rfl; exact hne rfl⟩)
    simp -implicitDefEqProofs (disch := first | omega | (simp only [List.length_set, List.length_replicate, List.length_append, List.length_map, List.length_take, List.length_cons, List.length_nil]; omega)) [wrap64]
    exact hJ _ _ hlx ⟨rfl, rfl, take_step hxy hlx hly heq⟩
  · simp -implicitDefEqProofs (disch := first | omega | (simp only [List.length_set, List.length_replicate, List.length_append, List.length_map, List.length_take, List.length_cons, List.length_nil]; omega)) [wrap64]
    refine RetK.keep (hk _ _ ⟨rfl, ?_⟩)
    simp
    rw [List.take_of_length_le (by omega), List.take_of_length_le (by omega)] at hxy
    exact hxy

theorem c_markTransitionS {g h : Heap} {Γ : List HP} {v : Value} {x : List Tr} {k0 : Int} (H : HS g (ow v x :: Γ) h) (hk0 : 0 ≤ k0) (hk1 : k0 + Mk.cnt x < 4611686018427387904) : CallE Try.prog fn_laws_markTransitionS [v, .int .i64 k0] h (fun u h' => HS g (ow v (Mk.wr k0 x) :: Γ) h' ∧ u = .int .i64 (k0 + Mk.cnt x)) := by
  refine CallE.gen fun k hk => EN_laws_markTransitionS rfl ?_
  simp -implicitDefEqProofs (disch := first | omega | (simp only [List.length_set, List.length_replicate, List.length_append, List.length_map, List.length_take, List.length_cons, List.length_nil]; omega)) [wrap64]
  refine wp_count x.length (fun i e h' => e = [some v, some (.int .i64 (k0 + cntL (x.take i))), none, some (.int .i64 i)] ∧ ∃ y, HS g (ow v y :: Γ) h' ∧ Mkd k0 x y i) ⟨by simp [cntL], x, H, Mkd.zero⟩ ?_
  rintro J i _ h2 hJ hi ⟨rfl, y, H, M⟩
  have hl := M.len
  have hL := H.rep.lt
  have hcx : Mk.cnt x = cntL x := rfl
  simp -implicitDefEqProofs (disch := first | omega | (simp only [List.length_set, List.length_replicate, List.length_append, List.length_map, List.length_take, List.length_cons, List.length_nil]; omega)) [wrap64, H.rep.len]
  refine IteW.mk (fun hlt => ?_) (fun hge => ?_)
  · have hlx : i < x.length := by omega
    have hly : i < y.length := by omega
    have hb := cntL_le x (i + 1)
    have hc := cntL_take x i hlx
    have h1 : Mk.cnt x[i] = 4 := rfl
    have hok := H.rep.okTr hly
    obtain ⟨q, hq⟩ : ∃ q, q = k0 + cntL (x.take i) := ⟨_, rfl⟩
    rw [← hq]
    simp -implicitDefEqProofs (disch := first | omega | (simp only [List.length_set, List.length_replicate, List.length_append, List.length_map, List.length_take, List.length_cons, List.length_nil]; omega)) [wrap64, H.rep.ian (n := 4) rfl hly, H.rep.fa hly]
    refine H.storeFld (α := Tr) ⟨q, y[i].care, y[i].value, y[i].to⟩ hly rfl rfl rfl rfl (by decide) (by first | rfl | (simp; rfl)) (Tr.ok_iff.2 ⟨by dsimp; omega, hok.care, hok.value, hok.to⟩) fun h3 H => ?_
    have hly' : i < (y.set i ⟨q, y[i].care, y[i].value, y[i].to⟩).length := by simpa using hly
    simp -implicitDefEqProofs (disch := first | omega | (simp only [List.length_set, List.length_replicate, List.length_append, List.length_map, List.length_take, List.length_cons, List.length_nil]; omega)) [wrap64, H.rep.ian (n := 4) rfl hly', H.rep.fa hly']
    refine H.storeFld (α := Tr) ⟨q, q + 1, y[i].value, y[i].to⟩ hly' rfl rfl rfl rfl (by decide) (by first | rfl | (simp; rfl)) (Tr.ok_iff.2 ⟨by dsimp; omega, by dsimp; omega, hok.value, hok.to⟩) fun h3 H => ?_
    rw [List.set_set] at H
    have hly' : i < (y.set i ⟨q, q + 1, y[i].value, y[i].to⟩).length := by simpa using hly
    simp -implicitDefEqProofs (disch := first | omega | (simp only [List.length_set, List.length_replicate, List.length_append, List.length_map, List.length_take, List.length_cons, List.length_nil]; omega)) [wrap64, H.rep.ian (n := 4) rfl hly', H.rep.fa hly']
    refine H.storeFld (α := Tr) ⟨q, q + 1, q + 1 + 1, y[i].to⟩ hly' rfl rfl rfl rfl (by decide) (by first | rfl | (simp; rfl)) (Tr.ok_iff.2 ⟨by dsimp; omega, by dsimp; omega, by dsimp; omega, hok.to⟩) fun h3 H => ?_
    rw [List.set_set] at H
    have hly' : i < (y.set i ⟨q, q + 1, q + 1 + 1, y[i].to⟩).length := by simpa using hly
    simp -implicitDefEqProofs (disch := first | omega | (simp only [List.length_set, List.length_replicate, List.length_append, List.length_map, List.length_take, List.length_cons, List.length_nil]; omega)) [wrap64, H.rep.ian (n := 4) rfl hly', H.rep.fa hly']
    refine H.storeFld (α := Tr) ⟨q, q + 1, q + 1 + 1, q + 1 + 1 + 1⟩ hly' rfl rfl rfl rfl (by decide) (by first | rfl | (simp; rfl)) (Tr.ok_iff.2 ⟨by dsimp; omega, by dsimp; omega, by dsimp; omega, by dsimp; omega⟩) fun h3 H => ?_
    rw [List.set_set] at H
    simp -implicitDefEqProofs (disch := first | omega | (simp only [List.length_set, List.length_replicate, List.length_append, List.length_map, List.length_take, List.length_cons, List.length_nil]; omega)) [wrap64]
    have M' := M.step hlx
    rw [← hq] at M'
    exact hJ _ _ hlx ⟨by rw [hc, h1, hq]; push_cast; simp [Int.add_assoc], _, H, M'⟩
  · simp -implicitDefEqProofs (disch := first | omega | (simp only [List.length_set, List.length_replicate, List.length_append, List.length_map, List.length_take, List.length_cons, List.length_nil]; omega)) [wrap64]
    have h2 : x.take i = x := List.take_of_length_le (by omega)
    refine RetK.keep (hk _ _ ⟨?_, by rw [h2]; rfl⟩)
    have h3 : y = Mk.wr k0 x := M.all (by omega)
    rw [← h3]; exact H

theorem c_heldTransitionS {h : Heap} {v : Value} {x : List Tr} {k0 : Int} (Rv : Rep h v x) (hk0 : 0 ≤ k0) (hk1 : k0 + Mk.cnt x < 4611686018427387904) : CallE Try.prog fn_laws_heldTransitionS [v, .int .i64 k0] h (fun u h' => h' = h ∧ u = .int .i64 (if Mk.wr k0 x = x then k0 + Mk.cnt x else -1)) := by
  refine CallE.gen fun k hk => EN_laws_heldTransitionS rfl ?_
  have hL := Rv.lt
  have hcx : Mk.cnt x = cntL x := rfl
  simp -implicitDefEqProofs (disch := first | omega | (simp only [List.length_set, List.length_replicate, List.length_append, List.length_map, List.length_take, List.length_cons, List.length_nil]; omega)) [wrap64]
  refine wp_count x.length (fun i e h' => h' = h ∧ e = [some v, some (.int .i64 (k0 + cntL (x.take i))), none, some (.int .i64 i)] ∧ (mkL k0 x).take i = x.take i) ⟨rfl, by simp [cntL], rfl⟩ ?_
  rintro J i _ _ hJ hi ⟨rfl, rfl, M⟩
  simp -implicitDefEqProofs (disch := first | omega | (simp only [List.length_set, List.length_replicate, List.length_append, List.length_map, List.length_take, List.length_cons, List.length_nil]; omega)) [wrap64, Rv.len]
  refine IteW.mk (fun hlt => ?_) (fun hge => ?_)
  · have hlx : i < x.length := by omega
    have hb := cntL_le x (i + 1)
    have hc := cntL_take x i hlx
    have hg := mkL_get k0 x i hlx
    have h1 : Mk.cnt x[i] = 4 := rfl
    obtain ⟨q, hq⟩ : ∃ q, q = k0 + cntL (x.take i) := ⟨_, rfl⟩
    rw [← hq] at hg ⊢
    have hw : Mk.wr q x[i] = ⟨q, q + 1, q + 1 + 1, q + 1 + 1 + 1⟩ := rfl
    have hno : Mk.wr q x[i] ≠ x[i] → ¬ Mk.wr k0 x = x := by
      intro hm he
      have he2 : mkL k0 x = x := he
      simp only [he2] at hg
      exact hm hg.symm
    by_cases m0 : x[i].frm = q
    case neg =>
      simp -implicitDefEqProofs (disch := first | omega | (simp only [List.length_set, List.length_replicate, List.length_append, List.length_map, List.length_take, List.length_cons, List.length_nil]; omega)) [wrap64, Rv.X (n := 4) rfl, Rv.fTr, m0]
      refine RetK.keep (hk _ _ ⟨rfl, ?_⟩)
      rw [if_neg (hno fun he => m0 (by rw [hw] at he; rw [← he]))]
    by_cases m1 : x[i].care = q + 1
    case neg =>
      simp -implicitDefEqProofs (disch := first | omega | (simp only [List.length_set, List.length_replicate, List.length_append, List.length_map, List.length_take, List.length_cons, List.length_nil]; omega)) [wrap64, Rv.X (n := 4) rfl, Rv.fTr, m0, m1]
      refine RetK.keep (hk _ _ ⟨rfl, ?_⟩)
      rw [if_neg (hno fun he => m1 (by rw [hw] at he; rw [← he]))]
    by_cases m2 : x[i].value = q + 1 + 1
    case neg =>
      simp -implicitDefEqProofs (disch := first | omega | (simp only [List.length_set, List.length_replicate, List.length_append, List.length_map, List.length_take, List.length_cons, List.length_nil]; omega)) [wrap64, Rv.X (n := 4) rfl, Rv.fTr, m0, m1, m2]
      refine RetK.keep (hk _ _ ⟨rfl, ?_⟩)
      rw [if_neg (hno fun he => m2 (by rw [hw] at he; rw [← he]))]
    by_cases m3 : x[i].to = q + 1 + 1 + 1
    case neg =>
      simp -implicitDefEqProofs (disch := first | omega | (simp only [List.length_set, List.length_replicate, List.length_append, List.length_map, List.length_take, List.length_cons, List.length_nil]; omega)) [wrap64, Rv.X (n := 4) rfl, Rv.fTr, m0, m1, m2, m3]
      refine RetK.keep (hk _ _ ⟨rfl, ?_⟩)
      rw [if_neg (hno fun he => m3 (by rw [hw] at he; rw [← he]))]
    simp -implicitDefEqProofs (disch := first | omega | (simp only [List.length_set, List.length_replicate, List.length_append, List.length_map, List.length_take, List.length_cons, List.length_nil]; omega)) [wrap64, Rv.X (n := 4) rfl, Rv.fTr, m0, m1, m2, m3]
    refine hJ _ _ hlx ⟨rfl, by rw [hc, h1, hq]; push_cast; simp [Int.add_assoc], take_step M (by simpa using hlx) hlx ?_⟩
    rw [hg, hw, Tr.ext_iff']
    exact ⟨m0.symm, m1.symm, m2.symm, m3.symm⟩
  · simp -implicitDefEqProofs (disch := first | omega | (simp only [List.length_set, List.length_replicate, List.length_append, List.length_map, List.length_take, List.length_cons, List.length_nil]; omega)) [wrap64]
    have h2 : x.take i = x := List.take_of_length_le (by omega)
    rw [List.take_of_length_le (by simp; omega), h2] at M
    exact RetK.keep (hk _ _ ⟨rfl, by rw [h2]; exact congrArg _ (if_pos M).symm⟩)

theorem c_toAutomaton {h : Heap} {v : Value} {a : Aut} (Ra : Rep h v a) (hs : Sz.sz a ≤ 1048576) : CallE Try.prog fn_laws_toAutomaton [v] h (fun v h' => HS h [ow v a] h') := by
  have hs' : Sz.sz a.init + Sz.sz a.acc + Sz.sz a.edges ≤ 1048576 := hs
  obtain ⟨v1, v2, v3, rfl, R1, R2, R3⟩ := Rep_Aut.1 Ra
  refine CallE.gen fun k hk => EN_laws_toAutomaton rfl ?_
  have H0 : HS h [] h := HS.init
  simp -implicitDefEqProofs (disch := first | omega | (simp only [List.length_set, List.length_replicate, List.length_append, List.length_map, List.length_take, List.length_cons, List.length_nil]; omega)) [wrap64, setC]
  refine (c_toIntS (R1.on H0) (by omega)).go ?_
  intro u1 h1 G1
  have H1 := HS.app G1 H0
  simp -implicitDefEqProofs (disch := first | omega | (simp only [List.length_set, List.length_replicate, List.length_append, List.length_map, List.length_take, List.length_cons, List.length_nil]; omega)) [wrap64, setC, G1.rep.cells, G1.rep.one]
  refine (c_toBoolS (R2.on H1) (by omega)).go ?_
  intro u2 h2 G2
  have H2 := HS.app G2 H1
  simp -implicitDefEqProofs (disch := first | omega | (simp only [List.length_set, List.length_replicate, List.length_append, List.length_map, List.length_take, List.length_cons, List.length_nil]; omega)) [wrap64, setC, G1.rep.cells, G1.rep.one, G2.rep.cells, G2.rep.one]
  refine (c_toTransitionS (R3.on H2) (by omega)).go ?_
  intro u3 h3 G3
  have H3 := HS.app G3 H2
  simp -implicitDefEqProofs (disch := first | omega | (simp only [List.length_set, List.length_replicate, List.length_append, List.length_map, List.length_take, List.length_cons, List.length_nil]; omega)) [wrap64, setC, G1.rep.cells, G1.rep.one, G2.rep.cells, G2.rep.one, G3.rep.cells, G3.rep.one]
  exact RetK.keep (hk _ _ (HS.mkAut H3.sw1.sw2))

theorem c_szAutomaton {h : Heap} {a : Value} {x : Aut} (Ra : Rep h a x) {n : Int} (hn : 0 ≤ n ∧ n ≤ 1048576) : CallE Try.prog fn_laws_szAutomaton [a, .int .i64 n] h (fun v h' => h' = h ∧ ∃ m : Int, v = .int .i64 m ∧ (m = -1 ∨ (0 ≤ m ∧ m + Sz.sz x = n))) := by
  have hz : Sz.sz x = Sz.sz x.init + Sz.sz x.acc + Sz.sz x.edges := rfl
  obtain ⟨v1, v2, v3, rfl, R1, R2, R3⟩ := Rep_Aut.1 Ra
  refine CallE.gen fun k hk => EN_laws_szAutomaton rfl ?_
  simp -implicitDefEqProofs (disch := first | omega | (simp only [List.length_set, List.length_replicate, List.length_append, List.length_map, List.length_take, List.length_cons, List.length_nil]; omega)) [wrap64]
  refine (c_szIntS R1 (by omega)).go ?_
  rintro _ _ ⟨rfl, m1, rfl, q1⟩
  simp -implicitDefEqProofs (disch := first | omega | (simp only [List.length_set, List.length_replicate, List.length_append, List.length_map, List.length_take, List.length_cons, List.length_nil]; omega)) [wrap64]
  refine IteW.mk (fun hlt => ?_) (fun hge => ?_)
  · simp -implicitDefEqProofs (disch := first | omega | (simp only [List.length_set, List.length_replicate, List.length_append, List.length_map, List.length_take, List.length_cons, List.length_nil]; omega)) [wrap64]
    exact RetK.keep (hk _ _ ⟨rfl, _, rfl, .inl rfl⟩)
  simp -implicitDefEqProofs (disch := first | omega | (simp only [List.length_set, List.length_replicate, List.length_append, List.length_map, List.length_take, List.length_cons, List.length_nil]; omega)) [wrap64]
  refine (c_szBoolS R2 (by omega)).go ?_
  rintro _ _ ⟨rfl, m2, rfl, q2⟩
  simp -implicitDefEqProofs (disch := first | omega | (simp only [List.length_set, List.length_replicate, List.length_append, List.length_map, List.length_take, List.length_cons, List.length_nil]; omega)) [wrap64]
  refine IteW.mk (fun hlt => ?_) (fun hge => ?_)
  · simp -implicitDefEqProofs (disch := first | omega | (simp only [List.length_set, List.length_replicate, List.length_append, List.length_map, List.length_take, List.length_cons, List.length_nil]; omega)) [wrap64]
    exact RetK.keep (hk _ _ ⟨rfl, _, rfl, .inl rfl⟩)
  simp -implicitDefEqProofs (disch := first | omega | (simp only [List.length_set, List.length_replicate, List.length_append, List.length_map, List.length_take, List.length_cons, List.length_nil]; omega)) [wrap64]
  refine (c_szTransitionS R3 (by omega)).go ?_
  rintro _ _ ⟨rfl, m3, rfl, q3⟩
  simp -implicitDefEqProofs (disch := first | omega | (simp only [List.length_set, List.length_replicate, List.length_append, List.length_map, List.length_take, List.length_cons, List.length_nil]; omega)) [wrap64]
  refine IteW.mk (fun hlt => ?_) (fun hge => ?_)
  · simp -implicitDefEqProofs (disch := first | omega | (simp only [List.length_set, List.length_replicate, List.length_append, List.length_map, List.length_take, List.length_cons, List.length_nil]; omega)) [wrap64]
    exact RetK.keep (hk _ _ ⟨rfl, _, rfl, .inl rfl⟩)
  try simp -implicitDefEqProofs (disch := first | omega | (simp only [List.length_set, List.length_replicate, List.length_append, List.length_map, List.length_take, List.length_cons, List.length_nil]; omega)) [wrap64]
  exact RetK.keep (hk _ _ ⟨rfl, _, rfl, .inr (by omega)⟩)

theorem c_eqAutomaton {h : Heap} {a b : Value} {x y : Aut} (Ra : Rep h a x) (Rb : Rep h b y) : CallE Try.prog fn_laws_eqAutomaton [a, b] h (fun v h' => h' = h ∧ v = .bool (decide (x = y))) := by
  obtain ⟨v1, v2, v3, rfl, R1, R2, R3⟩ := Rep_Aut.1 Ra
  obtain ⟨w1, w2, w3, rfl, S1, S2, S3⟩ := Rep_Aut.1 Rb
  refine CallE.gen fun k hk => EN_laws_eqAutomaton rfl ?_
  simp -implicitDefEqProofs (disch := first | omega | (simp only [List.length_set, List.length_replicate, List.length_append, List.length_map, List.length_take, List.length_cons, List.length_nil]; omega)) [wrap64]
  refine (c_eqIntS R1 S1).go ?_
  rintro _ _ ⟨rfl, rfl⟩
  simp -implicitDefEqProofs (disch := first | omega | (simp only [List.length_set, List.length_replicate, List.length_append, List.length_map, List.length_take, List.length_cons, List.length_nil]; omega)) [wrap64]
  refine IteW.mkr (fun h1 => ?_) (fun h1 => ?_)
  · simp -implicitDefEqProofs (disch := first | omega | (simp only [List.length_set, List.length_replicate, List.length_append, List.length_map, List.length_take, List.length_cons, List.length_nil]; omega)) [wrap64]
    exact RetK.keep (hk _ _ ⟨rfl, by simp_all [Aut.ext_iff']⟩)
  simp -implicitDefEqProofs (disch := first | omega | (simp only [List.length_set, List.length_replicate, List.length_append, List.length_map, List.length_take, List.length_cons, List.length_nil]; omega)) [wrap64]
  refine (c_eqBoolS R2 S2).go ?_
  rintro _ _ ⟨rfl, rfl⟩
  simp -implicitDefEqProofs (disch := first | omega | (simp only [List.length_set, List.length_replicate, List.length_append, List.length_map, List.length_take, List.length_cons, List.length_nil]; omega)) [wrap64]
  refine IteW.mkr (fun h2 => ?_) (fun h2 => ?_)
  · simp -implicitDefEqProofs (disch := first | omega | (simp only [List.length_set, List.length_replicate, List.length_append, List.length_map, List.length_take, List.length_cons, List.length_nil]; omega)) [wrap64]
    exact RetK.keep (hk _ _ ⟨rfl, by simp_all [Aut.ext_iff']⟩)
  simp -implicitDefEqProofs (disch := first | omega | (simp only [List.length_set, List.length_replicate, List.length_append, List.length_map, List.length_take, List.length_cons, List.length_nil]; omega)) [wrap64]
  refine (c_eqTransitionS R3 S3).go ?_
  rintro _ _ ⟨rfl, rfl⟩
  simp -implicitDefEqProofs (disch := first | omega | (simp only [List.length_set, List.length_replicate, List.length_append, List.length_map, List.length_take, List.length_cons, List.length_nil]; omega)) [wrap64]
  refine IteW.mkr (fun h3 => ?_) (fun h3 => ?_)
  · simp -implicitDefEqProofs (disch := first | omega | (simp only [List.length_set, List.length_replicate, List.length_append, List.length_map, List.length_take, List.length_cons, List.length_nil]; omega)) [wrap64]
    exact RetK.keep (hk _ _ ⟨rfl, by simp_all [Aut.ext_iff']⟩)
  try simp -implicitDefEqProofs (disch := first | omega | (simp only [List.length_set, List.length_replicate, List.length_append, List.length_map, List.length_take, List.length_cons, List.length_nil]; omega)) [wrap64]
  exact RetK.keep (hk _ _ ⟨rfl, by simp_all [Aut.ext_iff']⟩)

theorem c_markAutomaton {g h : Heap} {Γ : List HP} {v : Value} {x : Aut} {k0 : Int} (H : HS g (ow v x :: Γ) h) (hk0 : 0 ≤ k0) (hk1 : k0 + Mk.cnt x < 4611686018427387904) : CallE Try.prog fn_laws_markAutomaton [v, .int .i64 k0] h (fun u h' => HS g (ow v (Mk.wr k0 x) :: Γ) h' ∧ u = .int .i64 (k0 + Mk.cnt x)) := by
  have hc : Mk.cnt x = Mk.cnt x.init + Mk.cnt x.acc + Mk.cnt x.edges := rfl
  obtain ⟨v1, v2, v3, rfl, H0⟩ := HS.unAut H
  refine CallE.gen fun k hk => EN_laws_markAutomaton rfl ?_
  simp -implicitDefEqProofs (disch := first | omega | (simp only [List.length_set, List.length_replicate, List.length_append, List.length_map, List.length_take, List.length_cons, List.length_nil]; omega)) [wrap64]
  refine (c_markIntS (k0 := k0) H0 (by omega) (by omega)).go ?_
  rintro _ h1 ⟨G1, rfl⟩
  have H1 := G1.bk2
  simp -implicitDefEqProofs (disch := first | omega | (simp only [List.length_set, List.length_replicate, List.length_append, List.length_map, List.length_take, List.length_cons, List.length_nil]; omega)) [wrap64]
  refine (c_markBoolS (k0 := k0 + (Mk.cnt x.init : Nat)) H1 (by omega) (by omega)).go ?_
  rintro _ h2 ⟨G2, rfl⟩
  have H2 := G2.bk2
  simp -implicitDefEqProofs (disch := first | omega | (simp only [List.length_set, List.length_replicate, List.length_append, List.length_map, List.length_take, List.length_cons, List.length_nil]; omega)) [wrap64]
  refine (c_markTransitionS (k0 := k0 + (Mk.cnt x.init : Nat) + (Mk.cnt x.acc : Nat)) H2 (by omega) (by omega)).go ?_
  rintro _ h3 ⟨G3, rfl⟩
  have H3 := G3.bk2
  simp -implicitDefEqProofs (disch := first | omega | (simp only [List.length_set, List.length_replicate, List.length_append, List.length_map, List.length_take, List.length_cons, List.length_nil]; omega)) [wrap64]
  refine RetK.keep (hk _ _ ⟨HS.mkAut H3, ?_⟩)
  rw [hc]; congr 1; omega

theorem c_heldAutomaton {h : Heap} {v : Value} {x : Aut} {k0 : Int} (Rv : Rep h v x) (hk0 : 0 ≤ k0) (hk1 : k0 + Mk.cnt x < 4611686018427387904) : CallE Try.prog fn_laws_heldAutomaton [v, .int .i64 k0] h (fun u h' => h' = h ∧ u = .int .i64 (if Mk.wr k0 x = x then k0 + Mk.cnt x else -1)) := by
  have hc : Mk.cnt x = Mk.cnt x.init + Mk.cnt x.acc + Mk.cnt x.edges := rfl
  have hw : Mk.wr k0 x = ⟨Mk.wr (k0) x.init, Mk.wr (k0 + (Mk.cnt x.init : Nat)) x.acc, Mk.wr (k0 + (Mk.cnt x.init : Nat) + (Mk.cnt x.acc : Nat)) x.edges⟩ := rfl
  obtain ⟨v1, v2, v3, rfl, R1, R2, R3⟩ := Rep_Aut.1 Rv
  refine CallE.gen fun k hk => EN_laws_heldAutomaton rfl ?_
  simp -implicitDefEqProofs (disch := first | omega | (simp only [List.length_set, List.length_replicate, List.length_append, List.length_map, List.length_take, List.length_cons, List.length_nil]; omega)) [wrap64]
  refine (c_heldIntS (k0 := k0) R1 (by omega) (by omega)).go ?_
  rintro _ _ ⟨rfl, rfl⟩
  by_cases m1 : Mk.wr (k0) x.init = x.init
  case neg =>
    rw [if_neg m1]
    simp -implicitDefEqProofs (disch := first | omega | (simp only [List.length_set, List.length_replicate, List.length_append, List.length_map, List.length_take, List.length_cons, List.length_nil]; omega)) [wrap64]
    refine RetK.keep (hk _ _ ⟨rfl, ?_⟩)
    rw [if_neg]
    intro he
    rw [hw] at he
    exact m1 (congrArg Aut.init he)
  rw [if_pos m1]
  simp -implicitDefEqProofs (disch := first | omega | (simp only [List.length_set, List.length_replicate, List.length_append, List.length_map, List.length_take, List.length_cons, List.length_nil]; omega)) [wrap64]
  rw [IteW_neg (by omega)]
  simp -implicitDefEqProofs (disch := first | omega | (simp only [List.length_set, List.length_replicate, List.length_append, List.length_map, List.length_take, List.length_cons, List.length_nil]; omega)) [wrap64]
  refine (c_heldBoolS (k0 := k0 + (Mk.cnt x.init : Nat)) R2 (by omega) (by omega)).go ?_
  rintro _ _ ⟨rfl, rfl⟩
  by_cases m2 : Mk.wr (k0 + (Mk.cnt x.init : Nat)) x.acc = x.acc
  case neg =>
    rw [if_neg m2]
    simp -implicitDefEqProofs (disch := first | omega | (simp only [List.length_set, List.length_replicate, List.length_append, List.length_map, List.length_take, List.length_cons, List.length_nil]; omega)) [wrap64]
    refine RetK.keep (hk _ _ ⟨rfl, ?_⟩)
    rw [if_neg]
    intro he
    rw [hw] at he
    exact m2 (congrArg Aut.acc he)
  rw [if_pos m2]
  simp -implicitDefEqProofs (disch := first | omega | (simp only [List.length_set, List.length_replicate, List.length_append, List.length_map, List.length_take, List.length_cons, List.length_nil]; omega)) [wrap64]
  rw [IteW_neg (by omega)]
  simp -implicitDefEqProofs (disch := first | omega | (simp only [List.length_set, List.length_replicate, List.length_append, List.length_map, List.length_take, List.length_cons, List.length_nil]; omega)) [wrap64]
  refine (c_heldTransitionS (k0 := k0 + (Mk.cnt x.init : Nat) + (Mk.cnt x.acc : Nat)) R3 (by omega) (by omega)).go ?_
  rintro _ _ ⟨rfl, rfl⟩
  by_cases m3 : Mk.wr (k0 + (Mk.cnt x.init : Nat) + (Mk.cnt x.acc : Nat)) x.edges = x.edges
  case neg =>
    rw [if_neg m3]
    simp -implicitDefEqProofs (disch := first | omega | (simp only [List.length_set, List.length_replicate, List.length_append, List.length_map, List.length_take, List.length_cons, List.length_nil]; omega)) [wrap64]
    refine RetK.keep (hk _ _ ⟨rfl, ?_⟩)
    rw [if_neg]
    intro he
    rw [hw] at he
    exact m3 (congrArg Aut.edges he)
  rw [if_pos m3]
  simp -implicitDefEqProofs (disch := first | omega | (simp only [List.length_set, List.length_replicate, List.length_append, List.length_map, List.length_take, List.length_cons, List.length_nil]; omega)) [wrap64]
  rw [IteW_neg (by omega)]
  simp -implicitDefEqProofs (disch := first | omega | (simp only [List.length_set, List.length_replicate, List.length_append, List.length_map, List.length_take, List.length_cons, List.length_nil]; omega)) [wrap64]
  refine RetK.keep (hk _ _ ⟨rfl, ?_⟩)
  rw [if_pos, hc]
  · congr 1; omega
  · rw [hw, m1, m2, m3]

end Go.Proofs.Ytknkjplnngeebaa
