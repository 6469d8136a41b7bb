/-
  Which variables matter, by the program and by the reference.
-/
import Derived.Test.YthgimpheeemooaaI6
import Derived.Test.YthgimpheeemooaaE3
namespace Go.Proofs.Ythgimpheeemooaa
open Go
set_option linter.all false
set_option linter.unusedVariables false
set_option linter.unusedSimpArgs false
set_option linter.defProp false
set_option maxRecDepth 1000000

theorem c_vars : ∀ (x : Exq) {n : Nat} {g h : Heap} {Γ : List HP} {v m : Value} {M : List Bool}, x.Shp n → Rep g v x → HS g (ow m M :: Γ) h → M.length = 3 →
    CallE Try.prog fn_impl_Expr_vars [v, m] h (fun _ h' => HS g (ow m (x.mkv M) :: Γ) h') := by
  refine Exq.ind fun x ih n g h Γ v m M hs R H hM => ?_
  cases n with
  | zero => exact hs.elim
  | succ n =>
  obtain ⟨w, rfl, k1, k2, R1⟩ := Rep_Exq.1 R
  have hL := R1.lt
  obtain ⟨M0, hM0⟩ : ∃ M0, M0 = if x.kind = 2 then M.set x.val.toNat true else M := ⟨_, rfl⟩
  have hM0l : M0.length = 3 := by rw [hM0]; split <;> simp [hM]
  have hmk := x.mkv_eq M
  rw [← hM0] at hmk
  -- the operands
  have hkids : ∀ {k : Value → Heap → Prop} {h : Heap}, (∀ v h', HS g (ow m (x.mkv M) :: Γ) h' → k v h') → HS g (ow m M0 :: Γ) h → ∀ (J : Env → Heap → Prop), True := fun _ _ _ => trivial
  refine CallE.gen fun k hk => EN_impl_Expr_vars rfl ?_
  by_cases c1 : x.kind = 2
  · have hlo := hs.1.lo
    have hhi := hs.1.hi
    rw [c1] at hhi
    simp [Exq.most] at hhi
    obtain ⟨q, hq⟩ : ∃ q : Nat, x.val = q := ⟨x.val.toNat, by omega⟩
    simp -implicitDefEqProofs (disch := first | omega | (simp only [List.length_set, List.length_replicate, List.length_append, List.length_map, List.length_take, List.length_cons, List.length_nil]; omega)) [wrap64, c1, hq, H.rep.B]
    refine H.storeF true (i := q) (by omega) rfl rfl trivial rfl fun h1 H => ?_
    rw [if_pos c1, hq, Int.toNat_natCast] at hM0
    rw [← hM0] at H
    simp -implicitDefEqProofs (disch := first | omega | (simp only [List.length_set, List.length_replicate, List.length_append, List.length_map, List.length_take, List.length_cons, List.length_nil]; omega)) [wrap64, R1.len]
    refine wp_count x.kids.length (fun i e h' => e = [none, some m, none, none, some w, some (.int .i64 x.kids.length), some (.int .i64 i)] ∧ HS g (ow m ((x.kids.take i).foldl (fun M x => x.mkv M) M0) :: Γ) h') ⟨by simp, H⟩ ?_
    clear H
    rintro J i _ h2 hJ hi ⟨rfl, H⟩
    simp -implicitDefEqProofs (disch := first | omega | (simp only [List.length_set, List.length_replicate, List.length_append, List.length_map, List.length_take, List.length_cons, List.length_nil]; omega)) [wrap64]
    refine IteW.mk (fun hlt => ?_) (fun hge => ?_)
    · have hlx : i < x.kids.length := by omega
      obtain ⟨u, hu, Ru⟩ := R1.ld hlx
      have hu2 := hload_le H.base hu
      change hload _ (some (elp 3 w i)) (some 3) = some u at hu2
      simp -implicitDefEqProofs (disch := first | omega | (simp only [List.length_set, List.length_replicate, List.length_append, List.length_map, List.length_take, List.length_cons, List.length_nil]; omega)) [wrap64, R1.X (n := 3) rfl, hu2, Ru.aExq]
      refine (ih _ (List.getElem_mem hlx) (hs.kid hlx) Ru H (Exq.fold_len (fun y _ _ h => y.mkv_len h) hM0l)).go ?_
      intro _ h3 H
      simp -implicitDefEqProofs (disch := first | omega | (simp only [List.length_set, List.length_replicate, List.length_append, List.length_map, List.length_take, List.length_cons, List.length_nil]; omega)) [wrap64]
      exact hJ _ _ hlx ⟨by simp, by rw [foldl_tk hlx]; exact H⟩
    · simp -implicitDefEqProofs (disch := first | omega | (simp only [List.length_set, List.length_replicate, List.length_append, List.length_map, List.length_take, List.length_cons, List.length_nil]; omega)) [wrap64]
      rw [List.take_of_length_le (by omega), ← hmk] at H
      exact RetK.keep (hk _ _ H)
  · rw [if_neg c1] at hM0
    rw [← hM0] at H
    simp -implicitDefEqProofs (disch := first | omega | (simp only [List.length_set, List.length_replicate, List.length_append, List.length_map, List.length_take, List.length_cons, List.length_nil]; omega)) [wrap64, c1, R1.len]
    refine wp_count x.kids.length (fun i e h' => e = [none, some m, none, none, some w, some (.int .i64 x.kids.length), some (.int .i64 i)] ∧ HS g (ow m ((x.kids.take i).foldl (fun M x => x.mkv M) M0) :: Γ) h') ⟨by simp, H⟩ ?_
    clear H
    rintro J i _ h2 hJ hi ⟨rfl, H⟩
    simp -implicitDefEqProofs (disch := first | omega | (simp only [List.length_set, List.length_replicate, List.length_append, List.length_map, List.length_take, List.length_cons, List.length_nil]; omega)) [wrap64]
    refine IteW.mk (fun hlt => ?_) (fun hge => ?_)
    · have hlx : i < x.kids.length := by omega
      obtain ⟨u, hu, Ru⟩ := R1.ld hlx
      have hu2 := hload_le H.base hu
      change hload _ (some (elp 3 w i)) (some 3) = some u at hu2
      simp -implicitDefEqProofs (disch := first | omega | (simp only [List.length_set, List.length_replicate, List.length_append, List.length_map, List.length_take, List.length_cons, List.length_nil]; omega)) [wrap64, R1.X (n := 3) rfl, hu2, Ru.aExq]
      refine (ih _ (List.getElem_mem hlx) (hs.kid hlx) Ru H (Exq.fold_len (fun y _ _ h => y.mkv_len h) hM0l)).go ?_
      intro _ h3 H
      simp -implicitDefEqProofs (disch := first | omega | (simp only [List.length_set, List.length_replicate, List.length_append, List.length_map, List.length_take, List.length_cons, List.length_nil]; omega)) [wrap64]
      exact hJ _ _ hlx ⟨by simp, by rw [foldl_tk hlx]; exact H⟩
    · simp -implicitDefEqProofs (disch := first | omega | (simp only [List.length_set, List.length_replicate, List.length_append, List.length_map, List.length_take, List.length_cons, List.length_nil]; omega)) [wrap64]
      rw [List.take_of_length_le (by omega), ← hmk] at H
      exact RetK.keep (hk _ _ H)

theorem c_l1Mark : ∀ (x : Exq) {n : Nat} {g h : Heap} {Γ : List HP} {v m : Value} {M : List Bool}, x.Shp n → Rep g v x → HS g (ow m M :: Γ) h → M.length = 3 →
    CallE Try.prog fn_spec_l1Mark [m, v] h (fun u h' => u = m ∧ HS g (ow m (x.mkv M) :: Γ) h') := by
  refine Exq.ind fun x ih n g h Γ v m M hs R H hM => ?_
  cases n with
  | zero => exact hs.elim
  | succ n =>
  obtain ⟨w, rfl, k1, k2, R1⟩ := Rep_Exq.1 R
  have hL := R1.lt
  obtain ⟨M0, hM0⟩ : ∃ M0, M0 = if x.kind = 2 then M.set x.val.toNat true else M := ⟨_, rfl⟩
  have hM0l : M0.length = 3 := by rw [hM0]; split <;> simp [hM]
  have hmk := x.mkv_eq M
  rw [← hM0] at hmk
  refine CallE.gen fun k hk => EN_spec_l1Mark rfl ?_
  by_cases c1 : x.kind = 2
  · have hlo := hs.1.lo
    have hhi := hs.1.hi
    rw [c1] at hhi
    simp [Exq.most] at hhi
    obtain ⟨q, hq⟩ : ∃ q : Nat, x.val = q := ⟨x.val.toNat, by omega⟩
    simp -implicitDefEqProofs (disch := first | omega | (simp only [List.length_set, List.length_replicate, List.length_append, List.length_map, List.length_take, List.length_cons, List.length_nil]; omega)) [wrap64, c1, hq, H.rep.B]
    refine H.storeF true (i := q) (by omega) rfl rfl trivial rfl fun h1 H => ?_
    rw [if_pos c1, hq, Int.toNat_natCast] at hM0
    rw [← hM0] at H
    simp -implicitDefEqProofs (disch := first | omega | (simp only [List.length_set, List.length_replicate, List.length_append, List.length_map, List.length_take, List.length_cons, List.length_nil]; omega)) [wrap64, R1.len]
    refine wp_count x.kids.length (fun i e h' => (∃ a b : Int, e = [some m, none, some (.agg #[.int .i64 a, .int .i64 b, w]), none, some (.int .i64 i)]) ∧ HS g (ow m ((x.kids.take i).foldl (fun M x => x.mkv M) M0) :: Γ) h') ⟨⟨_, _, rfl⟩, H⟩ ?_
    clear H
    rintro J i _ h2 hJ hi ⟨⟨a, b, rfl⟩, H⟩
    simp -implicitDefEqProofs (disch := first | omega | (simp only [List.length_set, List.length_replicate, List.length_append, List.length_map, List.length_take, List.length_cons, List.length_nil]; omega)) [wrap64, R1.len]
    refine IteW.mk (fun hlt => ?_) (fun hge => ?_)
    · have hlx : i < x.kids.length := by omega
      obtain ⟨u, hu, Ru⟩ := R1.ld hlx
      have hu2 := hload_le H.base hu
      change hload _ (some (elp 3 w i)) (some 3) = some u at hu2
      simp -implicitDefEqProofs (disch := first | omega | (simp only [List.length_set, List.length_replicate, List.length_append, List.length_map, List.length_take, List.length_cons, List.length_nil]; omega)) [wrap64, R1.X (n := 3) rfl, hu2, Ru.aExq]
      refine (ih _ (List.getElem_mem hlx) (hs.kid hlx) Ru H (Exq.fold_len (fun y _ _ h => y.mkv_len h) hM0l)).go ?_
      rintro _ h3 ⟨rfl, H⟩
      simp -implicitDefEqProofs (disch := first | omega | (simp only [List.length_set, List.length_replicate, List.length_append, List.length_map, List.length_take, List.length_cons, List.length_nil]; omega)) [wrap64]
      exact hJ _ _ hlx ⟨⟨_, _, rfl⟩, by rw [foldl_tk hlx]; exact H⟩
    · simp -implicitDefEqProofs (disch := first | omega | (simp only [List.length_set, List.length_replicate, List.length_append, List.length_map, List.length_take, List.length_cons, List.length_nil]; omega)) [wrap64]
      rw [List.take_of_length_le (by omega), ← hmk] at H
      exact RetK.keep (hk _ _ ⟨rfl, H⟩)
  · rw [if_neg c1] at hM0
    rw [← hM0] at H
    simp -implicitDefEqProofs (disch := first | omega | (simp only [List.length_set, List.length_replicate, List.length_append, List.length_map, List.length_take, List.length_cons, List.length_nil]; omega)) [wrap64, c1, R1.len]
    refine wp_count x.kids.length (fun i e h' => (∃ a b : Int, e = [some m, none, some (.agg #[.int .i64 a, .int .i64 b, w]), none, some (.int .i64 i)]) ∧ HS g (ow m ((x.kids.take i).foldl (fun M x => x.mkv M) M0) :: Γ) h') ⟨⟨_, _, rfl⟩, H⟩ ?_
    clear H
    rintro J i _ h2 hJ hi ⟨⟨a, b, rfl⟩, H⟩
    simp -implicitDefEqProofs (disch := first | omega | (simp only [List.length_set, List.length_replicate, List.length_append, List.length_map, List.length_take, List.length_cons, List.length_nil]; omega)) [wrap64, R1.len]
    refine IteW.mk (fun hlt => ?_) (fun hge => ?_)
    · have hlx : i < x.kids.length := by omega
      obtain ⟨u, hu, Ru⟩ := R1.ld hlx
      have hu2 := hload_le H.base hu
      change hload _ (some (elp 3 w i)) (some 3) = some u at hu2
      simp -implicitDefEqProofs (disch := first | omega | (simp only [List.length_set, List.length_replicate, List.length_append, List.length_map, List.length_take, List.length_cons, List.length_nil]; omega)) [wrap64, R1.X (n := 3) rfl, hu2, Ru.aExq]
      refine (ih _ (List.getElem_mem hlx) (hs.kid hlx) Ru H (Exq.fold_len (fun y _ _ h => y.mkv_len h) hM0l)).go ?_
      rintro _ h3 ⟨rfl, H⟩
      simp -implicitDefEqProofs (disch := first | omega | (simp only [List.length_set, List.length_replicate, List.length_append, List.length_map, List.length_take, List.length_cons, List.length_nil]; omega)) [wrap64]
      exact hJ _ _ hlx ⟨⟨_, _, rfl⟩, by rw [foldl_tk hlx]; exact H⟩
    · simp -implicitDefEqProofs (disch := first | omega | (simp only [List.length_set, List.length_replicate, List.length_append, List.length_map, List.length_take, List.length_cons, List.length_nil]; omega)) [wrap64]
      rw [List.take_of_length_le (by omega), ← hmk] at H
      exact RetK.keep (hk _ _ ⟨rfl, H⟩)

/-- an edge's two expressions, as values -/
theorem Rep.gd {h : Heap} {e : Ed} {w1 w2 : Value} (ok : e.ok) (R1 : Rep h w1 e.guard.kids) : Rep h (.agg #[.int .i64 e.guard.kind, .int .i64 e.guard.val, w1]) e.guard := Rep_Exq.2 ⟨w1, rfl, ok.gk, ok.gv, R1⟩
theorem Rep.vl {h : Heap} {e : Ed} {w2 : Value} (ok : e.ok) (R1 : Rep h w2 e.value.kids) : Rep h (.agg #[.int .i64 e.value.kind, .int .i64 e.value.val, w2]) e.value := Rep_Exq.2 ⟨w2, rfl, ok.vk, ok.vv, R1⟩

theorem c_relevant {h : Heap} {v w : Value} {s : Sy} {L : List Exq} (R : Rep h v s) (RL : Rep h w L) (hs : s.Ok) (hL : LOk L) : CallE Try.prog fn_impl_System_relevant [v, w] h (fun u h' => HS h [ow u (s.rel L)] h') := by
  obtain ⟨v1, v2, rfl, R1, R2⟩ := Rep_Sy.1 R
  have hL1 := R2.lt
  have hL2 := RL.lt
  refine CallE.gen fun k hk => EN_impl_System_relevant rfl ?_
  simp -implicitDefEqProofs (disch := first | omega | (simp only [List.length_set, List.length_replicate, List.length_append, List.length_map, List.length_take, List.length_cons, List.length_nil]; omega)) [wrap64]
  refine HS.init.mks (α := Bool) (z := false) (n := 3) (c := 3) rfl rfl own_false (Nat.le_refl _) (by decide) (by decide) fun m h1 H => ?_
  have H : HS h [ow m [false, false, false]] h1 := H
  simp -implicitDefEqProofs (disch := first | omega | (simp only [List.length_set, List.length_replicate, List.length_append, List.length_map, List.length_take, List.length_cons, List.length_nil]; omega)) [wrap64, RL.len]
  refine wp_count L.length (fun i e h' => e = [none, none, some (.agg #[v1, v2]), none, some m, none, none, none, none, none, some w, some (.int .i64 L.length), some (.int .i64 i), none, none, none, none, none, none, none, none, none, none, none, none, none] ∧ HS h [ow m (relL (L.take i) [false, false, false])] h') ⟨by simp, by simpa [relL] using H⟩ ?_
  clear H
  rintro J0 i _ h2 hJ0 hi ⟨rfl, H⟩
  simp -implicitDefEqProofs (disch := first | omega | (simp only [List.length_set, List.length_replicate, List.length_append, List.length_map, List.length_take, List.length_cons, List.length_nil]; omega)) [wrap64]
  refine IteW.mk (fun hlt => ?_) (fun hge => ?_)
  · have hlx : i < L.length := by omega
    obtain ⟨u, hu, Ru⟩ := RL.ld hlx
    have hu2 := hload_le H.base hu
    change hload _ (some (elp 3 w i)) (some 3) = some u at hu2
    simp -implicitDefEqProofs (disch := first | omega | (simp only [List.length_set, List.length_replicate, List.length_append, List.length_map, List.length_take, List.length_cons, List.length_nil]; omega)) [wrap64, RL.X (n := 3) rfl, hu2, Ru.aExq]
    refine (c_vars _ (hL.ok _ (List.getElem_mem hlx)).1 Ru H (relL_len rfl)).go ?_
    intro _ h3 H
    simp -implicitDefEqProofs (disch := first | omega | (simp only [List.length_set, List.length_replicate, List.length_append, List.length_map, List.length_take, List.length_cons, List.length_nil]; omega)) [wrap64]
    exact hJ0 _ _ hlx ⟨by simp, by rw [relL, foldl_tk hlx]; exact H⟩
  simp -implicitDefEqProofs (disch := first | omega | (simp only [List.length_set, List.length_replicate, List.length_append, List.length_map, List.length_take, List.length_cons, List.length_nil]; omega)) [wrap64, R2.len]
  rw [List.take_of_length_le (by omega)] at H
  obtain ⟨MA, hMA⟩ : ∃ MA, MA = relL L [false, false, false] := ⟨_, rfl⟩
  have hMAl : MA.length = 3 := by rw [hMA]; exact relL_len rfl
  rw [← hMA] at H
  -- the guards
  refine wp_count s.procs.length (fun i e h' => e = [none, none, some (.agg #[v1, v2]), none, some m, none, none, none, none, none, none, none, none, some v2, some (.int .i64 s.procs.length), some (.int .i64 i), none, none, none, none, none, none, none, none, none, none] ∧ HS h [ow m ((s.procs.take i).foldl (fun M p => p.edges.foldl (fun M e => e.guard.mkv M) M) MA)] h') ⟨by simp, by simpa using H⟩ ?_
  clear H
  rintro J1 i _ h3 hJ1 hi ⟨rfl, H⟩
  simp -implicitDefEqProofs (disch := first | omega | (simp only [List.length_set, List.length_replicate, List.length_append, List.length_map, List.length_take, List.length_cons, List.length_nil]; omega)) [wrap64]
  refine IteW.mk (fun hlt => ?_) (fun hge => ?_)
  · have hlx : i < s.procs.length := by omega
    obtain ⟨u, hu, Ru⟩ := R2.ld hlx
    have hu2 := hload_le H.base hu
    change hload _ (some (elp 2 v2 i)) (some 2) = some u at hu2
    obtain ⟨we, rfl, k1, R3⟩ := Rep_Pr.1 Ru
    have hpo := hs.at hlx
    obtain ⟨MB, hMB⟩ : ∃ MB, MB = (s.procs.take i).foldl (fun M p => p.edges.foldl (fun M e => e.guard.mkv M) M) MA := ⟨_, rfl⟩
    have hMBl : MB.length = 3 := by rw [hMB]; exact Exq.fold_len (fun _ _ _ h => Exq.fold_len (fun _ _ _ h => Exq.mkv_len _ h) h) hMAl
    have hL3 := R3.lt
    rw [← hMB] at H
    simp -implicitDefEqProofs (disch := first | omega | (simp only [List.length_set, List.length_replicate, List.length_append, List.length_map, List.length_take, List.length_cons, List.length_nil]; omega)) [wrap64, R2.X (n := 2) rfl, hu2, R3.cells, R3.one, R3.len, setC]
    refine wp_count s.procs[i].edges.length (fun j e h' => e = [none, none, some (.agg #[v1, v2]), none, some m, none, none, none, none, none, none, none, none, some v2, some (.int .i64 s.procs.length), some (.int .i64 i), some we, some (.int .i64 s.procs[i].edges.length), some (.int .i64 j), none, none, none, none, none, none, none] ∧ HS h [ow m ((s.procs[i].edges.take j).foldl (fun M e => e.guard.mkv M) MB)] h') ⟨by simp, by simpa using H⟩ ?_
    clear H
    rintro J2 j _ h4 hJ2 hj ⟨rfl, H⟩
    simp -implicitDefEqProofs (disch := first | omega | (simp only [List.length_set, List.length_replicate, List.length_append, List.length_map, List.length_take, List.length_cons, List.length_nil]; omega)) [wrap64]
    refine IteW.mk (fun hlt2 => ?_) (fun hge2 => ?_)
    · have hjx : j < s.procs[i].edges.length := by omega
      obtain ⟨u, hu, Ru⟩ := R3.ld hjx
      have hu2 := hload_le H.base hu
      change hload _ (some (elp 10 we j)) (some 10) = some u at hu2
      obtain ⟨w1, w2, rfl, ok, G1, G2⟩ := Rep_Ed.1 Ru
      have hF := Ru.aEd
      have hF1 := G1.one
      have hF2 := G2.one
      simp -implicitDefEqProofs (disch := first | omega | (simp only [List.length_set, List.length_replicate, List.length_append, List.length_map, List.length_take, List.length_cons, List.length_nil]; omega)) [wrap64, R3.X (n := 10) rfl, hu2, Ed.cs, setC, hF1, hF2]
      refine (c_vars _ ((hpo.at hjx).gd).1 (Rep.gd (w2 := w2) ok G1) H (Exq.fold_len (fun _ _ _ h => Exq.mkv_len _ h) hMBl)).go ?_
      intro _ h5 H
      simp -implicitDefEqProofs (disch := first | omega | (simp only [List.length_set, List.length_replicate, List.length_append, List.length_map, List.length_take, List.length_cons, List.length_nil]; omega)) [wrap64]
      exact hJ2 _ _ hjx ⟨by simp, by rw [foldl_tk hjx]; exact H⟩
    simp -implicitDefEqProofs (disch := first | omega | (simp only [List.length_set, List.length_replicate, List.length_append, List.length_map, List.length_take, List.length_cons, List.length_nil]; omega)) [wrap64]
    rw [List.take_of_length_le (by omega)] at H
    exact hJ1 _ _ hlx ⟨by simp, by rw [foldl_tk hlx, ← hMB]; exact H⟩
  simp -implicitDefEqProofs (disch := first | omega | (simp only [List.length_set, List.length_replicate, List.length_append, List.length_map, List.length_take, List.length_cons, List.length_nil]; omega)) [wrap64]
  rw [List.take_of_length_le (by omega)] at H
  obtain ⟨MC, hMC⟩ : ∃ MC, MC = relG s MA := ⟨_, rfl⟩
  have hMCl : MC.length = 3 := by rw [hMC]; exact relG_len hMAl
  have H : HS h [ow m MC] h3 := by rw [hMC]; exact H
  -- three rounds
  refine wp_count 3 (fun r e h' => e = [none, none, some (.agg #[v1, v2]), none, some m, none, none, none, none, none, none, none, none, none, none, none, none, none, none, some (.int .i64 r), none, none, none, none, none, none] ∧ HS h [ow m (Nat.repeat (relV s) r MC)] h') ⟨by simp, H⟩ ?_
  clear H
  rintro J3 r _ h4 hJ3 hr ⟨rfl, H⟩
  have hrl : ∀ r, (Nat.repeat (relV s) r MC).length = 3 := by
    intro r
    induction r with
    | zero => exact hMCl
    | succ r ih => exact relV_len ih
  simp -implicitDefEqProofs (disch := first | omega | (simp only [List.length_set, List.length_replicate, List.length_append, List.length_map, List.length_take, List.length_cons, List.length_nil]; omega)) [wrap64]
  refine IteW.mk (fun hlt3 => ?_) (fun hge3 => ?_)
  · obtain ⟨MD, hMD⟩ : ∃ MD, MD = Nat.repeat (relV s) r MC := ⟨_, rfl⟩
    have hMDl : MD.length = 3 := by rw [hMD]; exact hrl r
    rw [← hMD] at H
    simp -implicitDefEqProofs (disch := first | omega | (simp only [List.length_set, List.length_replicate, List.length_append, List.length_map, List.length_take, List.length_cons, List.length_nil]; omega)) [wrap64, R2.len]
    refine wp_count s.procs.length (fun i e h' => e = [none, none, some (.agg #[v1, v2]), none, some m, none, none, none, none, none, none, none, none, none, none, none, none, none, none, some (.int .i64 r), some v2, some (.int .i64 s.procs.length), some (.int .i64 i), none, none, none] ∧ HS h [ow m ((s.procs.take i).foldl (fun M p => p.edges.foldl Ed.relv M) MD)] h') ⟨by simp, by simpa using H⟩ ?_
    clear H
    rintro J4 i _ h5 hJ4 hi ⟨rfl, H⟩
    simp -implicitDefEqProofs (disch := first | omega | (simp only [List.length_set, List.length_replicate, List.length_append, List.length_map, List.length_take, List.length_cons, List.length_nil]; omega)) [wrap64]
    refine IteW.mk (fun hlt => ?_) (fun hge => ?_)
    · have hlx : i < s.procs.length := by omega
      obtain ⟨u, hu, Ru⟩ := R2.ld hlx
      have hu2 := hload_le H.base hu
      change hload _ (some (elp 2 v2 i)) (some 2) = some u at hu2
      obtain ⟨we, rfl, k1, R3⟩ := Rep_Pr.1 Ru
      have hpo := hs.at hlx
      obtain ⟨MB, hMB⟩ : ∃ MB, MB = (s.procs.take i).foldl (fun M p => p.edges.foldl Ed.relv M) MD := ⟨_, rfl⟩
      have hMBl : MB.length = 3 := by rw [hMB]; exact Exq.fold_len (fun _ _ _ h => Exq.fold_len (fun e _ _ h => e.relv_len h) h) hMDl
      have hL3 := R3.lt
      rw [← hMB] at H
      simp -implicitDefEqProofs (disch := first | omega | (simp only [List.length_set, List.length_replicate, List.length_append, List.length_map, List.length_take, List.length_cons, List.length_nil]; omega)) [wrap64, R2.X (n := 2) rfl, hu2, R3.cells, R3.one, R3.len, setC]
      refine wp_count s.procs[i].edges.length (fun j e h' => e = [none, none, some (.agg #[v1, v2]), none, some m, none, none, none, none, none, none, none, none, none, none, none, none, none, none, some (.int .i64 r), some v2, some (.int .i64 s.procs.length), some (.int .i64 i), some we, some (.int .i64 s.procs[i].edges.length), some (.int .i64 j)] ∧ HS h [ow m ((s.procs[i].edges.take j).foldl Ed.relv MB)] h') ⟨by simp, by simpa using H⟩ ?_
      clear H
      rintro J5 j _ h6 hJ5 hj ⟨rfl, H⟩
      simp -implicitDefEqProofs (disch := first | omega | (simp only [List.length_set, List.length_replicate, List.length_append, List.length_map, List.length_take, List.length_cons, List.length_nil]; omega)) [wrap64]
      refine IteW.mk (fun hlt2 => ?_) (fun hge2 => ?_)
      · have hjx : j < s.procs[i].edges.length := by omega
        obtain ⟨u, hu, Ru⟩ := R3.ld hjx
        have hu2 := hload_le H.base hu
        change hload _ (some (elp 10 we j)) (some 10) = some u at hu2
        obtain ⟨w1, w2, rfl, ok, G1, G2⟩ := Rep_Ed.1 Ru
        have hF := Ru.aEd
        have hF1 := G1.one
        have hF2 := G2.one
        obtain ⟨ME, hME⟩ : ∃ ME, ME = (s.procs[i].edges.take j).foldl Ed.relv MB := ⟨_, rfl⟩
        have hMEl : ME.length = 3 := by rw [hME]; exact Exq.fold_len (fun e _ _ h => e.relv_len h) hMBl
        have heo := hpo.at hjx
        have hstep : (s.procs[i].edges.take (j + 1)).foldl Ed.relv MB = s.procs[i].edges[j].relv ME := by rw [foldl_tk hjx, ← hME]
        rw [← hME] at H
        by_cases e1 : 0 ≤ s.procs[i].edges[j].var
        case neg =>
          simp -implicitDefEqProofs (disch := first | omega | (simp only [List.length_set, List.length_replicate, List.length_append, List.length_map, List.length_take, List.length_cons, List.length_nil]; omega)) [wrap64, R3.X (n := 10) rfl, hu2, Ed.cs, setC, hF1, hF2, e1]
          exact hJ5 _ _ hjx ⟨by simp, by rw [hstep, Ed.relv, if_neg (fun hh => e1 hh.1)]; exact H⟩
        have hv1 := heo.v1
        obtain ⟨q, hq⟩ : ∃ q : Nat, s.procs[i].edges[j].var = q := ⟨_, (Int.toNat_of_nonneg e1).symm⟩
        have hgd : ME.getD s.procs[i].edges[j].var.toNat false = ME[q]'(by omega) := by
          rw [hq, Int.toNat_natCast, List.getD_eq_getElem?_getD, List.getElem?_eq_getElem (by omega)]; rfl
        by_cases e2 : ME[q]'(by omega) = true
        case neg =>
          simp -implicitDefEqProofs (disch := first | omega | (simp only [List.length_set, List.length_replicate, List.length_append, List.length_map, List.length_take, List.length_cons, List.length_nil]; omega)) [wrap64, R3.X (n := 10) rfl, hu2, Ed.cs, setC, hF1, hF2, hq, H.rep.B, e2]
          exact hJ5 _ _ hjx ⟨by simp, by rw [hstep, Ed.relv, if_neg (fun hh => e2 (by rw [← hgd]; exact hh.2))]; exact H⟩
        simp -implicitDefEqProofs (disch := first | omega | (simp only [List.length_set, List.length_replicate, List.length_append, List.length_map, List.length_take, List.length_cons, List.length_nil]; omega)) [wrap64, R3.X (n := 10) rfl, hu2, Ed.cs, setC, hF1, hF2, hq, H.rep.B, e2]
        have hvo : s.procs[i].edges[j].value.Ok := heo.vl.elim (fun hh => hh.2) (fun hh => absurd hh.1 (by omega))
        refine (c_vars _ hvo.1 (Rep.vl ok G2) H hMEl).go ?_
        intro _ h7 H
        simp -implicitDefEqProofs (disch := first | omega | (simp only [List.length_set, List.length_replicate, List.length_append, List.length_map, List.length_take, List.length_cons, List.length_nil]; omega)) [wrap64]
        exact hJ5 _ _ hjx ⟨by simp, by rw [hstep, Ed.relv, if_pos ⟨e1, by rw [hgd]; exact e2⟩]; exact H⟩
      simp -implicitDefEqProofs (disch := first | omega | (simp only [List.length_set, List.length_replicate, List.length_append, List.length_map, List.length_take, List.length_cons, List.length_nil]; omega)) [wrap64]
      rw [List.take_of_length_le (by omega)] at H
      exact hJ4 _ _ hlx ⟨by simp, by rw [foldl_tk hlx, ← hMB]; exact H⟩
    simp -implicitDefEqProofs (disch := first | omega | (simp only [List.length_set, List.length_replicate, List.length_append, List.length_map, List.length_take, List.length_cons, List.length_nil]; omega)) [wrap64]
    rw [List.take_of_length_le (by omega)] at H
    exact hJ3 _ _ (by omega) ⟨by simp, by show HS h [ow m (relV s (Nat.repeat (relV s) r MC))] h5; rw [← hMD]; exact H⟩
  simp -implicitDefEqProofs (disch := first | omega | (simp only [List.length_set, List.length_replicate, List.length_append, List.length_map, List.length_take, List.length_cons, List.length_nil]; omega)) [wrap64]
  have hr3 : r = 3 := by omega
  subst hr3
  refine RetK.keep (hk _ _ ?_)
  have : s.rel L = Nat.repeat (relV s) 3 MC := by rw [hMC, hMA]; rfl
  rw [this]; exact H
end Go.Proofs.Ythgimpheeemooaa
