/-
  Which nodes lie on a cycle, and from which states a word is accepted, by the program.
-/
import Derived.Test.YtknkjplnngeebaaQ5
namespace Go.Proofs.Ytknkjplnngeebaa
open Go
set_option linter.all false
set_option linter.unusedVariables false
set_option linter.unusedSimpArgs false
set_option linter.defProp false
set_option maxRecDepth 1000000

def cntP (Q : List Int) (i : Nat) (p : Int) : Nat := ((List.range i).filter fun y => decide (gd Q y = p)).length
theorem cntP_succ {Q : List Int} {i : Nat} {p : Int} : cntP Q (i + 1) p = cntP Q i p + if gd Q i = p then 1 else 0 := by
  simp only [cntP, List.range_succ, List.filter_append, List.length_append, List.filter_cons, List.filter_nil]
  by_cases h : gd Q i = p <;> simp [h]
theorem cntP_le {Q : List Int} {i : Nat} {p : Int} : cntP Q i p ≤ i := by
  have := List.length_filter_le (fun y => decide (gd Q y = p)) (List.range i)
  simpa [cntP] using this

theorem c_cyclic {h : Heap} {w : Value} {G : List (List Int)} {E : Nat → Nat → Prop} (Rw : Rep h w G) (hG : Adj E G) (hnl : G.length ≤ 1048576) :
    CallE Try.prog fn_impl_cyclic [w] h (fun u h' => ∃ C : List Bool, HS h [ow u C] h' ∧ C.length = G.length ∧ ∀ x, x < G.length → (tru C x ↔ Cyc E x)) := by
  refine CallE.gen fun k hk => EN_impl_cyclic rfl ?_
  simp -implicitDefEqProofs (disch := first | omega | (simp only [List.length_set, List.length_replicate, List.length_append, List.length_map, List.length_take, List.length_cons, List.length_nil]; omega)) [wrap64]
  refine (c_components Rw hG hnl).go ?_
  rintro p h1 ⟨Q, H, hQl, hQb, hQ⟩
  simp -implicitDefEqProofs (disch := first | omega | (simp only [List.length_set, List.length_replicate, List.length_append, List.length_map, List.length_take, List.length_cons, List.length_nil]; omega)) [wrap64, (Rw.on H).len]
  refine H.mks (α := Int) (z := 0) rfl rfl (own_zero (by decide) (by decide)) (Nat.le_refl _) (by omega) (by omega) fun z h2 H => ?_
  simp -implicitDefEqProofs (disch := first | omega | (simp only [List.length_set, List.length_replicate, List.length_append, List.length_map, List.length_take, List.length_cons, List.length_nil]; omega)) [wrap64, H.sw1.rep.len]
  refine wp_count G.length (fun i e h' => e = [some w, none, some p, some z, none, none, none, some p, some (.int .i64 G.length), some (.int .i64 i), none, none] ∧ ∃ Z : List Int, HS h [ow z Z, ow p Q] h' ∧ Z.length = G.length ∧ ∀ x, x < G.length → gd Z x = cntP Q i x) ⟨by simp [hQl], _, H, by simp, fun x hx => by rw [gd_get (by simpa using hx)]; simp [cntP]⟩ ?_
  clear H
  rintro J i _ h3 hJ hi ⟨rfl, Z, H, hZl, hZ⟩
  simp -implicitDefEqProofs (disch := first | omega | (simp only [List.length_set, List.length_replicate, List.length_append, List.length_map, List.length_take, List.length_cons, List.length_nil]; omega)) [wrap64]
  refine IteW.mk (fun hlt => ?_) (fun hge => ?_)
  · have hin : i < G.length := by omega
    have hq := hQb i hin
    obtain ⟨q, hqi⟩ : ∃ q : Nat, Q[i]'(by omega) = q := ⟨(Q[i]'(by omega)).toNat, by rw [← gd_get]; omega⟩
    have hqn : q < G.length := by rw [gd_get (by omega), hqi] at hq; omega
    have hzq : Z[q]'(by omega) = cntP Q i q := by rw [← gd_get, hZ q hqn]
    have hcl := cntP_le (Q := Q) (i := i) (p := q)
    simp -implicitDefEqProofs (disch := first | omega | (simp only [List.length_set, List.length_replicate, List.length_append, List.length_map, List.length_take, List.length_cons, List.length_nil]; omega)) [wrap64, H.sw1.rep.I, hqi, H.rep.I, hzq]
    refine H.storeF ((cntP Q i q : Int) + 1) (i := q) (by omega) rfl rfl ⟨by omega, by omega⟩ rfl fun h4 H => ?_
    simp -implicitDefEqProofs (disch := first | omega | (simp only [List.length_set, List.length_replicate, List.length_append, List.length_map, List.length_take, List.length_cons, List.length_nil]; omega)) [wrap64]
    refine hJ _ _ hin ⟨rfl, _, H, by simpa using hZl, fun x hx => ?_⟩
    rw [gd_set (by omega), cntP_succ, gd_get (by omega), hqi]
    by_cases e : x = q
    · subst e; simp
    · rw [fput_ne e, hZ x hx, if_neg (by omega)]; simp
  have hin : i = G.length := by omega
  subst hin
  simp -implicitDefEqProofs (disch := first | omega | (simp only [List.length_set, List.length_replicate, List.length_append, List.length_map, List.length_take, List.length_cons, List.length_nil]; omega)) [wrap64, (Rw.on H).len]
  refine H.mks (α := Bool) (z := false) rfl rfl own_false (Nat.le_refl _) (by omega) (by omega) fun c h4 H => ?_
  simp -implicitDefEqProofs (disch := first | omega | (simp only [List.length_set, List.length_replicate, List.length_append, List.length_map, List.length_take, List.length_cons, List.length_nil]; omega)) [wrap64, (Rw.on H).len]
  refine wp_count G.length (fun i e h' => e = [some w, none, some p, some z, none, some c, none, none, none, none, some (.int .i64 G.length), some (.int .i64 i)] ∧ ∃ C : List Bool, HS h [ow c C, ow z Z, ow p Q] h' ∧ C.length = G.length ∧ ∀ x, x < i → (tru C x ↔ Cyc E x)) ⟨by simp, _, H, by simp, fun x hx => absurd hx (Nat.not_lt_zero x)⟩ ?_
  clear H hJ
  rintro J i _ h5 hJ hi ⟨rfl, C, H, hCl, hC⟩
  simp -implicitDefEqProofs (disch := first | omega | (simp only [List.length_set, List.length_replicate, List.length_append, List.length_map, List.length_take, List.length_cons, List.length_nil]; omega)) [wrap64]
  refine IteW.mk (fun hlt2 => ?_) (fun hge2 => ?_)
  · have hin : i < G.length := by omega
    have hq := hQb i hin
    obtain ⟨q, hqi⟩ : ∃ q : Nat, Q[i]'(by omega) = q := ⟨(Q[i]'(by omega)).toNat, by rw [← gd_get]; omega⟩
    have hqn : q < G.length := by rw [gd_get (by omega), hqi] at hq; omega
    have hzq : Z[q]'(by omega) = cntP Q G.length q := by rw [← gd_get, hZ q hqn]
    have hpc := part_cycle hQ hG.lt hin
    have hcnt : ((List.range G.length).filter fun y => decide (gd Q y = gd Q i)).length = cntP Q G.length q := by
      rw [gd_get (by omega), hqi]; rfl
    rw [hcnt] at hpc
    have hstep : ∀ b : Bool, (b = true ↔ Cyc E i) → ∀ x, x < i + 1 → (tru (C.set i b) x ↔ Cyc E x) := by
      intro b hb x hx
      have h1 : tru (C.set i b) x ↔ if x = i then b = true else tru C x := by
        simp only [tru, List.getD_eq_getElem?_getD, List.getElem?_set]
        by_cases e : i = x
        · subst e; simp [show i < C.length by omega]
        · simp [e, Ne.symm e]
      rw [h1]
      split
      · rename_i e; subst e; exact hb
      · exact hC x (by omega)
    by_cases h1 : (1 : Int) < cntP Q G.length q
    · simp -implicitDefEqProofs (disch := first | omega | (simp only [List.length_set, List.length_replicate, List.length_append, List.length_map, List.length_take, List.length_cons, List.length_nil]; omega)) [wrap64, H.sw2.rep.I, hqi, H.sw1.rep.I, hzq, h1, H.rep.B]
      refine H.storeF true (i := i) (by omega) rfl rfl trivial rfl fun h6 H => ?_
      simp -implicitDefEqProofs (disch := first | omega | (simp only [List.length_set, List.length_replicate, List.length_append, List.length_map, List.length_take, List.length_cons, List.length_nil]; omega)) [wrap64]
      exact hJ _ _ hin ⟨rfl, _, H, by simpa using hCl, hstep true (by rw [hpc]; simp; omega)⟩
    · obtain ⟨u, hu0, Ru⟩ := Rw.ldL hin
      simp -implicitDefEqProofs (disch := first | omega | (simp only [List.length_set, List.length_replicate, List.length_append, List.length_map, List.length_take, List.length_cons, List.length_nil]; omega)) [wrap64, H.sw2.rep.I, hqi, H.sw1.rep.I, hzq, h1, H.rep.B, (Rw.on H).X (n := 1) rfl, hload_le H.base hu0]
      refine (c_Contains_int (Ru.on H)).go ?_
      rintro _ _ ⟨rfl, rfl⟩
      simp -implicitDefEqProofs (disch := first | omega | (simp only [List.length_set, List.length_replicate, List.length_append, List.length_map, List.length_take, List.length_cons, List.length_nil]; omega)) [wrap64, H.rep.B]
      refine H.storeF (decide ((i : Int) ∈ G[i])) (i := i) (by omega) rfl rfl trivial rfl fun h6 H => ?_
      simp -implicitDefEqProofs (disch := first | omega | (simp only [List.length_set, List.length_replicate, List.length_append, List.length_map, List.length_take, List.length_cons, List.length_nil]; omega)) [wrap64]
      refine hJ _ _ hin ⟨rfl, _, H, by simpa using hCl, hstep _ ?_⟩
      rw [hpc, decide_eq_true_iff, hG.mem i hin]
      constructor
      · rintro ⟨y, h2, h3⟩
        obtain rfl : i = y := by omega
        exact .inr h3
      · rintro (h2 | h2)
        · omega
        · exact ⟨i, rfl, h2⟩
  have hin : i = G.length := by omega
  subst hin
  simp -implicitDefEqProofs (disch := first | omega | (simp only [List.length_set, List.length_replicate, List.length_append, List.length_map, List.length_take, List.length_cons, List.length_nil]; omega)) [wrap64]
  exact RetK.keep (hk _ _ ⟨C, H.only, hCl, hC⟩)

/-- the program's live states -/
theorem c_live {h : Heap} {v : Value} {a : Aut} (Ra : Rep h v a) (ha : a.Ok) : CallE Try.prog fn_impl_Automaton_live [v] h (fun u h' => ∃ L : List Bool, HS h [ow u L] h' ∧ L.length = a.acc.length ∧ ∀ q, tru L q ↔ q < a.acc.length ∧ a.Live q) := by
  obtain ⟨v1, v2, v3, rfl, R1, R2, R3⟩ := Rep_Aut.1 Ra
  have hn := ha.n
  refine CallE.gen fun k hk => EN_impl_Automaton_live rfl ?_
  simp -implicitDefEqProofs (disch := first | omega | (simp only [List.length_set, List.length_replicate, List.length_append, List.length_map, List.length_take, List.length_cons, List.length_nil]; omega)) [wrap64]
  refine (c_next Ra ha).go ?_
  rintro w h1 ⟨G, H, hG, hGl⟩
  simp -implicitDefEqProofs (disch := first | omega | (simp only [List.length_set, List.length_replicate, List.length_append, List.length_map, List.length_take, List.length_cons, List.length_nil]; omega)) [wrap64]
  refine (c_cyclic H.rep hG (by omega)).go ?_
  rintro c h2 ⟨C, H2, hCl, hC⟩
  have H := H2.app H
  simp -implicitDefEqProofs (disch := first | omega | (simp only [List.length_set, List.length_replicate, List.length_append, List.length_map, List.length_take, List.length_cons, List.length_nil]; omega)) [wrap64, H.sw1.rep.len]
  refine H.mks (α := Bool) (z := false) rfl rfl own_false (Nat.le_refl _) (by omega) (by omega) fun o h3 H => ?_
  simp -implicitDefEqProofs (disch := first | omega | (simp only [List.length_set, List.length_replicate, List.length_append, List.length_map, List.length_take, List.length_cons, List.length_nil]; omega)) [wrap64, H.sw2.rep.len]
  refine wp_count G.length (fun i e h' => e = [none, some (.agg #[v1, v2, v3]), none, some w, some c, some o, none, none, none, some (.int .i64 G.length), some (.int .i64 i), none, none, none] ∧ ∃ L : List Bool, HS h [ow o L, ow c C, ow w G] h' ∧ L.length = G.length ∧ ∀ q, tru L q ↔ q < i ∧ a.Live q) ⟨by simp, _, H, by simp, fun q => by simp [tru_replicate]⟩ ?_
  clear H
  rintro J i _ h4 hJ hi ⟨rfl, L, H, hLl, hL⟩
  simp -implicitDefEqProofs (disch := first | omega | (simp only [List.length_set, List.length_replicate, List.length_append, List.length_map, List.length_take, List.length_cons, List.length_nil]; omega)) [wrap64]
  refine IteW.mk (fun hlt => ?_) (fun hge => ?_)
  · have hin : i < G.length := by omega
    simp -implicitDefEqProofs (disch := first | omega | (simp only [List.length_set, List.length_replicate, List.length_append, List.length_map, List.length_take, List.length_cons, List.length_nil]; omega)) [wrap64]
    refine H.bls (α := Int) [(i : Int)] (by rfl) rfl (ok_one (by omega)) (by decide) fun s h4 H => ?_
    simp -implicitDefEqProofs (disch := first | omega | (simp only [List.length_set, List.length_replicate, List.length_append, List.length_map, List.length_take, List.length_cons, List.length_nil]; omega)) [wrap64]
    have hS1 : ∀ z ∈ [(i : Int)], 0 ≤ z ∧ z < (G.length : Int) := by
      intro z hz
      have hxi : z = i := by simpa using hz
      omega
    refine (c_reachable (S := [(i : Int)]) H.sw3.rep H.rep hG hS1 (by simp) (by omega)).go ?_
    rintro r h5 ⟨B, H5, hBl, hB⟩
    have H := H5.app H.drop
    simp -implicitDefEqProofs (disch := first | omega | (simp only [List.length_set, List.length_replicate, List.length_append, List.length_map, List.length_take, List.length_cons, List.length_nil]; omega)) [wrap64, H.rep.len]
    refine wp_count G.length (fun k e h' => e = [none, some (.agg #[v1, v2, v3]), none, some w, some c, some o, some (.int .i64 i), none, none, some (.int .i64 G.length), some (.int .i64 i), some r, some (.int .i64 G.length), some (.int .i64 k)] ∧ ∃ (L' : List Bool), HS h [ow r B, ow o L', ow c C, ow w G] h' ∧ L'.length = G.length ∧ (∀ q, q ≠ i → (tru L' q ↔ q < i ∧ a.Live q)) ∧ (tru L' i ↔ ∃ t, t < k ∧ tru B t ∧ tru C t ∧ tru a.acc t)) ⟨by simp [hBl], L, H, hLl, fun q _ => hL q, by rw [hL]; simp⟩ ?_
    rintro J2 k _ h6 hJ2 hk2 ⟨rfl, L', H, hLl', hL1, hL2⟩
    simp -implicitDefEqProofs (disch := first | omega | (simp only [List.length_set, List.length_replicate, List.length_append, List.length_map, List.length_take, List.length_cons, List.length_nil]; omega)) [wrap64]
    refine IteW.mk (fun hlt2 => ?_) (fun hge2 => ?_)
    · have hkn : k < G.length := by omega
      have H := H.sw1
      have hold : tru L' i ↔ L'[i]'(by omega) = true := tru_get (by omega)
      have hstep : ∀ b : Bool, (b = true ↔ tru L' i ∨ (tru B k ∧ tru C k ∧ tru a.acc k)) → (∀ q, q ≠ i → (tru (L'.set i b) q ↔ q < i ∧ a.Live q)) ∧ (tru (L'.set i b) i ↔ ∃ t, t < k + 1 ∧ tru B t ∧ tru C t ∧ tru a.acc t) := by
        intro b hb
        have h1 : ∀ x, tru (L'.set i b) x ↔ if x = i then b = true else tru L' x := by
          intro x
          simp only [tru, List.getD_eq_getElem?_getD, List.getElem?_set]
          by_cases e : i = x
          · subst e; simp [show i < L'.length by omega]
          · simp [e, Ne.symm e]
        refine ⟨fun q hq => by rw [h1, if_neg hq]; exact hL1 q hq, ?_⟩
        rw [h1, if_pos rfl, hb, hL2]
        constructor
        · rintro (⟨t, h2, h3⟩ | h3)
          · exact ⟨t, by omega, h3⟩
          · exact ⟨k, by omega, h3⟩
        · rintro ⟨t, h2, h3⟩
          by_cases e : t = k
          · subst e; exact .inr h3
          · exact .inl ⟨t, by omega, h3⟩
      have hgB := tru_get (B := B) (i := k) (by omega)
      have hgC := tru_get (B := C) (i := k) (by omega)
      have hgA := tru_get (B := a.acc) (i := k) (by omega)
      have hfin : ∀ b : Bool, (b = true ↔ tru L' i ∨ (tru B k ∧ tru C k ∧ tru a.acc k)) → ∀ h8, HS h [ow o (L'.set i b), ow r B, ow c C, ow w G] h8 → J2 [none, some (.agg #[v1, v2, v3]), none, some w, some c, some o, some (.int .i64 i), none, none, some (.int .i64 G.length), some (.int .i64 i), some r, some (.int .i64 G.length), some (.int .i64 ((k + 1 : Nat) : Int))] h8 :=
        fun b hb h8 H => hJ2 _ _ hkn ⟨rfl, _, H.sw1, by simpa using hLl', hstep b hb⟩
      by_cases e0 : L'[i]'(by omega) = true
      · simp -implicitDefEqProofs (disch := first | omega | (simp only [List.length_set, List.length_replicate, List.length_append, List.length_map, List.length_take, List.length_cons, List.length_nil]; omega)) [wrap64, H.sw1.rep.B, H.rep.B, e0]
        refine H.storeF true (i := i) (by omega) rfl rfl trivial rfl fun h7 H => ?_
        simp -implicitDefEqProofs (disch := first | omega | (simp only [List.length_set, List.length_replicate, List.length_append, List.length_map, List.length_take, List.length_cons, List.length_nil]; omega)) [wrap64]
        exact hfin true (by simp [hold, e0]) _ H
      by_cases e1 : B[k]'(by omega) = true
      case neg =>
        simp -implicitDefEqProofs (disch := first | omega | (simp only [List.length_set, List.length_replicate, List.length_append, List.length_map, List.length_take, List.length_cons, List.length_nil]; omega)) [wrap64, H.sw1.rep.B, H.rep.B, e0, e1]
        refine H.storeF false (i := i) (by omega) rfl rfl trivial rfl fun h7 H => ?_
        simp -implicitDefEqProofs (disch := first | omega | (simp only [List.length_set, List.length_replicate, List.length_append, List.length_map, List.length_take, List.length_cons, List.length_nil]; omega)) [wrap64]
        exact hfin false (by simp [hold, e0, hgB, e1]) _ H
      by_cases e2 : C[k]'(by omega) = true
      case neg =>
        simp -implicitDefEqProofs (disch := first | omega | (simp only [List.length_set, List.length_replicate, List.length_append, List.length_map, List.length_take, List.length_cons, List.length_nil]; omega)) [wrap64, H.sw1.rep.B, H.sw2.rep.B, H.rep.B, e0, e1, e2]
        refine H.storeF false (i := i) (by omega) rfl rfl trivial rfl fun h7 H => ?_
        simp -implicitDefEqProofs (disch := first | omega | (simp only [List.length_set, List.length_replicate, List.length_append, List.length_map, List.length_take, List.length_cons, List.length_nil]; omega)) [wrap64]
        exact hfin false (by simp [hold, e0, hgC, e2]) _ H
      by_cases e3 : a.acc[k]'(by omega) = true
      · simp -implicitDefEqProofs (disch := first | omega | (simp only [List.length_set, List.length_replicate, List.length_append, List.length_map, List.length_take, List.length_cons, List.length_nil]; omega)) [wrap64, H.sw1.rep.B, H.sw2.rep.B, H.rep.B, (R2.on H).B, e0, e1, e2, e3]
        refine H.storeF true (i := i) (by omega) rfl rfl trivial rfl fun h7 H => ?_
        simp -implicitDefEqProofs (disch := first | omega | (simp only [List.length_set, List.length_replicate, List.length_append, List.length_map, List.length_take, List.length_cons, List.length_nil]; omega)) [wrap64]
        exact hfin true (by simp [hgB, hgC, hgA, e1, e2, e3]) _ H
      · simp -implicitDefEqProofs (disch := first | omega | (simp only [List.length_set, List.length_replicate, List.length_append, List.length_map, List.length_take, List.length_cons, List.length_nil]; omega)) [wrap64, H.sw1.rep.B, H.sw2.rep.B, H.rep.B, (R2.on H).B, e0, e1, e2, e3]
        refine H.storeF false (i := i) (by omega) rfl rfl trivial rfl fun h7 H => ?_
        simp -implicitDefEqProofs (disch := first | omega | (simp only [List.length_set, List.length_replicate, List.length_append, List.length_map, List.length_take, List.length_cons, List.length_nil]; omega)) [wrap64]
        exact hfin false (by simp [hold, e0, hgA, e3]) _ H
    · simp -implicitDefEqProofs (disch := first | omega | (simp only [List.length_set, List.length_replicate, List.length_append, List.length_map, List.length_take, List.length_cons, List.length_nil]; omega)) [wrap64]
      refine hJ _ _ hin ⟨rfl, L', H.drop, hLl', fun q => ?_⟩
      by_cases e : q = i
      · subst e
        rw [hL2]
        constructor
        · rintro ⟨t, h1, h2, h3, h4⟩
          obtain ⟨z, h5, h6⟩ := (hB t).1 h2
          obtain rfl : z = q := by simpa [Int.ofNat_inj] using h5
          exact ⟨by omega, t, h6, (hC t (by rw [← hBl]; exact tru_lt h2)).1 h3, h4⟩
        · rintro ⟨_, t, h1, h2, h3⟩
          have htn : t < G.length := by rw [hGl]; exact tru_lt h3
          exact ⟨t, by omega, (hB t).2 ⟨q, by simp, h1⟩, (hC t htn).2 h2, h3⟩
      · rw [hL1 q e]
        constructor
        · rintro ⟨h1, h2⟩; exact ⟨by omega, h2⟩
        · rintro ⟨h1, h2⟩; exact ⟨by omega, h2⟩
  have hin : i = G.length := by omega
  subst hin
  simp -implicitDefEqProofs (disch := first | omega | (simp only [List.length_set, List.length_replicate, List.length_append, List.length_map, List.length_take, List.length_cons, List.length_nil]; omega)) [wrap64]
  exact RetK.keep (hk _ _ ⟨L, H.only, by omega, by rw [← hGl]; exact hL⟩)
end Go.Proofs.Ytknkjplnngeebaa
