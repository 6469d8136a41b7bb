/-
  Which nodes lie on a cycle, by the reference; from which states a word is accepted, by the reference.
-/
import Derived.Test.YtknkjplnngeebaaQ2
namespace Go.Proofs.Ytknkjplnngeebaa
open Go
set_option linter.all false
set_option linter.unusedVariables false
set_option linter.unusedSimpArgs false
set_option linter.defProp false
set_option maxRecDepth 1000000

/-- where the reference's search for a cycle stands -/
structure LpI (E : Nat → Nat → Prop) (n q : Nat) (B : List Bool) (Q : List Int) (i : Nat) : Prop where
  len : B.length = n
  size : Q.length + 2048 * B.count false ≤ 2048 * (n + 1)
  le : i ≤ Q.length
  snd : ∀ z ∈ Q, ∃ p : Nat, z = p ∧ p < n ∧ ∃ y, E q y ∧ Rch E y p
  start : ∀ y, E q y → (y : Int) ∈ Q
  seen : ∀ x, tru B x → ∀ y, E x y → (y : Int) ∈ Q
  past : ∀ j (hj : j < Q.length), j < i → Q[j] ≠ q ∧ tru B Q[j].toNat
theorem LpI.done {E : Nat → Nat → Prop} {n q : Nat} {B : List Bool} {Q : List Int} {i : Nat} (h : LpI E n q B Q i) (hi : Q.length ≤ i) : ¬ Cyc E q := by
  rintro ⟨y, h1, h2⟩
  have hm : ((q : Nat) : Int) ∈ Q := by
    refine h2.closed (C := fun x => (x : Int) ∈ Q) (fun u v hu huv => ?_) (h.start y h1)
    obtain ⟨j, hj, h3⟩ := List.mem_iff_getElem.1 hu
    have h4 := (h.past j hj (by omega)).2
    rw [h3] at h4
    exact h.seen u h4 v huv
  obtain ⟨j, hj, h3⟩ := List.mem_iff_getElem.1 hm
  exact (h.past j hj (by omega)).1 h3

theorem c_l7Loop {h : Heap} {w : Value} {G : List (List Int)} {E : Nat → Nat → Prop} (Rw : Rep h w G) (hG : Adj E G) (hrow : ∀ x (hx : x < G.length), G[x].length ≤ 2048) (hGl : G.length ≤ 1048576) {q : Nat} (hq : q < G.length) :
    CallE Try.prog fn_spec_l7Loop [w, .int .i64 q] h (fun u h' => h.le h' ∧ ∃ r : Bool, u = .bool r ∧ (r = true ↔ Cyc E q)) := by
  refine CallE.gen fun k hk => EN_spec_l7Loop rfl ?_
  obtain ⟨u, hu0, Ru⟩ := Rw.ldL hq
  have hul := hrow q hq
  simp -implicitDefEqProofs (disch := first | omega | (simp only [List.length_set, List.length_replicate, List.length_append, List.length_map, List.length_take, List.length_cons, List.length_nil]; omega)) [wrap64]
  refine wp_count G[q].length (fun i e h' => e = [some w, some (.int .i64 q), none, some (.int .i64 i), none, none, none, none] ∧ h' = h ∧ ∀ (j : Nat) (hj : j < G[q].length), j < i → G[q][j] ≠ q) ⟨rfl, rfl, fun j _ hj => absurd hj (Nat.not_lt_zero j)⟩ ?_
  rintro J i _ h hJ hi ⟨rfl, rfl, hn⟩
  simp -implicitDefEqProofs (disch := first | omega | (simp only [List.length_set, List.length_replicate, List.length_append, List.length_map, List.length_take, List.length_cons, List.length_nil]; omega)) [wrap64, Rw.X (n := 1) rfl, hu0, Ru.I]
  refine IteW.mk (fun hlt => ?_) (fun hge => ?_)
  · have hlx : i < G[q].length := by omega
    simp -implicitDefEqProofs (disch := first | omega | (simp only [List.length_set, List.length_replicate, List.length_append, List.length_map, List.length_take, List.length_cons, List.length_nil]; omega)) [wrap64, Rw.X (n := 1) rfl, hu0, Ru.I]
    refine IteW.mk (fun he => ?_) (fun he => ?_)
    · simp -implicitDefEqProofs (disch := first | omega | (simp only [List.length_set, List.length_replicate, List.length_append, List.length_map, List.length_take, List.length_cons, List.length_nil]; omega)) [wrap64]
      refine RetK.keep (hk _ _ ⟨Heap.le.refl _, true, rfl, ?_⟩)
      simp only [true_iff]
      obtain ⟨y, h1, h2, _⟩ := hG.get hq hlx
      obtain rfl : y = q := by rw [he] at h1; omega
      exact ⟨y, h2, .refl _⟩
    · simp -implicitDefEqProofs (disch := first | omega | (simp only [List.length_set, List.length_replicate, List.length_append, List.length_map, List.length_take, List.length_cons, List.length_nil]; omega)) [wrap64]
      refine hJ _ _ hlx ⟨rfl, rfl, fun j hj hji => ?_⟩
      by_cases hji2 : j = i
      · subst hji2; exact he
      · exact hn j hj (by omega)
  clear hn
  simp -implicitDefEqProofs (disch := first | omega | (simp only [List.length_set, List.length_replicate, List.length_append, List.length_map, List.length_take, List.length_cons, List.length_nil]; omega)) [wrap64, Rw.len]
  refine HS.init.mks (α := Bool) (z := false) rfl rfl own_false (Nat.le_refl _) (by omega) (by omega) fun b h1 H => ?_
  have hu := hload_le H.base hu0
  simp -implicitDefEqProofs (disch := first | omega | (simp only [List.length_set, List.length_replicate, List.length_append, List.length_map, List.length_take, List.length_cons, List.length_nil]; omega)) [wrap64, (Rw.on H).X (n := 1) rfl, hu]
  refine H.appPL (α := Int) (l2 := G[q]) rfl rfl (Ru.on H) rfl rfl (by omega) fun t h2 H => ?_
  simp -implicitDefEqProofs (disch := first | omega | (simp only [List.length_set, List.length_replicate, List.length_append, List.length_map, List.length_take, List.length_cons, List.length_nil]; omega)) [wrap64]
  have hmem := hG.mem q hq
  have hI : LpI E G.length q (List.replicate G.length false) G[q] 0 := by
    refine ⟨by simp, by simp; omega, by omega, fun z hz => ?_, fun y hy => (hmem y).2 ⟨y, rfl, hy⟩, fun x hx => absurd hx tru_replicate, fun j _ hj => absurd hj (Nat.not_lt_zero j)⟩
    obtain ⟨y, rfl, h2⟩ := (hmem z).1 hz
    exact ⟨y, rfl, (hG.lt _ _ h2).2, y, h2, .refl _⟩
  refine wp_while (σ := List Bool × List Int × Nat) (fun s e h' => ∃ t, e = [some w, some (.int .i64 q), none, none, some b, some t, some (.int .i64 s.2.2), none] ∧
      HS h [ow t s.2.1, ow b s.1] h' ∧ LpI E G.length q s.1 s.2.1 s.2.2) (fun s => s.1.count false * 2049 + (s.2.1.length - s.2.2)) (List.replicate G.length false, G[q], 0) ⟨t, by simp, H, hI⟩ ?_
  rintro J2 ⟨B, Q, i⟩ _ h3 hJ2 ⟨t, rfl, H, hI⟩
  dsimp only at H hI
  have hsz := hI.size
  have hle := hI.le
  have hBl := hI.len
  simp -implicitDefEqProofs (disch := first | omega | (simp only [List.length_set, List.length_replicate, List.length_append, List.length_map, List.length_take, List.length_cons, List.length_nil]; omega)) [wrap64, H.rep.len]
  refine IteW.mkr (fun h0 => ?_) (fun h0 => ?_)
  · simp -implicitDefEqProofs (disch := first | omega | (simp only [List.length_set, List.length_replicate, List.length_append, List.length_map, List.length_take, List.length_cons, List.length_nil]; omega)) [wrap64]
    exact RetK.keep (hk _ _ ⟨H.base, false, rfl, by simpa using hI.done (by omega)⟩)
  have hiQ : i < Q.length := by omega
  obtain ⟨p, hp, hpn, y, hy1, hy2⟩ := hI.snd _ (List.getElem_mem hiQ)
  by_cases hpq : p = q
  · have hp2 : Q[i] = (q : Int) := by rw [hp, hpq]
    simp -implicitDefEqProofs (disch := first | omega | (simp only [List.length_set, List.length_replicate, List.length_append, List.length_map, List.length_take, List.length_cons, List.length_nil]; omega)) [wrap64, H.rep.I, hp2]
    refine RetK.keep (hk _ _ ⟨H.base, true, rfl, ?_⟩)
    simp only [true_iff]
    exact ⟨y, hy1, hpq ▸ hy2⟩
  have hpq2 : ¬ ((p : Int) = q) := by omega
  have H := H.sw1
  have hpB : p < B.length := by omega
  have hpast : ∀ (B' : List Bool) (W : List Int), (∀ x, tru B x → tru B' x) → tru B' p → ∀ j (hj : j < (Q ++ W).length), j < i + 1 → (Q ++ W)[j] ≠ q ∧ tru B' (Q ++ W)[j].toNat := by
    intro B' W h1 h2 j hj hji
    have hjQ : j < Q.length := by omega
    rw [List.getElem_append_left hjQ]
    by_cases e : j = i
    · subst e
      rw [hp]
      exact ⟨hpq2, by simpa using h2⟩
    · have := hI.past j hjQ (by omega)
      exact ⟨this.1, h1 _ this.2⟩
  by_cases hb : B[p] = true
  · simp -implicitDefEqProofs (disch := first | omega | (simp only [List.length_set, List.length_replicate, List.length_append, List.length_map, List.length_take, List.length_cons, List.length_nil]; omega)) [wrap64, H.sw1.rep.I, hp, hpq2, H.rep.B, hb]
    refine hJ2 (B, Q, i + 1) _ _ ?_ ⟨t, rfl, H.sw1, hI.len, hsz, by dsimp only; omega, hI.snd, hI.start, hI.seen, ?_⟩
    · dsimp only; omega
    · dsimp only
      have := hpast B [] (fun _ h => h) ((tru_get hpB).2 hb)
      simpa using this
  · have hb' : B[p] = false := by simpa using hb
    obtain ⟨v, hv0, Rv⟩ := Rw.ldL hpn
    have hrp := hrow p hpn
    have hcs := count_set hpB hb'
    simp -implicitDefEqProofs (disch := first | omega | (simp only [List.length_set, List.length_replicate, List.length_append, List.length_map, List.length_take, List.length_cons, List.length_nil]; omega)) [wrap64, H.sw1.rep.I, hp, hpq2, H.rep.B, hb']
    refine H.storeF true (i := p) hpB rfl rfl trivial rfl fun h4 H => ?_
    have hv := hload_le H.base hv0
    simp -implicitDefEqProofs (disch := first | omega | (simp only [List.length_set, List.length_replicate, List.length_append, List.length_map, List.length_take, List.length_cons, List.length_nil]; omega)) [wrap64, (Rw.on H).X (n := 1) rfl, hv]
    refine H.sw1.appL rfl rfl (Rv.on H) rfl rfl (by omega) (by omega) fun t3 h5 H => ?_
    simp -implicitDefEqProofs (disch := first | omega | (simp only [List.length_set, List.length_replicate, List.length_append, List.length_map, List.length_take, List.length_cons, List.length_nil]; omega)) [wrap64]
    have hmp := hG.mem p hpn
    refine hJ2 (B.set p true, Q ++ G[p], i + 1) _ _ ?_ ⟨t3, rfl, H, by simpa using hI.len, by simp; omega, by simp; omega, ?_, ?_, ?_, hpast _ _ (fun x hx => (tru_set hpB).2 (.inl hx)) ((tru_set hpB).2 (.inr rfl))⟩
    · simp; omega
    · intro z hz
      rcases List.mem_append.1 hz with hz | hz
      · exact hI.snd z hz
      · obtain ⟨y', rfl, h2⟩ := (hmp z).1 hz
        exact ⟨y', rfl, (hG.lt _ _ h2).2, y, hy1, hy2.snoc h2⟩
    · intro y' hy'
      exact List.mem_append_left _ (hI.start y' hy')
    · intro x hx y' hxy
      rcases (tru_set hpB).1 hx with hx | rfl
      · exact List.mem_append_left _ (hI.seen x hx y' hxy)
      · exact List.mem_append_right _ ((hmp _).2 ⟨y', rfl, hxy⟩)

theorem ok_one {n : Int} (h : -9223372036854775808 ≤ n ∧ n < 9223372036854775808) : ∀ x ∈ [n], Flat.ok x := by
  intro x hx
  obtain rfl : x = n := by simpa using hx
  exact h
/-- the reference's live states -/
theorem c_spec_LiveStates {h : Heap} {v : Value} {a : Aut} (Ra : Rep h v a) (ha : a.Ok) : CallE Try.prog fn_spec_LiveStates [v] h (fun u h' => ∃ L : List Bool, HS h [ow u L] h' ∧ L.length = a.acc.length ∧ ∀ q, tru L q ↔ q < a.acc.length ∧ a.Live q) := by
  obtain ⟨v1, v2, v3, rfl, R1, R2, R3⟩ := Rep_Aut.1 Ra
  refine CallE.gen fun k hk => EN_spec_LiveStates rfl ?_
  have hn := ha.n
  simp -implicitDefEqProofs (disch := first | omega | (simp only [List.length_set, List.length_replicate, List.length_append, List.length_map, List.length_take, List.length_cons, List.length_nil]; omega)) [wrap64]
  refine HS.init.bls0 Bool fun o h1 H => ?_
  simp -implicitDefEqProofs (disch := first | omega | (simp only [List.length_set, List.length_replicate, List.length_append, List.length_map, List.length_take, List.length_cons, List.length_nil]; omega)) [wrap64]
  refine (c_spec_AutomatonValid (Ra.on H)).go ?_
  rintro _ h1 ⟨rfl, rfl⟩
  simp -implicitDefEqProofs (disch := first | omega | (simp only [List.length_set, List.length_replicate, List.length_append, List.length_map, List.length_take, List.length_cons, List.length_nil]; omega)) [wrap64, ha]
  refine (c_l7Next (Ra.on H) ha).go ?_
  rintro w h2 ⟨G, H2, hG, hGl, hrow⟩
  have H := H2.app H
  have H := H.sw1
  simp -implicitDefEqProofs (disch := first | omega | (simp only [List.length_set, List.length_replicate, List.length_append, List.length_map, List.length_take, List.length_cons, List.length_nil]; omega)) [wrap64]
  refine wp_count a.acc.length (fun i e h' => ∃ (o : Value) (L : List Bool), e = [none, some (.agg #[v1, v2, v3]), none, some o, some w, some (.int .i64 i), none, none, none] ∧ HS h [ow o L, ow w G] h' ∧ L.length = i ∧ ∀ q, tru L q ↔ q < i ∧ a.Live q) ⟨o, [], by simp, H, rfl, fun q => by simp [tru]⟩ ?_
  rintro J i _ h3 hJ hi ⟨o, L, rfl, H, hLl, hL⟩
  simp -implicitDefEqProofs (disch := first | omega | (simp only [List.length_set, List.length_replicate, List.length_append, List.length_map, List.length_take, List.length_cons, List.length_nil]; omega)) [wrap64, (R2.on H).len]
  refine IteW.mk (fun hlt => ?_) (fun hge => ?_)
  · have hin : i < a.acc.length := by omega
    simp -implicitDefEqProofs (disch := first | omega | (simp only [List.length_set, List.length_replicate, List.length_append, List.length_map, List.length_take, List.length_cons, List.length_nil]; omega)) [wrap64]
    refine H.bls (α := Int) [(i : Int)] (by rfl) rfl (ok_one (by omega)) (by decide) fun s h4 H => ?_
    simp -implicitDefEqProofs (disch := first | omega | (simp only [List.length_set, List.length_replicate, List.length_append, List.length_map, List.length_take, List.length_cons, List.length_nil]; omega)) [wrap64]
    have hS1 : ∀ z ∈ [(i : Int)], 0 ≤ z ∧ z < (G.length : Int) := by
      intro z hz
      have hxi : z = i := by simpa using hz
      omega
    refine (c_l7Reach (S := [(i : Int)]) H.sw2.rep H.rep hG hS1 (by omega)).go ?_
    rintro qv h5 ⟨Q, H5, hQl, hQn, hQ⟩
    have H := H5.app H.drop
    simp -implicitDefEqProofs (disch := first | omega | (simp only [List.length_set, List.length_replicate, List.length_append, List.length_map, List.length_take, List.length_cons, List.length_nil]; omega)) [wrap64]
    refine wp_count Q.length (fun k e h' => ∃ (r : Bool), e = [none, some (.agg #[v1, v2, v3]), none, some o, some w, some (.int .i64 i), some qv, some (.bool r), some (.int .i64 k)] ∧ HS h [ow qv Q, ow o L, ow w G] h' ∧ (r = true → a.Live i) ∧ ∀ j (hj : j < Q.length), j < k → r = false → ¬ (tru a.acc Q[j].toNat ∧ Cyc a.E Q[j].toNat)) ⟨false, by simp, H, by simp, fun j _ hj => absurd hj (Nat.not_lt_zero j)⟩ ?_
    rintro J2 k _ h6 hJ2 hk2 ⟨r, rfl, H, hr1, hr2⟩
    simp -implicitDefEqProofs (disch := first | omega | (simp only [List.length_set, List.length_replicate, List.length_append, List.length_map, List.length_take, List.length_cons, List.length_nil]; omega)) [wrap64, H.rep.len]
    by_cases hx : k < Q.length ∧ r = false
    · obtain ⟨hkl, rfl⟩ := hx
      obtain ⟨hz0, hz1⟩ := hQn _ (List.getElem_mem hkl)
      obtain ⟨z, hz⟩ : ∃ z : Nat, Q[k] = z := ⟨Q[k].toNat, by omega⟩
      have hzG : z < G.length := by omega
      have hzr : Rch a.E i z := by
        have h1 : ((z : Nat) : Int) ∈ Q := by rw [← hz]; exact List.getElem_mem hkl
        obtain ⟨i', h2, h3⟩ := (hQ z).1 h1
        obtain rfl : i' = i := by simpa [Int.ofNat_inj] using h2
        exact h3
      have hnext : ∀ r' : Bool, (r' = true ↔ tru a.acc z ∧ Cyc a.E z) → (r' = true → a.Live i) ∧ ∀ j (hj : j < Q.length), j < k + 1 → r' = false → ¬ (tru a.acc Q[j].toNat ∧ Cyc a.E Q[j].toNat) := by
        intro r' hr'
        refine ⟨fun h => ⟨z, hzr, (hr'.1 h).2, (hr'.1 h).1⟩, fun j hj hjk hf => ?_⟩
        by_cases e : j = k
        · subst e
          rw [hz]
          intro hh
          have := hr'.2 (by simpa using hh)
          rw [hf] at this; simp at this
        · exact hr2 j hj (by omega) rfl
      by_cases hac : tru a.acc z
      · have hac2 := (tru_get (by omega : z < a.acc.length)).1 hac
        simp -implicitDefEqProofs (disch := first | omega | (simp only [List.length_set, List.length_replicate, List.length_append, List.length_map, List.length_take, List.length_cons, List.length_nil]; omega)) [wrap64, hkl, H.rep.I, hz, (R2.on H).B, hac2]
        refine (c_l7Loop H.sw2.rep hG hrow (by omega) hzG).go ?_
        rintro _ h7 ⟨l7, r', rfl, hr'⟩
        have H := H.le l7
        simp -implicitDefEqProofs (disch := first | omega | (simp only [List.length_set, List.length_replicate, List.length_append, List.length_map, List.length_take, List.length_cons, List.length_nil]; omega)) [wrap64]
        have h8 := hnext r' (by rw [hr']; simp [hac])
        exact hJ2 _ _ hkl ⟨r', by simp, H, h8.1, h8.2⟩
      · have hac2 : a.acc[z]'(by omega) = false := by
          have := mt (tru_get (by omega : z < a.acc.length)).2 hac
          simpa using this
        simp -implicitDefEqProofs (disch := first | omega | (simp only [List.length_set, List.length_replicate, List.length_append, List.length_map, List.length_take, List.length_cons, List.length_nil]; omega)) [wrap64, hkl, H.rep.I, hz, (R2.on H).B, hac2]
        have h8 := hnext false (by simp [hac])
        exact hJ2 _ _ hkl ⟨false, by simp, H, h8.1, h8.2⟩
    · have hfin : r = true ↔ a.Live i := by
        refine ⟨hr1, fun ⟨t, h1, h2, h3⟩ => ?_⟩
        cases r with
        | true => rfl
        | false =>
          exfalso
          have hkl : ¬ k < Q.length := fun h => hx ⟨h, rfl⟩
          have hm : ((t : Nat) : Int) ∈ Q := (hQ t).2 ⟨i, by simp, h1⟩
          obtain ⟨j, hj, h4⟩ := List.mem_iff_getElem.1 hm
          refine hr2 j hj (by omega) rfl ?_
          rw [h4]
          exact ⟨by simpa using h3, by simpa using h2⟩
      have hstep : ∀ q, tru (L ++ [r]) q ↔ q < i + 1 ∧ a.Live q := by
        intro q
        by_cases e : q = i
        · subst e
          rw [← hfin]
          simp [tru, ← hLl]
        · have h1 : tru (L ++ [r]) q ↔ tru L q := by
            simp only [tru, List.getD_eq_getElem?_getD]
            by_cases h2 : q < L.length
            · rw [List.getElem?_append_left h2]
            · rw [List.getElem?_eq_none (by simp; omega), List.getElem?_eq_none (by omega)]
          rw [h1, hL]
          constructor
          · rintro ⟨h2, h3⟩; exact ⟨by omega, h3⟩
          · rintro ⟨h2, h3⟩; exact ⟨by omega, h3⟩
      have hcase : (¬ k < Q.length) ∨ (k < Q.length ∧ r = true) := by
        by_cases hkl : k < Q.length
        · exact .inr ⟨hkl, by cases r with | true => rfl | false => exact absurd ⟨hkl, rfl⟩ hx⟩
        · exact .inl hkl
      have H := H.drop
      rcases hcase with hkl | ⟨hkl, rfl⟩
      · simp -implicitDefEqProofs (disch := first | omega | (simp only [List.length_set, List.length_replicate, List.length_append, List.length_map, List.length_take, List.length_cons, List.length_nil]; omega)) [wrap64, hkl]
        refine H.app1 r rfl rfl rfl trivial rfl rfl (by omega) (by omega) fun o' h7 H => ?_
        simp -implicitDefEqProofs (disch := first | omega | (simp only [List.length_set, List.length_replicate, List.length_append, List.length_map, List.length_take, List.length_cons, List.length_nil]; omega)) [wrap64]
        exact hJ _ _ hin ⟨o', _, by simp, H, by simp [hLl], hstep⟩
      · simp -implicitDefEqProofs (disch := first | omega | (simp only [List.length_set, List.length_replicate, List.length_append, List.length_map, List.length_take, List.length_cons, List.length_nil]; omega)) [wrap64, hkl]
        refine H.app1 true rfl rfl rfl trivial rfl rfl (by omega) (by omega) fun o' h7 H => ?_
        simp -implicitDefEqProofs (disch := first | omega | (simp only [List.length_set, List.length_replicate, List.length_append, List.length_map, List.length_take, List.length_cons, List.length_nil]; omega)) [wrap64]
        exact hJ _ _ hin ⟨o', _, by simp, H, by simp [hLl], hstep⟩
  · simp -implicitDefEqProofs (disch := first | omega | (simp only [List.length_set, List.length_replicate, List.length_append, List.length_map, List.length_take, List.length_cons, List.length_nil]; omega)) [wrap64]
    have hia : i = a.acc.length := by omega
    exact RetK.keep (hk _ _ ⟨L, H.sw1.drop, by omega, fun q => by rw [hL, hia]⟩)
end Go.Proofs.Ytknkjplnngeebaa
