/-
  Texts of this proof, one behind the other.
-/
import Derived.Shelf.Sort.Plain
import Derived.Shelf.Slices.CompactI
import Derived.Shelf.Slices.In.SortNone
import Derived.Test.YtglnelcmcimljaaRows
import Derived.Lib.SlicesCompact
import Derived.Sort.Grow
import Derived.Sort.Row
import Derived.Test.YtglnelcmcimljaaYF6
/-
  What can be reached, by the program and by the reference; which nodes lie on a cycle, by the reference.
-/
namespace Go.Proofs.Ytglnelcmcimljaa
open Go
set_option linter.all false
set_option linter.unusedVariables false
set_option linter.unusedSimpArgs false
set_option linter.defProp false
set_option maxRecDepth 1000000

theorem take_mem_succ {α : Type} {l : List α} {i : Nat} (hi : i < l.length) {x : α} : x ∈ l.take (i + 1) ↔ x ∈ l.take i ∨ x = l[i] := by
  rw [List.take_add_one, List.getElem?_eq_getElem hi]
  simp only [Option.toList_some, List.mem_append, List.mem_singleton]
theorem snoc_of {α : Type} {l : List α} (h : 0 < l.length) : ∃ l' x, l = l' ++ [x] := by
  refine ⟨l.dropLast, l.getLast (List.ne_nil_of_length_pos h), ?_⟩
  exact (List.dropLast_concat_getLast _).symm

theorem c_reachable {h : Heap} {w s : Value} {G : List (List Int)} {S : List Int} {E : Nat → Nat → Prop} (Rw : Rep h w G) (Rs : Rep h s S) (hG : Adj E G) (hS : ∀ z ∈ S, 0 ≤ z ∧ z < G.length) (hSl : S.length ≤ 1048576) (hGl : G.length ≤ 1048576) :
    CallE Try.prog fn_impl_reachable [w, s] h (fun u h' => ∃ B : List Bool, HS h [ow u B] h' ∧ B.length = G.length ∧ ∀ x, tru B x ↔ ∃ z : Nat, (z : Int) ∈ S ∧ Rch E z x) := by
  refine CallE.gen fun k hk => EN_impl_reachable rfl ?_
  simp -implicitDefEqProofs (disch := first | omega | (simp only [LnZ]; omega)) [wrap64, Rw.len]
  refine HS.init.mks (α := Bool) (z := false) rfl rfl own_false (Nat.le_refl _) (by omega) (by omega) fun b h1 H => ?_
  simp -implicitDefEqProofs (disch := first | omega | (simp only [LnZ]; omega)) [wrap64]
  refine (c_clone_int (Rs.on H) (by omega)).go ?_
  intro t0 h2 H2
  have H := H2.app H
  simp -implicitDefEqProofs (disch := first | omega | (simp only [LnZ]; omega)) [wrap64, (Rs.on H).len]
  refine wp_count S.length (fun i e h' => ∃ B, e = [some w, none, none, some b, some t0, none, none, none, some s, some (.int .i64 S.length), some (.int .i64 i), none, none, none] ∧ HS h [ow t0 S, ow b B] h' ∧ B.length = G.length ∧ ∀ x, tru B x ↔ (x : Int) ∈ S.take i) ⟨_, by simp, H, by simp, fun x => by simp [tru_replicate]⟩ ?_
  rintro J i _ h3 hJ hi ⟨B, rfl, H, hBl, hB⟩
  simp -implicitDefEqProofs (disch := first | omega | (simp only [LnZ]; omega)) [wrap64]
  refine IteW.mk (fun hlt => ?_) (fun hge => ?_)
  · have hlx : i < S.length := by omega
    have hz := hS _ (List.getElem_mem hlx)
    obtain ⟨z, hz2⟩ : ∃ z : Nat, S[i] = z := ⟨S[i].toNat, by omega⟩
    have H := H.sw1
    have hzB : z < B.length := by omega
    simp -implicitDefEqProofs (disch := first | omega | (simp only [LnZ]; omega)) [wrap64, (Rs.on H).I, hz2, H.rep.B]
    refine H.storeF true (i := z) hzB rfl rfl trivial rfl fun h4 H => ?_
    simp -implicitDefEqProofs (disch := first | omega | (simp only [LnZ]; omega)) [wrap64]
    refine hJ _ _ hlx ⟨_, rfl, H.sw1, by simpa using hBl, fun x => ?_⟩
    rw [tru_set hzB, hB, take_mem_succ hlx, hz2]
    exact or_congr Iff.rfl (by omega)
  simp -implicitDefEqProofs (disch := first | omega | (simp only [LnZ]; omega)) [wrap64]
  rw [List.take_of_length_le (by omega)] at hB
  have hI : Srch E (fun z => (z : Int) ∈ S) (tru B) (fun z => (z : Int) ∈ S) := Srch.init hB fun _ h => h
  have hcl := List.count_le_length (a := false) (l := B)
  refine wp_while (σ := List Bool × List Int) (fun s e h' => ∃ t, e = [some w, none, none, some b, some t, none, none, none, none, none, none, none, none, none] ∧
      HS h [ow t s.2, ow b s.1] h' ∧ s.1.length = G.length ∧ Srch E (fun z => (z : Int) ∈ S) (tru s.1) (fun z => (z : Int) ∈ s.2) ∧ (∀ z ∈ s.2, ∃ q : Nat, z = q ∧ tru s.1 q) ∧ s.2.length + s.1.count false ≤ S.length + G.length)
    (fun s => s.2.length + s.1.count false) (B, S) ⟨t0, by simp, H, hBl, hI, fun z hz => ⟨z.toNat, by have := hS z hz; omega, by rw [hB]; have := hS z hz; rwa [Int.toNat_of_nonneg this.1]⟩, by dsimp only; omega⟩ ?_
  rintro J ⟨B, T⟩ _ h4 hJ ⟨t, rfl, H, hBl, hI, hT, hm⟩
  dsimp only at H hBl hI hT hm
  simp -implicitDefEqProofs (disch := first | omega | (simp only [LnZ]; omega)) [wrap64, H.rep.len]
  refine IteW.mkr (fun h0 => ?_) (fun h0 => ?_)
  · simp -implicitDefEqProofs (disch := first | omega | (simp only [LnZ]; omega)) [wrap64]
    have hT0 : T = [] := List.eq_nil_of_length_eq_zero (by omega)
    subst hT0
    exact RetK.keep (hk _ _ ⟨B, H.drop, hBl, fun x => hI.done (by simp)⟩)
  obtain ⟨T, x, rfl⟩ := snoc_of (l := T) (by omega)
  obtain ⟨q, rfl, hq⟩ := hT x (by simp)
  have hqG : q < G.length := by rw [← hBl]; exact tru_lt hq
  obtain ⟨t', ht', H'⟩ := H.cut (n := T.length) (esz := 1) (k := .i64) (by simp)
  have hTl : T.length < 4611686018427387904 := by have := H.rep.lt; simp at this; omega
  rw [List.take_left' rfl] at H'
  obtain ⟨u, hu0, Ru⟩ := Rw.ldL hqG
  have hu := hload_le H.base hu0
  have hul := Ru.lt
  have hlen1 : (T ++ [(q : Int)]).length = T.length + 1 := by simp
  have hi1 : IntKind.i64.wrap ((T.length : Int) + 1 - 1) = T.length := by rw [wrap64 (by omega) (by omega)]; omega
  simp -implicitDefEqProofs (disch := first | omega | (simp only [LnZ]; omega)) [wrap64, H.rep.I, hlen1, hi1, ht', (Rw.on H').X (n := 1) rfl, hu, Ru.len]
  have hlt0 := hm
  obtain ⟨m, hmm⟩ : ∃ m, m = T.length + 1 + B.count false := ⟨_, rfl⟩
  refine wp_count G[q].length (fun j e h' => ∃ (t : Value) (B : List Bool) (T' : List Int), e = [some w, none, none, some b, some t, none, none, none, none, none, none, some u, some (.int .i64 G[q].length), some (.int .i64 j)] ∧
      HS h [ow t T', ow b B] h' ∧ B.length = G.length ∧ Srch E (fun z => (z : Int) ∈ S) (tru B) (fun z => (z : Int) ∈ T' ∨ z = q) ∧ tru B q ∧ (∀ z ∈ T', ∃ q : Nat, z = q ∧ tru B q) ∧ T'.length + 1 + B.count false = m ∧
      ∀ j' (hj' : j' < G[q].length), j' < j → ∀ y : Nat, G[q][j'] = y → tru B y) ⟨t', B, T, by simp, H', hBl, hI.congr (fun _ => Iff.rfl) (fun z => by simp [Int.ofNat_inj]), hq, fun z hz => hT z (by simp [hz]), hmm.symm, fun j' _ hj' => absurd hj' (Nat.not_lt_zero j')⟩ ?_
  rintro J2 j _ h5 hJ2 hj ⟨t2, B2, T2, rfl, H, hBl2, hI2, hq2, hT2, hm2, hpr⟩
  simp -implicitDefEqProofs (disch := first | omega | (simp only [LnZ]; omega)) [wrap64]
  refine IteW.mk (fun hlt2 => ?_) (fun hge2 => ?_)
  · have hjl : j < G[q].length := by omega
    obtain ⟨y, hy, hxy, hyG⟩ := hG.get hqG hjl
    have H := H.sw1
    have hyB : y < B2.length := by omega
    have hpr2 : ∀ B3, tru B3 y → (∀ z, tru B2 z → tru B3 z) → ∀ j' (hj' : j' < G[q].length), j' < j + 1 → ∀ y : Nat, G[q][j'] = y → tru B3 y := by
      intro B3 h1 h2 j' hj' hlt y' hy'
      by_cases e : j' = j
      · subst e
        rw [hy] at hy'
        obtain rfl : y = y' := by omega
        exact h1
      · exact h2 _ (hpr j' hj' (by omega) y' hy')
    by_cases hb : B2[y] = true
    · simp -implicitDefEqProofs (disch := first | omega | (simp only [LnZ]; omega)) [wrap64, (Ru.on H).I, hy, H.rep.B, hb]
      exact hJ2 _ _ hjl ⟨t2, B2, T2, rfl, H.sw1, hBl2, hI2, hq2, hT2, hm2, hpr2 _ ((tru_get hyB).2 hb) fun _ h => h⟩
    · have hb' : B2[y] = false := by simpa using hb
      simp -implicitDefEqProofs (disch := first | omega | (simp only [LnZ]; omega)) [wrap64, (Ru.on H).I, hy, H.rep.B, hb']
      refine H.storeF true (i := y) hyB rfl rfl trivial rfl fun h6 H => ?_
      have hcs := count_set hyB hb'
      simp -implicitDefEqProofs (disch := first | omega | (simp only [LnZ]; omega)) [wrap64]
      refine H.sw1.app1 (y : Int) rfl rfl rfl ⟨by omega, by omega⟩ rfl rfl (by omega) (by omega) fun t3 h7 H => ?_
      simp -implicitDefEqProofs (disch := first | omega | (simp only [LnZ]; omega)) [wrap64]
      refine hJ2 _ _ hjl ⟨t3, _, _, rfl, H, by simpa using hBl2, hI2.add (x := q) (y := y) hq2 hxy (fun z => tru_set hyB) (fun z => ?_), (tru_set hyB).2 (.inl hq2), ?_, ?_, hpr2 _ ((tru_set hyB).2 (.inr rfl)) fun z hz => (tru_set hyB).2 (.inl hz)⟩
      · simp only [List.mem_append, List.mem_singleton]
        constructor
        · rintro ((h | h) | h)
          · exact .inl (.inl h)
          · exact .inr (by omega)
          · exact .inl (.inr h)
        · rintro ((h | h) | h)
          · exact .inl (.inl h)
          · exact .inr h
          · exact .inl (.inr (by omega))
      · intro z hz
        rcases List.mem_append.1 hz with hz | hz
        · obtain ⟨p, h1, h2⟩ := hT2 z hz
          exact ⟨p, h1, (tru_set hyB).2 (.inl h2)⟩
        · exact ⟨y, by simpa using hz, (tru_set hyB).2 (.inr rfl)⟩
      · simp; omega
  · simp -implicitDefEqProofs (disch := first | omega | (simp only [LnZ]; omega)) [wrap64]
    refine hJ (B2, T2) _ _ ?_ ⟨t2, rfl, H, hBl2, hI2.drop (x := q) (fun y hxy => ?_) (fun z hz => hz), hT2, ?_⟩
    · dsimp only; rw [hlen1]; omega
    · exact hG.all hqG (C := tru B2) (fun j' hj' y hy => hpr j' hj' (by omega) y hy) hxy
    · dsimp only at hm ⊢; rw [hlen1] at hm; omega

theorem c_l7Reach {h : Heap} {w s : Value} {G : List (List Int)} {S : List Int} {E : Nat → Nat → Prop} (Rw : Rep h w G) (Rs : Rep h s S) (hG : Adj E G) (hS : ∀ z ∈ S, 0 ≤ z ∧ z < G.length) (hGl : G.length ≤ 1048576) :
    CallE Try.prog fn_spec_l7Reach [w, s] h (fun u h' => ∃ Q : List Int, HS h [ow u Q] h' ∧ Q.length ≤ G.length ∧ (∀ z ∈ Q, 0 ≤ z ∧ z < G.length) ∧ ∀ x : Nat, (x : Int) ∈ Q ↔ ∃ z : Nat, (z : Int) ∈ S ∧ Rch E z x) := by
  refine CallE.gen fun k hk => EN_spec_l7Reach rfl ?_
  have hSl := Rs.lt
  simp -implicitDefEqProofs (disch := first | omega | (simp only [LnZ]; omega)) [wrap64, Rw.len]
  refine HS.init.mks (α := Bool) (z := false) rfl rfl own_false (Nat.le_refl _) (by omega) (by omega) fun b h1 H => ?_
  simp -implicitDefEqProofs (disch := first | omega | (simp only [LnZ]; omega)) [wrap64]
  refine H.bls0 Int fun t0 h2 H => ?_
  simp -implicitDefEqProofs (disch := first | omega | (simp only [LnZ]; omega)) [wrap64]
  refine wp_count S.length (fun i e h' => ∃ (t : Value) (B : List Bool) (Q : List Int), e = [some w, some s, none, some b, some t, some (.int .i64 i), none, none, none] ∧ HS h [ow t Q, ow b B] h' ∧ B.length = G.length ∧ Q.length + B.count false = G.length ∧ (∀ z ∈ Q, ∃ q : Nat, z = q ∧ q < G.length) ∧ (∀ x, tru B x ↔ (x : Int) ∈ S.take i) ∧ ∀ x : Nat, tru B x ↔ (x : Int) ∈ Q) ⟨t0, _, [], by simp, H, by simp, by simp, by simp, fun x => by simp [tru_replicate], fun x => by simp [tru_replicate]⟩ ?_
  rintro J i _ h3 hJ hi ⟨t, B, Q, rfl, H, hBl, hQl, hQ, hB, hBQ⟩
  simp -implicitDefEqProofs (disch := first | omega | (simp only [LnZ]; omega)) [wrap64, (Rs.on H).len]
  refine IteW.mk (fun hlt => ?_) (fun hge => ?_)
  · have hlx : i < S.length := by omega
    have hz := hS _ (List.getElem_mem hlx)
    obtain ⟨z, hz2⟩ : ∃ z : Nat, S[i] = z := ⟨S[i].toNat, by omega⟩
    have H := H.sw1
    have hzB : z < B.length := by omega
    by_cases hb : B[z] = true
    · simp -implicitDefEqProofs (disch := first | omega | (simp only [LnZ]; omega)) [wrap64, (Rs.on H).I, hz2, H.rep.B, hb]
      refine hJ _ _ hlx ⟨t, B, Q, rfl, H.sw1, hBl, hQl, hQ, fun x => ?_, hBQ⟩
      rw [take_mem_succ hlx, hB, hz2]
      constructor
      · exact .inl
      · rintro (h | h)
        · exact h
        · obtain rfl : x = z := by omega
          exact (hB x).1 ((tru_get hzB).2 hb)
    · have hb' : B[z] = false := by simpa using hb
      have hcs := count_set hzB hb'
      simp -implicitDefEqProofs (disch := first | omega | (simp only [LnZ]; omega)) [wrap64, (Rs.on H).I, hz2, H.rep.B, hb']
      refine H.storeF true (i := z) hzB rfl rfl trivial rfl fun h4 H => ?_
      simp -implicitDefEqProofs (disch := first | omega | (simp only [LnZ]; omega)) [wrap64, (Rs.on H).I, hz2]
      refine H.sw1.app1 (z : Int) rfl rfl rfl ⟨by omega, by omega⟩ rfl rfl (by omega) (by omega) fun t3 h7 H => ?_
      simp -implicitDefEqProofs (disch := first | omega | (simp only [LnZ]; omega)) [wrap64]
      refine hJ _ _ hlx ⟨t3, _, _, rfl, H, by simpa using hBl, by simp; omega, ?_, fun x => ?_, fun x => ?_⟩
      · intro y hy
        rcases List.mem_append.1 hy with hy | hy
        · exact hQ y hy
        · exact ⟨z, by simpa using hy, by omega⟩
      · rw [tru_set hzB, hB, take_mem_succ hlx, hz2]
        exact or_congr Iff.rfl (by omega)
      · rw [tru_set hzB, hBQ]
        simp [Int.ofNat_inj]
  simp -implicitDefEqProofs (disch := first | omega | (simp only [LnZ]; omega)) [wrap64]
  rw [List.take_of_length_le (by omega)] at hB
  have hI : Srch E (fun z => (z : Int) ∈ S) (tru B) (fun z => (z : Int) ∈ Q.drop 0) := Srch.init hB fun z hz => by rw [List.drop_zero, ← hBQ, hB]; exact hz
  refine wp_while (σ := List Bool × List Int × Nat) (fun s e h' => ∃ t, e = [some w, none, none, some b, some t, none, some (.int .i64 s.2.2), none, none] ∧
      HS h [ow t s.2.1, ow b s.1] h' ∧ s.1.length = G.length ∧ s.2.1.length + s.1.count false = G.length ∧ s.2.2 ≤ s.2.1.length ∧ (∀ z ∈ s.2.1, ∃ q : Nat, z = q ∧ q < G.length) ∧ (∀ x : Nat, tru s.1 x ↔ (x : Int) ∈ s.2.1) ∧ Srch E (fun z => (z : Int) ∈ S) (tru s.1) (fun z => (z : Int) ∈ s.2.1.drop s.2.2))
    (fun s => G.length - s.2.2) (B, Q, 0) ⟨t, by simp, H, hBl, hQl, by dsimp only; omega, hQ, hBQ, hI⟩ ?_
  rintro J ⟨B, Q, i⟩ _ h4 hJ ⟨t, rfl, H, hBl, hQl, hiQ, hQ, hBQ, hI⟩
  dsimp only at H hBl hQl hiQ hQ hBQ hI
  simp -implicitDefEqProofs (disch := first | omega | (simp only [LnZ]; omega)) [wrap64, H.rep.len]
  refine IteW.mkr (fun h0 => ?_) (fun h0 => ?_)
  · simp -implicitDefEqProofs (disch := first | omega | (simp only [LnZ]; omega)) [wrap64]
    have hd : Q.drop i = [] := List.drop_eq_nil_of_le (by omega)
    rw [hd] at hI
    refine RetK.keep (hk _ _ ⟨Q, H.sw1.drop, by omega, fun z hz => ?_, fun x => ?_⟩)
    · obtain ⟨q, rfl, h2⟩ := hQ z hz; omega
    · rw [← hBQ]; exact hI.done (by simp)
  have hiQ2 : i < Q.length := by omega
  obtain ⟨q, hq, hqG⟩ := hQ _ (List.getElem_mem hiQ2)
  obtain ⟨u, hu0, Ru⟩ := Rw.ldL hqG
  have hul := Ru.lt
  have hqB : tru B q := by rw [hBQ, ← hq]; exact List.getElem_mem hiQ2
  simp -implicitDefEqProofs (disch := first | omega | (simp only [LnZ]; omega)) [wrap64]
  refine wp_count G[q].length (fun j e h' => ∃ (t : Value) (B' : List Bool) (W : List Int), e = [some w, none, none, some b, some t, none, some (.int .i64 i), some (.int .i64 j), none] ∧
      HS h [ow t (Q ++ W), ow b B'] h' ∧ B'.length = G.length ∧ (Q ++ W).length + B'.count false = G.length ∧ (∀ z ∈ Q ++ W, ∃ q : Nat, z = q ∧ q < G.length) ∧ (∀ x : Nat, tru B' x ↔ (x : Int) ∈ Q ++ W) ∧ Srch E (fun z => (z : Int) ∈ S) (tru B') (fun z => (z : Int) ∈ (Q ++ W).drop i) ∧
      ∀ j' (hj' : j' < G[q].length), j' < j → ∀ y : Nat, G[q][j'] = y → tru B' y) ⟨t, B, [], by simp, by simpa using H, hBl, by simpa using hQl, by simpa using hQ, by simpa using hBQ, by simpa using hI, fun j' _ hj' => absurd hj' (Nat.not_lt_zero j')⟩ ?_
  rintro J2 j _ h5 hJ2 hj ⟨t2, B2, W, rfl, H, hBl2, hQl2, hQ2, hBQ2, hI2, hpr⟩
  have hiW : i < (Q ++ W).length := by simp; omega
  have hqi : (Q ++ W)[i] = (q : Int) := by rw [List.getElem_append_left hiQ2]; exact hq
  have hu := hload_le H.base hu0
  simp -implicitDefEqProofs (disch := first | omega | (simp only [LnZ]; omega)) [wrap64, H.rep.I, hqi, (Rw.on H).X (n := 1) rfl, hu, (Ru.on H).len]
  refine IteW.mk (fun hlt2 => ?_) (fun hge2 => ?_)
  · have hjl : j < G[q].length := by omega
    obtain ⟨y, hy, hxy, hyG⟩ := hG.get hqG hjl
    have H := H.sw1
    have hyB : y < B2.length := by omega
    have hpr2 : ∀ B3, tru B3 y → (∀ z, tru B2 z → tru B3 z) → ∀ j' (hj' : j' < G[q].length), j' < j + 1 → ∀ y : Nat, G[q][j'] = y → tru B3 y := by
      intro B3 h1 h2 j' hj' hlt y' hy'
      by_cases e : j' = j
      · subst e
        rw [hy] at hy'
        obtain rfl : y = y' := by omega
        exact h1
      · exact h2 _ (hpr j' hj' (by omega) y' hy')
    have hqB2 : tru B2 q := by rw [hBQ2, ← hqi]; exact List.getElem_mem hiW
    by_cases hb : B2[y] = true
    · simp -implicitDefEqProofs (disch := first | omega | (simp only [LnZ]; omega)) [wrap64, H.sw1.rep.I, hqi, (Rw.on H).X (n := 1) rfl, hu, (Ru.on H).I, hy, H.rep.B, hb]
      exact hJ2 _ _ hjl ⟨t2, B2, W, rfl, H.sw1, hBl2, hQl2, hQ2, hBQ2, hI2, hpr2 _ ((tru_get hyB).2 hb) fun _ h => h⟩
    · have hb' : B2[y] = false := by simpa using hb
      simp -implicitDefEqProofs (disch := first | omega | (simp only [LnZ]; omega)) [wrap64, H.sw1.rep.I, hqi, (Rw.on H).X (n := 1) rfl, hu, (Ru.on H).I, hy, H.rep.B, hb']
      refine H.storeF true (i := y) hyB rfl rfl trivial rfl fun h6 H => ?_
      have hcs := count_set hyB hb'
      simp -implicitDefEqProofs (disch := first | omega | (simp only [LnZ]; omega)) [wrap64]
      refine H.sw1.app1 (y : Int) rfl rfl rfl ⟨by omega, by omega⟩ rfl rfl (by omega) (by omega) fun t3 h7 H => ?_
      simp -implicitDefEqProofs (disch := first | omega | (simp only [LnZ]; omega)) [wrap64]
      have hassoc : Q ++ W ++ [(y : Int)] = Q ++ (W ++ [(y : Int)]) := List.append_assoc _ _ _
      rw [hassoc] at H
      refine hJ2 _ _ hjl ⟨t3, _, W ++ [(y : Int)], rfl, H, by simpa using hBl2, by simp at hQl2 ⊢; omega, ?_, fun x => ?_, hI2.add (x := q) (y := y) hqB2 hxy (fun z => tru_set hyB) (fun z => ?_), hpr2 _ ((tru_set hyB).2 (.inr rfl)) fun z hz => (tru_set hyB).2 (.inl hz)⟩
      · intro z hz
        rw [← hassoc] at hz
        rcases List.mem_append.1 hz with hz | hz
        · exact hQ2 z hz
        · exact ⟨y, by simpa using hz, hyG⟩
      · rw [tru_set hyB, hBQ2, ← hassoc]
        simp [Int.ofNat_inj, or_assoc]
      · rw [← hassoc, List.drop_append_of_le_length (by omega)]
        simp [Int.ofNat_inj]
  · simp -implicitDefEqProofs (disch := first | omega | (simp only [LnZ]; omega)) [wrap64]
    refine hJ (B2, Q ++ W, i + 1) _ _ ?_ ⟨t2, rfl, H, hBl2, hQl2, by dsimp only; omega, hQ2, hBQ2, hI2.drop (x := q) (fun y hxy => ?_) (fun z hz => ?_)⟩
    · dsimp only; omega
    · exact hG.all hqG (C := tru B2) (fun j' hj' y hy => hpr j' hj' (by omega) y hy) hxy
    · dsimp only
      rw [List.drop_eq_getElem_cons hiW, hqi] at hz
      rcases List.mem_cons.1 hz with hz | hz
      · exact .inr (by omega)
      · exact .inl hz
end Go.Proofs.Ytglnelcmcimljaa

/-
  Which nodes lie on a cycle, by the reference; from which states a word is accepted, by the reference.
-/
namespace Go.Proofs.Ytglnelcmcimljaa
open Go
set_option linter.all false
set_option linter.unusedVariables false
set_option linter.unusedSimpArgs false
set_option linter.defProp false
set_option maxRecDepth 1000000

/-- where the reference's search for a cycle stands -/
structure LpI (E : Nat → Nat → Prop) (n q : Nat) (B : List Bool) (Q : List Int) (i : Nat) : Prop where
  len : B.length = n
  size : Q.length + 2048 * B.count false ≤ 2048 * (n + 1)
  le : i ≤ Q.length
  snd : ∀ z ∈ Q, ∃ p : Nat, z = p ∧ p < n ∧ ∃ y, E q y ∧ Rch E y p
  start : ∀ y, E q y → (y : Int) ∈ Q
  seen : ∀ x, tru B x → ∀ y, E x y → (y : Int) ∈ Q
  past : ∀ j (hj : j < Q.length), j < i → Q[j] ≠ q ∧ tru B Q[j].toNat
theorem LpI.done {E : Nat → Nat → Prop} {n q : Nat} {B : List Bool} {Q : List Int} {i : Nat} (h : LpI E n q B Q i) (hi : Q.length ≤ i) : ¬ Cyc E q := by
  rintro ⟨y, h1, h2⟩
  have hm : ((q : Nat) : Int) ∈ Q := by
    refine h2.closed (C := fun x => (x : Int) ∈ Q) (fun u v hu huv => ?_) (h.start y h1)
    obtain ⟨j, hj, h3⟩ := List.mem_iff_getElem.1 hu
    have h4 := (h.past j hj (by omega)).2
    rw [h3] at h4
    exact h.seen u h4 v huv
  obtain ⟨j, hj, h3⟩ := List.mem_iff_getElem.1 hm
  exact (h.past j hj (by omega)).1 h3

theorem c_l7Loop {h : Heap} {w : Value} {G : List (List Int)} {E : Nat → Nat → Prop} (Rw : Rep h w G) (hG : Adj E G) (hrow : ∀ x (hx : x < G.length), G[x].length ≤ 2048) (hGl : G.length ≤ 1048576) {q : Nat} (hq : q < G.length) :
    CallE Try.prog fn_spec_l7Loop [w, .int .i64 q] h (fun u h' => h.le h' ∧ ∃ r : Bool, u = .bool r ∧ (r = true ↔ Cyc E q)) := by
  refine CallE.gen fun k hk => EN_spec_l7Loop rfl ?_
  obtain ⟨u, hu0, Ru⟩ := Rw.ldL hq
  have hul := hrow q hq
  simp -implicitDefEqProofs (disch := first | omega | (simp only [LnZ]; omega)) [wrap64]
  refine wp_count G[q].length (fun i e h' => e = [some w, some (.int .i64 q), none, some (.int .i64 i), none, none, none, none] ∧ h' = h ∧ ∀ (j : Nat) (hj : j < G[q].length), j < i → G[q][j] ≠ q) ⟨rfl, rfl, fun j _ hj => absurd hj (Nat.not_lt_zero j)⟩ ?_
  rintro J i _ h hJ hi ⟨rfl, rfl, hn⟩
  simp -implicitDefEqProofs (disch := first | omega | (simp only [LnZ]; omega)) [wrap64, Rw.X (n := 1) rfl, hu0, Ru.I]
  refine IteW.mk (fun hlt => ?_) (fun hge => ?_)
  · have hlx : i < G[q].length := by omega
    simp -implicitDefEqProofs (disch := first | omega | (simp only [LnZ]; omega)) [wrap64, Rw.X (n := 1) rfl, hu0, Ru.I]
    refine IteW.mk (fun he => ?_) (fun he => ?_)
    · simp -implicitDefEqProofs (disch := first | omega | (simp only [LnZ]; omega)) [wrap64]
      refine RetK.keep (hk _ _ ⟨Heap.le.refl _, true, rfl, ?_⟩)
      simp only [true_iff]
      obtain ⟨y, h1, h2, _⟩ := hG.get hq hlx
      obtain rfl : y = q := by rw [he] at h1; omega
      exact ⟨y, h2, .refl _⟩
    · simp -implicitDefEqProofs (disch := first | omega | (simp only [LnZ]; omega)) [wrap64]
      refine hJ _ _ hlx ⟨rfl, rfl, fun j hj hji => ?_⟩
      by_cases hji2 : j = i
      · subst hji2; exact he
      · exact hn j hj (by omega)
  clear hn
  simp -implicitDefEqProofs (disch := first | omega | (simp only [LnZ]; omega)) [wrap64, Rw.len]
  refine HS.init.mks (α := Bool) (z := false) rfl rfl own_false (Nat.le_refl _) (by omega) (by omega) fun b h1 H => ?_
  have hu := hload_le H.base hu0
  simp -implicitDefEqProofs (disch := first | omega | (simp only [LnZ]; omega)) [wrap64, (Rw.on H).X (n := 1) rfl, hu]
  refine H.appPL (α := Int) (l2 := G[q]) rfl rfl (Ru.on H) rfl rfl (by omega) fun t h2 H => ?_
  simp -implicitDefEqProofs (disch := first | omega | (simp only [LnZ]; omega)) [wrap64]
  have hmem := hG.mem q hq
  have hI : LpI E G.length q (List.replicate G.length false) G[q] 0 := by
    refine ⟨by simp, by simp; omega, by omega, fun z hz => ?_, fun y hy => (hmem y).2 ⟨y, rfl, hy⟩, fun x hx => absurd hx tru_replicate, fun j _ hj => absurd hj (Nat.not_lt_zero j)⟩
    obtain ⟨y, rfl, h2⟩ := (hmem z).1 hz
    exact ⟨y, rfl, (hG.lt _ _ h2).2, y, h2, .refl _⟩
  refine wp_while (σ := List Bool × List Int × Nat) (fun s e h' => ∃ t, e = [some w, some (.int .i64 q), none, none, some b, some t, some (.int .i64 s.2.2), none] ∧
      HS h [ow t s.2.1, ow b s.1] h' ∧ LpI E G.length q s.1 s.2.1 s.2.2) (fun s => s.1.count false * 2049 + (s.2.1.length - s.2.2)) (List.replicate G.length false, G[q], 0) ⟨t, by simp, H, hI⟩ ?_
  rintro J2 ⟨B, Q, i⟩ _ h3 hJ2 ⟨t, rfl, H, hI⟩
  dsimp only at H hI
  have hsz := hI.size
  have hle := hI.le
  have hBl := hI.len
  simp -implicitDefEqProofs (disch := first | omega | (simp only [LnZ]; omega)) [wrap64, H.rep.len]
  refine IteW.mkr (fun h0 => ?_) (fun h0 => ?_)
  · simp -implicitDefEqProofs (disch := first | omega | (simp only [LnZ]; omega)) [wrap64]
    exact RetK.keep (hk _ _ ⟨H.base, false, rfl, by simpa using hI.done (by omega)⟩)
  have hiQ : i < Q.length := by omega
  obtain ⟨p, hp, hpn, y, hy1, hy2⟩ := hI.snd _ (List.getElem_mem hiQ)
  by_cases hpq : p = q
  · have hp2 : Q[i] = (q : Int) := by rw [hp, hpq]
    simp -implicitDefEqProofs (disch := first | omega | (simp only [LnZ]; omega)) [wrap64, H.rep.I, hp2]
    refine RetK.keep (hk _ _ ⟨H.base, true, rfl, ?_⟩)
    simp only [true_iff]
    exact ⟨y, hy1, hpq ▸ hy2⟩
  have hpq2 : ¬ ((p : Int) = q) := by omega
  have H := H.sw1
  have hpB : p < B.length := by omega
  have hpast : ∀ (B' : List Bool) (W : List Int), (∀ x, tru B x → tru B' x) → tru B' p → ∀ j (hj : j < (Q ++ W).length), j < i + 1 → (Q ++ W)[j] ≠ q ∧ tru B' (Q ++ W)[j].toNat := by
    intro B' W h1 h2 j hj hji
    have hjQ : j < Q.length := by omega
    rw [List.getElem_append_left hjQ]
    by_cases e : j = i
    · subst e
      rw [hp]
      exact ⟨hpq2, by simpa using h2⟩
    · have := hI.past j hjQ (by omega)
      exact ⟨this.1, h1 _ this.2⟩
  by_cases hb : B[p] = true
  · simp -implicitDefEqProofs (disch := first | omega | (simp only [LnZ]; omega)) [wrap64, H.sw1.rep.I, hp, hpq2, H.rep.B, hb]
    refine hJ2 (B, Q, i + 1) _ _ ?_ ⟨t, rfl, H.sw1, hI.len, hsz, by dsimp only; omega, hI.snd, hI.start, hI.seen, ?_⟩
    · dsimp only; omega
    · dsimp only
      have := hpast B [] (fun _ h => h) ((tru_get hpB).2 hb)
      simpa using this
  · have hb' : B[p] = false := by simpa using hb
    obtain ⟨v, hv0, Rv⟩ := Rw.ldL hpn
    have hrp := hrow p hpn
    have hcs := count_set hpB hb'
    simp -implicitDefEqProofs (disch := first | omega | (simp only [LnZ]; omega)) [wrap64, H.sw1.rep.I, hp, hpq2, H.rep.B, hb']
    refine H.storeF true (i := p) hpB rfl rfl trivial rfl fun h4 H => ?_
    have hv := hload_le H.base hv0
    simp -implicitDefEqProofs (disch := first | omega | (simp only [LnZ]; omega)) [wrap64, (Rw.on H).X (n := 1) rfl, hv]
    refine H.sw1.appL rfl rfl (Rv.on H) rfl rfl (by omega) (by omega) fun t3 h5 H => ?_
    simp -implicitDefEqProofs (disch := first | omega | (simp only [LnZ]; omega)) [wrap64]
    have hmp := hG.mem p hpn
    refine hJ2 (B.set p true, Q ++ G[p], i + 1) _ _ ?_ ⟨t3, rfl, H, by simpa using hI.len, by simp; omega, by simp; omega, ?_, ?_, ?_, hpast _ _ (fun x hx => (tru_set hpB).2 (.inl hx)) ((tru_set hpB).2 (.inr rfl))⟩
    · simp; omega
    · intro z hz
      rcases List.mem_append.1 hz with hz | hz
      · exact hI.snd z hz
      · obtain ⟨y', rfl, h2⟩ := (hmp z).1 hz
        exact ⟨y', rfl, (hG.lt _ _ h2).2, y, hy1, hy2.snoc h2⟩
    · intro y' hy'
      exact List.mem_append_left _ (hI.start y' hy')
    · intro x hx y' hxy
      rcases (tru_set hpB).1 hx with hx | rfl
      · exact List.mem_append_left _ (hI.seen x hx y' hxy)
      · exact List.mem_append_right _ ((hmp _).2 ⟨y', rfl, hxy⟩)

theorem ok_one {n : Int} (h : -9223372036854775808 ≤ n ∧ n < 9223372036854775808) : ∀ x ∈ [n], Flat.ok x := by
  intro x hx
  obtain rfl : x = n := by simpa using hx
  exact h
/-- the reference's live states -/
theorem c_spec_LiveStates {h : Heap} {v : Value} {a : Aut} (Ra : Rep h v a) (ha : a.Ok) : CallE Try.prog fn_spec_LiveStates [v] h (fun u h' => ∃ L : List Bool, HS h [ow u L] h' ∧ L.length = a.acc.length ∧ ∀ q, tru L q ↔ q < a.acc.length ∧ a.Live q) := by
  obtain ⟨v1, v2, v3, rfl, R1, R2, R3⟩ := Rep_Aut.1 Ra
  refine CallE.gen fun k hk => EN_spec_LiveStates rfl ?_
  have hn := ha.n
  simp -implicitDefEqProofs (disch := first | omega | (simp only [LnZ]; omega)) [wrap64]
  refine HS.init.bls0 Bool fun o h1 H => ?_
  simp -implicitDefEqProofs (disch := first | omega | (simp only [LnZ]; omega)) [wrap64]
  refine (c_spec_AutomatonValid (Ra.on H)).go ?_
  rintro _ h1 ⟨rfl, rfl⟩
  simp -implicitDefEqProofs (disch := first | omega | (simp only [LnZ]; omega)) [wrap64, ha]
  refine (c_l7Next (Ra.on H) ha).go ?_
  rintro w h2 ⟨G, H2, hG, hGl, hrow⟩
  have H := H2.app H
  have H := H.sw1
  simp -implicitDefEqProofs (disch := first | omega | (simp only [LnZ]; omega)) [wrap64]
  refine wp_count a.acc.length (fun i e h' => ∃ (o : Value) (L : List Bool), e = [none, some (.agg #[v1, v2, v3]), none, some o, some w, some (.int .i64 i), none, none, none] ∧ HS h [ow o L, ow w G] h' ∧ L.length = i ∧ ∀ q, tru L q ↔ q < i ∧ a.Live q) ⟨o, [], by simp, H, rfl, fun q => by simp [tru]⟩ ?_
  rintro J i _ h3 hJ hi ⟨o, L, rfl, H, hLl, hL⟩
  simp -implicitDefEqProofs (disch := first | omega | (simp only [LnZ]; omega)) [wrap64, (R2.on H).len]
  refine IteW.mk (fun hlt => ?_) (fun hge => ?_)
  · have hin : i < a.acc.length := by omega
    simp -implicitDefEqProofs (disch := first | omega | (simp only [LnZ]; omega)) [wrap64]
    refine H.bls (α := Int) [(i : Int)] (by rfl) rfl (ok_one (by omega)) (by decide) fun s h4 H => ?_
    simp -implicitDefEqProofs (disch := first | omega | (simp only [LnZ]; omega)) [wrap64]
    have hS1 : ∀ z ∈ [(i : Int)], 0 ≤ z ∧ z < (G.length : Int) := by
      intro z hz
      have hxi : z = i := by simpa using hz
      omega
    refine (c_l7Reach (S := [(i : Int)]) H.sw2.rep H.rep hG hS1 (by omega)).go ?_
    rintro qv h5 ⟨Q, H5, hQl, hQn, hQ⟩
    have H := H5.app H.drop
    simp -implicitDefEqProofs (disch := first | omega | (simp only [LnZ]; omega)) [wrap64]
    refine wp_count Q.length (fun k e h' => ∃ (r : Bool), e = [none, some (.agg #[v1, v2, v3]), none, some o, some w, some (.int .i64 i), some qv, some (.bool r), some (.int .i64 k)] ∧ HS h [ow qv Q, ow o L, ow w G] h' ∧ (r = true → a.Live i) ∧ ∀ j (hj : j < Q.length), j < k → r = false → ¬ (tru a.acc Q[j].toNat ∧ Cyc a.E Q[j].toNat)) ⟨false, by simp, H, by simp, fun j _ hj => absurd hj (Nat.not_lt_zero j)⟩ ?_
    rintro J2 k _ h6 hJ2 hk2 ⟨r, rfl, H, hr1, hr2⟩
    simp -implicitDefEqProofs (disch := first | omega | (simp only [LnZ]; omega)) [wrap64, H.rep.len]
    by_cases hx : k < Q.length ∧ r = false
    · obtain ⟨hkl, rfl⟩ := hx
      obtain ⟨hz0, hz1⟩ := hQn _ (List.getElem_mem hkl)
      obtain ⟨z, hz⟩ : ∃ z : Nat, Q[k] = z := ⟨Q[k].toNat, by omega⟩
      have hzG : z < G.length := by omega
      have hzr : Rch a.E i z := by
        have h1 : ((z : Nat) : Int) ∈ Q := by rw [← hz]; exact List.getElem_mem hkl
        obtain ⟨i', h2, h3⟩ := (hQ z).1 h1
        obtain rfl : i' = i := by simpa [Int.ofNat_inj] using h2
        exact h3
      have hnext : ∀ r' : Bool, (r' = true ↔ tru a.acc z ∧ Cyc a.E z) → (r' = true → a.Live i) ∧ ∀ j (hj : j < Q.length), j < k + 1 → r' = false → ¬ (tru a.acc Q[j].toNat ∧ Cyc a.E Q[j].toNat) := by
        intro r' hr'
        refine ⟨fun h => ⟨z, hzr, (hr'.1 h).2, (hr'.1 h).1⟩, fun j hj hjk hf => ?_⟩
        by_cases e : j = k
        · subst e
          rw [hz]
          intro hh
          have := hr'.2 (by simpa using hh)
          rw [hf] at this; simp at this
        · exact hr2 j hj (by omega) rfl
      by_cases hac : tru a.acc z
      · have hac2 := (tru_get (by omega : z < a.acc.length)).1 hac
        simp -implicitDefEqProofs (disch := first | omega | (simp only [LnZ]; omega)) [wrap64, hkl, H.rep.I, hz, (R2.on H).B, hac2]
        refine (c_l7Loop H.sw2.rep hG hrow (by omega) hzG).go ?_
        rintro _ h7 ⟨l7, r', rfl, hr'⟩
        have H := H.le l7
        simp -implicitDefEqProofs (disch := first | omega | (simp only [LnZ]; omega)) [wrap64]
        have h8 := hnext r' (by rw [hr']; simp [hac])
        exact hJ2 _ _ hkl ⟨r', by simp, H, h8.1, h8.2⟩
      · have hac2 : a.acc[z]'(by omega) = false := by
          have := mt (tru_get (by omega : z < a.acc.length)).2 hac
          simpa using this
        simp -implicitDefEqProofs (disch := first | omega | (simp only [LnZ]; omega)) [wrap64, hkl, H.rep.I, hz, (R2.on H).B, hac2]
        have h8 := hnext false (by simp [hac])
        exact hJ2 _ _ hkl ⟨false, by simp, H, h8.1, h8.2⟩
    · have hfin : r = true ↔ a.Live i := by
        refine ⟨hr1, fun ⟨t, h1, h2, h3⟩ => ?_⟩
        cases r with
        | true => rfl
        | false =>
          exfalso
          have hkl : ¬ k < Q.length := fun h => hx ⟨h, rfl⟩
          have hm : ((t : Nat) : Int) ∈ Q := (hQ t).2 ⟨i, by simp, h1⟩
          obtain ⟨j, hj, h4⟩ := List.mem_iff_getElem.1 hm
          refine hr2 j hj (by omega) rfl ?_
          rw [h4]
          exact ⟨by simpa using h3, by simpa using h2⟩
      have hstep : ∀ q, tru (L ++ [r]) q ↔ q < i + 1 ∧ a.Live q := by
        intro q
        by_cases e : q = i
        · subst e
          rw [← hfin]
          simp [tru, ← hLl]
        · have h1 : tru (L ++ [r]) q ↔ tru L q := by
            simp only [tru, List.getD_eq_getElem?_getD]
            by_cases h2 : q < L.length
            · rw [List.getElem?_append_left h2]
            · rw [List.getElem?_eq_none (by simp; omega), List.getElem?_eq_none (by omega)]
          rw [h1, hL]
          constructor
          · rintro ⟨h2, h3⟩; exact ⟨by omega, h3⟩
          · rintro ⟨h2, h3⟩; exact ⟨by omega, h3⟩
      have hcase : (¬ k < Q.length) ∨ (k < Q.length ∧ r = true) := by
        by_cases hkl : k < Q.length
        · exact .inr ⟨hkl, by cases r with | true => rfl | false => exact absurd ⟨hkl, rfl⟩ hx⟩
        · exact .inl hkl
      have H := H.drop
      rcases hcase with hkl | ⟨hkl, rfl⟩
      · simp -implicitDefEqProofs (disch := first | omega | (simp only [LnZ]; omega)) [wrap64, hkl]
        refine H.app1 r rfl rfl rfl trivial rfl rfl (by omega) (by omega) fun o' h7 H => ?_
        simp -implicitDefEqProofs (disch := first | omega | (simp only [LnZ]; omega)) [wrap64]
        exact hJ _ _ hin ⟨o', _, by simp, H, by simp [hLl], hstep⟩
      · simp -implicitDefEqProofs (disch := first | omega | (simp only [LnZ]; omega)) [wrap64, hkl]
        refine H.app1 true rfl rfl rfl trivial rfl rfl (by omega) (by omega) fun o' h7 H => ?_
        simp -implicitDefEqProofs (disch := first | omega | (simp only [LnZ]; omega)) [wrap64]
        exact hJ _ _ hin ⟨o', _, by simp, H, by simp [hLl], hstep⟩
  · simp -implicitDefEqProofs (disch := first | omega | (simp only [LnZ]; omega)) [wrap64]
    have hia : i = a.acc.length := by omega
    exact RetK.keep (hk _ _ ⟨L, H.sw1.drop, by omega, fun q => by rw [hL, hia]⟩)
end Go.Proofs.Ytglnelcmcimljaa

/-
  The program's search for strongly connected components.
-/
namespace Go.Proofs.Ytglnelcmcimljaa
open Go
set_option linter.all false
set_option linter.unusedVariables false
set_option linter.unusedSimpArgs false
set_option linter.defProp false
set_option maxRecDepth 1000000

def gd (l : List Int) : Nat → Int := fun x => l.getD x 0
theorem gd_get {l : List Int} {i : Nat} (hi : i < l.length) : gd l i = l[i] := by simp [gd, hi]
theorem gd_set {l : List Int} {i : Nat} {v : Int} (hi : i < l.length) : gd (l.set i v) = fput (gd l) i v := by
  funext x
  simp only [gd, fput, List.getD_eq_getElem?_getD, List.getElem?_set]
  by_cases h : i = x
  · subst h; simp [hi]
  · simp [h, Ne.symm h]
theorem ite_min {a b : Int} : (if b < a then b else a) = min a b := by
  split <;> omega

/-- so many have not been visited -/
def unv (n : Nat) (f : Nat → Int) : Nat := ((List.range n).filter fun x => decide (x < n ∧ f x = 0)).length
theorem unv_lt {n : Nat} {f f' : Nat → Int} {a : Nat} (ha : a < n) (h0 : f a = 0) (h1 : f' a ≠ 0) (h : ∀ x, x < n → f x ≠ 0 → f' x ≠ 0) : unv n f' < unv n f := by
  refine filter_lt_of ?_ ⟨a, by simpa using ha, by simp [h1], by simp [h0, ha]⟩
  intro x hx2
  simp at hx2 ⊢
  exact ⟨hx2.1, Classical.byContradiction fun hn => h x hx2.1 hn hx2.2⟩
/-- the boxes that are only read -/
@[reducible] def FB (bN bL bQ bG bV : Nat) (vn vl vq w fv : Value) (h : Heap) : Prop := hload h (some (.pointer (some ⟨bN, 0, none⟩))) none = some vn ∧ hload h (some (.pointer (some ⟨bL, 0, none⟩))) none = some vl ∧ hload h (some (.pointer (some ⟨bQ, 0, none⟩))) none = some vq ∧
  hload h (some (.pointer (some ⟨bG, 0, none⟩))) none = some w ∧ hload h (some (.pointer (some ⟨bV, 0, none⟩))) none = some fv
theorem FB.on {bN bL bQ bG bV : Nat} {vn vl vq w fv : Value} {g h : Heap} {Γ : List HP} (F : FB bN bL bQ bG bV vn vl vq w fv g) (H : HS g Γ h) : FB bN bL bQ bG bV vn vl vq w fv h :=
  ⟨hload_le H.base F.1, hload_le H.base F.2.1, hload_le H.base F.2.2.1, hload_le H.base F.2.2.2.1, hload_le H.base F.2.2.2.2⟩

/-- the state of the search lies in the memory -/
@[reducible] def CHs (vn vl vq : Value) (bS bC bP : Nat) (vs : Value) (N L Q : List Int) (s : TS) : List HP :=
  [ow vn N, ow vl L, ow vq Q, ow vs (s.stk.map Int.ofNat), bx bS [vs], bx bC [.int .i64 s.cnt], bx bP [.int .i64 s.prt]]
structure CHl (n : Nat) (N L Q : List Int) (s : TS) : Prop where
  hN : N.length = n
  hL : L.length = n
  hQ : Q.length = n
  num : s.num = gd N
  low : s.low = gd L
  part : s.part = gd Q
  cnt : s.cnt + unv n s.num ≤ n
def CH (g : Heap) (vn vl vq : Value) (bS bC bP n : Nat) (s : TS) (h : Heap) : Prop := ∃ (N L Q : List Int) (vs : Value), CHl n N L Q s ∧ HS g (CHs vn vl vq bS bC bP vs N L Q s) h

theorem TL.mono {n : Nat} {E : Nat → Nat → Prop} {gr sc sc' : Nat → Prop} {s s1 : TS} {a : Nat} (h : TL n E gr s a sc s1) (hs : ∀ y, sc' y → sc y) : TL n E gr s a sc' s1 :=
  ⟨h.inv, h.num, h.part, h.stk, h.na, h.cnt, h.fresh, h.black, h.lowa, h.low, h.min, fun y hy => h.proc y (hs y hy)⟩

/-- the node that is taken off the stack next -/
def topv (C : List Nat) (m : Nat) : Int := if h : m < C.length then (C[m] : Int) else -1

set_option maxHeartbeats 4000000 in
theorem c_visit {g : Heap} {bN bL bQ bG bV bS bC bP n : Nat} {vn vl vq w fv : Value} {G : List (List Int)} {E : Nat → Nat → Prop} (F : FB bN bL bQ bG bV vn vl vq w fv g) (Rw : Rep g w G) (hG : Adj E G) (hn : G.length = n) (hnl : n ≤ 1048576)
    (hfv : fnOf fv = some (fn_impl_components_1, [], [.pointer (some ⟨bC, 0, none⟩), .pointer (some ⟨bN, 0, none⟩), .pointer (some ⟨bL, 0, none⟩), .pointer (some ⟨bS, 0, none⟩), .pointer (some ⟨bG, 0, none⟩), .pointer (some ⟨bV, 0, none⟩), .pointer (some ⟨bQ, 0, none⟩), .pointer (some ⟨bP, 0, none⟩)])) :
    ∀ (m : Nat) (gr : Nat → Prop) (s : TS) (a : Nat) (h : Heap), unv n s.num = m → CH g vn vl vq bS bC bP n s h → TI n E gr s → a < n → s.num a = 0 → (∀ g, gr g → g ∈ s.stk → Rch E g a) → (∀ g, gr g → g < n ∧ s.num g ≠ 0) →
    CallE Try.prog fn_impl_components_1 [.int .i64 a, .pointer (some ⟨bC, 0, none⟩), .pointer (some ⟨bN, 0, none⟩), .pointer (some ⟨bL, 0, none⟩), .pointer (some ⟨bS, 0, none⟩), .pointer (some ⟨bG, 0, none⟩), .pointer (some ⟨bV, 0, none⟩), .pointer (some ⟨bQ, 0, none⟩), .pointer (some ⟨bP, 0, none⟩)] h
      (fun u h' => ∃ s', CH g vn vl vq bS bC bP n s' h' ∧ TV n E gr s a s') := by
  intro m
  induction m using Nat.strongRecOn with
  | ind m ih =>
  rintro gr s a h hm ⟨N, L, Q, vs, hl, H⟩ hI han ha0 hg1 hg2
  have hE : ∀ x y, E x y → x < n ∧ y < n := fun x y hxy => hn ▸ hG.lt x y hxy
  have hc := hI.cnt
  have hcn := hl.cnt
  have hNl := hl.hN
  have hLl := hl.hL
  have hQl := hl.hQ
  have haG : a < G.length := by omega
  obtain ⟨u, hu0, Ru⟩ := Rw.ldL haG
  have hul := Ru.lt
  refine CallE.gen fun k hk => EN_impl_components_1 rfl ?_
  simp -implicitDefEqProofs (disch := first | omega | (simp only [LnZ]; omega)) [wrap64, H.sw5.bxld0]
  refine H.sw5.bxst (u := .int .i64 (s.cnt + 1)) rfl rfl rfl rfl (by simp) fun h1 H => ?_
  simp only [setC, cells_int, List.take_zero, List.nil_append] at H
  have H : HS g (bx bC [.int .i64 (s.cnt + 1)] :: ow vn N :: ow vl L :: ow vq Q :: ow vs (s.stk.map Int.ofNat) :: bx bS [vs] :: [bx bP [.int .i64 s.prt]]) h1 := H
  have H := H.bk5
  simp -implicitDefEqProofs (disch := first | omega | (simp only [LnZ]; omega)) [wrap64, F.on H, H.sw5.bxld0, H.rep.I]
  refine H.storeF (s.cnt + 1) (i := a) (by omega) rfl rfl ⟨by omega, by omega⟩ rfl fun h2 H => ?_
  have H := H.sw1
  simp -implicitDefEqProofs (disch := first | omega | (simp only [LnZ]; omega)) [wrap64, F.on H, H.sw5.bxld0, H.rep.I]
  refine H.storeF (s.cnt + 1) (i := a) (by omega) rfl rfl ⟨by omega, by omega⟩ rfl fun h3 H => ?_
  have H := H.sw1
  simp -implicitDefEqProofs (disch := first | omega | (simp only [LnZ]; omega)) [wrap64, F.on H, H.sw4.bxld0]
  refine H.sw3.app1 (a : Int) rfl rfl rfl ⟨by omega, by omega⟩ rfl rfl (by simp; omega) (by simp; omega) fun vs1 h4 H => ?_
  have H := H.bk3
  simp -implicitDefEqProofs (disch := first | omega | (simp only [LnZ]; omega)) [wrap64, F.on H]
  refine H.sw4.bxst (u := vs1) rfl rfl (by rw [H.sw3.rep.cells]; rfl) (by rw [H.sw3.rep.cells]; simp [H.sw3.rep.one]) (by simp [H.sw3.rep.cells]) fun h5 H => ?_
  have H : HS g [ow vn (N.set a (s.cnt + 1)), ow vl (L.set a (s.cnt + 1)), ow vq Q, ow vs1 ((s.push a).stk.map Int.ofNat), bx bS [vs1], bx bC [.int .i64 (s.cnt + 1)], bx bP [.int .i64 s.prt]] h5 := by
    simpa [setC, H.sw4.rep.cells, TS.push] using H.bk4
  have hl1 : CHl n (N.set a (s.cnt + 1)) (L.set a (s.cnt + 1)) Q (s.push a) := by
    refine ⟨by simpa using hNl, by simpa using hLl, hQl, by rw [gd_set (by omega), ← hl.num]; rfl, by rw [gd_set (by omega), ← hl.low]; rfl, hl.part, ?_⟩
    have h1 : unv n (s.push a).num < unv n s.num := by
      refine unv_lt han ha0 (by simp [TS.push]; omega) fun x hx hx0 => ?_
      by_cases e : x = a
      · exact absurd ha0 (e ▸ hx0)
      · simp only [TS.push, fput_ne e]; exact hx0
    show s.cnt + 1 + (unv n (s.push a).num : Int) ≤ n
    omega
  have hT := TL.start hE hI han ha0 hg1
  simp -implicitDefEqProofs (disch := first | omega | (simp only [LnZ]; omega)) [wrap64, F.on H, (Rw.on H).X (n := 1) rfl, hload_le H.base hu0, Ru.len]
  refine wp_count G[a].length (fun j e h' => e = [some (.int .i64 a), none, some (.pointer (some ⟨bN, 0, none⟩)), some (.pointer (some ⟨bL, 0, none⟩)), some (.pointer (some ⟨bS, 0, none⟩)), none, some (.pointer (some ⟨bV, 0, none⟩)), some (.pointer (some ⟨bQ, 0, none⟩)), some (.pointer (some ⟨bP, 0, none⟩)), none, none, some u, some (.int .i64 G[a].length), some (.int .i64 j)] ∧
    ∃ s1, CH g vn vl vq bS bC bP n s1 h' ∧ TL n E gr s a (fun y => ∃ (j' : Nat) (hj' : j' < G[a].length), j' < j ∧ G[a][j'] = y) s1) ⟨by simp, _, ⟨_, _, _, _, hl1, H⟩, hT.mono fun y ⟨_, _, h0, _⟩ => absurd h0 (Nat.not_lt_zero _)⟩ ?_
  clear hl1 hT H hl
  rintro J j _ h6 hJ hj ⟨rfl, s1, ⟨N, L, Q, vs, hl, H⟩, hT⟩
  have hNl := hl.hN
  have hLl := hl.hL
  have hQl := hl.hQ
  simp -implicitDefEqProofs (disch := first | omega | (simp only [LnZ]; omega)) [wrap64]
  refine IteW.mk (fun hlt => ?_) (fun hge => ?_)
  · have hjl : j < G[a].length := by omega
    obtain ⟨y, hy, hxy, hyG⟩ := hG.get haG hjl
    have hyn : y < n := by omega
    have hsc : ∀ z : Nat, (∃ (j' : Nat) (hj' : j' < G[a].length), j' < j + 1 ∧ G[a][j'] = z) → (∃ (j' : Nat) (hj' : j' < G[a].length), j' < j ∧ G[a][j'] = z) ∨ z = y := by
      rintro z ⟨j', hj', h1, h2⟩
      by_cases e : j' = j
      · subst e; exact .inr (by omega)
      · exact .inl ⟨j', hj', by omega, h2⟩
    have hNy : s1.num y = N[y]'(by omega) := by rw [hl.num, gd_get]
    have hQy : s1.part y = Q[y]'(by omega) := by rw [hl.part, gd_get]
    have hLa : s1.low a = L[a]'(by omega) := by rw [hl.low, gd_get]
    by_cases hy0 : N[y]'(by omega) = 0
    · have hy0' : s1.num y = 0 := by rw [hNy, hy0]
      have hgray := hT.gray hxy hI hg2 han
      have hlt2 : unv n s1.num < m := by
        rw [← hm]
        refine unv_lt han ha0 (by rw [hT.na]; omega) fun x hx hx0 => ?_
        rw [(hT.num x hx hx0).1]; exact hx0
      simp -implicitDefEqProofs (disch := first | omega | (simp only [LnZ]; omega)) [wrap64, (Ru.on H).I, hy, F.on H, H.rep.I, hy0, hfv]
      refine (ih (unv n s1.num) hlt2 _ s1 y _ rfl ⟨N, L, Q, vs, hl, H⟩ hT.inv hyn hy0' hgray.1 hgray.2.1).go ?_
      clear H hl hNy hQy hLa
      rintro u' h7 ⟨s2, ⟨N2, L2, Q2, vs2, hl, H⟩, hV⟩
      have hLl2 := hl.hL
      have hLa : L2[a]'(by omega) = s2.low a := by rw [hl.low, gd_get]
      have hLy : L2[y]'(by omega) = s2.low y := by rw [hl.low, gd_get]
      have H := H.sw1
      have hla := H.rep.okI (i := a) (by omega)
      have hly := H.rep.okI (i := y) (by omega)
      simp -implicitDefEqProofs (disch := first | omega | (simp only [LnZ]; omega)) [wrap64, F.on H, H.rep.I, ite_min]
      refine H.storeF (min (L2[a]'(by omega)) (L2[y]'(by omega))) (i := a) (by omega) rfl rfl ⟨by omega, by omega⟩ rfl fun h8 H => ?_
      simp -implicitDefEqProofs (disch := first | omega | (simp only [LnZ]; omega)) [wrap64]
      refine hJ _ _ hjl ⟨rfl, s2.lower a (s2.low y), ⟨N2, L2.set a (min (L2[a]'(by omega)) (L2[y]'(by omega))), Q2, vs2, ⟨hl.hN, by simpa using hLl2, hl.hQ, hl.num, ?_, hl.part, hl.cnt⟩, H.sw1⟩, (hT.visit hxy hE ha0 hI hy0' hV).mono hsc⟩
      rw [gd_set (by omega), ← hl.low, hLa, hLy]
      rfl
    · have hy0' : s1.num y ≠ 0 := by rw [hNy]; exact hy0
      by_cases hp : Q[y]'(by omega) < 0
      · have hl2 : (L[a]'(by omega)) = s1.low a := hLa.symm
        have H1 := H.sw1
        have hla := H1.rep.okI (i := a) (by omega)
        have hny := H.rep.okI (i := y) (by omega)
        simp -implicitDefEqProofs (disch := first | omega | (simp only [LnZ]; omega)) [wrap64, (Ru.on H).I, hy, F.on H, H.rep.I, hy0, H.sw2.rep.I, hp, H.sw1.rep.I, ite_min]
        refine H1.storeF (min (L[a]'(by omega)) (N[y]'(by omega))) (i := a) (by omega) rfl rfl ⟨by omega, by omega⟩ rfl fun h8 H => ?_
        simp -implicitDefEqProofs (disch := first | omega | (simp only [LnZ]; omega)) [wrap64]
        refine hJ _ _ hjl ⟨rfl, s1.lower a (s1.num y), ⟨N, L.set a (min (L[a]'(by omega)) (N[y]'(by omega))), Q, vs, ⟨hl.hN, by simpa using hLl, hl.hQ, hl.num, ?_, hl.part, hl.cnt⟩, H.sw1⟩, (hT.seen hxy hE ha0 hI hy0' (by rw [hQy]; exact hp)).mono hsc⟩
        rw [gd_set (by omega), ← hl.low, hl2, ← hNy]
        rfl
      · simp -implicitDefEqProofs (disch := first | omega | (simp only [LnZ]; omega)) [wrap64, (Ru.on H).I, hy, F.on H, H.rep.I, hy0, H.sw2.rep.I, hp]
        exact hJ _ _ hjl ⟨rfl, s1, ⟨N, L, Q, vs, hl, H⟩, (hT.skip hI hyn hy0' (by rw [hQy]; omega)).mono hsc⟩
  have hall : ∀ y, E a y → ∃ (j' : Nat) (hj' : j' < G[a].length), j' < j ∧ G[a][j'] = y := by
    intro y hxy
    obtain ⟨_, j', hj', h1⟩ := hG.of hxy
    exact ⟨j', hj', by omega, h1⟩
  have hLa : s1.low a = L[a]'(by omega) := by rw [hl.low, gd_get]
  have hNa : s1.num a = N[a]'(by omega) := by rw [hl.num, gd_get]
  have hc1 := hT.inv.cnt
  by_cases he : L[a]'(by omega) = N[a]'(by omega)
  case neg =>
    simp -implicitDefEqProofs (disch := first | omega | (simp only [LnZ]; omega)) [wrap64, F.on H, H.rep.I, H.sw1.rep.I, he]
    exact RetK.keep (hk _ _ ⟨s1, ⟨N, L, Q, vs, hl, H⟩, hT.end1 hall han ha0 hI (by rw [hLa, hNa]; exact he)⟩)
  obtain ⟨wl, hw, hw2⟩ := hT.stk
  have hlen : s1.stk.length = s.stk.length + (a :: wl).length := by rw [hw]; simp
  have hcl : s1.cnt ≤ n := by have := hl.cnt; omega
  have hpr : ∀ x ∈ a :: wl, x < n := fun x hx => hT.inv.stk_lt (by rw [hw]; exact List.mem_append_right _ hx)
  simp -implicitDefEqProofs (disch := first | omega | (simp only [LnZ]; omega)) [wrap64, F.on H, H.rep.I, H.sw1.rep.I, he]
  refine wp_while (σ := Nat) (fun m e h' => m ≤ (a :: wl).length ∧ e = [some (.int .i64 a), none, none, none, some (.pointer (some ⟨bS, 0, none⟩)), none, none, some (.pointer (some ⟨bQ, 0, none⟩)), some (.pointer (some ⟨bP, 0, none⟩)), none, some (.int .i64 (topv (a :: wl) m)), none, none, none] ∧
      ∃ Q' vs', Q'.length = n ∧ gd Q' = (fun x => if x ∈ (a :: wl).drop m then s1.prt else s1.part x) ∧ HS g [ow vn N, ow vl L, ow vq Q', ow vs' ((s.stk ++ (a :: wl).take m).map Int.ofNat), bx bS [vs'], bx bC [.int .i64 s1.cnt], bx bP [.int .i64 s1.prt]] h')
    (fun m => m) (a :: wl).length ⟨Nat.le_refl _, by simp [topv], Q, vs, hQl, by rw [List.drop_length]; simp [hl.part], by rw [List.take_length, ← hw]; exact H⟩ ?_
  rintro J2 m _ h7 hJ2 ⟨hml, rfl, Q', vs', hQl', hQ', H⟩
  cases m with
  | zero =>
    have ht : topv (a :: wl) 0 = a := by simp [topv]
    simp -implicitDefEqProofs (disch := first | omega | (simp only [LnZ]; omega)) [wrap64, ht, H.sw6.bxld0]
    refine H.sw6.bxst (u := .int .i64 (s1.prt + 1)) rfl rfl rfl rfl (by simp) fun h8 H => ?_
    have H : HS g (bx bP [.int .i64 (s1.prt + 1)] :: ow vn N :: ow vl L :: ow vq Q' :: ow vs' (s.stk.map Int.ofNat) :: bx bS [vs'] :: [bx bC [.int .i64 s1.cnt]]) h8 := by
      simpa [setC] using H
    have H := H.bk6
    simp -implicitDefEqProofs (disch := first | omega | (simp only [LnZ]; omega)) [wrap64]
    exact RetK.keep (hk _ _ ⟨s1.pop s.stk (a :: wl), ⟨N, L, Q', vs', ⟨hl.hN, hl.hL, hQl', hl.num, hl.low, by rw [hQ']; rfl, hl.cnt⟩, H⟩, hT.end2 hE hall han ha0 hI hg2 (by rw [hLa, hNa]; exact he) hw⟩)
  | succ m =>
    have hmC : m < (a :: wl).length := by omega
    obtain ⟨c, hc'⟩ : ∃ c, (a :: wl)[m] = c := ⟨_, rfl⟩
    have hcn : c < n := hpr c (hc' ▸ List.getElem_mem hmC)
    have ht : ¬ (topv (a :: wl) (m + 1) = a) := by
      unfold topv
      split
      · rename_i hlt2
        simp only [List.getElem_cons_succ]
        have hm2 : m < wl.length := by simpa using hlt2
        have := (hw2 _ (List.getElem_mem hm2)).2
        omega
      · omega
    have htm : topv (a :: wl) m = c := by simp only [topv, hmC, dif_pos, hc']
    obtain ⟨W, hW⟩ : ∃ W, W = (s.stk ++ (a :: wl).take m).map Int.ofNat := ⟨_, rfl⟩
    have hst : (s.stk ++ (a :: wl).take (m + 1)).map Int.ofNat = W ++ [(c : Int)] := by
      rw [hW, List.take_add_one, List.getElem?_eq_getElem hmC, hc']
      simp
    have hWl : W.length = s.stk.length + m := by
      rw [hW]
      simp at hml ⊢
      omega
    rw [hst] at H
    obtain ⟨v', hv', H'⟩ := H.sw3.cut (n := W.length) (esz := 1) (k := .i64) (by simp)
    rw [List.take_left' rfl] at H'
    have hlen1 : (W ++ [(c : Int)]).length = W.length + 1 := by simp
    have hi1 : IntKind.i64.wrap ((W.length : Int) + 1 - 1) = W.length := by rw [wrap64 (by omega) (by omega)]; omega
    have H' := H'.bk3
    simp -implicitDefEqProofs (disch := first | omega | (simp only [LnZ]; omega)) [wrap64, ht, H.sw4.bxld0, H.sw3.rep.I, hlen1, hi1, hv']
    refine H'.sw4.bxst (u := v') rfl rfl (by rw [H'.sw3.rep.cells]; rfl) (by rw [H'.sw3.rep.cells]; simp [H'.sw3.rep.one]) (by simp [H'.sw3.rep.cells]) fun h8 H => ?_
    have H : HS g [ow vn N, ow vl L, ow vq Q', ow v' W, bx bS [v'], bx bC [.int .i64 s1.cnt], bx bP [.int .i64 s1.prt]] h8 := by
      simpa [setC, H'.sw3.rep.cells] using H.bk4
    have hQb := hT.inv.bnd a han
    simp -implicitDefEqProofs (disch := first | omega | (simp only [LnZ]; omega)) [wrap64, F.on H, H.sw6.bxld0, H.sw2.rep.I]
    refine H.sw2.storeF s1.prt (i := c) (by omega) rfl rfl ⟨by omega, by omega⟩ rfl fun h9 H => ?_
    have H := H.bk2
    simp -implicitDefEqProofs (disch := first | omega | (simp only [LnZ]; omega)) [wrap64]
    refine hJ2 m _ _ (by omega) ⟨by omega, by rw [htm], Q'.set c s1.prt, v', by simpa using hQl', ?_, by rw [← hW]; exact H⟩
    rw [gd_set (by omega), hQ']
    funext x
    rw [List.drop_eq_getElem_cons hmC, hc']
    by_cases e : x = c
    · subst e; simp
    · simp only [fput_ne e, List.mem_cons, e, false_or]
end Go.Proofs.Ytglnelcmcimljaa

/-
  The program's components, which nodes lie on a cycle, and the states from which a word is accepted.
-/
namespace Go.Proofs.Ytglnelcmcimljaa
open Go
set_option linter.all false
set_option linter.unusedVariables false
set_option linter.unusedSimpArgs false
set_option linter.defProp false
set_option maxRecDepth 1000000

/-- one piece is kept -/
theorem HS.only {g h : Heap} {Γ : List HP} {p : HP} (H : HS g (p :: Γ) h) : HS g [p] h := by
  obtain ⟨g', r, e, d, hp, H⟩ := H
  exact ⟨g', r, e, d, hp, H.base⟩

/-- the names of parts, when so many nodes have been named -/
structure NmI (n : Nat) (f : Nat → Int) (i : Nat) (l : List (Int × Int)) (Q : List Int) : Prop where
  len : Q.length = n
  le : l.length ≤ i
  done : ∀ x, x < i → mlk l (f x) = some (gd Q x)
  rest : ∀ x, i ≤ x → x < n → gd Q x = f x
  bnd : ∀ a y, mlk l a = some y → 0 ≤ y ∧ y < l.length
  inj : ∀ a b y, mlk l a = some y → mlk l b = some y → a = b
theorem NmI.old {n : Nat} {f : Nat → Int} {i : Nat} {l : List (Int × Int)} {Q : List Int} {y : Int} (h : NmI n f i l Q) (hi : i < n) (hy : mlk l (f i) = some y) : NmI n f (i + 1) l (Q.set i y) := by
  have hl := h.len
  refine ⟨by simpa using hl, by have := h.le; omega, ?_, ?_, h.bnd, h.inj⟩
  · intro x hx
    rw [gd_set (by omega)]
    by_cases e : x = i
    · subst e; simp [hy]
    · rw [fput_ne e]; exact h.done x (by omega)
  · intro x hx hxn
    rw [gd_set (by omega), fput_ne (by omega)]
    exact h.rest x (by omega) hxn
theorem NmI.new {n : Nat} {f : Nat → Int} {i : Nat} {l : List (Int × Int)} {Q : List Int} (h : NmI n f i l Q) (hi : i < n) (hy : mlk l (f i) = none) : NmI n f (i + 1) (l ++ [(f i, (l.length : Int))]) (Q.set i (l.length : Int)) ∧ mlk (l ++ [(f i, (l.length : Int))]) (f i) = some (l.length : Int) := by
  have hl := h.len
  have hs := fun b => mlk_snoc (y := (l.length : Int)) (b := b) hy
  refine ⟨⟨by simpa using hl, by have := h.le; simp; omega, ?_, ?_, ?_, ?_⟩, by rw [hs, if_pos rfl]⟩
  · intro x hx
    rw [gd_set (by omega), hs]
    by_cases e : x = i
    · subst e; simp
    · rw [fput_ne e]
      have h1 := h.done x (by omega)
      rw [if_neg]
      · exact h1
      · intro e2; rw [← e2, hy] at h1; simp at h1
  · intro x hx hxn
    rw [gd_set (by omega), fput_ne (by omega)]
    exact h.rest x (by omega) hxn
  · intro a y ha
    rw [hs] at ha
    split at ha
    · simp at ha; subst ha; simp; omega
    · have := h.bnd a y ha; simp; omega
  · intro a b y ha hb
    rw [hs] at ha hb
    split at ha
    · simp at ha
      split at hb
      · rename_i e1 e2; rw [← e1, ← e2]
      · have := h.bnd b y hb; omega
    · split at hb
      · simp at hb
        have := h.bnd a y ha; omega
      · exact h.inj a b y ha hb
theorem NmI.result {n : Nat} {f : Nat → Int} {l : List (Int × Int)} {Q : List Int} (h : NmI n f n l Q) : (∀ x, x < n → 0 ≤ gd Q x ∧ gd Q x < n) ∧ ∀ x y, x < n → y < n → (gd Q x = gd Q y ↔ f x = f y) := by
  refine ⟨fun x hx => ?_, fun x y hx hy => ⟨fun e => ?_, fun e => ?_⟩⟩
  · have := h.bnd _ _ (h.done x hx)
    have := h.le
    omega
  · have h1 := h.done x hx
    have h2 := h.done y hy
    rw [e] at h1
    exact h.inj _ _ _ h1 h2
  · have h1 := h.done x hx
    have h2 := h.done y hy
    rw [e, h2] at h1
    simpa using h1.symm

set_option maxHeartbeats 4000000 in
theorem c_components {h : Heap} {w : Value} {G : List (List Int)} {E : Nat → Nat → Prop} (Rw : Rep h w G) (hG : Adj E G) (hnl : G.length ≤ 1048576) :
    CallE Try.prog fn_impl_components [w] h (fun u h' => ∃ Q : List Int, HS h [ow u Q] h' ∧ Q.length = G.length ∧ (∀ x, x < G.length → 0 ≤ gd Q x ∧ gd Q x < G.length) ∧ ∀ x y, x < G.length → y < G.length → (gd Q x = gd Q y ↔ Scc E x y)) := by
  refine CallE.gen fun k hk => EN_impl_components rfl ?_
  simp -implicitDefEqProofs (disch := first | omega | (simp only [LnZ]; omega)) [wrap64]
  refine HS.init.alloc rfl fun bG h1 H => ?_
  have H : HS h [bx bG [w]] h1 := by simpa [Rw.cells] using H
  simp -implicitDefEqProofs (disch := first | omega | (simp only [LnZ]; omega)) [wrap64, H.bxld0, Rw.len]
  refine H.mks (α := Int) (z := 0) rfl rfl (own_zero (by decide) (by decide)) (Nat.le_refl _) (by omega) (by omega) fun vn h2 H => ?_
  simp -implicitDefEqProofs (disch := first | omega | (simp only [LnZ]; omega)) [wrap64]
  refine H.mks (α := Int) (z := 0) rfl rfl (own_zero (by decide) (by decide)) (Nat.le_refl _) (by omega) (by omega) fun vl h3 H => ?_
  simp -implicitDefEqProofs (disch := first | omega | (simp only [LnZ]; omega)) [wrap64]
  refine H.mks (α := Int) (z := 0) rfl rfl (own_zero (by decide) (by decide)) (Nat.le_refl _) (by omega) (by omega) fun vq h4 H => ?_
  simp -implicitDefEqProofs (disch := first | omega | (simp only [LnZ]; omega)) [wrap64]
  refine H.alloc rfl fun bN h5 H => ?_
  simp -implicitDefEqProofs (disch := first | omega | (simp only [LnZ]; omega)) [wrap64]
  refine H.alloc rfl fun bL h6 H => ?_
  simp -implicitDefEqProofs (disch := first | omega | (simp only [LnZ]; omega)) [wrap64]
  refine H.alloc rfl fun bQ h7 H => ?_
  simp -implicitDefEqProofs (disch := first | omega | (simp only [LnZ]; omega)) [wrap64]
  have R0 := H.sw3.rep
  have R1 := H.sw4.rep
  have R2 := H.sw5.rep
  refine H.sw2.bxst (u := vn) rfl rfl (by rw [R2.cells]; rfl) (by rw [R2.cells]; simp [R2.one]) (by simp [R2.cells]) fun h8 H => ?_
  simp -implicitDefEqProofs (disch := first | omega | (simp only [LnZ]; omega)) [wrap64]
  refine H.sw2.bxst (u := vl) rfl rfl (by rw [R1.cells]; rfl) (by rw [R1.cells]; simp [R1.one]) (by simp [R1.cells]) fun h9 H => ?_
  simp -implicitDefEqProofs (disch := first | omega | (simp only [LnZ]; omega)) [wrap64]
  refine H.sw2.bxst (u := vq) rfl rfl (by rw [R0.cells]; rfl) (by rw [R0.cells]; simp [R0.one]) (by simp [R0.cells]) fun h10 H => ?_
  have H : HS h [bx bQ [vq], bx bL [vl], bx bN [vn], ow vq (List.replicate G.length (0 : Int)), ow vl (List.replicate G.length (0 : Int)), ow vn (List.replicate G.length (0 : Int)), bx bG [w]] h10 := by
    simpa [setC, R0.cells, R1.cells, R2.cells] using H
  have H := H.sw3
  simp -implicitDefEqProofs (disch := first | omega | (simp only [LnZ]; omega)) [wrap64, H.sw1.bxld0, H.rep.len]
  refine wp_count G.length (fun i e h' => e = [none, some (.pointer (some ⟨bG, 0, none⟩)), none, some (.int .i64 G.length), some (.pointer (some ⟨bN, 0, none⟩)), some (.pointer (some ⟨bL, 0, none⟩)), some (.pointer (some ⟨bQ, 0, none⟩)), none, none, none, none, none, none, none, none, none, none, some (.int .i64 G.length), some (.int .i64 i), none, none, none, none, none] ∧
    ∃ Q : List Int, HS h [ow vq Q, bx bQ [vq], bx bL [vl], bx bN [vn], ow vl (List.replicate G.length (0 : Int)), ow vn (List.replicate G.length (0 : Int)), bx bG [w]] h' ∧ Q.length = G.length ∧ ∀ x, x < i → gd Q x = -1) ⟨by simp, _, H, by simp, fun x hx => absurd hx (Nat.not_lt_zero x)⟩ ?_
  clear H
  rintro J i _ h11 hJ hi ⟨rfl, Q, H, hQl, hQ⟩
  simp -implicitDefEqProofs (disch := first | omega | (simp only [LnZ]; omega)) [wrap64]
  refine IteW.mk (fun hlt => ?_) (fun hge => ?_)
  · have hin : i < G.length := by omega
    simp -implicitDefEqProofs (disch := first | omega | (simp only [LnZ]; omega)) [wrap64, H.sw1.bxld0, H.rep.I]
    refine H.storeF (-1) (i := i) (by omega) rfl rfl ⟨by decide, by decide⟩ rfl fun h12 H => ?_
    simp -implicitDefEqProofs (disch := first | omega | (simp only [LnZ]; omega)) [wrap64]
    refine hJ _ _ hin ⟨rfl, _, H, by simpa using hQl, fun x hx => ?_⟩
    rw [gd_set (by omega)]
    by_cases e : x = i
    · subst e; simp
    · rw [fput_ne e]; exact hQ x (by omega)
  have hin : i = G.length := by omega
  subst hin
  simp -implicitDefEqProofs (disch := first | omega | (simp only [LnZ]; omega)) [wrap64]
  refine H.alloc rfl fun bS h12 H => ?_
  simp -implicitDefEqProofs (disch := first | omega | (simp only [LnZ]; omega)) [wrap64]
  refine H.alloc rfl fun bC h13 H => ?_
  simp -implicitDefEqProofs (disch := first | omega | (simp only [LnZ]; omega)) [wrap64]
  refine H.alloc rfl fun bP h14 H => ?_
  simp -implicitDefEqProofs (disch := first | omega | (simp only [LnZ]; omega)) [wrap64]
  refine H.sw1.bxst (u := .int .i64 0) rfl rfl rfl rfl (by simp) fun h15 H => ?_
  simp -implicitDefEqProofs (disch := first | omega | (simp only [LnZ]; omega)) [wrap64]
  refine H.sw1.bxst (u := .int .i64 0) rfl rfl rfl rfl (by simp) fun h16 H => ?_
  simp -implicitDefEqProofs (disch := first | omega | (simp only [LnZ]; omega)) [wrap64]
  refine H.alloc rfl fun bV h17 H => ?_
  simp -implicitDefEqProofs (disch := first | omega | (simp only [LnZ]; omega)) [wrap64]
  obtain ⟨fv, hfv⟩ : ∃ fv, fv = Value.func (.func fn_impl_components_1) #[] #[.pointer (some ⟨bC, 0, none⟩), .pointer (some ⟨bN, 0, none⟩), .pointer (some ⟨bL, 0, none⟩), .pointer (some ⟨bS, 0, none⟩), .pointer (some ⟨bG, 0, none⟩), .pointer (some ⟨bV, 0, none⟩), .pointer (some ⟨bQ, 0, none⟩), .pointer (some ⟨bP, 0, none⟩)] := ⟨_, rfl⟩
  have hfn : fnOf fv = some (fn_impl_components_1, [], [.pointer (some ⟨bC, 0, none⟩), .pointer (some ⟨bN, 0, none⟩), .pointer (some ⟨bL, 0, none⟩), .pointer (some ⟨bS, 0, none⟩), .pointer (some ⟨bG, 0, none⟩), .pointer (some ⟨bV, 0, none⟩), .pointer (some ⟨bQ, 0, none⟩), .pointer (some ⟨bP, 0, none⟩)]) := by subst hfv; rfl
  have hfc : fv.cells = #[fv] := by subst hfv; rfl
  have hf1 : fv.oneCell' = true := by subst hfv; rfl
  rw [← hfv]
  refine H.bxst (u := fv) rfl rfl (by rw [hfc]; rfl) (by rw [hfc]; simp [hf1]) (by simp) fun h18 H => ?_
  have H : HS h [bx bV [fv], bx bP [.int .i64 0], bx bC [.int .i64 0], bx bS [.slice none 0 0], ow vq Q, bx bQ [vq], bx bL [vl], bx bN [vn], ow vl (List.replicate G.length (0 : Int)), ow vn (List.replicate G.length (0 : Int)), bx bG [w]] h18 := by
    simpa [setC, hfc] using H
  have H := H.nil_ow (α := Int)
  have H := H.sw1.sw11.sw7.sw8.sw9.sw6.sw7.sw8.sw8.sw9.sw10.sw11
  obtain ⟨g1, H0, H⟩ := HS.rebase (Δ := [ow vn (List.replicate G.length (0 : Int)), ow vl (List.replicate G.length (0 : Int)), ow vq Q, ow (.slice none 0 0) ([] : List Int), bx bS [.slice none 0 0], bx bC [.int .i64 0], bx bP [.int .i64 0]]) (Γ := [bx bN [vn], bx bL [vl], bx bQ [vq], bx bG [w], bx bV [fv]]) H
  have F : FB bN bL bQ bG bV vn vl vq w fv g1 := ⟨H0.bxld0, H0.sw1.bxld0, H0.sw2.bxld0, H0.sw3.bxld0, H0.sw4.bxld0⟩
  have Rw1 := Rw.on H0
  have hg0 : ∀ x, gd (List.replicate G.length (0 : Int)) x = 0 := by
    intro x
    simp only [gd, List.getD_eq_getElem?_getD, List.getElem?_replicate]
    split <;> rfl
  have hE := hG.lt
  have hC0 : ∃ s, CH g1 vn vl vq bS bC bP G.length s h18 ∧ TI G.length E (fun _ => False) s ∧ ∀ x, x < 0 → s.num x ≠ 0 := by
    refine ⟨⟨gd (List.replicate G.length (0 : Int)), gd (List.replicate G.length (0 : Int)), gd Q, [], 0, 0⟩, ⟨_, _, Q, .slice none 0 0, ⟨by simp, by simp, hQl, rfl, rfl, rfl, ?_⟩, H⟩, TI.start (fun x _ => hg0 x) (fun x hx => hQ x hx) rfl rfl rfl, fun x hx => absurd hx (Nat.not_lt_zero x)⟩
    have := List.length_filter_le (fun x => decide (x < G.length ∧ gd (List.replicate G.length (0 : Int)) x = 0)) (List.range G.length)
    simp only [List.length_range] at this
    show (0 : Int) + ((unv G.length (gd (List.replicate G.length (0 : Int))) : Nat) : Int) ≤ _
    unfold unv
    omega
  simp -implicitDefEqProofs (disch := first | omega | (simp only [LnZ]; omega)) [wrap64]
  refine wp_count G.length (fun i e h' => e = [none, none, none, none, some (.pointer (some ⟨bN, 0, none⟩)), none, some (.pointer (some ⟨bQ, 0, none⟩)), none, none, none, none, some (.pointer (some ⟨bV, 0, none⟩)), none, none, none, none, none, none, none, some (.int .i64 G.length), some (.int .i64 i), none, none, none] ∧
    ∃ s, CH g1 vn vl vq bS bC bP G.length s h' ∧ TI G.length E (fun _ => False) s ∧ ∀ x, x < i → s.num x ≠ 0) ⟨by simp, hC0⟩ ?_
  clear H hC0 hQ hQl hJ
  rintro J2 i _ h19 hJ2 hi2 ⟨rfl, s, ⟨N, L, Q, vs, hl, H⟩, hI, hv⟩
  have hNl := hl.hN
  simp -implicitDefEqProofs (disch := first | omega | (simp only [LnZ]; omega)) [wrap64]
  refine IteW.mk (fun hlt2 => ?_) (fun hge2 => ?_)
  · have hin : i < G.length := by omega
    have hNi : s.num i = N[i]'(by omega) := by rw [hl.num, gd_get]
    by_cases h0 : N[i]'(by omega) = 0
    · simp -implicitDefEqProofs (disch := first | omega | (simp only [LnZ]; omega)) [wrap64, F.on H, H.rep.I, h0, hfn]
      refine (c_visit F Rw1 hG rfl hnl hfn _ (fun _ => False) s i _ rfl ⟨N, L, Q, vs, hl, H⟩ hI hin (by rw [hNi, h0]) (fun _ h => h.elim) (fun _ h => h.elim)).go ?_
      rintro u h20 ⟨s2, hC2, hV⟩
      simp -implicitDefEqProofs (disch := first | omega | (simp only [LnZ]; omega)) [wrap64]
      refine hJ2 _ _ hin ⟨rfl, s2, hC2, hV.inv, fun x hx => ?_⟩
      by_cases e : x = i
      · subst e; exact hV.vis
      · have h1 := hv x (by omega)
        rw [(hV.num x (by omega) h1).1]; exact h1
    · simp -implicitDefEqProofs (disch := first | omega | (simp only [LnZ]; omega)) [wrap64, F.on H, H.rep.I, h0]
      refine hJ2 _ _ hin ⟨rfl, s, ⟨N, L, Q, vs, hl, H⟩, hI, fun x hx => ?_⟩
      by_cases e : x = i
      · subst e; rw [hNi]; exact h0
      · exact hv x (by omega)
  have hin : i = G.length := by omega
  subst hin
  obtain ⟨hr1, hr2⟩ := hI.result hv
  have hQl := hl.hQ
  have H := H.sw2.only
  simp -implicitDefEqProofs (disch := first | omega | (simp only [LnZ]; omega)) [wrap64]
  refine H.mkm (fun n : Int => .int .i64 n) (fun n : Int => .int .i64 n) fun bm h20 H => ?_
  have H := H.sw1
  simp -implicitDefEqProofs (disch := first | omega | (simp only [LnZ]; omega)) [wrap64, F.on H, H.rep.len]
  refine wp_count G.length (fun i e h' => e = [none, none, none, none, none, none, some (.pointer (some ⟨bQ, 0, none⟩)), none, none, none, none, none, none, some (.map (some bm)), none, none, none, none, none, none, none, some vq, some (.int .i64 G.length), some (.int .i64 i)] ∧
    ∃ (l : List (Int × Int)) (Q : List Int), HS g1 [ow vq Q, mpo (fun n : Int => .int .i64 n) (fun n : Int => .int .i64 n) bm l] h' ∧ NmI G.length s.part i l Q) ⟨by simp [hQl], [], Q, H, hQl, by simp, fun x hx => absurd hx (Nat.not_lt_zero x), fun x _ _ => by rw [hl.part], fun a y h => by simp [mlk_nil] at h, fun a b y h => by simp [mlk_nil] at h⟩ ?_
  clear H hQl hl
  rintro J3 i _ h21 hJ3 hi3 ⟨rfl, l, Q, H, hM⟩
  have hQl := hM.len
  have hle := hM.le
  simp -implicitDefEqProofs (disch := first | omega | (simp only [LnZ]; omega)) [wrap64]
  refine IteW.mk (fun hlt3 => ?_) (fun hge3 => ?_)
  · have hin : i < G.length := by omega
    have hQi : Q[i]'(by omega) = s.part i := by rw [← gd_get, hM.rest i (Nat.le_refl _) hin]
    simp -implicitDefEqProofs (disch := first | omega | (simp only [LnZ]; omega)) [wrap64, H.rep.I, hQi]
    refine H.sw1.mget (a := s.part i) rfl rfl keyEq_int ?_
    cases hlk : mlk l (s.part i) with
    | some y =>
      have hyb := hM.bnd _ _ hlk
      simp -implicitDefEqProofs (disch := first | omega | (simp only [LnZ]; omega)) [wrap64, F.on H]
      refine H.sw1.mget (a := s.part i) rfl rfl keyEq_int ?_
      rw [hlk]
      simp -implicitDefEqProofs (disch := first | omega | (simp only [LnZ]; omega)) [wrap64, F.on H, H.rep.I]
      refine H.storeF y (i := i) (by omega) rfl rfl ⟨by omega, by omega⟩ rfl fun h22 H => ?_
      simp -implicitDefEqProofs (disch := first | omega | (simp only [LnZ]; omega)) [wrap64]
      exact hJ3 _ _ hin ⟨rfl, l, _, H, hM.old hin hlk⟩
    | none =>
      obtain ⟨hn1, hn2⟩ := hM.new hin hlk
      simp -implicitDefEqProofs (disch := first | omega | (simp only [LnZ]; omega)) [wrap64]
      refine H.sw1.mlen rfl ?_
      simp -implicitDefEqProofs (disch := first | omega | (simp only [LnZ]; omega)) [wrap64]
      refine H.sw1.mput (a := s.part i) (v := (l.length : Int)) rfl rfl rfl keyEq_int hlk fun h22 H => ?_
      simp -implicitDefEqProofs (disch := first | omega | (simp only [LnZ]; omega)) [wrap64, F.on H]
      refine H.mget (a := s.part i) rfl rfl keyEq_int ?_
      rw [hn2]
      have H := H.sw1
      simp -implicitDefEqProofs (disch := first | omega | (simp only [LnZ]; omega)) [wrap64, F.on H, H.rep.I]
      refine H.storeF (l.length : Int) (i := i) (by omega) rfl rfl ⟨by omega, by omega⟩ rfl fun h23 H => ?_
      simp -implicitDefEqProofs (disch := first | omega | (simp only [LnZ]; omega)) [wrap64]
      exact hJ3 _ _ hin ⟨rfl, _, _, H, hn1⟩
  have hin : i = G.length := by omega
  subst hin
  simp -implicitDefEqProofs (disch := first | omega | (simp only [LnZ]; omega)) [wrap64, F.on H]
  obtain ⟨hb, hc⟩ := hM.result
  have Hf := (H.app H0).only
  exact RetK.keep (hk _ _ ⟨Q, Hf, hQl, hb, fun x y hx hy => by rw [hc x y hx hy, hr2 x y hx hy]⟩)
end Go.Proofs.Ytglnelcmcimljaa

/-
  Which nodes lie on a cycle, and from which states a word is accepted, by the program.
-/
namespace Go.Proofs.Ytglnelcmcimljaa
open Go
set_option linter.all false
set_option linter.unusedVariables false
set_option linter.unusedSimpArgs false
set_option linter.defProp false
set_option maxRecDepth 1000000

def cntP (Q : List Int) (i : Nat) (p : Int) : Nat := ((List.range i).filter fun y => decide (gd Q y = p)).length
theorem cntP_succ {Q : List Int} {i : Nat} {p : Int} : cntP Q (i + 1) p = cntP Q i p + if gd Q i = p then 1 else 0 := by
  simp only [cntP, List.range_succ, List.filter_append, List.length_append, List.filter_cons, List.filter_nil]
  by_cases h : gd Q i = p <;> simp [h]
theorem cntP_le {Q : List Int} {i : Nat} {p : Int} : cntP Q i p ≤ i := by
  have := List.length_filter_le (fun y => decide (gd Q y = p)) (List.range i)
  simpa [cntP] using this

theorem c_cyclic {h : Heap} {w : Value} {G : List (List Int)} {E : Nat → Nat → Prop} (Rw : Rep h w G) (hG : Adj E G) (hnl : G.length ≤ 1048576) :
    CallE Try.prog fn_impl_cyclic [w] h (fun u h' => ∃ C : List Bool, HS h [ow u C] h' ∧ C.length = G.length ∧ ∀ x, x < G.length → (tru C x ↔ Cyc E x)) := by
  refine CallE.gen fun k hk => EN_impl_cyclic rfl ?_
  simp -implicitDefEqProofs (disch := first | omega | (simp only [LnZ]; omega)) [wrap64]
  refine (c_components Rw hG hnl).go ?_
  rintro p h1 ⟨Q, H, hQl, hQb, hQ⟩
  simp -implicitDefEqProofs (disch := first | omega | (simp only [LnZ]; omega)) [wrap64, (Rw.on H).len]
  refine H.mks (α := Int) (z := 0) rfl rfl (own_zero (by decide) (by decide)) (Nat.le_refl _) (by omega) (by omega) fun z h2 H => ?_
  simp -implicitDefEqProofs (disch := first | omega | (simp only [LnZ]; omega)) [wrap64, H.sw1.rep.len]
  refine wp_count G.length (fun i e h' => e = [some w, none, some p, some z, none, none, none, some p, some (.int .i64 G.length), some (.int .i64 i), none, none] ∧ ∃ Z : List Int, HS h [ow z Z, ow p Q] h' ∧ Z.length = G.length ∧ ∀ x, x < G.length → gd Z x = cntP Q i x) ⟨by simp [hQl], _, H, by simp, fun x hx => by rw [gd_get (by simpa using hx)]; simp [cntP]⟩ ?_
  clear H
  rintro J i _ h3 hJ hi ⟨rfl, Z, H, hZl, hZ⟩
  simp -implicitDefEqProofs (disch := first | omega | (simp only [LnZ]; omega)) [wrap64]
  refine IteW.mk (fun hlt => ?_) (fun hge => ?_)
  · have hin : i < G.length := by omega
    have hq := hQb i hin
    obtain ⟨q, hqi⟩ : ∃ q : Nat, Q[i]'(by omega) = q := ⟨(Q[i]'(by omega)).toNat, by rw [← gd_get]; omega⟩
    have hqn : q < G.length := by rw [gd_get (by omega), hqi] at hq; omega
    have hzq : Z[q]'(by omega) = cntP Q i q := by rw [← gd_get, hZ q hqn]
    have hcl := cntP_le (Q := Q) (i := i) (p := q)
    simp -implicitDefEqProofs (disch := first | omega | (simp only [LnZ]; omega)) [wrap64, H.sw1.rep.I, hqi, H.rep.I, hzq]
    refine H.storeF ((cntP Q i q : Int) + 1) (i := q) (by omega) rfl rfl ⟨by omega, by omega⟩ rfl fun h4 H => ?_
    simp -implicitDefEqProofs (disch := first | omega | (simp only [LnZ]; omega)) [wrap64]
    refine hJ _ _ hin ⟨rfl, _, H, by simpa using hZl, fun x hx => ?_⟩
    rw [gd_set (by omega), cntP_succ, gd_get (by omega), hqi]
    by_cases e : x = q
    · subst e; simp
    · rw [fput_ne e, hZ x hx, if_neg (by omega)]; simp
  have hin : i = G.length := by omega
  subst hin
  simp -implicitDefEqProofs (disch := first | omega | (simp only [LnZ]; omega)) [wrap64, (Rw.on H).len]
  refine H.mks (α := Bool) (z := false) rfl rfl own_false (Nat.le_refl _) (by omega) (by omega) fun c h4 H => ?_
  simp -implicitDefEqProofs (disch := first | omega | (simp only [LnZ]; omega)) [wrap64, (Rw.on H).len]
  refine wp_count G.length (fun i e h' => e = [some w, none, some p, some z, none, some c, none, none, none, none, some (.int .i64 G.length), some (.int .i64 i)] ∧ ∃ C : List Bool, HS h [ow c C, ow z Z, ow p Q] h' ∧ C.length = G.length ∧ ∀ x, x < i → (tru C x ↔ Cyc E x)) ⟨by simp, _, H, by simp, fun x hx => absurd hx (Nat.not_lt_zero x)⟩ ?_
  clear H hJ
  rintro J i _ h5 hJ hi ⟨rfl, C, H, hCl, hC⟩
  simp -implicitDefEqProofs (disch := first | omega | (simp only [LnZ]; omega)) [wrap64]
  refine IteW.mk (fun hlt2 => ?_) (fun hge2 => ?_)
  · have hin : i < G.length := by omega
    have hq := hQb i hin
    obtain ⟨q, hqi⟩ : ∃ q : Nat, Q[i]'(by omega) = q := ⟨(Q[i]'(by omega)).toNat, by rw [← gd_get]; omega⟩
    have hqn : q < G.length := by rw [gd_get (by omega), hqi] at hq; omega
    have hzq : Z[q]'(by omega) = cntP Q G.length q := by rw [← gd_get, hZ q hqn]
    have hpc := part_cycle hQ hG.lt hin
    have hcnt : ((List.range G.length).filter fun y => decide (gd Q y = gd Q i)).length = cntP Q G.length q := by
      rw [gd_get (by omega), hqi]; rfl
    rw [hcnt] at hpc
    have hstep : ∀ b : Bool, (b = true ↔ Cyc E i) → ∀ x, x < i + 1 → (tru (C.set i b) x ↔ Cyc E x) := by
      intro b hb x hx
      have h1 : tru (C.set i b) x ↔ if x = i then b = true else tru C x := by
        simp only [tru, List.getD_eq_getElem?_getD, List.getElem?_set]
        by_cases e : i = x
        · subst e; simp [show i < C.length by omega]
        · simp [e, Ne.symm e]
      rw [h1]
      split
      · rename_i e; subst e; exact hb
      · exact hC x (by omega)
    by_cases h1 : (1 : Int) < cntP Q G.length q
    · simp -implicitDefEqProofs (disch := first | omega | (simp only [LnZ]; omega)) [wrap64, H.sw2.rep.I, hqi, H.sw1.rep.I, hzq, h1, H.rep.B]
      refine H.storeF true (i := i) (by omega) rfl rfl trivial rfl fun h6 H => ?_
      simp -implicitDefEqProofs (disch := first | omega | (simp only [LnZ]; omega)) [wrap64]
      exact hJ _ _ hin ⟨rfl, _, H, by simpa using hCl, hstep true (by rw [hpc]; simp; omega)⟩
    · obtain ⟨u, hu0, Ru⟩ := Rw.ldL hin
      simp -implicitDefEqProofs (disch := first | omega | (simp only [LnZ]; omega)) [wrap64, H.sw2.rep.I, hqi, H.sw1.rep.I, hzq, h1, H.rep.B, (Rw.on H).X (n := 1) rfl, hload_le H.base hu0]
      refine (c_Contains_int (Ru.on H)).go ?_
      rintro _ _ ⟨rfl, rfl⟩
      simp -implicitDefEqProofs (disch := first | omega | (simp only [LnZ]; omega)) [wrap64, H.rep.B]
      refine H.storeF (decide ((i : Int) ∈ G[i])) (i := i) (by omega) rfl rfl trivial rfl fun h6 H => ?_
      simp -implicitDefEqProofs (disch := first | omega | (simp only [LnZ]; omega)) [wrap64]
      refine hJ _ _ hin ⟨rfl, _, H, by simpa using hCl, hstep _ ?_⟩
      rw [hpc, decide_eq_true_iff, hG.mem i hin]
      constructor
      · rintro ⟨y, h2, h3⟩
        obtain rfl : i = y := by omega
        exact .inr h3
      · rintro (h2 | h2)
        · omega
        · exact ⟨i, rfl, h2⟩
  have hin : i = G.length := by omega
  subst hin
  simp -implicitDefEqProofs (disch := first | omega | (simp only [LnZ]; omega)) [wrap64]
  exact RetK.keep (hk _ _ ⟨C, H.only, hCl, hC⟩)

/-- the program's live states -/
theorem c_live {h : Heap} {v : Value} {a : Aut} (Ra : Rep h v a) (ha : a.Ok) : CallE Try.prog fn_impl_Automaton_live [v] h (fun u h' => ∃ L : List Bool, HS h [ow u L] h' ∧ L.length = a.acc.length ∧ ∀ q, tru L q ↔ q < a.acc.length ∧ a.Live q) := by
  obtain ⟨v1, v2, v3, rfl, R1, R2, R3⟩ := Rep_Aut.1 Ra
  have hn := ha.n
  refine CallE.gen fun k hk => EN_impl_Automaton_live rfl ?_
  simp -implicitDefEqProofs (disch := first | omega | (simp only [LnZ]; omega)) [wrap64]
  refine (c_next Ra ha).go ?_
  rintro w h1 ⟨G, H, hG, hGl⟩
  simp -implicitDefEqProofs (disch := first | omega | (simp only [LnZ]; omega)) [wrap64]
  refine (c_cyclic H.rep hG (by omega)).go ?_
  rintro c h2 ⟨C, H2, hCl, hC⟩
  have H := H2.app H
  simp -implicitDefEqProofs (disch := first | omega | (simp only [LnZ]; omega)) [wrap64, H.sw1.rep.len]
  refine H.mks (α := Bool) (z := false) rfl rfl own_false (Nat.le_refl _) (by omega) (by omega) fun o h3 H => ?_
  simp -implicitDefEqProofs (disch := first | omega | (simp only [LnZ]; omega)) [wrap64, H.sw2.rep.len]
  refine wp_count G.length (fun i e h' => e = [none, some (.agg #[v1, v2, v3]), none, some w, some c, some o, none, none, none, some (.int .i64 G.length), some (.int .i64 i), none, none, none] ∧ ∃ L : List Bool, HS h [ow o L, ow c C, ow w G] h' ∧ L.length = G.length ∧ ∀ q, tru L q ↔ q < i ∧ a.Live q) ⟨by simp, _, H, by simp, fun q => by simp [tru_replicate]⟩ ?_
  clear H
  rintro J i _ h4 hJ hi ⟨rfl, L, H, hLl, hL⟩
  simp -implicitDefEqProofs (disch := first | omega | (simp only [LnZ]; omega)) [wrap64]
  refine IteW.mk (fun hlt => ?_) (fun hge => ?_)
  · have hin : i < G.length := by omega
    simp -implicitDefEqProofs (disch := first | omega | (simp only [LnZ]; omega)) [wrap64]
    refine H.bls (α := Int) [(i : Int)] (by rfl) rfl (ok_one (by omega)) (by decide) fun s h4 H => ?_
    simp -implicitDefEqProofs (disch := first | omega | (simp only [LnZ]; omega)) [wrap64]
    have hS1 : ∀ z ∈ [(i : Int)], 0 ≤ z ∧ z < (G.length : Int) := by
      intro z hz
      have hxi : z = i := by simpa using hz
      omega
    refine (c_reachable (S := [(i : Int)]) H.sw3.rep H.rep hG hS1 (by simp) (by omega)).go ?_
    rintro r h5 ⟨B, H5, hBl, hB⟩
    have H := H5.app H.drop
    simp -implicitDefEqProofs (disch := first | omega | (simp only [LnZ]; omega)) [wrap64, H.rep.len]
    refine wp_count G.length (fun k e h' => e = [none, some (.agg #[v1, v2, v3]), none, some w, some c, some o, some (.int .i64 i), none, none, some (.int .i64 G.length), some (.int .i64 i), some r, some (.int .i64 G.length), some (.int .i64 k)] ∧ ∃ (L' : List Bool), HS h [ow r B, ow o L', ow c C, ow w G] h' ∧ L'.length = G.length ∧ (∀ q, q ≠ i → (tru L' q ↔ q < i ∧ a.Live q)) ∧ (tru L' i ↔ ∃ t, t < k ∧ tru B t ∧ tru C t ∧ tru a.acc t)) ⟨by simp [hBl], L, H, hLl, fun q _ => hL q, by rw [hL]; simp⟩ ?_
    rintro J2 k _ h6 hJ2 hk2 ⟨rfl, L', H, hLl', hL1, hL2⟩
    simp -implicitDefEqProofs (disch := first | omega | (simp only [LnZ]; omega)) [wrap64]
    refine IteW.mk (fun hlt2 => ?_) (fun hge2 => ?_)
    · have hkn : k < G.length := by omega
      have H := H.sw1
      have hold : tru L' i ↔ L'[i]'(by omega) = true := tru_get (by omega)
      have hstep : ∀ b : Bool, (b = true ↔ tru L' i ∨ (tru B k ∧ tru C k ∧ tru a.acc k)) → (∀ q, q ≠ i → (tru (L'.set i b) q ↔ q < i ∧ a.Live q)) ∧ (tru (L'.set i b) i ↔ ∃ t, t < k + 1 ∧ tru B t ∧ tru C t ∧ tru a.acc t) := by
        intro b hb
        have h1 : ∀ x, tru (L'.set i b) x ↔ if x = i then b = true else tru L' x := by
          intro x
          simp only [tru, List.getD_eq_getElem?_getD, List.getElem?_set]
          by_cases e : i = x
          · subst e; simp [show i < L'.length by omega]
          · simp [e, Ne.symm e]
        refine ⟨fun q hq => by rw [h1, if_neg hq]; exact hL1 q hq, ?_⟩
        rw [h1, if_pos rfl, hb, hL2]
        constructor
        · rintro (⟨t, h2, h3⟩ | h3)
          · exact ⟨t, by omega, h3⟩
          · exact ⟨k, by omega, h3⟩
        · rintro ⟨t, h2, h3⟩
          by_cases e : t = k
          · subst e; exact .inr h3
          · exact .inl ⟨t, by omega, h3⟩
      have hgB := tru_get (B := B) (i := k) (by omega)
      have hgC := tru_get (B := C) (i := k) (by omega)
      have hgA := tru_get (B := a.acc) (i := k) (by omega)
      have hfin : ∀ b : Bool, (b = true ↔ tru L' i ∨ (tru B k ∧ tru C k ∧ tru a.acc k)) → ∀ h8, HS h [ow o (L'.set i b), ow r B, ow c C, ow w G] h8 → J2 [none, some (.agg #[v1, v2, v3]), none, some w, some c, some o, some (.int .i64 i), none, none, some (.int .i64 G.length), some (.int .i64 i), some r, some (.int .i64 G.length), some (.int .i64 ((k + 1 : Nat) : Int))] h8 :=
        fun b hb h8 H => hJ2 _ _ hkn ⟨rfl, _, H.sw1, by simpa using hLl', hstep b hb⟩
      by_cases e0 : L'[i]'(by omega) = true
      · simp -implicitDefEqProofs (disch := first | omega | (simp only [LnZ]; omega)) [wrap64, H.sw1.rep.B, H.rep.B, e0]
        refine H.storeF true (i := i) (by omega) rfl rfl trivial rfl fun h7 H => ?_
        simp -implicitDefEqProofs (disch := first | omega | (simp only [LnZ]; omega)) [wrap64]
        exact hfin true (by simp [hold, e0]) _ H
      by_cases e1 : B[k]'(by omega) = true
      case neg =>
        simp -implicitDefEqProofs (disch := first | omega | (simp only [LnZ]; omega)) [wrap64, H.sw1.rep.B, H.rep.B, e0, e1]
        refine H.storeF false (i := i) (by omega) rfl rfl trivial rfl fun h7 H => ?_
        simp -implicitDefEqProofs (disch := first | omega | (simp only [LnZ]; omega)) [wrap64]
        exact hfin false (by simp [hold, e0, hgB, e1]) _ H
      by_cases e2 : C[k]'(by omega) = true
      case neg =>
        simp -implicitDefEqProofs (disch := first | omega | (simp only [LnZ]; omega)) [wrap64, H.sw1.rep.B, H.sw2.rep.B, H.rep.B, e0, e1, e2]
        refine H.storeF false (i := i) (by omega) rfl rfl trivial rfl fun h7 H => ?_
        simp -implicitDefEqProofs (disch := first | omega | (simp only [LnZ]; omega)) [wrap64]
        exact hfin false (by simp [hold, e0, hgC, e2]) _ H
      by_cases e3 : a.acc[k]'(by omega) = true
      · simp -implicitDefEqProofs (disch := first | omega | (simp only [LnZ]; omega)) [wrap64, H.sw1.rep.B, H.sw2.rep.B, H.rep.B, (R2.on H).B, e0, e1, e2, e3]
        refine H.storeF true (i := i) (by omega) rfl rfl trivial rfl fun h7 H => ?_
        simp -implicitDefEqProofs (disch := first | omega | (simp only [LnZ]; omega)) [wrap64]
        exact hfin true (by simp [hgB, hgC, hgA, e1, e2, e3]) _ H
      · simp -implicitDefEqProofs (disch := first | omega | (simp only [LnZ]; omega)) [wrap64, H.sw1.rep.B, H.sw2.rep.B, H.rep.B, (R2.on H).B, e0, e1, e2, e3]
        refine H.storeF false (i := i) (by omega) rfl rfl trivial rfl fun h7 H => ?_
        simp -implicitDefEqProofs (disch := first | omega | (simp only [LnZ]; omega)) [wrap64]
        exact hfin false (by simp [hold, e0, hgA, e3]) _ H
    · simp -implicitDefEqProofs (disch := first | omega | (simp only [LnZ]; omega)) [wrap64]
      refine hJ _ _ hin ⟨rfl, L', H.drop, hLl', fun q => ?_⟩
      by_cases e : q = i
      · subst e
        rw [hL2]
        constructor
        · rintro ⟨t, h1, h2, h3, h4⟩
          obtain ⟨z, h5, h6⟩ := (hB t).1 h2
          obtain rfl : z = q := by simpa [Int.ofNat_inj] using h5
          exact ⟨by omega, t, h6, (hC t (by rw [← hBl]; exact tru_lt h2)).1 h3, h4⟩
        · rintro ⟨_, t, h1, h2, h3⟩
          have htn : t < G.length := by rw [hGl]; exact tru_lt h3
          exact ⟨t, by omega, (hB t).2 ⟨q, by simp, h1⟩, (hC t htn).2 h2, h3⟩
      · rw [hL1 q e]
        constructor
        · rintro ⟨h1, h2⟩; exact ⟨by omega, h2⟩
        · rintro ⟨h1, h2⟩; exact ⟨by omega, h2⟩
  have hin : i = G.length := by omega
  subst hin
  simp -implicitDefEqProofs (disch := first | omega | (simp only [LnZ]; omega)) [wrap64]
  exact RetK.keep (hk _ _ ⟨L, H.only, by omega, by rw [← hGl]; exact hL⟩)
end Go.Proofs.Ytglnelcmcimljaa

/-
  Bodies of functions in the small language, as a program printed them, and that each is what the translation gives.
-/
namespace Go.Proofs.Ytglnelcmcimljaa
open Go
set_option linter.all false
set_option linter.defProp false
set_option maxRecDepth 1000000

end Go.Proofs.Ytglnelcmcimljaa

/-
  Trimming, by the program.
-/
namespace Go.Proofs.Ytglnelcmcimljaa
open Go
set_option linter.all false
set_option linter.unusedVariables false
set_option linter.unusedSimpArgs false
set_option linter.defProp false
set_option maxRecDepth 1000000

theorem filter_map_take {α β : Type} {p : α → Bool} {f : α → β} {l : List α} {i : Nat} (hi : i < l.length) : ((l.take (i + 1)).filter p).map f = ((l.take i).filter p).map f ++ (if p l[i] then [f l[i]] else []) := by
  rw [List.take_add_one, List.getElem?_eq_getElem hi, List.filter_append, List.map_append]
  congr 1
  simp only [Option.toList_some, List.filter_cons, List.filter_nil]
  split <;> simp
/-- accepting marks of the states that are kept, of so many -/
def accK (a : Aut) (K : Nat → Bool) (i : Nat) : List Bool := ((List.range i).filter K).map fun q => a.acc.getD q false
theorem accK_succ {a : Aut} {K : Nat → Bool} {i : Nat} (hi : i < a.acc.length) : accK a K (i + 1) = accK a K i ++ if K i then [a.acc[i]] else [] := by
  simp only [accK, List.range_succ, List.filter_append, List.map_append, List.filter_cons, List.filter_nil]
  congr 1
  split <;> simp [hi]
theorem accK_len {a : Aut} {K : Nat → Bool} {i : Nat} : (accK a K i).length = kidx K i := by simp [accK, kidx]
theorem Aut.keep_pos {a : Aut} {K : Nat → Bool} (h : kidx K a.acc.length ≠ 0) : a.keep K = ⟨(a.init.filter fun q => K q.toNat).map (kout K), accK a K a.acc.length, (a.edges.filter fun e => K e.frm.toNat && K e.to.toNat).map (Tr.ren (kout K))⟩ := by
  unfold Aut.keep; rw [if_neg h]; rfl
theorem Aut.keep_zero {a : Aut} {K : Nat → Bool} (h : kidx K a.acc.length = 0) : a.keep K = ⟨[], [false], []⟩ := by
  unfold Aut.keep; rw [if_pos h]

/-- the new numbers: -1 for what is not kept -/
def knum (K : Nat → Bool) (q : Nat) : Int := if K q then (kidx K q : Int) else -1

set_option maxHeartbeats 4000000 in
theorem c_trim {h : Heap} {v : Value} {a : Aut} (Ra : Rep h v a) (ha : a.Ok) : CallE Try.prog fn_impl_Automaton_trim [v] h (fun u h' => HS h [ow u a.trim] h') := by
  obtain ⟨v1, v2, v3, rfl, R1, R2, R3⟩ := Rep_Aut.1 Ra
  have hn := ha.n
  have he := ha.e
  have hil := ha.il
  refine CallE.gen fun k hk => EN_impl_Automaton_trim rfl ?_
  simp -implicitDefEqProofs (disch := first | omega | (simp only [LnZ]; omega)) [wrap64]
  refine (c_next Ra ha).go ?_
  rintro w h1 ⟨G, H, hG, hGl⟩
  simp -implicitDefEqProofs (disch := first | omega | (simp only [LnZ]; omega)) [wrap64]
  have hS : ∀ z ∈ a.init, 0 ≤ z ∧ z < (G.length : Int) := by
    intro z hz
    have := incr_mem ha.i z hz
    omega
  refine (c_reachable H.rep (R1.on H) hG hS (by omega) (by omega)).go ?_
  rintro m h2 ⟨M, H2, hMl, hM⟩
  have H := (H2.app H).only
  simp -implicitDefEqProofs (disch := first | omega | (simp only [LnZ]; omega)) [wrap64]
  refine (c_live (Ra.on H) ha).go ?_
  rintro l h3 ⟨L, H3, hLl, hL⟩
  have H := H3.app H
  obtain ⟨K, hK⟩ : ∃ K : Nat → Bool, K = fun q => M.getD q false && L.getD q false := ⟨_, rfl⟩
  have hKq : ∀ q (hq : q < a.acc.length), K q = (M[q]'(by omega) && L[q]'(by omega)) := by
    intro q hq
    rw [hK]
    simp [show q < M.length by omega, show q < L.length by omega]
  have hKt : a.keep K = a.trim := by
    refine Aut.trim_eq ha fun q hq => ?_
    rw [hK]
    simp only [Bool.and_eq_true]
    have h1 := hM q
    have h2 := hL q
    simp only [tru] at h1 h2
    rw [h1, h2]
    simp [Aut.Reach, hq]
  simp -implicitDefEqProofs (disch := first | omega | (simp only [LnZ]; omega)) [wrap64, H.sw1.rep.len]
  refine H.mks (α := Int) (z := 0) rfl rfl (own_zero (by decide) (by decide)) (Nat.le_refl _) (by omega) (by omega) fun z h4 H => ?_
  have H := H.nil_ow (α := Bool)
  simp -implicitDefEqProofs (disch := first | omega | (simp only [LnZ]; omega)) [wrap64, H.sw3.rep.len]
  refine wp_count a.acc.length (fun i e h' => ∃ o2, e = [none, some (.agg #[v1, v2, v3]), some (.agg #[.slice none 0 0, .slice none 0 0, .slice none 0 0]), some m, some l, some z, some (.agg #[.slice none 0 0, o2, .slice none 0 0]), none, none, none, some (.int .i64 a.acc.length), some (.int .i64 i), none, none, none, none, none, none] ∧
    ∃ Z : List Int, HS h [ow o2 (accK a K i), ow z Z, ow l L, ow m M] h' ∧ Z.length = a.acc.length ∧ ∀ q, q < i → gd Z q = knum K q) ⟨_, by simp [hMl, hGl], _, H, by simp [hMl, hGl], fun q hq => absurd hq (Nat.not_lt_zero q)⟩ ?_
  clear H
  rintro J i _ h5 hJ hi ⟨o2, rfl, Z, H, hZl, hZ⟩
  simp -implicitDefEqProofs (disch := first | omega | (simp only [LnZ]; omega)) [wrap64]
  refine IteW.mk (fun hlt => ?_) (fun hge => ?_)
  · have hin : i < a.acc.length := by omega
    have hkl := kidx_le (K := K) (q := i)
    have hal := accK_len (a := a) (K := K) (i := i)
    have hks := hKq i hin
    have H := H.sw1
    simp -implicitDefEqProofs (disch := first | omega | (simp only [LnZ]; omega)) [wrap64, H.rep.I]
    refine H.storeF (-1) (i := i) (by omega) rfl rfl ⟨by decide, by decide⟩ rfl fun h6 H => ?_
    have hZ1 : ∀ x, x < i → gd (Z.set i (-1)) x = knum K x := fun x hx => by rw [gd_set (by omega), fput_ne (by omega)]; exact hZ x hx
    cases hkb : K i with
    | false =>
      have hfin : ∀ h7, HS h [ow z (Z.set i (-1)), ow o2 (accK a K i), ow l L, ow m M] h7 → J [none, some (.agg #[v1, v2, v3]), some (.agg #[.slice none 0 0, .slice none 0 0, .slice none 0 0]), some m, some l, some z, some (.agg #[.slice none 0 0, o2, .slice none 0 0]), none, none, none, some (.int .i64 a.acc.length), some (.int .i64 ((i + 1 : Nat) : Int)), none, none, none, none, none, none] h7 := by
        intro h7 H
        refine hJ _ _ hin ⟨o2, by simp, _, by rw [accK_succ hin, hkb]; simpa using H.sw1, by simpa using hZl, fun x hx => ?_⟩
        by_cases e : x = i
        · subst e; rw [gd_set (by omega), fput_self]; simp [knum, hkb]
        · exact hZ1 x (by omega)
      rw [hkb] at hks
      cases hm1 : (M[i]'(by omega)) with
      | false =>
        simp -implicitDefEqProofs (disch := first | omega | (simp only [LnZ]; omega)) [wrap64, H.sw3.rep.B, hm1]
        exact hfin _ H
      | true =>
        have hl1 : (L[i]'(by omega)) = false := by rw [hm1] at hks; simpa using hks.symm
        simp -implicitDefEqProofs (disch := first | omega | (simp only [LnZ]; omega)) [wrap64, H.sw3.rep.B, hm1, H.sw2.rep.B, hl1]
        exact hfin _ H
    | true =>
      rw [hkb] at hks
      have hml : (M[i]'(by omega)) = true ∧ (L[i]'(by omega)) = true := by simpa using hks.symm
      simp -implicitDefEqProofs (disch := first | omega | (simp only [LnZ]; omega)) [wrap64, H.sw3.rep.B, hml.1, H.sw2.rep.B, hml.2, H.rep.I, H.sw1.rep.len]
      refine H.storeF (kidx K i : Int) (i := i) (by simpa using (by omega : i < Z.length)) rfl (by simp [hal, O.get, valC, Flat.enc]) ⟨by omega, by omega⟩ rfl fun h7 H => ?_
      have H := H.sw1
      simp -implicitDefEqProofs (disch := first | omega | (simp only [LnZ]; omega)) [wrap64, (R2.on H).B]
      refine H.app1 a.acc[i] rfl rfl rfl trivial rfl rfl (by omega) (by omega) fun o3 h8 H => ?_
      simp -implicitDefEqProofs (disch := first | omega | (simp only [LnZ]; omega)) [wrap64, H.rep.cells, H.rep.one, setC]
      refine hJ _ _ hin ⟨o3, rfl, _, by rw [accK_succ hin, hkb]; exact H, by simpa using hZl, fun x hx => ?_⟩
      by_cases e : x = i
      · subst e; rw [gd_set (by simp; omega), fput_self]; simp [knum, hkb]
      · rw [gd_set (by simp; omega), fput_ne e]; exact hZ1 x (by omega)
  have hin : i = a.acc.length := by omega
  subst hin
  have hal := accK_len (a := a) (K := K) (i := a.acc.length)
  have hkl := kidx_le (K := K) (q := a.acc.length)
  by_cases h0 : kidx K a.acc.length = 0
  · simp -implicitDefEqProofs (disch := first | omega | (simp only [LnZ]; omega)) [wrap64, H.rep.len, hal, h0]
    refine H.mks (α := Bool) (z := false) rfl rfl own_false (Nat.le_refl _) (by decide) (by decide) fun r h6 H => ?_
    have H : HS h [ow r [false]] h6 := H.only
    simp -implicitDefEqProofs (disch := first | omega | (simp only [LnZ]; omega)) [wrap64, H.rep.cells, H.rep.one, setC]
    have H := HS.mkAut (a := ⟨[], [false], []⟩) ((H.nil_ow (α := Tr)).sw1.nil_ow (α := Int))
    rw [← hKt, Aut.keep_zero h0] at hk
    exact RetK.keep (hk _ _ H)
  have h0' : ¬ ((accK a K a.acc.length).length = 0) := by omega
  have hZr : ∀ q (hq : q < a.acc.length), Z[q]'(by omega) = knum K q := fun q hq => by rw [← gd_get]; exact hZ q hq
  simp -implicitDefEqProofs (disch := first | omega | (simp only [LnZ]; omega)) [wrap64, H.rep.len, hal, h0, R1.len]
  have H := H.sw2.drop.sw2.drop
  have H := H.nil_ow (α := Int)
  refine wp_count a.init.length (fun i e h' => ∃ o1, e = [none, some (.agg #[v1, v2, v3]), some (.agg #[.slice none 0 0, .slice none 0 0, .slice none 0 0]), none, none, some z, some (.agg #[o1, o2, .slice none 0 0]), none, none, none, none, none, some v1, some (.int .i64 a.init.length), some (.int .i64 i), none, none, none] ∧
    HS h [ow o1 (((a.init.take i).filter fun q => K q.toNat).map (kout K)), ow o2 (accK a K a.acc.length), ow z Z] h') ⟨.slice none 0 0, by simp, by simpa using H⟩ ?_
  clear H hJ
  rintro J i _ h6 hJ hi ⟨o1, rfl, H⟩
  have hl1 := List.length_filter_le (fun q : Int => K q.toNat) (a.init.take i)
  simp only [List.length_take] at hl1
  simp -implicitDefEqProofs (disch := first | omega | (simp only [LnZ]; omega)) [wrap64]
  refine IteW.mk (fun hlt2 => ?_) (fun hge2 => ?_)
  · have hix : i < a.init.length := by omega
    have hx := ha.im hix
    obtain ⟨q, hq⟩ : ∃ q : Nat, a.init[i] = q := ⟨a.init[i].toNat, by omega⟩
    have hqn : q < a.acc.length := by omega
    have hzq := hZr q hqn
    have hfm := filter_map_take (p := fun q : Int => K q.toNat) (f := kout K) hix
    have hkq := kidx_le (K := K) (q := q)
    cases hkb : K q with
    | true =>
      have hzq2 : Z[q]'(by omega) = (kidx K q : Int) := by rw [hzq]; simp [knum, hkb]
      simp -implicitDefEqProofs (disch := first | omega | (simp only [LnZ]; omega)) [wrap64, (R1.on H).I, hq, H.sw2.rep.I, hzq2]
      refine H.app1 (kidx K q : Int) rfl rfl rfl ⟨by omega, by omega⟩ rfl rfl (by simp; omega) (by simp; omega) fun o1' h7 H => ?_
      simp -implicitDefEqProofs (disch := first | omega | (simp only [LnZ]; omega)) [wrap64, H.rep.cells, H.rep.one, setC]
      refine hJ _ _ hix ⟨o1', rfl, ?_⟩
      rw [hfm, hq]
      simpa [hkb, kout] using H
    | false =>
      have hzq2 : Z[q]'(by omega) = -1 := by rw [hzq]; simp [knum, hkb]
      simp -implicitDefEqProofs (disch := first | omega | (simp only [LnZ]; omega)) [wrap64, (R1.on H).I, hq, H.sw2.rep.I, hzq2]
      refine hJ _ _ hix ⟨o1, rfl, ?_⟩
      rw [hfm, hq]
      simpa [hkb] using H
  have hii : i = a.init.length := by omega
  subst hii
  rw [List.take_length] at H
  have H := H.nil_ow (α := Tr)
  simp -implicitDefEqProofs (disch := first | omega | (simp only [LnZ]; omega)) [wrap64, (R3.on H).len]
  refine wp_count a.edges.length (fun i e h' => ∃ o3, e = [none, none, some (.agg #[.slice none 0 0, .slice none 0 0, .slice none 0 0]), none, none, some z, some (.agg #[o1, o2, o3]), none, none, none, none, none, none, none, none, some v3, some (.int .i64 a.edges.length), some (.int .i64 i)] ∧
    HS h [ow o3 (((a.edges.take i).filter fun e => K e.frm.toNat && K e.to.toNat).map (Tr.ren (kout K))), ow o1 ((a.init.filter fun q => K q.toNat).map (kout K)), ow o2 (accK a K a.acc.length), ow z Z] h') ⟨.slice none 0 0, by simp, by simpa using H⟩ ?_
  clear H hJ
  rintro J i _ h7 hJ hi ⟨o3, rfl, H⟩
  have hl2 := List.length_filter_le (fun e : Tr => K e.frm.toNat && K e.to.toNat) (a.edges.take i)
  simp only [List.length_take] at hl2
  simp -implicitDefEqProofs (disch := first | omega | (simp only [LnZ]; omega)) [wrap64]
  refine IteW.mk (fun hlt3 => ?_) (fun hge3 => ?_)
  · have hix : i < a.edges.length := by omega
    have hx := ha.t hix
    have hv := R3.okTr hix
    unfold Tr.Ok at hx
    obtain ⟨f, hf⟩ : ∃ f : Nat, a.edges[i].frm = f := ⟨a.edges[i].frm.toNat, by omega⟩
    obtain ⟨t, ht⟩ : ∃ t : Nat, a.edges[i].to = t := ⟨a.edges[i].to.toNat, by omega⟩
    have hfn : f < a.acc.length := by omega
    have htn : t < a.acc.length := by omega
    have hzf := hZr f hfn
    have hzt := hZr t htn
    have hfm := filter_map_take (p := fun e : Tr => K e.frm.toNat && K e.to.toNat) (f := Tr.ren (kout K)) hix
    have hkf := kidx_le (K := K) (q := f)
    have hkt := kidx_le (K := K) (q := t)
    cases hkb : K f with
    | false =>
      have hzf2 : Z[f]'(by omega) = -1 := by rw [hzf]; simp [knum, hkb]
      simp -implicitDefEqProofs (disch := first | omega | (simp only [LnZ]; omega)) [wrap64, (R3.on H).xTr, Tr.v, setC, hf, H.sw3.rep.I, hzf2]
      refine hJ _ _ hix ⟨o3, rfl, ?_⟩
      rw [hfm, hf]
      simpa [hkb] using H
    | true =>
      have hzf2 : Z[f]'(by omega) = (kidx K f : Int) := by rw [hzf]; simp [knum, hkb]
      cases hkb2 : K t with
      | false =>
        have hzt2 : Z[t]'(by omega) = -1 := by rw [hzt]; simp [knum, hkb2]
        simp -implicitDefEqProofs (disch := first | omega | (simp only [LnZ]; omega)) [wrap64, (R3.on H).xTr, Tr.v, setC, hf, ht, H.sw3.rep.I, hzf2, hzt2]
        refine hJ _ _ hix ⟨o3, rfl, ?_⟩
        rw [hfm, hf, ht]
        simpa [hkb2] using H
      | true =>
        have hzt2 : Z[t]'(by omega) = (kidx K t : Int) := by rw [hzt]; simp [knum, hkb2]
        simp -implicitDefEqProofs (disch := first | omega | (simp only [LnZ]; omega)) [wrap64, (R3.on H).xTr, Tr.v, setC, hf, ht, H.sw3.rep.I, hzf2, hzt2]
        refine H.app1 (⟨(kidx K f : Int), a.edges[i].care, a.edges[i].value, (kidx K t : Int)⟩ : Tr) rfl rfl rfl (Tr.ok_iff.2 ⟨⟨by dsimp only; omega, by dsimp only; omega⟩, hv.care, hv.value, ⟨by dsimp only; omega, by dsimp only; omega⟩⟩) rfl rfl (by simp; omega) (by simp; omega) fun o3' h8 H => ?_
        simp -implicitDefEqProofs (disch := first | omega | (simp only [LnZ]; omega)) [wrap64, H.rep.cells, H.rep.one, setC]
        refine hJ _ _ hix ⟨o3', rfl, ?_⟩
        rw [hfm, hf, ht]
        have hren : Tr.ren (kout K) a.edges[i] = ⟨(kidx K f : Int), a.edges[i].care, a.edges[i].value, (kidx K t : Int)⟩ := by
          simp [Tr.ren, kout, hf, ht]
        simpa [hkb, hkb2, hren] using H
  have hii : i = a.edges.length := by omega
  subst hii
  rw [List.take_length] at H
  have H := HS.mkAut (a := a.keep K) (by rw [Aut.keep_pos h0]; exact H.sw2.sw2)
  have hok := Aut.keep_ok ha K
  have e1 := hok.n
  have e2 := hok.il
  have e3 := hok.e
  simp -implicitDefEqProofs (disch := first | omega | (simp only [LnZ]; omega)) [wrap64]
  refine (c_copyOf H.rep (by omega) (by omega) (by omega)).go ?_
  intro v' h9 H6
  have H := (H6.app H).only
  obtain ⟨z1, z2, z3, rfl, S1, S2, S3⟩ := Rep_Aut.1 H.rep
  simp -implicitDefEqProofs (disch := first | omega | (simp only [LnZ]; omega)) [wrap64, S1.one, S2.one, S3.one]
  rw [hKt] at H
  exact RetK.keep (hk _ _ H)
end Go.Proofs.Ytglnelcmcimljaa

/-
  Trimming, by the reference; both as functions of the package.
-/
namespace Go.Proofs.Ytglnelcmcimljaa
open Go
set_option linter.all false
set_option linter.unusedVariables false
set_option linter.unusedSimpArgs false
set_option linter.defProp false
set_option maxRecDepth 1000000

set_option maxHeartbeats 4000000 in
theorem c_l13Keep {h : Heap} {v w : Value} {a : Aut} {B : List Bool} (Ra : Rep h v a) (Rw : Rep h w B) (ha : a.Ok) (hB : B.length = a.acc.length) : CallE Try.prog fn_spec_l13Keep [v, w] h (fun u h' => HS h [ow u (a.keep fun q => B.getD q false)] h') := by
  obtain ⟨v1, v2, v3, rfl, R1, R2, R3⟩ := Rep_Aut.1 Ra
  have hn := ha.n
  have he := ha.e
  have hil := ha.il
  obtain ⟨K, hK⟩ : ∃ K : Nat → Bool, K = fun q => B.getD q false := ⟨_, rfl⟩
  rw [← hK]
  have hKq : ∀ q (hq : q < a.acc.length), K q = B[q]'(by omega) := by
    intro q hq
    rw [hK]
    simp [show q < B.length by omega]
  refine CallE.gen fun k hk => EN_spec_l13Keep rfl ?_
  simp -implicitDefEqProofs (disch := first | omega | (simp only [LnZ]; omega)) [wrap64]
  refine HS.init.bls0 Int fun z h1 H => ?_
  have H := H.nil_ow (α := Bool)
  simp -implicitDefEqProofs (disch := first | omega | (simp only [LnZ]; omega)) [wrap64]
  refine wp_count a.acc.length (fun i e h' => ∃ o2 z, e = [none, some w, some (.agg #[v1, v2, v3]), some (.agg #[.slice none 0 0, .slice none 0 0, .slice none 0 0]), some (.agg #[.slice none 0 0, o2, .slice none 0 0]), some z, some (.int .i64 i), none, none, none] ∧
    ∃ Z : List Int, HS h [ow o2 (accK a K i), ow z Z] h' ∧ Z.length = i ∧ ∀ q, q < i → gd Z q = kidx K q) ⟨.slice none 0 0, z, by simp, [], H, rfl, fun q hq => absurd hq (Nat.not_lt_zero q)⟩ ?_
  clear H
  rintro J i _ h5 hJ hi ⟨o2, z, rfl, Z, H, hZl, hZ⟩
  simp -implicitDefEqProofs (disch := first | omega | (simp only [LnZ]; omega)) [wrap64, (Rw.on H).len]
  refine IteW.mk (fun hlt => ?_) (fun hge => ?_)
  · have hin : i < a.acc.length := by omega
    have hkl := kidx_le (K := K) (q := i)
    have hal := accK_len (a := a) (K := K) (i := i)
    have hks := hKq i hin
    have H := H.sw1
    simp -implicitDefEqProofs (disch := first | omega | (simp only [LnZ]; omega)) [wrap64, H.sw1.rep.len]
    refine H.app1 (kidx K i : Int) rfl (by rfl) (by simp [hal, O.get, Flat.enc, setC]) ⟨by omega, by omega⟩ rfl rfl (by omega) (by omega) fun z' h6 H => ?_
    have hZ1 : ∀ x, x < i + 1 → gd (Z ++ [(kidx K i : Int)]) x = kidx K x := by
      intro x hx
      by_cases e : x = i
      · subst e; simp [gd, ← hZl]
      · have := hZ x (by omega)
        rw [← this]
        simp only [gd, List.getD_eq_getElem?_getD]
        rw [List.getElem?_append_left (by omega)]
    have H := H.sw1
    cases hkb : K i with
    | false =>
      rw [hkb] at hks
      simp -implicitDefEqProofs (disch := first | omega | (simp only [LnZ]; omega)) [wrap64, (Rw.on H).B, ← hks]
      refine hJ _ _ hin ⟨o2, z', by simp, _, by rw [accK_succ hin, hkb]; simpa using H, by simp [hZl], hZ1⟩
    | true =>
      rw [hkb] at hks
      simp -implicitDefEqProofs (disch := first | omega | (simp only [LnZ]; omega)) [wrap64, (Rw.on H).B, ← hks, (R2.on H).B]
      refine H.app1 a.acc[i] rfl rfl rfl trivial rfl rfl (by omega) (by omega) fun o3 h8 H => ?_
      simp -implicitDefEqProofs (disch := first | omega | (simp only [LnZ]; omega)) [wrap64, H.rep.cells, H.rep.one, setC]
      exact hJ _ _ hin ⟨o3, z', rfl, _, by rw [accK_succ hin, hkb]; exact H, by simp [hZl], hZ1⟩
  have hin : i = a.acc.length := by omega
  subst hin
  have hal := accK_len (a := a) (K := K) (i := a.acc.length)
  have hkl := kidx_le (K := K) (q := a.acc.length)
  have hZr : ∀ q (hq : q < a.acc.length), Z[q]'(by omega) = kidx K q := fun q hq => by rw [← gd_get]; exact hZ q hq
  have H := H.nil_ow (α := Int)
  simp -implicitDefEqProofs (disch := first | omega | (simp only [LnZ]; omega)) [wrap64]
  refine wp_count a.init.length (fun i e h' => ∃ o1, e = [none, some w, some (.agg #[v1, v2, v3]), some (.agg #[.slice none 0 0, .slice none 0 0, .slice none 0 0]), some (.agg #[o1, o2, .slice none 0 0]), some z, none, some (.int .i64 i), none, none] ∧
    HS h [ow o1 (((a.init.take i).filter fun q => K q.toNat).map (kout K)), ow o2 (accK a K a.acc.length), ow z Z] h') ⟨.slice none 0 0, by simp, by simpa using H⟩ ?_
  clear H hJ
  rintro J i _ h6 hJ hi ⟨o1, rfl, H⟩
  have hl1 := List.length_filter_le (fun q : Int => K q.toNat) (a.init.take i)
  simp only [List.length_take] at hl1
  simp -implicitDefEqProofs (disch := first | omega | (simp only [LnZ]; omega)) [wrap64, (R1.on H).len]
  refine IteW.mk (fun hlt2 => ?_) (fun hge2 => ?_)
  · have hix : i < a.init.length := by omega
    have hx := ha.im hix
    obtain ⟨q, hq⟩ : ∃ q : Nat, a.init[i] = q := ⟨a.init[i].toNat, by omega⟩
    have hqn : q < a.acc.length := by omega
    have hzq := hZr q hqn
    have hks := hKq q hqn
    have hfm := filter_map_take (p := fun q : Int => K q.toNat) (f := kout K) hix
    have hkq := kidx_le (K := K) (q := q)
    cases hkb : K q with
    | true =>
      rw [hkb] at hks
      simp -implicitDefEqProofs (disch := first | omega | (simp only [LnZ]; omega)) [wrap64, (R1.on H).I, hq, (Rw.on H).B, ← hks, H.sw2.rep.I, hzq]
      refine H.app1 (kidx K q : Int) rfl rfl rfl ⟨by omega, by omega⟩ rfl rfl (by simp; omega) (by simp; omega) fun o1' h7 H => ?_
      simp -implicitDefEqProofs (disch := first | omega | (simp only [LnZ]; omega)) [wrap64, H.rep.cells, H.rep.one, setC]
      refine hJ _ _ hix ⟨o1', rfl, ?_⟩
      rw [hfm, hq]
      simpa [hkb, kout] using H
    | false =>
      rw [hkb] at hks
      simp -implicitDefEqProofs (disch := first | omega | (simp only [LnZ]; omega)) [wrap64, (R1.on H).I, hq, (Rw.on H).B, ← hks]
      refine hJ _ _ hix ⟨o1, rfl, ?_⟩
      rw [hfm, hq]
      simpa [hkb] using H
  have hii : i = a.init.length := by omega
  subst hii
  rw [List.take_length] at H
  have H := H.nil_ow (α := Tr)
  simp -implicitDefEqProofs (disch := first | omega | (simp only [LnZ]; omega)) [wrap64]
  refine wp_count a.edges.length (fun i e h' => ∃ o3, e = [none, some w, some (.agg #[v1, v2, v3]), some (.agg #[.slice none 0 0, .slice none 0 0, .slice none 0 0]), some (.agg #[o1, o2, o3]), some z, none, none, some (.int .i64 i), none] ∧
    HS h [ow o3 (((a.edges.take i).filter fun e => K e.frm.toNat && K e.to.toNat).map (Tr.ren (kout K))), ow o1 ((a.init.filter fun q => K q.toNat).map (kout K)), ow o2 (accK a K a.acc.length), ow z Z] h') ⟨.slice none 0 0, by simp, by simpa using H⟩ ?_
  clear H hJ
  rintro J i _ h7 hJ hi ⟨o3, rfl, H⟩
  have hl2 := List.length_filter_le (fun e : Tr => K e.frm.toNat && K e.to.toNat) (a.edges.take i)
  simp only [List.length_take] at hl2
  simp -implicitDefEqProofs (disch := first | omega | (simp only [LnZ]; omega)) [wrap64, (R3.on H).len]
  refine IteW.mk (fun hlt3 => ?_) (fun hge3 => ?_)
  · have hix : i < a.edges.length := by omega
    have hx := ha.t hix
    have hv := R3.okTr hix
    unfold Tr.Ok at hx
    obtain ⟨f, hf⟩ : ∃ f : Nat, a.edges[i].frm = f := ⟨a.edges[i].frm.toNat, by omega⟩
    obtain ⟨t, ht⟩ : ∃ t : Nat, a.edges[i].to = t := ⟨a.edges[i].to.toNat, by omega⟩
    have hfn : f < a.acc.length := by omega
    have htn : t < a.acc.length := by omega
    have hzf := hZr f hfn
    have hzt := hZr t htn
    have hksf := hKq f hfn
    have hkst := hKq t htn
    have hfm := filter_map_take (p := fun e : Tr => K e.frm.toNat && K e.to.toNat) (f := Tr.ren (kout K)) hix
    have hkf := kidx_le (K := K) (q := f)
    have hkt := kidx_le (K := K) (q := t)
    cases hkb : K f with
    | false =>
      rw [hkb] at hksf
      simp -implicitDefEqProofs (disch := first | omega | (simp only [LnZ]; omega)) [wrap64, (R3.on H).xTr, Tr.v, setC, hf, (Rw.on H).B, ← hksf]
      refine hJ _ _ hix ⟨o3, by simp, ?_⟩
      rw [hfm, hf]
      simpa [hkb] using H
    | true =>
      rw [hkb] at hksf
      cases hkb2 : K t with
      | false =>
        rw [hkb2] at hkst
        simp -implicitDefEqProofs (disch := first | omega | (simp only [LnZ]; omega)) [wrap64, (R3.on H).xTr, Tr.v, setC, hf, ht, (Rw.on H).B, ← hksf, ← hkst]
        refine hJ _ _ hix ⟨o3, by simp, ?_⟩
        rw [hfm, hf, ht]
        simpa [hkb2] using H
      | true =>
        rw [hkb2] at hkst
        simp -implicitDefEqProofs (disch := first | omega | (simp only [LnZ]; omega)) [wrap64, (R3.on H).xTr, Tr.v, setC, hf, ht, (Rw.on H).B, ← hksf, ← hkst, H.sw3.rep.I, hzf, hzt]
        refine H.app1 (⟨(kidx K f : Int), a.edges[i].care, a.edges[i].value, (kidx K t : Int)⟩ : Tr) rfl rfl rfl (Tr.ok_iff.2 ⟨⟨by dsimp only; omega, by dsimp only; omega⟩, hv.care, hv.value, ⟨by dsimp only; omega, by dsimp only; omega⟩⟩) rfl rfl (by simp; omega) (by simp; omega) fun o3' h8 H => ?_
        simp -implicitDefEqProofs (disch := first | omega | (simp only [LnZ]; omega)) [wrap64, H.rep.cells, H.rep.one, setC]
        refine hJ _ _ hix ⟨o3', by simp, ?_⟩
        rw [hfm, hf, ht]
        have hren : Tr.ren (kout K) a.edges[i] = ⟨(kidx K f : Int), a.edges[i].care, a.edges[i].value, (kidx K t : Int)⟩ := by
          simp [Tr.ren, kout, hf, ht]
        simpa [hkb, hkb2, hren] using H
  have hii : i = a.edges.length := by omega
  subst hii
  rw [List.take_length] at H
  by_cases h0 : kidx K a.acc.length = 0
  · have hno : ∀ q, q < a.acc.length → K q = false := by
      intro q hq
      cases hkb : K q with
      | false => rfl
      | true =>
        have h1 := kidx_succ (K := K) (q := q)
        rw [if_pos hkb] at h1
        have := kidx_mono (K := K) (show q + 1 ≤ a.acc.length by omega)
        omega
    have f1 : (a.init.filter fun q => K q.toNat) = [] := by
      rw [List.filter_eq_nil_iff]
      intro q hq
      have := incr_mem ha.i q hq
      rw [hno _ (by omega)]; simp
    have f2 : (a.edges.filter fun e => K e.frm.toNat && K e.to.toNat) = [] := by
      rw [List.filter_eq_nil_iff]
      intro e he
      have := ha.2.2.2 e he
      unfold Tr.Ok at this
      rw [hno _ (by omega)]; simp
    rw [f1, f2] at H
    have H1 := H.sw2
    simp -implicitDefEqProofs (disch := first | omega | (simp only [LnZ]; omega)) [wrap64, H1.rep.len, hal, h0]
    refine H.bls (α := Bool) [false] (by rfl) rfl (fun _ _ => trivial) (by decide) fun r h8 H => ?_
    have q1 := H.sw2.rep.one
    have q2 := H.sw1.rep.one
    simp -implicitDefEqProofs (disch := first | omega | (simp only [LnZ]; omega)) [wrap64, H.rep.cells, H.rep.one, setC, q1, q2, H.sw2.rep.cells, H.sw1.rep.cells]
    have H := HS.mkAut (a := ⟨[], [false], []⟩) H.sw2
    rw [Aut.keep_zero h0] at hk
    exact RetK.keep (hk _ _ H.only)
  · have H1 := H.sw2
    simp -implicitDefEqProofs (disch := first | omega | (simp only [LnZ]; omega)) [wrap64, H1.rep.len, hal, h0, H.rep.one, H.sw1.rep.one, H.sw2.rep.one]
    have H := HS.mkAut (a := a.keep K) (by rw [Aut.keep_pos h0]; exact H.sw2.sw2)
    exact RetK.keep (hk _ _ H.only)

set_option maxHeartbeats 4000000 in
theorem c_l13Trim {h : Heap} {v : Value} {a : Aut} (Ra : Rep h v a) (ha : a.Ok) : CallE Try.prog fn_spec_l13Trim [v] h (fun u h' => HS h [ow u a.trim] h') := by
  obtain ⟨v1, v2, v3, rfl, R1, R2, R3⟩ := Rep_Aut.1 Ra
  have hn := ha.n
  refine CallE.gen fun k hk => EN_spec_l13Trim rfl ?_
  simp -implicitDefEqProofs (disch := first | omega | (simp only [LnZ]; omega)) [wrap64]
  refine (c_spec_LiveStates Ra ha).go ?_
  rintro l h1 ⟨L, H, hLl, hL⟩
  simp -implicitDefEqProofs (disch := first | omega | (simp only [LnZ]; omega)) [wrap64]
  refine (c_l7Next (Ra.on H) ha).go ?_
  rintro w h2 ⟨G, H2, hG, hGl, hrow⟩
  have H := H2.app H
  simp -implicitDefEqProofs (disch := first | omega | (simp only [LnZ]; omega)) [wrap64]
  have hS : ∀ z ∈ a.init, 0 ≤ z ∧ z < (G.length : Int) := by
    intro z hz
    have := incr_mem ha.i z hz
    omega
  refine (c_l7Reach H.rep (R1.on H) hG hS (by omega)).go ?_
  rintro qv h3 ⟨Q, H3, hQl, hQn, hQ⟩
  have H := (H3.app H).sw1.drop
  simp -implicitDefEqProofs (disch := first | omega | (simp only [LnZ]; omega)) [wrap64, H.sw1.rep.len]
  refine H.mks (α := Bool) (z := false) rfl rfl own_false (Nat.le_refl _) (by omega) (by omega) fun b h4 H => ?_
  simp -implicitDefEqProofs (disch := first | omega | (simp only [LnZ]; omega)) [wrap64]
  refine wp_count Q.length (fun i e h' => e = [none, some (.agg #[v1, v2, v3]), some (.agg #[.slice none 0 0, .slice none 0 0, .slice none 0 0]), some l, some qv, some b, some (.int .i64 i)] ∧
    ∃ B : List Bool, HS h [ow b B, ow qv Q, ow l L] h' ∧ B.length = a.acc.length ∧ ∀ x, tru B x ↔ (x : Int) ∈ Q.take i ∧ tru L x) ⟨by simp, _, H, by simp [hLl], fun x => by simp [tru_replicate]⟩ ?_
  clear H
  rintro J i _ h5 hJ hi ⟨rfl, B, H, hBl, hB⟩
  simp -implicitDefEqProofs (disch := first | omega | (simp only [LnZ]; omega)) [wrap64, H.sw1.rep.len]
  refine IteW.mk (fun hlt => ?_) (fun hge => ?_)
  · have hix : i < Q.length := by omega
    obtain ⟨hz0, hz1⟩ := hQn _ (List.getElem_mem hix)
    obtain ⟨z, hz⟩ : ∃ z : Nat, Q[i] = z := ⟨Q[i].toNat, by omega⟩
    have hzn : z < a.acc.length := by omega
    simp -implicitDefEqProofs (disch := first | omega | (simp only [LnZ]; omega)) [wrap64, H.sw1.rep.I, hz, H.sw2.rep.B, H.rep.B]
    refine H.storeF (L[z]'(by omega)) (i := z) (by omega) rfl rfl trivial rfl fun h6 H => ?_
    simp -implicitDefEqProofs (disch := first | omega | (simp only [LnZ]; omega)) [wrap64]
    refine hJ _ _ hix ⟨rfl, _, H, by simpa using hBl, fun x => ?_⟩
    have h1 : tru (B.set z (L[z]'(by omega))) x ↔ if x = z then L[z]'(by omega) = true else tru B x := by
      simp only [tru, List.getD_eq_getElem?_getD, List.getElem?_set]
      by_cases e : z = x
      · subst e; simp [show z < B.length by omega]
      · simp [e, Ne.symm e]
    rw [h1, take_mem_succ hix, hz]
    split
    · rename_i e
      subst e
      rw [tru_get (by omega)]
      simp
    · rename_i e
      rw [hB]
      constructor
      · rintro ⟨h2, h3⟩; exact ⟨.inl h2, h3⟩
      · rintro ⟨h2 | h2, h3⟩
        · exact ⟨h2, h3⟩
        · exact absurd (by omega) e
  have hii : i = Q.length := by omega
  subst hii
  rw [List.take_length] at hB
  have hKt : (a.keep fun q => B.getD q false) = a.trim := by
    refine Aut.trim_eq ha fun q hq => ?_
    have h1 := hB q
    have h2 := hL q
    simp only [tru] at h1 h2
    rw [h1, h2, hQ]
    simp [Aut.Reach, hq]
  simp -implicitDefEqProofs (disch := first | omega | (simp only [LnZ]; omega)) [wrap64]
  refine (c_l13Keep (Ra.on H) H.rep ha hBl).go ?_
  intro u h6 H6
  have H := (H6.app H).only
  obtain ⟨z1, z2, z3, rfl, S1, S2, S3⟩ := Rep_Aut.1 H.rep
  simp -implicitDefEqProofs (disch := first | omega | (simp only [LnZ]; omega)) [wrap64, S1.one, S2.one, S3.one]
  rw [hKt] at H
  exact RetK.keep (hk _ _ H)

/-- what a function of a valid automaton gives back -/
def okR (f : Aut → Aut) (h : Heap) (a : Aut) (u : Value) (h' : Heap) : Prop := ∃ v, u = .tuple #[v, .bool (decide a.Ok)] ∧ HS h [ow v (if a.Ok then f a else Aut.empty)] h'
theorem okR.no {f : Aut → Aut} {h h' : Heap} {a : Aut} (hn : ¬ a.Ok) (H : HS h [] h') : okR f h a (.tuple #[.agg #[.slice none 0 0, .slice none 0 0, .slice none 0 0], .bool false]) h' :=
  ⟨_, by rw [decide_eq_false hn], by rw [if_neg hn]; exact empty_ow H⟩
theorem okR.yes {f : Aut → Aut} {h h' : Heap} {a : Aut} {v : Value} (hn : a.Ok) (H : HS h [ow v (f a)] h') : okR f h a (.tuple #[v, .bool true]) h' :=
  ⟨_, by rw [decide_eq_true hn], by rw [if_pos hn]; exact H⟩

theorem c_TrimAutomaton {h : Heap} {v : Value} {a : Aut} (Ra : Rep h v a) : CallE Try.prog fn_impl_TrimAutomaton [v] h (okR Aut.trim h a) := by
  have Fa := Ra.aAut
  refine CallE.gen fun k hk => EN_impl_TrimAutomaton rfl ?_
  simp -implicitDefEqProofs (disch := first | omega | (simp only [LnZ]; omega)) [wrap64, Fa]
  refine (c_AutomatonValid Ra).go ?_
  rintro _ h1 ⟨l1, rfl⟩
  by_cases ha : a.Ok
  · simp -implicitDefEqProofs (disch := first | omega | (simp only [LnZ]; omega)) [wrap64, ha, Fa]
    refine (c_trim (Ra.le l1) ha).go ?_
    intro u h2 H
    have H := HS.app (Γ := []) H l1
    obtain ⟨z1, z2, z3, rfl, S1, S2, S3⟩ := Rep_Aut.1 H.rep
    simp -implicitDefEqProofs (disch := first | omega | (simp only [LnZ]; omega)) [wrap64, S1.one, S2.one, S3.one]
    exact RetK.keep (hk _ _ (okR.yes ha H))
  · simp -implicitDefEqProofs (disch := first | omega | (simp only [LnZ]; omega)) [wrap64, ha]
    exact RetK.keep (hk _ _ (okR.no ha l1))
theorem c_spec_TrimAutomaton {h : Heap} {v : Value} {a : Aut} (Ra : Rep h v a) : CallE Try.prog fn_spec_TrimAutomaton [v] h (okR Aut.trim h a) := by
  have Fa := Ra.aAut
  refine CallE.gen fun k hk => EN_spec_TrimAutomaton rfl ?_
  simp -implicitDefEqProofs (disch := first | omega | (simp only [LnZ]; omega)) [wrap64, Fa]
  refine (c_spec_AutomatonValid Ra).go ?_
  rintro _ _ ⟨rfl, rfl⟩
  by_cases ha : a.Ok
  · simp -implicitDefEqProofs (disch := first | omega | (simp only [LnZ]; omega)) [wrap64, ha, Fa]
    refine (c_l13Trim Ra ha).go ?_
    intro u h2 H
    obtain ⟨z1, z2, z3, rfl, S1, S2, S3⟩ := Rep_Aut.1 H.rep
    simp -implicitDefEqProofs (disch := first | omega | (simp only [LnZ]; omega)) [wrap64, S1.one, S2.one, S3.one]
    exact RetK.keep (hk _ _ (okR.yes ha H))
  · simp -implicitDefEqProofs (disch := first | omega | (simp only [LnZ]; omega)) [wrap64, ha]
    exact RetK.keep (hk _ _ (okR.no ha HS.init))
end Go.Proofs.Ytglnelcmcimljaa

/-
  How much the arguments and results of the laws hold.
-/
namespace Go.Proofs.Ytglnelcmcimljaa
open Go
set_option linter.all false
set_option linter.unusedVariables false
set_option linter.unusedSimpArgs false
set_option linter.defProp false
set_option maxRecDepth 1000000

end Go.Proofs.Ytglnelcmcimljaa

/-
  Instances of functions over slices: copies, and whether some element meets a condition. Printed by a program.
-/
namespace Go.Proofs.Ytglnelcmcimljaa
open Go
set_option linter.all false
set_option linter.unusedVariables false
set_option linter.unusedSimpArgs false
set_option linter.defProp false
set_option maxRecDepth 1000000

theorem c_IndexFunc_int {h : Heap} {a fv : Value} {x : List Int} (Ra : Rep h a x) {f : FuncId} {c1 c2 : List Value} (hf : fnOf fv = some (f, c1, c2)) (p : Int → Bool)
    (hp : ∀ h1, h.le h1 → ∀ (i : Nat) (hi : i < x.length) (u : Value), Rep h1 u x[i] → CallE Try.prog f (c1 ++ u :: c2) h1 (fun v h' => h1.le h' ∧ v = .bool (p x[i]))) :
    CallE Try.prog fn_slices_IndexFunc_S_int_int [a, fv] h (fun v h' => h.le h' ∧ v = .int .i64 (match x.findIdx? p with | some i => (i : Int) | none => -1)) := by
  refine CallE.gen fun k hk => EN_slices_IndexFunc_S_int_int rfl ?_
  have hL := Ra.lt
  simp -implicitDefEqProofs (disch := first | omega | (simp only [LnZ]; omega)) [wrap64, Ra.len]
  refine wp_count x.length (fun i e h' => e = [some a, some fv, none, none, some (.int .i64 x.length), some (.int .i64 i)] ∧ h.le h' ∧ ∀ (j : Nat) (hj : j < x.length), j < i → p x[j] = false) ⟨rfl, Heap.le.refl h, fun j _ hj => absurd hj (Nat.not_lt_zero j)⟩ ?_
  rintro J i _ h1 hJ hi ⟨rfl, hl, hn⟩
  simp -implicitDefEqProofs (disch := first | omega | (simp only [LnZ]; omega)) [wrap64]
  refine IteW.mk (fun hlt => ?_) (fun hge => ?_)
  · have hlx : i < x.length := by omega
    obtain ⟨u, hu, Ru⟩ := (Ra.le hl).ld hlx
    change hload _ (some (elp 1 a i)) none = some u at hu
    simp -implicitDefEqProofs (disch := first | omega | (simp only [LnZ]; omega)) [wrap64, (Ra.le hl).X (n := 1) rfl, hu, hf]
    refine (hp h1 hl i hlx u Ru).go ?_
    rintro _ h2 ⟨hl2, rfl⟩
    simp -implicitDefEqProofs (disch := first | omega | (simp only [LnZ]; omega)) [wrap64]
    refine IteW.mk (fun hq => ?_) (fun hq => ?_)
    · simp -implicitDefEqProofs (disch := first | omega | (simp only [LnZ]; omega)) [wrap64]
      refine RetK.keep (hk _ _ ⟨hl.trans hl2, ?_⟩)
      have h3 : x.findIdx? p = some i := by
        rw [List.findIdx?_eq_some_iff_getElem]
        exact ⟨hlx, hq, fun j hj => by rw [hn j (by omega) hj]; simp⟩
      rw [h3]
    · simp -implicitDefEqProofs (disch := first | omega | (simp only [LnZ]; omega)) [wrap64]
      refine hJ _ _ hlx ⟨rfl, hl.trans hl2, fun j hj hji => ?_⟩
      by_cases hji2 : j = i
      · subst hji2; simpa using hq
      · exact hn j hj (by omega)
  · simp -implicitDefEqProofs (disch := first | omega | (simp only [LnZ]; omega)) [wrap64]
    refine RetK.keep (hk _ _ ⟨hl, ?_⟩)
    have h3 : x.findIdx? p = none := by
      rw [List.findIdx?_eq_none_iff]
      intro y hy
      obtain ⟨j, hj, rfl⟩ := List.mem_iff_getElem.1 hy
      exact hn j hj (by omega)
    rw [h3]

theorem c_ContainsFunc_int {h : Heap} {a fv : Value} {x : List Int} (Ra : Rep h a x) {f : FuncId} {c1 c2 : List Value} (hf : fnOf fv = some (f, c1, c2)) (p : Int → Bool)
    (hp : ∀ h1, h.le h1 → ∀ (i : Nat) (hi : i < x.length) (u : Value), Rep h1 u x[i] → CallE Try.prog f (c1 ++ u :: c2) h1 (fun v h' => h1.le h' ∧ v = .bool (p x[i]))) :
    CallE Try.prog fn_slices_ContainsFunc_S_int_int [a, fv] h (fun v h' => h.le h' ∧ v = .bool (x.any p)) := by
  refine CallE.gen fun k hk => EN_slices_ContainsFunc_S_int_int rfl ?_
  simp -implicitDefEqProofs (disch := first | omega | (simp only [LnZ]; omega)) [wrap64]
  refine (c_IndexFunc_int Ra hf p hp).go ?_
  rintro _ h1 ⟨hl, rfl⟩
  simp -implicitDefEqProofs (disch := first | omega | (simp only [LnZ]; omega)) [wrap64]
  refine RetK.keep (hk _ _ ⟨hl, ?_⟩)
  congr 1
  rw [← List.findIdx?_isSome]
  cases x.findIdx? p <;> simp

end Go.Proofs.Ytglnelcmcimljaa

/-
  Bodies of functions in the small language, as a program printed them, and that each is what the translation gives.
-/
namespace Go.Proofs.Ytglnelcmcimljaa
open Go
set_option linter.all false
set_option linter.defProp false
set_option maxRecDepth 1000000

end Go.Proofs.Ytglnelcmcimljaa

/-
  Whether an edge takes a letter, by the program and by the reference.
-/
namespace Go.Proofs.Ytglnelcmcimljaa
open Go
set_option linter.all false
set_option linter.unusedVariables false
set_option linter.unusedSimpArgs false
set_option linter.defProp false
set_option maxRecDepth 1000000

theorem c_takes {h : Heap} {v : Value} {t : Tr} (Rt : Rep h v t) {n : Int} : CallE Try.prog fn_impl_Transition_takes [v, .int .i64 n] h (fun u h' => h' = h ∧ u = .bool (t.on n)) := by
  rw [(Rep_Tr.1 Rt).1]
  refine CallE.gen fun k hk => EN_impl_Transition_takes rfl ?_
  simp -implicitDefEqProofs (disch := first | omega | (simp only [LnZ]; omega)) [wrap64, Tr.v]
  exact RetK.keep (hk _ _ ⟨rfl, rfl⟩)
end Go.Proofs.Ytglnelcmcimljaa

/-
  The live states behind a word, by the program and by the reference.
-/
namespace Go.Proofs.Ytglnelcmcimljaa
open Go
set_option linter.all false
set_option linter.unusedVariables false
set_option linter.unusedSimpArgs false
set_option linter.defProp false
set_option maxRecDepth 1000000

theorem c_letters_1 {h : Heap} {n : Int} : CallE Try.prog fn_impl_letters_1 [.int .i64 n] h (fun u h' => h' = h ∧ u = .bool (!decide (0 ≤ n ∧ n ≤ 7))) := by
  refine CallE.gen fun k hk => EN_impl_letters_1 rfl ?_
  simp -implicitDefEqProofs (disch := first | omega | (simp only [LnZ]; omega)) [wrap64]
  refine c_in.go ?_
  rintro _ _ ⟨rfl, rfl⟩
  simp -implicitDefEqProofs (disch := first | omega | (simp only [LnZ]; omega)) [wrap64]
  exact RetK.keep (hk _ _ ⟨rfl, by simp⟩)
theorem c_letters {h : Heap} {w : Value} {W : List Int} (Rw : Rep h w W) : CallE Try.prog fn_impl_letters [w] h (fun u h' => h.le h' ∧ u = .bool (decide (∀ x ∈ W, 0 ≤ x ∧ x ≤ 7))) := by
  refine CallE.gen fun k hk => EN_impl_letters rfl ?_
  simp -implicitDefEqProofs (disch := first | omega | (simp only [LnZ]; omega)) [wrap64]
  refine (c_ContainsFunc_int Rw (c1 := []) (c2 := []) (f := fn_impl_letters_1) rfl (fun n => !decide (0 ≤ n ∧ n ≤ 7)) ?_).go ?_
  · intro h3 hl j hj u Ru
    obtain ⟨rfl, _⟩ := Rep_int.1 Ru
    exact (c_letters_1 (n := W[j])).to fun _ _ ⟨h4, h5⟩ => ⟨h4 ▸ Heap.le.refl _, h5⟩
  · rintro _ h3 ⟨hl, rfl⟩
    simp -implicitDefEqProofs (disch := first | omega | (simp only [LnZ]; omega)) [wrap64]
    refine RetK.keep (hk _ _ ⟨hl, ?_⟩)
    congr 1
    rw [Bool.eq_iff_iff]
    simp
end Go.Proofs.Ytglnelcmcimljaa

/-
  Appending zeros; a slice written out with two elements that are only read; concatenation of two lists of numbers.
-/
namespace Go.Proofs.Ytglnelcmcimljaa
open Go
set_option linter.all false
set_option linter.unusedVariables false
set_option linter.unusedSimpArgs false
set_option linter.defProp false
set_option maxRecDepth 1000000

section
variable {P : Program} {k : Env → Heap → Prop} {e : Env} {g h : Heap} {Γ : List HP} {v : Value} {α : Type}
theorem HS.appZ [Ty α] [Flat α] {l : List α} (H : HS g (ow v l :: Γ) h) {z : α} {n : Nat} {bytes esz : Nat} {zero zero' : List Value} {a x : O} {dst : Nat} {kd : IntKind} (ha : a.get e = some v) (hx : x.get e = some (.int kd (n : Int))) (hzz : zero' = Flat.enc z) (hok : Flat.ok z) (hsz : esz = Ty.sz α) (hz : zero.length = Ty.sz α)
    (hb : (l.length + n) * bytes ≤ 140737488355328) (hn : l.length + n < 2 ^ 62)
    (K : ∀ v' h', HS g (ow v' (l ++ List.replicate n z) :: Γ) h' → k (eset e dst (some v')) h') : (A.ex (some dst) (.app bytes esz zero (.o a) (.z x bytes zero'))).wp P k e h := by
  obtain ⟨g', r, rfl, d, O, H⟩ := H
  subst hsz hzz
  have hall : ∀ x ∈ List.replicate n z, Flat.ok x := fun x hx => by rw [List.eq_of_mem_replicate hx]; exact hok
  have henc : ∀ m, reps m (Flat.enc z) = encL (List.replicate m z) := fun m => by
    simp [reps, encL]
  have hle : n * bytes ≤ (l.length + n) * bytes := Nat.mul_le_mul_right _ (by omega)
  refine a_app (rs := Heap.nil) (l2 := List.replicate n z) O ha ?_ (encL_len hall) (ownL_enc hall) d Dj_nil (by simp) rfl hz (by simpa using hb) (by simpa using hn) fun v' r' d' O' => K _ _ ⟨g', r', rfl, d', O', H⟩
  simp only [AO.src, hx]
  rw [if_pos ⟨by omega, by omega, by simp; omega, flat_len hok⟩]
  simp [henc]
theorem bls_two [Ty α] {u1 u2 : Value} {y1 y2 : α} (R1 : Rep h u1 y1) (R2 : Rep h u2 y2) {esz : Nat} {zero : List Value} {parts : List (Nat × Nat × O)} {dst : Nat} (hf : fillP e (reps 2 zero) parts = some (u1.cells.toList ++ u2.cells.toList))
    (K : ∀ v' h', h.le h' → Rep h' v' [y1, y2] → k (eset e dst (some v')) h') : (A.ex (some dst) (.bls esz 2 zero parts)).wp P k e h := by
  obtain ⟨c1, rfl, r1⟩ := R1
  obtain ⟨c2, rfl, r2⟩ := R2
  rw [rep_cells r1, rep_cells r2] at hf
  have l1 := Ty.len r1
  have l2 := Ty.len r2
  refine ⟨_, hf, fun b el hb => Fgt.keep ?_⟩
  rw [set_new hb]
  have hd : Dj h (Heap.one b (.cells (c1 ++ c2).toArray el (0, 0))) := Dj_one.2 hb
  have hbb : (h.add (Heap.one b (.cells (c1 ++ c2).toArray el (0, 0)))) b = some (.cells (c1 ++ c2).toArray el (0, 0)) := by simp [Heap.add, Heap.one, hb]
  refine K _ _ (le_add hd) (Rep_list.2 ⟨some ⟨b, 0, none⟩, 2, rfl, ⟨Nat.le_refl _, by simp⟩, trivial, fun i hi => ?_⟩)
  refine ⟨b, 0, ((c1 ++ c2).drop (0 + i * Ty.sz α)).take (Ty.sz α), rfl, ?_, ?_⟩
  · rw [hcells_mk hbb (by simp at hi ⊢; rcases (by omega : i = 0 ∨ i = 1) with rfl | rfl <;> simp <;> omega)]
  · simp only [List.length_cons, List.length_nil] at hi
    rcases (by omega : i = 0 ∨ i = 1) with rfl | rfl
    · have e1 : ((c1 ++ c2).drop (0 + 0 * Ty.sz α)).take (Ty.sz α) = c1 := by simp [← l1]
      rw [e1]
      exact Ty.mono (le_add hd) r1
    · have e1 : ((c1 ++ c2).drop (0 + 1 * Ty.sz α)).take (Ty.sz α) = c2 := by
        rw [show 0 + 1 * Ty.sz α = c1.length by omega, List.drop_left, List.take_of_length_le (by omega)]
      rw [e1]
      exact Ty.mono (le_add hd) r2
end
end Go.Proofs.Ytglnelcmcimljaa

/-
  Plain laws of acceptance: lassos and their words, runs, and the search in the product.
-/
namespace Go.Proofs.Ytglnelcmcimljaa
open Go
set_option linter.all false
set_option linter.unusedVariables false
set_option linter.unusedSimpArgs false
set_option linter.defProp false
set_option maxRecDepth 1000000

/-- a valid lasso -/
def Las.Ok (l : Las) : Prop := ((∀ x ∈ l.stem, 0 ≤ x ∧ x ≤ 7) ∧ ∀ x ∈ l.loop, 0 ≤ x ∧ x ≤ 7) ∧ l.stem.length ≤ 80 ∧ 1 ≤ l.loop.length ∧ l.loop.length ≤ 80
instance instDecLasOk (l : Las) : Decidable l.Ok := by unfold Las.Ok; infer_instance
def Las.size (l : Las) : Nat := l.stem.length + l.loop.length
def Las.all (l : Las) : List Int := l.stem ++ l.loop
/-- the position behind a position -/
def Las.nx (l : Las) (i : Nat) : Nat := if i + 1 = l.size then l.stem.length else i + 1
/-- the position at a time -/
def Las.pos (l : Las) : Nat → Nat
  | 0 => 0
  | t + 1 => l.nx (l.pos t)
def Las.word (l : Las) (t : Nat) : Int := l.all.getD (l.pos t) 0
theorem Las.nx_lt {l : Las} (h : 1 ≤ l.loop.length) {i : Nat} (hi : i < l.size) : l.nx i < l.size := by
  unfold Las.nx Las.size at *
  split <;> omega
theorem Las.pos_lt {l : Las} (h : 1 ≤ l.loop.length) : ∀ t, l.pos t < l.size
  | 0 => by unfold Las.pos Las.size; omega
  | t + 1 => Las.nx_lt h (Las.pos_lt h t)
theorem Las.all_len {l : Las} : l.all.length = l.size := by simp [Las.all, Las.size]
/-- a step at a time -/
def StE (E : List Tr) (w : Nat → Int) (t p q : Nat) : Prop := ∃ e ∈ E, e.frm = p ∧ e.to = q ∧ e.on (w t) = true
/-- a finite run, from a time and a state to a time and a state -/
inductive FR (E : List Tr) (w : Nat → Int) : Nat → Nat → Nat → Nat → Prop
  | refl (t p : Nat) : FR E w t p t p
  | step {t p q u r : Nat} (h : StE E w t p q) (k : FR E w (t + 1) q u r) : FR E w t p u r
section
variable {E : List Tr} {w : Nat → Int} {A : List Bool} {t p u q v r : Nat}
theorem FR.trans (h : FR E w t p u q) (k : FR E w u q v r) : FR E w t p v r := by
  induction h with
  | refl => exact k
  | step h _ ih => exact .step h (ih k)
theorem FR.le (h : FR E w t p u q) : t ≤ u := by
  induction h with
  | refl => exact Nat.le_refl _
  | step h _ ih => omega
theorem FR.one (h : StE E w t p q) : FR E w t p (t + 1) q := .step h (.refl _ _)
end
/-- from these one always comes, later, to an accepting one of them -/
def Goes (A : List Bool) (E : List Tr) (w : Nat → Int) (C : Nat → Nat → Prop) : Prop := ∀ t p, C t p → ∃ u q, t < u ∧ FR E w t p u q ∧ tru A q ∧ C u q
/-- there is an accepting run from a time and a state -/
def Run (A : List Bool) (E : List Tr) (w : Nat → Int) (t p : Nat) : Prop := ∃ C, C t p ∧ Goes A E w C
def Aut.Lang (a : Aut) (w : Nat → Int) : Prop := ∃ s : Nat, (s : Int) ∈ a.init ∧ Run a.acc a.edges w 0 s
theorem Run.before {A : List Bool} {E : List Tr} {w : Nat → Int} {t p u q : Nat} (h : FR E w t p u q) (k : Run A E w u q) : Run A E w t p := by
  obtain ⟨C, hC, hG⟩ := k
  refine ⟨fun t' p' => (t' = t ∧ p' = p) ∨ C t' p', .inl ⟨rfl, rfl⟩, ?_⟩
  rintro t' p' (⟨rfl, rfl⟩ | h1)
  · obtain ⟨v, r, h2, h3, h4, h5⟩ := hG u q hC
    have := h.le
    exact ⟨v, r, by omega, h.trans h3, h4, .inr h5⟩
  · obtain ⟨v, r, h2, h3, h4, h5⟩ := hG t' p' h1
    exact ⟨v, r, h2, h3, h4, .inr h5⟩
/-- runs are carried over by a relation of states -/
theorem Run.sim {A A' : List Bool} {E E' : List Tr} {w : Nat → Int} (M : Nat → Nat → Prop)
    (hs : ∀ t p q p', M p p' → StE E w t p q → Run A E w (t + 1) q → ∃ q', StE E' w t p' q' ∧ M q q') (ha : ∀ p p', M p p' → tru A p → tru A' p') {t p p' : Nat} (h : Run A E w t p) (hm : M p p') : Run A' E' w t p' := by
  have fr : ∀ {t p u r : Nat}, FR E w t p u r → Run A E w u r → ∀ p', M p p' → ∃ r', FR E' w t p' u r' ∧ M r r' := by
    intro t p u r h
    induction h with
    | refl => intro _ p' hm; exact ⟨p', .refl _ _, hm⟩
    | step h k ih =>
      intro hr p' hm
      obtain ⟨q', h1, h2⟩ := hs _ _ _ _ hm h (hr.before k)
      obtain ⟨r', h3, h4⟩ := ih hr q' h2
      exact ⟨r', .step h1 h3, h4⟩
  obtain ⟨C, hC, hG⟩ := h
  refine ⟨fun t p' => ∃ p, C t p ∧ M p p', ⟨p, hC, hm⟩, ?_⟩
  rintro t p' ⟨p, hC, hm⟩
  obtain ⟨u, q, h2, h3, h4, h5⟩ := hG t p hC
  obtain ⟨q', h6, h7⟩ := fr h3 ⟨C, h5, hG⟩ p' hm
  exact ⟨u, q', h2, h6, ha _ _ h7 h4, q, h5, h7⟩

/- in a finite graph one that can always go on comes back -/
theorem fin_cyc {T : Nat → Nat → Prop} (tr : ∀ x y z, T x y → T y z → T x z) (N : Nat) : ∀ (m : Nat) (D : Nat → Prop), (((List.range N).filter fun x => @decide (D x) (Classical.propDecidable _)).length ≤ m) → (∀ x, D x → x < N) → (∃ x, D x) → (∀ x, D x → ∃ y, D y ∧ T x y) → ∃ x, D x ∧ T x x := by
  intro m
  induction m with
  | zero =>
    rintro D hm hN ⟨x, hx⟩ _
    exfalso
    have : x ∈ (List.range N).filter fun x => @decide (D x) (Classical.propDecidable _) := by
      rw [List.mem_filter]
      exact ⟨List.mem_range.2 (hN x hx), by simpa using hx⟩
    have := List.length_pos_of_mem this
    omega
  | succ m ih =>
    rintro D hm hN ⟨x, hx⟩ hT
    by_cases hxx : T x x
    · exact ⟨x, hx, hxx⟩
    obtain ⟨y, hy, hxy⟩ := hT x hx
    obtain ⟨z, ⟨hz, _⟩, hzz⟩ := ih (fun y => D y ∧ T x y) (by
      have := filter_lt_of (p := fun y => @decide (D y ∧ T x y) (Classical.propDecidable _)) (q := fun y => @decide (D y) (Classical.propDecidable _)) (fun y hy => by
        simp only [decide_eq_true_eq] at hy ⊢
        exact hy.1) (l := List.range N) ⟨x, List.mem_range.2 (hN x hx), by simp [hxx], by simpa using hx⟩
      omega) (fun y hy => hN y hy.1) ⟨y, hy, hxy⟩ (fun z hz => by
        obtain ⟨v, h1, h2⟩ := hT z hz.1
        exact ⟨v, ⟨h1, tr _ _ _ hz.2 h2⟩, h2⟩)
    exact ⟨z, hz, hzz⟩
def Rch1 (E : Nat → Nat → Prop) (x y : Nat) : Prop := ∃ z, E x z ∧ Rch E z y
theorem Rch1.trans {E : Nat → Nat → Prop} {x y z : Nat} (h : Rch1 E x y) (k : Rch1 E y z) : Rch1 E x z := by
  obtain ⟨u, h1, h2⟩ := h
  obtain ⟨v, h3, h4⟩ := k
  exact ⟨u, h1, h2.trans (.step h3 h4)⟩
theorem Rch1.rch {E : Nat → Nat → Prop} {x y : Nat} (h : Rch1 E x y) : Rch E x y := by
  obtain ⟨u, h1, h2⟩ := h
  exact .step h1 h2
theorem fin_rch {E : Nat → Nat → Prop} {N : Nat} {D : Nat → Prop} (hN : ∀ x, D x → x < N) (h0 : ∃ x, D x) (hT : ∀ x, D x → ∃ y, D y ∧ Rch1 E x y) : ∃ x, D x ∧ Cyc E x :=
  fin_cyc (T := Rch1 E) (fun _ _ _ h k => Rch1.trans h k) N _ D (Nat.le_refl _) hN h0 hT

/- the product -/
theorem at_div {i n f : Nat} (h : f < n) : (i * n + f) / n = i := by
  rw [Nat.mul_comm, Nat.mul_add_div (by omega), Nat.div_eq_of_lt h, Nat.add_zero]
theorem at_mod {i n f : Nat} (h : f < n) : (i * n + f) % n = f := by
  rw [Nat.mul_comm, Nat.mul_add_mod, Nat.mod_eq_of_lt h]
theorem at_inj {i j n f g : Nat} (hf : f < n) (hg : g < n) (h : i * n + f = j * n + g) : i = j ∧ f = g := by
  have h1 := at_div (i := i) hf
  have h2 := at_div (i := j) hg
  have h3 := at_mod (i := i) hf
  have h4 := at_mod (i := j) hg
  rw [h] at h1 h3
  exact ⟨by rw [← h1, h2], by rw [← h3, h4]⟩
theorem at_lt {i n f s : Nat} (hf : f < n) (hi : i < s) : i * n + f < s * n := by
  have : (i + 1) * n ≤ s * n := Nat.mul_le_mul_right n hi
  rw [Nat.add_mul] at this
  omega
/-- the edges of the product of an automaton and a lasso -/
def Aut.PE (a : Aut) (l : Las) (x y : Nat) : Prop := ∃ e ∈ a.edges, ∃ i, i < l.size ∧ x = i * a.acc.length + e.frm.toNat ∧ y = l.nx i * a.acc.length + e.to.toNat ∧ e.on (l.all.getD i 0) = true
/-- acceptance, by a search in the product -/
def Aut.Acc (a : Aut) (l : Las) : Prop := ∃ s : Nat, (s : Int) ∈ a.init ∧ ∃ x, Rch (a.PE l) s x ∧ Cyc (a.PE l) x ∧ tru a.acc (x % a.acc.length)
section
variable {a : Aut} {l : Las}
theorem Aut.Ok.tr (ha : a.Ok) {e : Tr} (he : e ∈ a.edges) : ∃ f g : Nat, e.frm = f ∧ e.to = g ∧ f < a.acc.length ∧ g < a.acc.length := by
  have := ha.2.2.2 e he
  unfold Tr.Ok at this
  exact ⟨e.frm.toNat, e.to.toNat, by omega, by omega, by omega, by omega⟩
theorem Aut.Ok.st (ha : a.Ok) {w : Nat → Int} {t p q : Nat} (h : StE a.edges w t p q) : p < a.acc.length ∧ q < a.acc.length := by
  obtain ⟨e, he, h1, h2, _⟩ := h
  obtain ⟨f, g, h3, h4, h5, h6⟩ := ha.tr he
  exact ⟨by omega, by omega⟩
theorem Aut.Ok.ini (ha : a.Ok) {s : Nat} (hs : (s : Int) ∈ a.init) : s < a.acc.length := by
  have := incr_mem ha.i _ hs
  omega
theorem PE.lift (ha : a.Ok) (hl : 1 ≤ l.loop.length) {x y : Nat} (h : Rch (a.PE l) x y) : ∀ t p, p < a.acc.length → x = l.pos t * a.acc.length + p → ∃ u q, t ≤ u ∧ q < a.acc.length ∧ y = l.pos u * a.acc.length + q ∧ FR a.edges l.word t p u q := by
  induction h with
  | refl => intro t p hp hx; exact ⟨t, p, Nat.le_refl _, hp, hx, .refl _ _⟩
  | step h _ ih =>
    intro t p hp hx
    obtain ⟨e, he, i, hi, h1, h2, h3⟩ := h
    obtain ⟨f, g, h4, h5, h6, h7⟩ := ha.tr he
    rw [h4, Int.toNat_natCast] at h1
    rw [h5, Int.toNat_natCast] at h2
    obtain ⟨rfl, rfl⟩ := at_inj h6 hp (h1.symm.trans hx)
    obtain ⟨u, q, h8, h9, h10, h11⟩ := ih (t + 1) g h7 h2
    exact ⟨u, q, by omega, h9, h10, .step ⟨e, he, h4, h5, h3⟩ h11⟩
theorem PE.lift1 (ha : a.Ok) (hl : 1 ≤ l.loop.length) {x y : Nat} (h : Rch1 (a.PE l) x y) (t p : Nat) (hp : p < a.acc.length) (hx : x = l.pos t * a.acc.length + p) : ∃ u q, t < u ∧ q < a.acc.length ∧ y = l.pos u * a.acc.length + q ∧ FR a.edges l.word t p u q := by
  obtain ⟨z, ⟨e, he, i, hi, h1, h2, h3⟩, hr⟩ := h
  obtain ⟨f, g, h4, h5, h6, h7⟩ := ha.tr he
  rw [h4, Int.toNat_natCast] at h1
  rw [h5, Int.toNat_natCast] at h2
  obtain ⟨rfl, rfl⟩ := at_inj h6 hp (h1.symm.trans hx)
  obtain ⟨u, q, h8, h9, h10, h11⟩ := PE.lift ha hl hr (t + 1) g h7 h2
  exact ⟨u, q, by omega, h9, h10, .step ⟨e, he, h4, h5, h3⟩ h11⟩
theorem PE.of (hl : 1 ≤ l.loop.length) {t p q : Nat} (h : StE a.edges l.word t p q) : a.PE l (l.pos t * a.acc.length + p) (l.pos (t + 1) * a.acc.length + q) := by
  obtain ⟨e, he, h1, h2, h3⟩ := h
  exact ⟨e, he, l.pos t, Las.pos_lt hl t, by rw [h1]; rfl, by rw [h2]; rfl, h3⟩
theorem PE.rch (hl : 1 ≤ l.loop.length) {t p u q : Nat} (h : FR a.edges l.word t p u q) : Rch (a.PE l) (l.pos t * a.acc.length + p) (l.pos u * a.acc.length + q) := by
  induction h with
  | refl => exact .refl _
  | step h _ ih => exact .step (PE.of hl h) ih
theorem PE.rch1 (hl : 1 ≤ l.loop.length) {t p u q : Nat} (h : FR a.edges l.word t p u q) (htu : t < u) : Rch1 (a.PE l) (l.pos t * a.acc.length + p) (l.pos u * a.acc.length + q) := by
  cases h with
  | refl => omega
  | step h k => exact ⟨_, PE.of hl h, PE.rch hl k⟩
theorem FR.lt (ha : a.Ok) {w : Nat → Int} {t p u q : Nat} (h : FR a.edges w t p u q) (hp : p < a.acc.length) : q < a.acc.length := by
  induction h with
  | refl => exact hp
  | step h _ ih => exact ih (ha.st h).2
theorem Aut.acc_iff (ha : a.Ok) (hl : 1 ≤ l.loop.length) : a.Acc l ↔ a.Lang l.word := by
  constructor
  · rintro ⟨s, hs, x, h1, h2, h3⟩
    have hs' := ha.ini hs
    obtain ⟨u, q, _, h4, h5, h6⟩ := PE.lift ha hl h1 0 s hs' (by simp [Las.pos])
    refine ⟨s, hs, Run.before h6 ⟨fun t p => p < a.acc.length ∧ x = l.pos t * a.acc.length + p, ⟨h4, h5⟩, ?_⟩⟩
    rintro t p ⟨g1, g2⟩
    obtain ⟨v, r, g3, g4, g5, g6⟩ := PE.lift1 ha hl (x := x) (y := x) h2 t p g1 g2
    refine ⟨v, r, g3, g6, ?_, g4, g5⟩
    rw [g5, at_mod g4] at h3
    exact h3
  · rintro ⟨s, hs, C, hC, hG⟩
    have hs' := ha.ini hs
    obtain ⟨x, ⟨t, p, g1, g2, g3, rfl, g4⟩, hx⟩ := fin_rch (E := a.PE l) (N := l.size * a.acc.length) (D := fun x => ∃ t p, C t p ∧ p < a.acc.length ∧ tru a.acc p ∧ x = l.pos t * a.acc.length + p ∧ Rch (a.PE l) s x)
      (by rintro x ⟨t, p, g1, g2, g3, rfl, g4⟩; exact at_lt g2 (Las.pos_lt hl t))
      (by
        obtain ⟨u, q, h1, h2, h3, h4⟩ := hG 0 s hC
        have h5 := PE.rch (l := l) hl h2
        rw [show l.pos 0 * a.acc.length + s = s by simp [Las.pos]] at h5
        exact ⟨_, u, q, h4, h2.lt ha hs', h3, rfl, h5⟩)
      (by
        rintro x ⟨t, p, g1, g2, g3, rfl, g4⟩
        obtain ⟨u, q, h1, h2, h3, h4⟩ := hG t p g1
        have h5 := PE.rch1 (l := l) hl h2 h1
        exact ⟨_, ⟨u, q, h4, h2.lt ha g2, h3, rfl, g4.trans h5.rch⟩, h5⟩)
    exact ⟨s, hs, _, g4, hx, by rw [at_mod g2]; exact g3⟩
end
/-- a state from which there is a run is live -/
theorem Run.live {a : Aut} (ha : a.Ok) {w : Nat → Int} {t p : Nat} (hp : p < a.acc.length) (h : Run a.acc a.edges w t p) : a.Live p := by
  have rch : ∀ {t p u q : Nat}, FR a.edges w t p u q → Rch a.E p q := by
    intro t p u q h
    induction h with
    | refl => exact .refl _
    | step h _ ih =>
      obtain ⟨e, he, h1, h2, _⟩ := h
      exact .step ⟨e, he, h1, h2⟩ ih
  have rch1 : ∀ {t p u q : Nat}, FR a.edges w t p u q → t < u → Rch1 a.E p q := by
    intro t p u q h hlt
    cases h with
    | refl => omega
    | step h k =>
      obtain ⟨e, he, h1, h2, _⟩ := h
      exact ⟨_, ⟨e, he, h1, h2⟩, rch k⟩
  obtain ⟨C, hC, hG⟩ := h
  obtain ⟨x, ⟨t, g1, g2, g3, g4⟩, hx⟩ := fin_rch (E := a.E) (N := a.acc.length) (D := fun x => ∃ t, C t x ∧ x < a.acc.length ∧ tru a.acc x ∧ Rch a.E p x)
    (by rintro x ⟨t, g1, g2, _⟩; exact g2)
    (by
      obtain ⟨u, q, h1, h2, h3, h4⟩ := hG t p hC
      exact ⟨q, u, h4, h2.lt ha hp, h3, rch h2⟩)
    (by
      rintro x ⟨t, g1, g2, g3, g4⟩
      obtain ⟨u, q, h1, h2, h3, h4⟩ := hG t x g1
      exact ⟨q, ⟨u, h4, h2.lt ha g2, h3, g4.trans (rch h2)⟩, rch1 h2 h1⟩)
  exact ⟨x, g4, hx, g3⟩
end Go.Proofs.Ytglnelcmcimljaa

/-
  Lassos and acceptance, by the program.
-/
namespace Go.Proofs.Ytglnelcmcimljaa
open Go
set_option linter.all false
set_option linter.unusedVariables false
set_option linter.unusedSimpArgs false
set_option linter.defProp false
set_option maxRecDepth 1000000

theorem c_Grow_int {h : Heap} {m : Int} (hm : 0 ≤ m) (hn : m ≤ 1048576) : CallE Try.prog fn_slices_Grow_S_int_int [.slice none 0 0, .int .i64 m] h (fun u h' => HS h [ow u ([] : List Int)] h') := by
  obtain ⟨n, rfl⟩ : ∃ n : Nat, m = n := ⟨m.toNat, (Int.toNat_of_nonneg hm).symm⟩
  have H : HS h [ow (.slice none 0 0) ([] : List Int)] h := HS.init.nil_ow
  refine CallE.gen fun k hk => EN_slices_Grow_S_int_int rfl ?_
  have hng : ¬ ((n : Int) < 0) := by omega
  have hcap : capVV (.slice none 0 0) = some (.int .i64 0) := rfl
  have hln : lenVV (.slice none 0 0) = some (.int .i64 0) := rfl
  have hsl : sliceVV 1 (.slice none 0 0) none (some (some (.int .i64 0))) none = some (.slice none 0 0) := rfl
  by_cases h0 : (0 : Int) < n
  · have h0' : 0 < n := by omega
    simp -implicitDefEqProofs (disch := first | omega | (simp only [LnZ]; omega)) [wrap64, h0, h0', hng, hcap, hln, hsl]
    refine HS.appZ (bytes := 8) (α := Int) (z := 0) (n := n) H rfl rfl rfl ⟨by decide, by decide⟩ rfl rfl (by simp; omega) (by simp; omega) fun v' h1 H => ?_
    obtain ⟨v2, hv2, H⟩ := H.cut (n := 0) (esz := 1) (k := .i64) (by simp)
    simp only [List.take_zero] at H
    have hv2' : sliceVV 1 v' none (some (some (.int .i64 0))) none = some v2 := hv2
    simp -implicitDefEqProofs (disch := first | omega | (simp only [LnZ]; omega)) [wrap64, hln, hv2']
    exact RetK.keep (hk _ _ H)
  · have h0' : ¬ 0 < n := by omega
    simp -implicitDefEqProofs (disch := first | omega | (simp only [LnZ]; omega)) [wrap64, h0, h0', hng, hcap, hln, hsl]
    exact RetK.keep (hk _ _ H)
theorem c_Concat_int {h : Heap} {v : Value} {x y : List Int} (R : Rep h v [x, y]) (hx : x.length ≤ 65536) (hy : y.length ≤ 65536) : CallE Try.prog fn_slices_Concat_S_int_int [v] h (fun u h' => HS h [ow u (x ++ y)] h') := by
  have hL : ([x, y] : List (List Int)).length = 2 := rfl
  obtain ⟨u0, hu0, R0⟩ := R.ldL (i := 0) (by simp)
  obtain ⟨u1, hu1, R1⟩ := R.ldL (i := 1) (by simp)
  simp only [List.getElem_cons_zero, List.getElem_cons_succ] at R0 R1
  have hX := R.X (n := 1) rfl
  have hn1 : ¬ (x.length : Int) < 0 := by omega
  have hn2 : ¬ (x.length : Int) + y.length < 0 := by omega
  refine CallE.gen fun k hk => EN_slices_Concat_S_int_int rfl ?_
  simp -implicitDefEqProofs (disch := first | omega | (simp only [LnZ]; omega)) [wrap64, R.len]
  refine wp_count 2 (fun i e h' => e = [some v, none, some (.int .i64 (if i = 0 then 0 else if i = 1 then x.length else x.length + y.length)), none, none, none, some v, some (.int .i64 2), some (.int .i64 i), none, none, none] ∧ h' = h) ⟨by simp, rfl⟩ ?_
  rintro J i _ h1 hJ hi ⟨rfl, rfl⟩
  simp -implicitDefEqProofs (disch := first | omega | (simp only [LnZ]; omega)) [wrap64]
  refine IteW.mk (fun hlt => ?_) (fun hge => ?_)
  · obtain rfl | rfl : i = 0 ∨ i = 1 := by omega
    · simp -implicitDefEqProofs (disch := first | omega | (simp only [LnZ]; omega)) [wrap64, hX, hu0, R0.len, hn1]
      exact hJ _ _ (by omega) ⟨by simp, rfl⟩
    · simp -implicitDefEqProofs (disch := first | omega | (simp only [LnZ]; omega)) [wrap64, hX, hu1, R1.len, hn1, hn2]
      exact hJ _ _ (by omega) ⟨by simp, rfl⟩
  obtain rfl : i = 2 := by omega
  simp -implicitDefEqProofs (disch := first | omega | (simp only [LnZ]; omega)) [wrap64]
  refine (c_Grow_int (m := (x.length : Int) + y.length) (by omega) (by omega)).go ?_
  intro o h2 H
  simp -implicitDefEqProofs (disch := first | omega | (simp only [LnZ]; omega)) [wrap64, (R.on H).len]
  refine wp_count 2 (fun i e h' => ∃ o, e = [none, none, none, none, some o, none, none, none, none, some v, some (.int .i64 2), some (.int .i64 i)] ∧ HS h1 [ow o (if i = 0 then [] else if i = 1 then x else x ++ y)] h') ⟨o, by simp, by simpa using H⟩ ?_
  clear H
  rintro J2 i _ h3 hJ2 hi ⟨o, rfl, H⟩
  simp -implicitDefEqProofs (disch := first | omega | (simp only [LnZ]; omega)) [wrap64]
  refine IteW.mk (fun hlt2 => ?_) (fun hge2 => ?_)
  · obtain rfl | rfl : i = 0 ∨ i = 1 := by omega
    · simp only [if_true] at H
      simp -implicitDefEqProofs (disch := first | omega | (simp only [LnZ]; omega)) [wrap64, hX, hload_le H.base hu0]
      refine HS.appL (bytes := 8) (l2 := x) H rfl rfl (R0.on H) rfl rfl (by simp; omega) (by simp; omega) fun o' h4 H => ?_
      simp -implicitDefEqProofs (disch := first | omega | (simp only [LnZ]; omega)) [wrap64]
      exact hJ2 _ _ (by omega) ⟨o', by simp, by simpa using H⟩
    · simp only [Nat.one_ne_zero, if_true, if_false] at H
      simp -implicitDefEqProofs (disch := first | omega | (simp only [LnZ]; omega)) [wrap64, hX, hload_le H.base hu1]
      refine HS.appL (bytes := 8) (l2 := y) H rfl rfl (R1.on H) rfl rfl (by omega) (by omega) fun o' h4 H => ?_
      simp -implicitDefEqProofs (disch := first | omega | (simp only [LnZ]; omega)) [wrap64]
      exact hJ2 _ _ (by omega) ⟨o', by simp, by simpa using H⟩
  obtain rfl : i = 2 := by omega
  simp -implicitDefEqProofs (disch := first | omega | (simp only [LnZ]; omega)) [wrap64]
  exact RetK.keep (hk _ _ (by simpa using H))
theorem c_all {h : Heap} {v : Value} {l : Las} (R : Rep h v l) (hs : l.stem.length ≤ 65536) (hl : l.loop.length ≤ 65536) : CallE Try.prog fn_impl_Lasso_all [v] h (fun u h' => HS h [ow u l.all] h') := by
  obtain ⟨v1, v2, rfl, R1, R2⟩ := Rep_Las.1 R
  refine CallE.gen fun k hk => EN_impl_Lasso_all rfl ?_
  simp -implicitDefEqProofs (disch := first | omega | (simp only [LnZ]; omega)) [wrap64]
  refine bls_two R1 R2 (by simp [fillP, R1.cells, R2.cells, R1.one, R2.one, reps, setC]) fun w h1 l1 RW => ?_
  simp -implicitDefEqProofs (disch := first | omega | (simp only [LnZ]; omega)) [wrap64]
  refine (c_Concat_int RW hs hl).go ?_
  intro u h2 H
  simp -implicitDefEqProofs (disch := first | omega | (simp only [LnZ]; omega)) [wrap64]
  exact RetK.keep (hk _ _ (H.app (show HS h [] h1 from l1)))
theorem c_nextL {h : Heap} {v : Value} {l : Las} (R : Rep h v l) (hs : l.stem.length ≤ 65536) (hl : l.loop.length ≤ 65536) {i : Nat} (hi : i < l.size) : CallE Try.prog fn_impl_Lasso_next [v, .int .i64 i] h (fun u h' => h' = h ∧ u = .int .i64 (l.nx i : Nat)) := by
  obtain ⟨v1, v2, rfl, R1, R2⟩ := Rep_Las.1 R
  have hsz : l.size = l.stem.length + l.loop.length := rfl
  refine CallE.gen fun k hk => EN_impl_Lasso_next rfl ?_
  unfold Las.nx at hk
  by_cases e : i + 1 = l.size
  · rw [if_pos e] at hk
    have e' : (i : Int) + 1 = (l.stem.length : Int) + l.loop.length := by omega
    simp -implicitDefEqProofs (disch := first | omega | (simp only [LnZ]; omega)) [wrap64, R1.len, R2.len, e']
    exact RetK.keep (hk _ _ ⟨rfl, rfl⟩)
  · rw [if_neg e] at hk
    have e' : ¬ (i : Int) + 1 = (l.stem.length : Int) + l.loop.length := by omega
    simp -implicitDefEqProofs (disch := first | omega | (simp only [LnZ]; omega)) [wrap64, R1.len, R2.len, e']
    exact RetK.keep (hk _ _ ⟨rfl, by simp⟩)
theorem c_LassoValid {h : Heap} {v : Value} {l : Las} (R : Rep h v l) : CallE Try.prog fn_impl_LassoValid [v] h (fun u h' => h.le h' ∧ u = .bool (decide l.Ok)) := by
  obtain ⟨v1, v2, rfl, R1, R2⟩ := Rep_Las.1 R
  have hL1 := R1.lt
  have hL2 := R2.lt
  refine CallE.gen fun k hk => EN_impl_LassoValid rfl ?_
  simp -implicitDefEqProofs (disch := first | omega | (simp only [LnZ]; omega)) [wrap64]
  refine (c_letters R1).go ?_
  rintro _ h1 ⟨l1, rfl⟩
  by_cases q1 : ∀ x ∈ l.stem, 0 ≤ x ∧ x ≤ 7
  case neg =>
    have d1 : decide (∀ x ∈ l.stem, 0 ≤ x ∧ x ≤ 7) = false := decide_eq_false q1
    simp -implicitDefEqProofs (disch := first | omega | (simp only [LnZ]; omega)) [wrap64, d1]
    exact RetK.keep (hk _ _ ⟨l1, by rw [decide_eq_false (fun hh : l.Ok => q1 hh.1.1)]⟩)
  have d1 : decide (∀ x ∈ l.stem, 0 ≤ x ∧ x ≤ 7) = true := decide_eq_true q1
  simp -implicitDefEqProofs (disch := first | omega | (simp only [LnZ]; omega)) [wrap64, d1]
  refine (c_letters (R2.le l1)).go ?_
  rintro _ h2 ⟨l2, rfl⟩
  by_cases q2 : ∀ x ∈ l.loop, 0 ≤ x ∧ x ≤ 7
  case neg =>
    have d2 : decide (∀ x ∈ l.loop, 0 ≤ x ∧ x ≤ 7) = false := decide_eq_false q2
    simp -implicitDefEqProofs (disch := first | omega | (simp only [LnZ]; omega)) [wrap64, d2]
    exact RetK.keep (hk _ _ ⟨l1.trans l2, by rw [decide_eq_false (fun hh : l.Ok => q2 hh.1.2)]⟩)
  have d2 : decide (∀ x ∈ l.loop, 0 ≤ x ∧ x ≤ 7) = true := decide_eq_true q2
  by_cases q3 : (l.stem.length : Int) ≤ 80
  case neg =>
    simp -implicitDefEqProofs (disch := first | omega | (simp only [LnZ]; omega)) [wrap64, d2, R1.len, q3]
    exact RetK.keep (hk _ _ ⟨l1.trans l2, by rw [decide_eq_false (fun hh : l.Ok => q3 (by have := hh.2.1; omega))]⟩)
  simp -implicitDefEqProofs (disch := first | omega | (simp only [LnZ]; omega)) [wrap64, d2, R1.len, q3, R2.len]
  refine c_in.go ?_
  rintro _ h2 ⟨rfl, rfl⟩
  simp -implicitDefEqProofs (disch := first | omega | (simp only [LnZ]; omega)) [wrap64]
  refine RetK.keep (hk _ _ ⟨l1.trans l2, ?_⟩)
  congr 1
  rw [← Bool.decide_and]
  refine decide_eq_decide.2 ⟨fun hh => ⟨⟨q1, q2⟩, by omega, by omega, by omega⟩, fun hh => ⟨by have := hh.2.2.1; omega, by have := hh.2.2.2; omega⟩⟩
/-- rows of a graph, while edges are put in -/
structure GI (N B : Nat) (E : Nat → Nat → Prop) (G : List (List Int)) : Prop where
  len : G.length = N
  mem : ∀ x (hx : x < G.length) z, z ∈ G[x] ↔ ∃ y : Nat, z = y ∧ E x y
  row : ∀ x (hx : x < G.length), G[x].length ≤ B
theorem GI.zero {N : Nat} : GI N 0 (fun _ _ => False) (List.replicate N []) := ⟨by simp, by simp, by simp⟩
theorem GI.add {N B : Nat} {E : Nat → Nat → Prop} {G : List (List Int)} (h : GI N B E G) {f t : Nat} (hf : f < G.length) : GI N (B + 1) (fun x y => E x y ∨ (x = f ∧ y = t)) (G.set f (G[f] ++ [(t : Int)])) := by
  refine ⟨by simp [h.len], fun x hx z => ?_, fun x hx => ?_⟩
  · simp only [List.length_set] at hx
    rw [List.getElem_set]
    split
    · rename_i e
      subst e
      rw [List.mem_append, h.mem f hf z, List.mem_singleton]
      constructor
      · rintro (⟨y, h1, h2⟩ | h1)
        · exact ⟨y, h1, .inl h2⟩
        · exact ⟨t, h1, .inr ⟨rfl, rfl⟩⟩
      · rintro ⟨y, h1, h2 | ⟨_, h2⟩⟩
        · exact .inl ⟨y, h1, h2⟩
        · subst h2; exact .inr h1
    · rename_i e
      rw [h.mem x hx z]
      constructor
      · rintro ⟨y, h1, h2⟩; exact ⟨y, h1, .inl h2⟩
      · rintro ⟨y, h1, h2 | ⟨h2, _⟩⟩
        · exact ⟨y, h1, h2⟩
        · exact absurd h2.symm e
  · simp only [List.length_set] at hx
    rw [List.getElem_set]
    have h1 := h.row f hf
    have h2 := h.row x hx
    split
    · simp; omega
    · omega
theorem GI.congr {N B B' : Nat} {E E' : Nat → Nat → Prop} {G : List (List Int)} (h : GI N B E G) (hB : B ≤ B') (he : ∀ x y, E x y ↔ E' x y) : GI N B' E' G :=
  ⟨h.len, fun x hx z => by rw [h.mem x hx z]; exact ⟨fun ⟨y, h1, h2⟩ => ⟨y, h1, (he x y).1 h2⟩, fun ⟨y, h1, h2⟩ => ⟨y, h1, (he x y).2 h2⟩⟩, fun x hx => Nat.le_trans (h.row x hx) hB⟩
/-- the product, while edges are put in: all edges at the first positions, and the first edges at this one -/
def Aut.PK (a : Aut) (l : Las) (i k : Nat) (x y : Nat) : Prop := ∃ (m : Nat) (hm : m < a.edges.length) (j : Nat), j < l.size ∧ (j < i ∨ (j = i ∧ m < k)) ∧ x = j * a.acc.length + a.edges[m].frm.toNat ∧ y = l.nx j * a.acc.length + a.edges[m].to.toNat ∧ a.edges[m].on (l.all.getD j 0) = true
theorem PK_all {a : Aut} {l : Las} {x y : Nat} {i : Nat} (hi : l.size ≤ i) : a.PK l i 0 x y ↔ a.PE l x y := by
  constructor
  · rintro ⟨m, hm, j, h1, _, h3⟩
    exact ⟨_, List.getElem_mem hm, j, h1, h3⟩
  · rintro ⟨e, he, j, h1, h2⟩
    obtain ⟨m, hm, rfl⟩ := List.mem_iff_getElem.1 he
    exact ⟨m, hm, j, h1, .inl (by omega), h2⟩
theorem PK_next {a : Aut} {l : Las} {x y : Nat} {i k : Nat} (hk : a.edges.length ≤ k) : a.PK l i k x y ↔ a.PK l (i + 1) 0 x y := by
  constructor
  · rintro ⟨m, hm, j, h1, h2, h3⟩
    exact ⟨m, hm, j, h1, .inl (by omega), h3⟩
  · rintro ⟨m, hm, j, h1, h2, h3⟩
    exact ⟨m, hm, j, h1, by omega, h3⟩
theorem PK_step {a : Aut} {l : Las} {x y : Nat} {i k : Nat} (hi : i < l.size) (hk : k < a.edges.length) : a.PK l i (k + 1) x y ↔ a.PK l i k x y ∨ (a.edges[k].on (l.all.getD i 0) = true ∧ x = i * a.acc.length + a.edges[k].frm.toNat ∧ y = l.nx i * a.acc.length + a.edges[k].to.toNat) := by
  constructor
  · rintro ⟨m, hm, j, h1, h2, h3, h4, h5⟩
    by_cases e : j = i ∧ m = k
    · obtain ⟨rfl, rfl⟩ := e
      exact .inr ⟨h5, h3, h4⟩
    · exact .inl ⟨m, hm, j, h1, by omega, h3, h4, h5⟩
  · rintro (⟨m, hm, j, h1, h2, h3⟩ | ⟨h1, h2, h3⟩)
    · exact ⟨m, hm, j, h1, by omega, h3⟩
    · exact ⟨k, hk, i, hi, .inr ⟨rfl, by omega⟩, h2, h3, h1⟩
theorem Aut.PE_lt {a : Aut} {l : Las} (ha : a.Ok) (hl : 1 ≤ l.loop.length) {x y : Nat} (h : a.PE l x y) : x < l.size * a.acc.length ∧ y < l.size * a.acc.length := by
  obtain ⟨e, he, i, hi, h1, h2, h3⟩ := h
  obtain ⟨f, g, h4, h5, h6, h7⟩ := ha.tr he
  rw [h4, Int.toNat_natCast] at h1
  rw [h5, Int.toNat_natCast] at h2
  subst h1 h2
  exact ⟨at_lt h6 hi, at_lt h7 (Las.nx_lt hl hi)⟩
end Go.Proofs.Ytglnelcmcimljaa

/-
  Acceptance, by the program.
-/
namespace Go.Proofs.Ytglnelcmcimljaa
open Go
set_option linter.all false
set_option linter.unusedVariables false
set_option linter.unusedSimpArgs false
set_option linter.defProp false
set_option maxRecDepth 1000000

set_option maxHeartbeats 1000000 in
theorem c_accepts {h : Heap} {v w : Value} {a : Aut} {l : Las} (Ra : Rep h v a) (Rl : Rep h w l) (ha : a.Ok) (hl : l.Ok) : CallE Try.prog fn_impl_Automaton_accepts [v, w] h (fun u h' => h.le h' ∧ ∃ r : Bool, u = .bool r ∧ (r = true ↔ a.Acc l)) := by
  obtain ⟨v1, v2, v3, rfl, R1, R2, R3⟩ := Rep_Aut.1 Ra
  have hn := ha.n
  have he := ha.e
  have hl1 := hl.2.1
  have hl2 := hl.2.2.1
  have hl3 := hl.2.2.2
  have hsz : l.size = l.stem.length + l.loop.length := rfl
  have FL := Rl.aLas
  have hSn : l.size * a.acc.length ≤ 160 * 64 := Nat.mul_le_mul (by omega) hn.2
  refine CallE.gen fun k hk => EN_impl_Automaton_accepts rfl ?_
  simp -implicitDefEqProofs (disch := first | omega | (simp only [LnZ]; omega)) [wrap64, FL, R2.len]
  refine (c_all Rl (by omega) (by omega)).go ?_
  intro wd h1 H
  have hal := Las.all_len (l := l)
  obtain ⟨N, hN⟩ : ∃ N, N = l.size * a.acc.length := ⟨_, rfl⟩
  have hmul : (l.size : Int) * a.acc.length = (N : Int) := by rw [hN]; simp
  simp -implicitDefEqProofs (disch := first | omega | (simp only [LnZ]; omega)) [wrap64, (R2.on H).len, H.rep.len, hal, hmul]
  refine H.mks (α := List Int) (z := []) (n := N) (c := N) rfl rfl own_nils (Nat.le_refl _) (by omega) (by omega) fun nx h2 H => ?_
  simp -implicitDefEqProofs (disch := first | omega | (simp only [LnZ]; omega)) [wrap64, H.sw1.rep.len, hal]
  refine wp_count l.size (fun i e h' => ∃ G, e = [none, none, some (.agg #[v1, v2, v3]), some w, none, none, some (.int .i64 a.acc.length), some nx, none, none, none, none, none, none, some wd, some (.int .i64 l.size), some (.int .i64 i), none, none, none, none, none, none] ∧ HS h [ow nx G, ow wd l.all] h' ∧ GI N (i * 2048) (a.PK l i 0) G) ⟨_, by simp, H, by
    have : (0 : Nat) * 2048 = 0 := by omega
    rw [this]
    exact GI.zero.congr (Nat.le_refl _) fun x y => ⟨False.elim, fun ⟨m, hm, j, _, h, _⟩ => by omega⟩⟩ ?_
  clear H
  rintro J i _ h3 hJ hi ⟨G, rfl, H, hG⟩
  simp -implicitDefEqProofs (disch := first | omega | (simp only [LnZ]; omega)) [wrap64]
  refine IteW.mk (fun hlt => ?_) (fun hge => ?_)
  · have his : i < l.size := by omega
    have hial : i < l.all.length := by omega
    have hlet : l.all.getD i 0 = l.all[i] := by simp [hial]
    have hX := H.sw1.rep.I
    simp -implicitDefEqProofs (disch := first | omega | (simp only [LnZ]; omega)) [wrap64, hX, (R3.on H).len]
    refine wp_count a.edges.length (fun k e h' => ∃ G, e = [none, none, some (.agg #[v1, v2, v3]), some w, none, none, some (.int .i64 a.acc.length), some nx, some (.int .i64 i), some (.int .i64 l.all[i]), none, none, none, none, some wd, some (.int .i64 l.size), some (.int .i64 i), some v3, some (.int .i64 a.edges.length), some (.int .i64 k), none, none, none] ∧ HS h [ow nx G, ow wd l.all] h' ∧ GI N (i * 2048 + k) (a.PK l i k) G) ⟨G, by simp, H, hG⟩ ?_
    clear H hG
    rintro J2 k _ h4 hJ2 hk2 ⟨G, rfl, H, hG⟩
    simp -implicitDefEqProofs (disch := first | omega | (simp only [LnZ]; omega)) [wrap64]
    refine IteW.mk (fun hlt2 => ?_) (fun hge2 => ?_)
    · have hkx : k < a.edges.length := by omega
      have hx := ha.t hkx
      have hv := R3.okTr hkx
      unfold Tr.Ok at hx
      have hstep := fun x y => PK_step (a := a) (l := l) (x := x) (y := y) his hkx
      rw [hlet] at hstep
      simp -implicitDefEqProofs (disch := first | omega | (simp only [LnZ]; omega)) [wrap64, (R3.on H).xTr, Tr.v, setC]
      refine (c_takes (t := a.edges[k]) (Rep_Tr.2 ⟨rfl, hv⟩)).go ?_
      rintro _ _ ⟨rfl, rfl⟩
      cases ho : a.edges[k].on l.all[i] with
      | false =>
        simp -implicitDefEqProofs (disch := first | omega | (simp only [LnZ]; omega)) [wrap64, ho]
        refine hJ2 _ _ hkx ⟨G, by simp, H, hG.congr (by omega) fun x y => ?_⟩
        rw [hstep, ho]
        simp
      | true =>
        obtain ⟨f, hf⟩ : ∃ f : Nat, a.edges[k].frm = f := ⟨a.edges[k].frm.toNat, by omega⟩
        obtain ⟨t, ht⟩ : ∃ t : Nat, a.edges[k].to = t := ⟨a.edges[k].to.toNat, by omega⟩
        have hfn : f < a.acc.length := by omega
        have htn : t < a.acc.length := by omega
        have hnxl := Las.nx_lt hl2 his
        have hx1 := at_lt hfn his
        have hy1 := at_lt htn hnxl
        have e3 : (i : Int) * a.acc.length = ((i * a.acc.length : Nat) : Int) := by simp
        have e4 : ((l.nx i : Nat) : Int) * a.acc.length = ((l.nx i * a.acc.length : Nat) : Int) := by simp
        obtain ⟨X, hX1⟩ : ∃ X, X = i * a.acc.length + f := ⟨_, rfl⟩
        obtain ⟨Y, hY1⟩ : ∃ Y, Y = l.nx i * a.acc.length + t := ⟨_, rfl⟩
        obtain ⟨p, hp⟩ : ∃ p, p = i * a.acc.length := ⟨_, rfl⟩
        obtain ⟨q, hq⟩ : ∃ q, q = l.nx i * a.acc.length := ⟨_, rfl⟩
        have hXG : X < G.length := by rw [hG.len]; omega
        have hrow := hG.row X hXG
        have e5 : (p : Int) + f = X := by omega
        have e6 : (q : Int) + t = Y := by omega
        rw [← hp] at e3
        rw [← hq] at e4
        obtain ⟨u, hu, HT⟩ := H.take hXG
        change hload _ (some (elp 1 nx X)) none = some u at hu
        have RL := Rl.on HT
        have hadd : G[X] ++ [(Y : Int)] = G[X] ++ [(Y : Int)] := rfl
        simp -implicitDefEqProofs (disch := first | omega | (simp only [LnZ]; omega)) [wrap64, ho, hf, ht, e3, e5, HT.sw1.holeia (n := 1) rfl, hu, RL.aLas]
        refine (c_nextL RL (by omega) (by omega) his).go ?_
        rintro _ _ ⟨rfl, rfl⟩
        simp -implicitDefEqProofs (disch := first | omega | (simp only [LnZ]; omega)) [wrap64, hf, ht, e3, e5, e4, e6, HT.sw1.holeia (n := 1) rfl, hu]
        refine HT.app1 (Y : Int) rfl rfl rfl ⟨by omega, by omega⟩ rfl rfl (by omega) (by omega) fun u' h5 H => ?_
        simp -implicitDefEqProofs (disch := first | omega | (simp only [LnZ]; omega)) [wrap64, H.sw1.holeia (n := 1) rfl]
        refine H.storeH rfl rfl rfl fun h6 H => ?_
        simp -implicitDefEqProofs (disch := first | omega | (simp only [LnZ]; omega)) [wrap64]
        refine hJ2 _ _ hkx ⟨_, by simp, H, (hG.add hXG).congr (by omega) fun x y => ?_⟩
        rw [hstep, ho, hf, ht, Int.toNat_natCast, Int.toNat_natCast, hX1, hY1]
        simp
    · simp -implicitDefEqProofs (disch := first | omega | (simp only [LnZ]; omega)) [wrap64]
      exact hJ _ _ his ⟨G, by simp, H, hG.congr (by omega) fun x y => PK_next (by omega)⟩
  have hG' : GI N (i * 2048) (a.PE l) G := hG.congr (Nat.le_refl _) fun x y => PK_all (by omega)
  have hAdj : Adj (a.PE l) G := ⟨fun x y hxy => by
    have := Aut.PE_lt ha hl2 hxy
    rw [hG'.len, hN]; exact this, hG'.mem⟩
  have hGl := hG'.len
  simp -implicitDefEqProofs (disch := first | omega | (simp only [LnZ]; omega)) [wrap64]
  refine (c_cyclic H.rep hAdj (by omega)).go ?_
  rintro c h4 ⟨C, H2, hCl, hC⟩
  have H := H2.app H
  simp -implicitDefEqProofs (disch := first | omega | (simp only [LnZ]; omega)) [wrap64]
  have hi1 : ∀ z ∈ a.init, 0 ≤ z ∧ z < (G.length : Int) := by
    intro z hz
    have h5 := incr_mem ha.i z hz
    have : 1 * a.acc.length ≤ l.size * a.acc.length := Nat.mul_le_mul_right _ (by omega)
    omega
  have hil := ha.il
  refine (c_reachable H.sw1.rep (R1.on H) hAdj hi1 (by omega) (by omega)).go ?_
  rintro r h5 ⟨B, H5, hBl, hB⟩
  have H := H5.app H
  have hacc : ∀ x, x < G.length → (tru B x ∧ tru C x ∧ tru a.acc (x % a.acc.length) ↔ (∃ s : Nat, (s : Int) ∈ a.init ∧ Rch (a.PE l) s x) ∧ Cyc (a.PE l) x ∧ tru a.acc (x % a.acc.length)) := fun x hx => by rw [hB, hC x hx]
  simp -implicitDefEqProofs (disch := first | omega | (simp only [LnZ]; omega)) [wrap64, H.rep.len]
  refine wp_count G.length (fun k e h' => e = [none, none, some (.agg #[v1, v2, v3]), none, none, none, some (.int .i64 a.acc.length), none, none, none, none, some c, none, none, none, none, none, none, none, none, some r, some (.int .i64 G.length), some (.int .i64 k)] ∧ h' = h5 ∧ ∀ x, x < k → ¬ (tru B x ∧ tru C x ∧ tru a.acc (x % a.acc.length))) ⟨by simp [hBl], rfl, fun x hx => absurd hx (Nat.not_lt_zero x)⟩ ?_
  rintro J3 k _ h6 hJ3 hk3 ⟨rfl, rfl, hno⟩
  simp -implicitDefEqProofs (disch := first | omega | (simp only [LnZ]; omega)) [wrap64]
  refine IteW.mk (fun hlt2 => ?_) (fun hge2 => ?_)
  · have hkn : k < G.length := by omega
    have hmod : k % a.acc.length < a.acc.length := Nat.mod_lt _ (by omega)
    have hmodi : (k : Int).tmod a.acc.length = ((k % a.acc.length : Nat) : Int) := by first | exact (Int.ofNat_tmod _ _).symm | exact (Int.natCast_tmod _ _).symm | simp
    have hmodi2 : (k : Int) % a.acc.length = ((k % a.acc.length : Nat) : Int) := by simp
    obtain ⟨m, hm⟩ : ∃ m, m = k % a.acc.length := ⟨_, rfl⟩
    rw [← hm] at hmod hmodi hmodi2
    have hn0 : ¬ (a.acc.length : Int) = 0 := by omega
    have hn0' : ¬ a.acc = [] := fun e => by rw [e] at hn; simp at hn
    have tB : tru B k ↔ B[k]'(by omega) = true := tru_get (by omega)
    have tC : tru C k ↔ C[k]'(by omega) = true := tru_get (by omega)
    have tA : tru a.acc (k % a.acc.length) ↔ a.acc[m] = true := by rw [← hm]; exact tru_get hmod
    have next : ¬ (tru B k ∧ tru C k ∧ tru a.acc (k % a.acc.length)) → ∀ x, x < k + 1 → ¬ (tru B x ∧ tru C x ∧ tru a.acc (x % a.acc.length)) := fun hh x hx => by
      by_cases e : x = k
      · subst e; exact hh
      · exact hno x (by omega)
    cases b1 : B[k]'(by omega) with
    | false =>
      simp -implicitDefEqProofs (disch := first | omega | (simp only [LnZ]; omega)) [wrap64, H.rep.B, b1]
      exact hJ3 _ _ hkn ⟨by simp, rfl, next fun hh => by have := tB.1 hh.1; rw [b1] at this; exact absurd this (by decide)⟩
    | true =>
    cases b2 : C[k]'(by omega) with
    | false =>
      simp -implicitDefEqProofs (disch := first | omega | (simp only [LnZ]; omega)) [wrap64, H.rep.B, b1, H.sw1.rep.B, b2]
      exact hJ3 _ _ hkn ⟨by simp, rfl, next fun hh => by have := tC.1 hh.2.1; rw [b2] at this; exact absurd this (by decide)⟩
    | true =>
    cases b3 : a.acc[m] with
    | false =>
      simp -implicitDefEqProofs (disch := first | omega | (simp only [LnZ]; omega)) [wrap64, H.rep.B, b1, H.sw1.rep.B, b2, hmodi, hmodi2, hn0, hn0', (R2.on H).B, b3]
      exact hJ3 _ _ hkn ⟨by simp, rfl, next fun hh => by have := tA.1 hh.2.2; rw [b3] at this; exact absurd this (by decide)⟩
    | true =>
      simp -implicitDefEqProofs (disch := first | omega | (simp only [LnZ]; omega)) [wrap64, H.rep.B, b1, H.sw1.rep.B, b2, hmodi, hmodi2, hn0, hn0', (R2.on H).B, b3]
      refine RetK.keep (hk _ _ ⟨H.base, true, rfl, ?_⟩)
      simp only [true_iff]
      obtain ⟨⟨s, h7, h8⟩, h9, h10⟩ := (hacc k hkn).1 ⟨tB.2 b1, tC.2 b2, tA.2 b3⟩
      exact ⟨s, h7, k, h8, h9, h10⟩
  · simp -implicitDefEqProofs (disch := first | omega | (simp only [LnZ]; omega)) [wrap64]
    refine RetK.keep (hk _ _ ⟨H.base, false, rfl, ?_⟩)
    simp only [Bool.false_eq_true, false_iff]
    rintro ⟨s, h7, x, h8, h9, h10⟩
    have hxl : x < G.length := by
      obtain ⟨y, h11, _⟩ := h9
      exact (hAdj.lt x y h11).1
    exact hno x (by omega) ((hacc x hxl).2 ⟨⟨s, h7, h8⟩, h9, h10⟩)
/-- what Accepts answers -/
noncomputable def Aut.accB (a : Aut) (l : Las) : Bool := @decide (a.Ok ∧ l.Ok ∧ a.Acc l) (Classical.propDecidable _)
theorem c_Accepts {h : Heap} {v w : Value} {a : Aut} {l : Las} (Ra : Rep h v a) (Rl : Rep h w l) : CallE Try.prog fn_impl_Accepts [v, w] h (fun u h' => h.le h' ∧ u = .tuple #[.bool (a.accB l), .bool (decide (a.Ok ∧ l.Ok))]) := by
  have FA := Ra.aAut
  have FL := Rl.aLas
  refine CallE.gen fun k hk => EN_impl_Accepts rfl ?_
  simp -implicitDefEqProofs (disch := first | omega | (simp only [LnZ]; omega)) [wrap64, FA, FL]
  refine (c_AutomatonValid Ra).go ?_
  rintro _ h1 ⟨l1, rfl⟩
  by_cases ha : a.Ok
  case neg =>
    simp -implicitDefEqProofs (disch := first | omega | (simp only [LnZ]; omega)) [wrap64, ha]
    refine RetK.keep (hk _ _ ⟨l1, ?_⟩)
    rw [show a.accB l = false by simp [Aut.accB, ha], decide_eq_false (fun hh : a.Ok ∧ l.Ok => ha hh.1)]
  simp -implicitDefEqProofs (disch := first | omega | (simp only [LnZ]; omega)) [wrap64, ha, FL]
  refine (c_LassoValid (Rl.le l1)).go ?_
  rintro _ h2 ⟨l2, rfl⟩
  by_cases hl : l.Ok
  case neg =>
    simp -implicitDefEqProofs (disch := first | omega | (simp only [LnZ]; omega)) [wrap64, hl]
    refine RetK.keep (hk _ _ ⟨l1.trans l2, ?_⟩)
    rw [show a.accB l = false by simp [Aut.accB, hl], decide_eq_false (fun hh : a.Ok ∧ l.Ok => hl hh.2)]
  simp -implicitDefEqProofs (disch := first | omega | (simp only [LnZ]; omega)) [wrap64, hl, FA, FL]
  refine (c_accepts (Ra.le (l1.trans l2)) (Rl.le (l1.trans l2)) ha hl).go ?_
  rintro _ h3 ⟨l3, r, rfl, hr⟩
  simp -implicitDefEqProofs (disch := first | omega | (simp only [LnZ]; omega)) [wrap64]
  refine RetK.keep (hk _ _ ⟨l1.trans (l2.trans l3), ?_⟩)
  rw [decide_eq_true (show a.Ok ∧ l.Ok from ⟨ha, hl⟩)]
  have : a.accB l = r := by
    rw [Bool.eq_iff_iff, hr, Aut.accB]
    simp [ha, hl]
  rw [this]
theorem Aut.accB_lang {a : Aut} {l : Las} (ha : a.Ok) (hl : l.Ok) : a.accB l = true ↔ a.Lang l.word := by
  rw [← Aut.acc_iff ha hl.2.2.1, Aut.accB]
  simp [ha, hl]
end Go.Proofs.Ytglnelcmcimljaa

/-
  Plain laws: what simulations, unions, trimming and merging do to the language.
-/
namespace Go.Proofs.Ytglnelcmcimljaa
open Go
set_option linter.all false
set_option linter.unusedVariables false
set_option linter.unusedSimpArgs false
set_option linter.defProp false
set_option maxRecDepth 1000000

/- the greatest simulation is a preorder -/
theorem Great.refl {a : Aut} {R : Rl} (h : Great a R) {i : Nat} (hi : i < a.acc.length) : R i i = true := by
  refine h.upper (fun x y => decide (x = y)) ⟨?_, ?_⟩ i i hi hi (by simp)
  · intro x y _ _ hxy hx
    simp only [decide_eq_true_eq] at hxy
    subst hxy; exact hx
  · intro x y _ _ hxy l _ e he hx ho
    simp only [decide_eq_true_eq] at hxy
    subst hxy
    exact ⟨e, he, hx, ho, by simp⟩
theorem Great.trans {a : Aut} (ha : a.Ok) {R : Rl} (h : Great a R) {i j k : Nat} (hi : i < a.acc.length) (hj : j < a.acc.length) (hk : k < a.acc.length) (h1 : R i j = true) (h2 : R j k = true) : R i k = true := by
  refine h.upper (fun x z => @decide (∃ y, y < a.acc.length ∧ R x y = true ∧ R y z = true) (Classical.propDecidable _)) ⟨?_, ?_⟩ i k hi hk (by simpa using ⟨j, hj, h1, h2⟩)
  · intro x z hx hz hxz h3
    simp only [decide_eq_true_eq] at hxz
    obtain ⟨y, hy, h4, h5⟩ := hxz
    exact h.simu.1 y z hy hz h5 (h.simu.1 x y hx hy h4 h3)
  · intro x z hx hz hxz l hl e he h6 ho
    simp only [decide_eq_true_eq] at hxz
    obtain ⟨y, hy, h4, h5⟩ := hxz
    obtain ⟨f, hf, g1, g2, g3⟩ := h.simu.2 x y hx hy h4 l hl e he h6 ho
    obtain ⟨f', hf', k1, k2, k3⟩ := h.simu.2 y z hy hz h5 l hl f hf g1 g2
    obtain ⟨_, q, _, h8, _, h10⟩ := ha.tr hf
    refine ⟨f', hf', k1, k2, ?_⟩
    simp only [decide_eq_true_eq]
    exact ⟨f.to.toNat, by rw [h8]; simpa using h10, g3, k3⟩

def Letters (w : Nat → Int) : Prop := ∀ t, 0 ≤ w t ∧ w t ≤ 7
/-- a simulating state has all runs of a simulated one -/
theorem Simu.run {a : Aut} (ha : a.Ok) {R : Rl} (hR : Simu a R) {w : Nat → Int} (hw : Letters w) {t i j : Nat} (hi : i < a.acc.length) (hj : j < a.acc.length) (h : R i j = true) (k : Run a.acc a.edges w t i) : Run a.acc a.edges w t j := by
  refine Run.sim (fun x y => x < a.acc.length ∧ y < a.acc.length ∧ R x y = true) ?_ ?_ k ⟨hi, hj, h⟩
  · rintro t p q p' ⟨h1, h2, h3⟩ ⟨e, he, h4, h5, h6⟩ _
    have h7 := hw t
    obtain ⟨n, hn⟩ : ∃ n : Nat, w t = n := ⟨(w t).toNat, by omega⟩
    rw [hn] at h6 h7
    obtain ⟨f, hf, g1, g2, g3⟩ := hR.2 p p' h1 h2 h3 n (by omega) e he h4 h6
    obtain ⟨x, y, k1, k2, k3, k4⟩ := ha.tr he
    obtain ⟨x', y', k1', k2', k3', k4'⟩ := ha.tr hf
    refine ⟨y', ⟨f, hf, g1, k2', by rw [hn]; exact g2⟩, by omega, k4', ?_⟩
    rw [h5, k2'] at g3
    simpa using g3
  · rintro p p' ⟨h1, h2, h3⟩ h4
    exact hR.1 p p' h1 h2 h3 h4

/- unions -/
section
variable {a b : Aut}
end

/- trimming -/
theorem kidx_inj {K : Nat → Bool} {p q : Nat} (hp : K p = true) (hq : K q = true) (h : kidx K p = kidx K q) : p = q := by
  have lt : ∀ {p q : Nat}, K p = true → p < q → kidx K p < kidx K q := by
    intro p q hp hlt
    have h1 := kidx_succ (K := K) (q := p)
    rw [hp, if_pos rfl] at h1
    have h2 := kidx_mono (K := K) (show p + 1 ≤ q by omega)
    omega
  by_cases h1 : p < q
  · have := lt hp h1; omega
  by_cases h2 : q < p
  · have := lt hq h2; omega
  omega
theorem kept_at {K : Nat → Bool} {A : List Bool} : ∀ {n p : Nat}, p < n → K p = true → (((List.range n).filter K).map fun q => A.getD q false)[kidx K p]? = some (A.getD p false)
  | 0, p, h, _ => absurd h (Nat.not_lt_zero p)
  | n + 1, p, h, hK => by
    rw [List.range_succ, List.filter_append, List.map_append]
    by_cases hp : p = n
    · subst hp
      rw [List.getElem?_append_right (by simp [kidx])]
      simp [kidx, hK]
    · have h1 := kept_at (A := A) (show p < n by omega) hK
      rw [List.getElem?_append_left]
      · exact h1
      · obtain ⟨h2, _⟩ := List.getElem?_eq_some_iff.1 h1
        exact h2
section
variable {a : Aut} {K : Nat → Bool}
theorem kidx_pos {n p : Nat} (hp : p < n) (hK : K p = true) : kidx K n ≠ 0 := by
  have h1 := kidx_succ (K := K) (q := p)
  rw [hK, if_pos rfl] at h1
  have h2 := kidx_mono (K := K) (show p + 1 ≤ n by omega)
  omega
theorem keep_ini {s : Nat} (hs : s < a.acc.length) (hK : K s = true) (h : (s : Int) ∈ a.init) : ((kidx K s : Nat) : Int) ∈ (a.keep K).init := by
  rw [Aut.keep, if_neg (kidx_pos hs hK)]
  exact List.mem_map.2 ⟨s, List.mem_filter.2 ⟨h, by simpa using hK⟩, by simp [kout]⟩
theorem keep_ini' (ha : a.Ok) {x : Nat} (h : (x : Int) ∈ (a.keep K).init) : ∃ s : Nat, (s : Int) ∈ a.init ∧ K s = true ∧ x = kidx K s := by
  unfold Aut.keep at h
  split at h
  · simp at h
  · obtain ⟨i, hi, he⟩ := List.mem_map.1 h
    obtain ⟨h1, h2⟩ := List.mem_filter.1 hi
    have h3 := incr_mem ha.i _ h1
    exact ⟨i.toNat, by rw [Int.toNat_of_nonneg (by omega)]; exact h1, h2, by simp only [kout] at he; omega⟩
theorem keep_st {w : Nat → Int} {t p q : Nat} (hp : K p = true) (hq : K q = true) (hpn : p < a.acc.length) (h : StE a.edges w t p q) : StE (a.keep K).edges w t (kidx K p) (kidx K q) := by
  obtain ⟨e, he, h1, h2, h3⟩ := h
  rw [Aut.keep, if_neg (kidx_pos hpn hp)]
  exact ⟨_, List.mem_map.2 ⟨e, List.mem_filter.2 ⟨he, by simp [h1, h2, hp, hq]⟩, rfl⟩, by simp [Tr.ren, kout, h1], by simp [Tr.ren, kout, h2], h3⟩
theorem keep_st' (ha : a.Ok) {w : Nat → Int} {t p y : Nat} (hp : K p = true) (h : StE (a.keep K).edges w t (kidx K p) y) : ∃ q, K q = true ∧ q < a.acc.length ∧ y = kidx K q ∧ StE a.edges w t p q := by
  obtain ⟨e, he, h1, h2, h3⟩ := h
  unfold Aut.keep at he
  split at he
  · simp at he
  · obtain ⟨f, hf, rfl⟩ := List.mem_map.1 he
    obtain ⟨g1, g2⟩ := List.mem_filter.1 hf
    obtain ⟨x, z, k1, k2, k3, k4⟩ := ha.tr g1
    simp only [Tr.ren, kout, k1, k2, Int.toNat_natCast, Bool.and_eq_true] at h1 h2 g2
    have := kidx_inj g2.1 hp (by omega)
    subst this
    exact ⟨z, g2.2, k4, by omega, f, g1, k1, k2, h3⟩
theorem keep_tru {p : Nat} (hp : p < a.acc.length) (hK : K p = true) : tru (a.keep K).acc (kidx K p) ↔ tru a.acc p := by
  rw [Aut.keep, if_neg (kidx_pos hp hK)]
  unfold tru
  rw [List.getD_eq_getElem?_getD, kept_at hp hK]
  rfl
/-- trimming keeps the language -/
theorem trim_lang (ha : a.Ok) {w : Nat → Int} : a.trim.Lang w ↔ a.Lang w := by
  constructor
  · rintro ⟨x, hx, h⟩
    obtain ⟨s, h1, h2, rfl⟩ := keep_ini' ha hx
    refine ⟨s, h1, Run.sim (fun x p => a.tkeep p = true ∧ p < a.acc.length ∧ x = kidx a.tkeep p) ?_ ?_ h ⟨h2, ha.ini h1, rfl⟩⟩
    · rintro t x y p ⟨g1, g2, rfl⟩ g3 _
      obtain ⟨q, k1, k2, k3, k4⟩ := keep_st' ha g1 g3
      exact ⟨q, k4, k1, k2, k3⟩
    · rintro x p ⟨g1, g2, rfl⟩ g3
      exact (keep_tru g2 g1).1 g3
  · rintro ⟨s, hs, h⟩
    have hs' := ha.ini hs
    have hK : a.tkeep s = true := Aut.tkeep_iff.2 ⟨⟨s, hs, .refl _⟩, Run.live ha hs' h⟩
    refine ⟨_, keep_ini hs' hK hs, Run.sim (fun p x => a.tkeep p = true ∧ p < a.acc.length ∧ x = kidx a.tkeep p) ?_ ?_ h ⟨hK, hs', rfl⟩⟩
    · rintro t p q x ⟨g1, g2, rfl⟩ g3 g4
      have hq := (ha.st g3).2
      have hKq : a.tkeep q = true := by
        obtain ⟨⟨s', h1, h2⟩, _⟩ := Aut.tkeep_iff.1 g1
        obtain ⟨e, he, k1, k2, _⟩ := g3
        exact Aut.tkeep_iff.2 ⟨⟨s', h1, h2.snoc ⟨e, he, k1, k2⟩⟩, Run.live ha hq g4⟩
      exact ⟨_, keep_st g1 hKq g2 g3, hKq, hq, rfl⟩
    · rintro p x ⟨g1, g2, rfl⟩ g3
      exact (keep_tru g2 g1).2 g3
/-- in a trimmed automaton with more than nothing all states are reachable and live -/
theorem trim_all (ha : a.Ok) (h0 : kidx a.tkeep a.acc.length ≠ 0) {x : Nat} (hx : x < a.trim.acc.length) : a.trim.Reach x ∧ a.trim.Live x := by
  have hl := Aut.keep_len (a := a) h0
  have hx' : x < kidx a.tkeep a.acc.length := by rw [← hl]; exact hx
  -- x is the number of a state
  obtain ⟨p, hp, hK, rfl⟩ : ∃ p, p < a.acc.length ∧ a.tkeep p = true ∧ x = kidx a.tkeep p := by
    have : ∀ n, x < kidx a.tkeep n → ∃ p, p < n ∧ a.tkeep p = true ∧ x = kidx a.tkeep p := by
      intro n
      induction n with
      | zero => intro h; simp [kidx] at h
      | succ n ih =>
        intro h
        rw [kidx_succ] at h
        by_cases h1 : x < kidx a.tkeep n
        · obtain ⟨p, k1, k2, k3⟩ := ih h1
          exact ⟨p, by omega, k2, k3⟩
        · cases h2 : a.tkeep n with
          | false => rw [h2] at h; simp at h; omega
          | true => rw [h2] at h; simp at h; exact ⟨n, by omega, h2, by omega⟩
    exact this _ hx'
  have hE : ∀ {p q : Nat}, a.tkeep p = true → a.tkeep q = true → p < a.acc.length → a.E p q → a.trim.E (kidx a.tkeep p) (kidx a.tkeep q) := by
    rintro p q h1 h2 h3 ⟨e, he, h4, h5⟩
    show (a.keep a.tkeep).E _ _
    rw [Aut.keep, if_neg h0]
    exact ⟨_, List.mem_map.2 ⟨e, List.mem_filter.2 ⟨he, by simp [h4, h5, h1, h2]⟩, rfl⟩, by simp [Tr.ren, kout, h4], by simp [Tr.ren, kout, h5]⟩
  have hR : ∀ {p q : Nat}, Rch a.E p q → a.Reach p → a.Live q → p < a.acc.length → Rch a.trim.E (kidx a.tkeep p) (kidx a.tkeep q) ∧ a.Reach q ∧ a.Live p ∧ q < a.acc.length := by
    intro p q h
    induction h with
    | refl => intro h1 h2 h3; exact ⟨.refl _, h1, h2, h3⟩
    | step h k ih =>
      intro h1 h2 h3
      have h4 := (Aut.E_lt ha _ _ h).2
      obtain ⟨s, h5, h6⟩ := h1
      obtain ⟨k1, k2, k3, k4⟩ := ih ⟨s, h5, h6.snoc h⟩ h2 h4
      obtain ⟨t, h7, h8, h9⟩ := k3
      have h10 : a.Live _ := ⟨t, .step h h7, h8, h9⟩
      exact ⟨.step (hE (Aut.tkeep_iff.2 ⟨⟨s, h5, h6⟩, h10⟩) (Aut.tkeep_iff.2 ⟨⟨s, h5, h6.snoc h⟩, ⟨t, h7, h8, h9⟩⟩) h3 h) k1, k2, h10, k4⟩
  obtain ⟨⟨s, hs, hsr⟩, t, h1, ⟨u, h2, h3⟩, h4⟩ := Aut.tkeep_iff.1 hK
  have hlt : a.Live t := ⟨t, .refl _, ⟨u, h2, h3⟩, h4⟩
  have hlp : a.Live p := ⟨t, h1, ⟨u, h2, h3⟩, h4⟩
  obtain ⟨k1, k2, k3, k4⟩ := hR h1 ⟨s, hs, hsr⟩ hlt hp
  refine ⟨⟨kidx a.tkeep s, ?_, (hR hsr ⟨s, hs, .refl _⟩ hlp (ha.ini hs)).1⟩, kidx a.tkeep t, k1, ⟨kidx a.tkeep u, ?_, ?_⟩, ?_⟩
  · have := (hR hsr ⟨s, hs, .refl _⟩ hlp (ha.ini hs)).2.2.1
    exact keep_ini (ha.ini hs) (Aut.tkeep_iff.2 ⟨⟨s, hs, .refl _⟩, this⟩) hs
  · obtain ⟨s', h5, h6⟩ := k2
    have hu : a.Reach u := ⟨s', h5, h6.snoc h2⟩
    have hul := (hR h3 hu hlt (Aut.E_lt ha _ _ h2).2).2.2.1
    exact hE (Aut.tkeep_iff.2 ⟨⟨s', h5, h6⟩, hlt⟩) (Aut.tkeep_iff.2 ⟨hu, hul⟩) k4 h2
  · obtain ⟨s', h5, h6⟩ := k2
    exact (hR h3 ⟨s', h5, h6.snoc h2⟩ hlt (Aut.E_lt ha _ _ h2).2).1
  · exact (keep_tru k4 (Aut.tkeep_iff.2 ⟨k2, hlt⟩)).2 h4
theorem kidx_true {K : Nat → Bool} : ∀ {n : Nat}, (∀ x, x < n → K x = true) → kidx K n = n
  | 0, _ => by simp [kidx]
  | n + 1, h => by rw [kidx_succ, kidx_true (fun x hx => h x (by omega)), h n (by omega)]; simp
theorem kidx_false {K : Nat → Bool} : ∀ {n : Nat}, (∀ x, x < n → K x = false) → kidx K n = 0
  | 0, _ => by simp [kidx]
  | n + 1, h => by rw [kidx_succ, kidx_false (fun x hx => h x (by omega)), h n (by omega)]; simp
theorem trim_none (h0 : kidx a.tkeep a.acc.length = 0) : a.trim = ⟨[], [false], []⟩ := by
  rw [Aut.trim, Aut.keep, if_pos h0]
theorem trim_trim (ha : a.Ok) : a.trim.trim = a.trim := by
  by_cases h0 : kidx a.tkeep a.acc.length = 0
  · rw [trim_none h0]
    refine trim_none (kidx_false fun x _ => ?_)
    rw [Bool.eq_false_iff]
    intro h
    obtain ⟨⟨s, hs, _⟩, _⟩ := Aut.tkeep_iff.1 h
    simp at hs
  · exact Aut.keep_full (Aut.trim_ok ha) (kidx_true fun x hx => Aut.tkeep_iff.2 (trim_all ha h0 hx))
end
end Go.Proofs.Ytglnelcmcimljaa

/-
  Bodies of functions in the small language, as a program printed them, and that each is what the translation gives.
-/
namespace Go.Proofs.Ytglnelcmcimljaa
open Go
set_option linter.all false
set_option linter.defProp false
set_option maxRecDepth 1000000

end Go.Proofs.Ytglnelcmcimljaa

/-
  Bodies of functions in the small language, as a program printed them, and that each is what the translation gives.
-/
namespace Go.Proofs.Ytglnelcmcimljaa
open Go
set_option linter.all false
set_option linter.defProp false
set_option maxRecDepth 1000000

end Go.Proofs.Ytglnelcmcimljaa

/-
  The program's search for the greatest simulation.
-/
namespace Go.Proofs.Ytglnelcmcimljaa
open Go
set_option linter.all false
set_option linter.unusedVariables false
set_option linter.unusedSimpArgs false
set_option linter.defProp false
set_option maxRecDepth 1000000

end Go.Proofs.Ytglnelcmcimljaa

/-
  The union of two automata, by the program and by the reference.
-/
namespace Go.Proofs.Ytglnelcmcimljaa
open Go
set_option linter.all false
set_option linter.unusedVariables false
set_option linter.unusedSimpArgs false
set_option linter.defProp false
set_option maxRecDepth 1000000

/-- what a union gives back -/
def unitR (h : Heap) (a b : Aut) (u : Value) (h' : Heap) : Prop := ∃ v, u = .tuple #[v, .bool (decide (a.Ok ∧ b.Ok ∧ (a.unite b).Ok))] ∧ HS h [ow v (if a.Ok ∧ b.Ok ∧ (a.unite b).Ok then a.unite b else Aut.empty)] h'
theorem unitR.no {h h' : Heap} {a b : Aut} (hn : ¬ (a.Ok ∧ b.Ok ∧ (a.unite b).Ok)) (H : HS h [] h') : unitR h a b (.tuple #[.agg #[.slice none 0 0, .slice none 0 0, .slice none 0 0], .bool false]) h' :=
  ⟨_, by rw [decide_eq_false hn], by rw [if_neg hn]; exact empty_ow H⟩
theorem unitR.yes {h h' : Heap} {a b : Aut} {v : Value} (hn : a.Ok ∧ b.Ok ∧ (a.unite b).Ok) (H : HS h [ow v (a.unite b)] h') : unitR h a b (.tuple #[v, .bool true]) h' :=
  ⟨_, by rw [decide_eq_true hn], by rw [if_pos hn]; exact H⟩

end Go.Proofs.Ytglnelcmcimljaa

/-
  What the program makes of the greatest simulation: its rows, and whether one automaton is simulated by another.
-/
namespace Go.Proofs.Ytglnelcmcimljaa
open Go
set_option linter.all false
set_option linter.unusedVariables false
set_option linter.unusedSimpArgs false
set_option linter.defProp false
set_option maxRecDepth 1000000

/-- is each first state simulated by one of the other automaton's -/
def inclR (R : Rl) (a b : Aut) : Bool := a.init.all fun i => b.init.any fun j => R i.toNat (j.toNat + a.acc.length)
/-- what both programs answer -/
def InclA (a b : Aut) (r : Bool) : Prop := (¬ (a.Ok ∧ b.Ok ∧ (a.unite b).Ok) ∧ r = false) ∨ ((a.Ok ∧ b.Ok ∧ (a.unite b).Ok) ∧ ∃ R, Great (a.unite b) R ∧ r = inclR R a b)
theorem InclA.eq {a b : Aut} {r s : Bool} (h : InclA a b r) (h' : InclA a b s) : r = s := by
  rcases h with ⟨h1, rfl⟩ | ⟨h1, R, hR, rfl⟩
  · rcases h' with ⟨_, rfl⟩ | ⟨h2, _⟩
    · rfl
    · exact absurd h2 h1
  · rcases h' with ⟨h2, _⟩ | ⟨_, S, hS, rfl⟩
    · exact absurd h1 h2
    · obtain ⟨ha, hb, hc⟩ := h1
      have hl : (a.unite b).acc.length = a.acc.length + b.acc.length := by simp [Aut.unite]
      have : ∀ i ∈ a.init, ∀ j ∈ b.init, R i.toNat (j.toNat + a.acc.length) = S i.toNat (j.toNat + a.acc.length) := by
        intro i hi j hj
        have h1 := incr_mem ha.i i hi
        have h2 := incr_mem hb.i j hj
        exact hR.eq hS (by omega) (by omega)
      unfold inclR
      rw [Bool.eq_iff_iff, List.all_eq_true, List.all_eq_true]
      constructor <;> intro h i hi <;> have h3 := h i hi <;> rw [List.any_eq_true] at h3 ⊢ <;> obtain ⟨j, hj, h4⟩ := h3 <;> exact ⟨j, hj, by first | rw [this i hi j hj] at h4; exact h4 | rw [← this i hi j hj] at h4; exact h4⟩

end Go.Proofs.Ytglnelcmcimljaa

/-
  Plain laws: merging keeps the language and reduces; inclusion is sound; simplification.
-/
namespace Go.Proofs.Ytglnelcmcimljaa
open Go
set_option linter.all false
set_option linter.unusedVariables false
set_option linter.unusedSimpArgs false
set_option linter.defProp false
set_option maxRecDepth 1000000

/- numbers of classes -/
def cls (e : Nat → Nat → Bool) (n x : Nat) : Nat := (grpS e n).1.getD x 0
theorem gnm_cls {e : Nat → Nat → Bool} {n x : Nat} : gnm e n (x : Int) = (cls e n x : Int) := by simp [gnm, cls]
def Fresh (e : Nat → Nat → Bool) (r : Nat) : Prop := ∀ k, k < r → e r k = false
section
variable {e : Nat → Nat → Bool}
theorem grpS_mono {i n : Nat} (h : i ≤ n) : (grpS e i).2 ≤ (grpS e n).2 := by
  induction n with
  | zero => obtain rfl : i = 0 := by omega
            exact Nat.le_refl _
  | succ n ih =>
    by_cases hi : i = n + 1
    · subst hi; exact Nat.le_refl _
    · have := ih (by omega)
      cases hf : (List.range n).find? (fun k => e n k) with
      | some k => rw [grpS_old hf]; exact this
      | none => rw [grpS_new hf]; simp only; omega
theorem cls_new {n r : Nat} (hr : r < n) (hf : Fresh e r) : cls e n r = (grpS e r).2 := by
  have hn : (List.range r).find? (fun k => e r k) = none := find_none hf
  unfold cls
  rw [grpS_get (i := r + 1) (by omega) (by omega), grpS_new hn, List.getD_eq_getElem?_getD, List.getElem?_append_right (by rw [grpS_len]; exact Nat.le_refl _), grpS_len]
  simp
theorem cls_old {n q k : Nat} (hq : q < n) (hf : (List.range q).find? (fun k => e q k) = some k) : cls e n q = cls e n k := by
  have hk := find_lt hf
  unfold cls
  rw [grpS_get (i := q + 1) (n := n) (q := q) (by omega) (by omega), grpS_old hf, List.getD_eq_getElem?_getD, List.getElem?_append_right (by rw [grpS_len]; exact Nat.le_refl _), grpS_len,
    grpS_get (i := q) (n := n) (q := k) hk (by omega)]
  simp
theorem cls_lt {n x : Nat} (hx : x < n) : cls e n x < (grpS e n).2 := by
  have := gnm_lt (e := e) (n := n) (x := x) (by omega) (by omega)
  rw [gnm_cls] at this
  omega
theorem find_some {p : Nat → Bool} {i k : Nat} (h : (List.range i).find? p = some k) : p k = true := by
  have := List.find?_some h
  exact this
theorem find_fresh {r : Nat} (h : (List.range r).find? (fun k => e r k) = none) : Fresh e r := by
  intro k hk
  rw [List.find?_eq_none] at h
  have := h k (List.mem_range.2 hk)
  simpa using this
theorem cls_rep {n : Nat} (htr : ∀ x y z, x < n → y < n → z < n → e x y = true → e y z = true → e x z = true) : ∀ m q, q ≤ m → q < n → ∃ r, r < n ∧ (r = q ∨ e q r = true) ∧ cls e n r = cls e n q ∧ Fresh e r
  | m, q, hm, hq => by
    cases hf : (List.range q).find? (fun k => e q k) with
    | none => exact ⟨q, hq, .inl rfl, rfl, find_fresh hf⟩
    | some k =>
      have hk := find_lt hf
      have hek := find_some hf
      cases m with
      | zero => omega
      | succ m =>
        obtain ⟨r, h1, h2, h3, h4⟩ := cls_rep htr m k (by omega) (by omega)
        refine ⟨r, h1, .inr ?_, by rw [h3, cls_old hq hf], h4⟩
        rcases h2 with rfl | h2
        · exact hek
        · exact htr _ _ _ hq (by omega) h1 hek h2
theorem fresh_inj {n r s : Nat} (hr : r < n) (hs : s < n) (fr : Fresh e r) (fs : Fresh e s) (h : cls e n r = cls e n s) : r = s := by
  have lt : ∀ {r s : Nat}, r < n → s < n → Fresh e r → Fresh e s → r < s → cls e n r < cls e n s := by
    intro r s hr hs fr fs hlt
    rw [cls_new hs fs, cls_new hr fr]
    have h1 := grpS_new (e := e) (i := r) (find_none fr)
    have h2 := grpS_mono (e := e) (show r + 1 ≤ s by omega)
    rw [h1] at h2
    simp only at h2
    omega
  by_cases h1 : r < s
  · have := lt hr hs fr fs h1; omega
  by_cases h2 : s < r
  · have := lt hs hr fs fr h2; omega
  omega
theorem cls_same {n p q : Nat} (hsy : ∀ x y, x < n → y < n → e x y = true → e y x = true) (htr : ∀ x y z, x < n → y < n → z < n → e x y = true → e y z = true → e x z = true) (hp : p < n) (hq : q < n) :
    cls e n p = cls e n q ↔ p = q ∨ e p q = true := by
  obtain ⟨r, h1, h2, h3, h4⟩ := cls_rep htr p p (Nat.le_refl _) hp
  obtain ⟨s, g1, g2, g3, g4⟩ := cls_rep htr q q (Nat.le_refl _) hq
  constructor
  · intro h
    have hrs := fresh_inj h1 g1 h4 g4 (by rw [h3, g3, h])
    subst hrs
    rcases h2 with rfl | h2
    · rcases g2 with rfl | g2
      · exact .inl rfl
      · exact .inr (hsy _ _ hq hp g2)
    · rcases g2 with rfl | g2
      · exact .inr h2
      · exact .inr (htr _ _ _ hp h1 hq h2 (hsy _ _ hq h1 g2))
  · rintro (rfl | h)
    · rfl
    · have hrs : r = s := by
        have hers : r = s ∨ e r s = true := by
          rcases h2 with rfl | h2
          · rcases g2 with rfl | g2
            · exact .inr h
            · exact .inr (htr _ _ _ hp hq g1 h g2)
          · have h5 := htr _ _ _ h1 hp hq (hsy _ _ hp h1 h2) h
            rcases g2 with rfl | g2
            · exact .inr h5
            · exact .inr (htr _ _ _ h1 hq g1 h5 g2)
        rcases hers with h5 | h5
        · exact h5
        by_cases h6 : r < s
        · have := g4 r h6
          rw [hsy _ _ h1 g1 h5] at this
          simp at this
        by_cases h7 : s < r
        · have := h4 s h7
          rw [h5] at this
          simp at this
        omega
      rw [← h3, ← g3, hrs]
theorem accG_at {a : Aut} : ∀ {n r : Nat}, r < n → Fresh e r → (accG a e n).getD (grpS e r).2 false = a.acc.getD r false
  | 0, r, h, _ => absurd h (Nat.not_lt_zero r)
  | n + 1, r, h, hf => by
    have hl := accG_len (a := a) (e := e) n
    by_cases hr : r = n
    · subst hr
      unfold accG
      rw [find_none hf]
      simp only
      rw [List.getD_eq_getElem?_getD, List.getElem?_append_right (by omega), hl]
      simp
    · have ih := accG_at (a := a) (show r < n by omega) hf
      unfold accG
      split
      · exact ih
      · have h1 := grpS_new (e := e) (i := r) (find_none hf)
        have h2 := grpS_mono (e := e) (show r + 1 ≤ n by omega)
        rw [h1] at h2
        simp only at h2
        rw [List.getD_eq_getElem?_getD, List.getElem?_append_left (by omega), ← List.getD_eq_getElem?_getD]
        exact ih
end
section
variable {a : Aut} {R : Rl}
theorem eqv_iff {x y : Nat} : eqv R x y = true ↔ R x y = true ∧ R y x = true := by simp [eqv]
theorem eqv_sy {n : Nat} : ∀ x y, x < n → y < n → eqv R x y = true → eqv R y x = true := fun x y _ _ h => eqv_iff.2 (eqv_iff.1 h).symm
theorem eqv_tr (ha : a.Ok) (hR : Great a R) : ∀ x y z, x < a.acc.length → y < a.acc.length → z < a.acc.length → eqv R x y = true → eqv R y z = true → eqv R x z = true := fun x y z hx hy hz h k => by
  rw [eqv_iff] at *
  exact ⟨hR.trans ha hx hy hz h.1 k.1, hR.trans ha hz hy hx k.2 h.2⟩
theorem cls_R (ha : a.Ok) (hR : Great a R) {p q : Nat} (hp : p < a.acc.length) (hq : q < a.acc.length) (h : cls (eqv R) a.acc.length p = cls (eqv R) a.acc.length q) : R p q = true := by
  rcases (cls_same eqv_sy (eqv_tr ha hR) hp hq).1 h with rfl | h
  · exact hR.refl hp
  · exact (eqv_iff.1 h).1
theorem mrg_st {w : Nat → Int} {t p q : Nat} (h : StE a.edges w t p q) : StE (a.mergeE (eqv R)).edges w t (cls (eqv R) a.acc.length p) (cls (eqv R) a.acc.length q) := by
  obtain ⟨f, hf, h1, h2, h3⟩ := h
  exact ⟨_, ded_mem.2 (List.mem_map_of_mem hf), by simp only [Tr.ren, h1, gnm_cls], by simp only [Tr.ren, h2, gnm_cls], h3⟩
theorem mrg_st' (ha : a.Ok) {w : Nat → Int} {t x y : Nat} (h : StE (a.mergeE (eqv R)).edges w t x y) : ∃ p q, StE a.edges w t p q ∧ x = cls (eqv R) a.acc.length p ∧ y = cls (eqv R) a.acc.length q := by
  obtain ⟨f, hf, h1, h2, h3⟩ := h
  obtain ⟨g, hg, rfl⟩ := List.mem_map.1 (ded_mem.1 hf)
  obtain ⟨u, v, k1, k2, k3, k4⟩ := ha.tr hg
  simp only [Tr.ren, k1, k2, gnm_cls] at h1 h2
  exact ⟨u, v, ⟨g, hg, k1, k2, h3⟩, by omega, by omega⟩
theorem mrg_tru (ha : a.Ok) (hR : Great a R) {p : Nat} (hp : p < a.acc.length) : tru (a.mergeE (eqv R)).acc (cls (eqv R) a.acc.length p) ↔ tru a.acc p := by
  obtain ⟨r, h1, h2, h3, h4⟩ := cls_rep (eqv_tr ha hR) p p (Nat.le_refl _) hp
  have h5 := accG_at (a := a) h1 h4
  rw [← cls_new h1 h4, h3] at h5
  have e1 := cls_R ha hR hp h1 h3.symm
  have e2 := cls_R ha hR h1 hp h3
  show (accG a (eqv R) a.acc.length).getD _ false = true ↔ _
  rw [h5]
  exact ⟨fun h => hR.simu.1 r p h1 hp e2 h, fun h => hR.simu.1 p r hp h1 e1 h⟩
theorem mrg_ini (ha : a.Ok) {s : Nat} (h : (s : Int) ∈ a.init) : ((cls (eqv R) a.acc.length s : Nat) : Int) ∈ (a.mergeE (eqv R)).init := by
  refine memL_mem.2 ⟨_, rfl, cls_lt (ha.ini h), ?_⟩
  rw [List.any_eq_true]
  exact ⟨_, h, by rw [gnm_cls]; simp⟩
theorem mrg_ini' (ha : a.Ok) {x : Nat} (h : (x : Int) ∈ (a.mergeE (eqv R)).init) : ∃ s : Nat, (s : Int) ∈ a.init ∧ x = cls (eqv R) a.acc.length s := by
  obtain ⟨q, h1, h2, h3⟩ := memL_mem.1 h
  rw [List.any_eq_true] at h3
  obtain ⟨i, hi, h4⟩ := h3
  have h5 := incr_mem ha.i i hi
  obtain ⟨s, rfl⟩ : ∃ s : Nat, i = s := ⟨i.toNat, by omega⟩
  rw [gnm_cls, decide_eq_true_eq] at h4
  exact ⟨s, hi, by omega⟩
/-- merging keeps the language -/
theorem mergeE_lang (ha : a.Ok) (hR : Great a R) {w : Nat → Int} (hw : Letters w) : (a.mergeE (eqv R)).Lang w ↔ a.Lang w := by
  constructor
  · rintro ⟨x, hx, h⟩
    obtain ⟨s, h1, rfl⟩ := mrg_ini' ha hx
    have hs := ha.ini h1
    refine ⟨s, h1, Run.sim (fun x p => p < a.acc.length ∧ ∃ y, y < a.acc.length ∧ x = cls (eqv R) a.acc.length y ∧ R y p = true) ?_ ?_ h ⟨hs, s, hs, rfl, hR.refl hs⟩⟩
    · rintro t x x' p ⟨g1, y, g2, rfl, g3⟩ g4 _
      obtain ⟨u, v, ⟨e, he, k1, k2, k3⟩, k4, rfl⟩ := mrg_st' ha g4
      obtain ⟨u', v', m1, m2, m3, m4⟩ := ha.tr he
      obtain rfl : u' = u := by omega
      obtain rfl : v' = v := by omega
      have h5 := hR.trans ha m3 g2 g1 (cls_R ha hR m3 g2 k4.symm) g3
      have h6 := hw t
      obtain ⟨n, hn⟩ : ∃ n : Nat, w t = n := ⟨(w t).toNat, by omega⟩
      rw [hn] at k3
      obtain ⟨f, hf, n1, n2, n3⟩ := hR.simu.2 _ p m3 g1 h5 n (by omega) e he k1 k3
      obtain ⟨c, d, o1, o2, o3, o4⟩ := ha.tr hf
      rw [k2, o2, Int.toNat_natCast, Int.toNat_natCast] at n3
      exact ⟨d, ⟨f, hf, n1, o2, by rw [hn]; exact n2⟩, o4, _, m4, rfl, n3⟩
    · rintro x p ⟨g1, y, g2, rfl, g3⟩ g4
      exact hR.simu.1 y p g2 g1 g3 ((mrg_tru ha hR g2).1 g4)
  · rintro ⟨s, hs, h⟩
    refine ⟨_, mrg_ini ha hs, Run.sim (fun p x => p < a.acc.length ∧ x = cls (eqv R) a.acc.length p) ?_ ?_ h ⟨ha.ini hs, rfl⟩⟩
    · rintro t p q x ⟨g1, rfl⟩ g2 _
      exact ⟨_, mrg_st g2, (ha.st g2).2, rfl⟩
    · rintro p x ⟨g1, rfl⟩ g2
      exact (mrg_tru ha hR g1).2 g2
end
/-- there is a greatest simulation -/
theorem Great.ex {a : Aut} (ha : a.Ok) : ∃ R, Great a R := by
  refine ⟨fun i j => @decide (∃ S, Simu a S ∧ S i j = true) (Classical.propDecidable _), ⟨?_, ?_⟩, ?_⟩
  · intro i j hi hj h h1
    simp only [decide_eq_true_eq] at h
    obtain ⟨S, hS, h2⟩ := h
    exact hS.1 i j hi hj h2 h1
  · intro i j hi hj h
    simp only [decide_eq_true_eq] at h
    obtain ⟨S, hS, h2⟩ := h
    refine (hS.2 i j hi hj h2).mono ha fun x y _ _ hxy => ?_
    simp only [decide_eq_true_eq]
    exact ⟨S, hS, hxy⟩
  · intro S hS i j _ _ h
    simp only [decide_eq_true_eq]
    exact ⟨S, hS, h⟩
theorem mrg_lang {a : Aut} (ha : a.Ok) {w : Nat → Int} (hw : Letters w) : a.mrg.Lang w ↔ a.Lang w := by
  obtain ⟨R, hR⟩ := Great.ex ha
  rw [← Aut.mrg_eq hR]
  exact mergeE_lang ha hR hw
theorem rnd_lang {a : Aut} (ha : a.Ok) {w : Nat → Int} (hw : Letters w) : a.rnd.Lang w ↔ a.Lang w := (mrg_lang (Aut.trim_ok ha) hw).trans (trim_lang ha)
theorem SmpR.all {a r : Aut} (h : SmpR a r) : a.Ok → (∀ {w}, Letters w → (r.Lang w ↔ a.Lang w)) ∧ r.acc.length ≤ a.acc.length ∧ r.rnd = r := by
  induction h with
  | stop h => intro ha; exact ⟨fun _ => Iff.rfl, Nat.le_refl _, h⟩
  | more h _ ih =>
    intro ha
    obtain ⟨h1, h2, h3⟩ := ih (Aut.rnd_ok ha)
    have h4 := (Aut.mrg_len (Aut.trim_ok ha)).1
    have h5 := (Aut.trim_len ha).1
    exact ⟨fun hw => (h1 hw).trans (rnd_lang ha hw), Nat.le_trans h2 (Nat.le_trans h4 h5), h3⟩
section
variable {a b : Aut}
end
end Go.Proofs.Ytglnelcmcimljaa

/-
  The reference's search for the greatest simulation, and what it makes of it.
-/
namespace Go.Proofs.Ytglnelcmcimljaa
open Go
set_option linter.all false
set_option linter.unusedVariables false
set_option linter.unusedSimpArgs false
set_option linter.defProp false
set_option maxRecDepth 1000000

/-- the edges that leave a state -/
def leav (es : List Tr) (i : Nat) : List Tr := es.filter fun e => e.frm = (i : Int)
end Go.Proofs.Ytglnelcmcimljaa

/-
  The greatest simulation and inclusion, as functions of the package, by the reference.
-/
namespace Go.Proofs.Ytglnelcmcimljaa
open Go
set_option linter.all false
set_option linter.unusedVariables false
set_option linter.unusedSimpArgs false
set_option linter.defProp false
set_option maxRecDepth 1000000

end Go.Proofs.Ytglnelcmcimljaa

/-
  Bodies of functions in the small language, as a program printed them, and that each is what the translation gives.
-/
namespace Go.Proofs.Ytglnelcmcimljaa
open Go
set_option linter.all false
set_option linter.defProp false
set_option maxRecDepth 1000000

def H_impl_AutomatonSame : Hint := ⟨[(0, false), (1, false), (2, true), (3, true), (4, false)], []⟩
def K25_1 : Pl := .st (.act none (.px (some 23) (.pick (.v 17) (.v 22) (.c (.bool false))))) <|
    .st (.act none (.px (some 4) (.mv (.v 23)))) .done
@[simp] def W25_1 := @Pl.wpe _ _ K25_1.eq_1
def K25_2 : Pl := .st (.act none (.px (some 16) (.pick (.v 10) (.v 15) (.c (.bool false))))) <|
    .st (.act none (.px (some 17) (.mv (.v 16)))) <|
    .st (.act (some (.v 17, true)) (.als 18 none 2)) <|
    .st (.act (some (.v 17, true)) (.pget (some 19) (some 18) 2 2 none)) <|
    .st (.act (some (.v 17, true)) (.als 20 none 3)) <|
    .st (.act (some (.v 17, true)) (.pget (some 21) (some 20) 3 2 none)) <|
    .st (.act (some (.v 17, true)) (.ex (some 22) (.call fn_slices_Equal_S_impl_Transition_impl_Transition [.v 19, .v 21]))) K25_1
@[simp] def W25_2 := @Pl.wpe _ _ K25_2.eq_1
def K25_3 : Pl := .st (.act none (.px (some 10) (.mv (.v 9)))) <|
    .st (.act (some (.v 10, true)) (.als 11 none 2)) <|
    .st (.act (some (.v 10, true)) (.pget (some 12) (some 11) 2 1 none)) <|
    .st (.act (some (.v 10, true)) (.als 13 none 3)) <|
    .st (.act (some (.v 10, true)) (.pget (some 14) (some 13) 3 1 none)) <|
    .st (.act (some (.v 10, true)) (.ex (some 15) (.call fn_slices_Equal_S_bool_bool [.v 12, .v 14]))) K25_2
@[simp] def W25_3 := @Pl.wpe _ _ K25_3.eq_1
def K25_4 : C := .seq (.pl <| .st (.ext 5 19) <|
    .st (.act none (.als 5 none 2)) <|
    .st (.act none (.pget (some 6) (some 5) 2 0 none)) <|
    .st (.act none (.als 7 none 3)) <|
    .st (.act none (.pget (some 8) (some 7) 3 0 none)) <|
    .st (.act none (.ex (some 9) (.call fn_slices_Equal_S_int_int [.v 6, .v 8]))) K25_3) (.ret)
@[simp] def W25_4 := @C.wpe _ _ K25_4.eq_1
def B_impl_AutomatonSame : C := .seq (.pl <| .st (.ext 5 0) <|
    .st (.act none (.pnew 2 (.v 0) [])) <|
    .st (.act none (.pnew 3 (.v 1) [])) <|
    .st (.act none (.px (some 4) (.mv (.c (.bool false))))) .done) K25_4
@[simp] def WB_impl_AutomatonSame := @C.wpe _ _ B_impl_AutomatonSame.eq_1
def R_impl_AutomatonSame : FIR := ⟨B_impl_AutomatonSame, 5, [(4, none)]⟩
theorem IR_impl_AutomatonSame : cfun Try.prog H_impl_AutomatonSame Try.f25 = some R_impl_AutomatonSame := by kernel_rfl
theorem EN_impl_AutomatonSame {args : List Value} {h : Heap} {k : Value → Heap → Prop} (hargs : args.length = 2) (hw : B_impl_AutomatonSame.wp Try.prog (retQ [(4, none)] k) (env0 args 5) h) : CallE Try.prog fn_impl_AutomatonSame args h k := enter Try.func25 rfl IR_impl_AutomatonSame hargs hw

def H_slices_Equal_S_bool_bool : Hint := ⟨[(0, false), (1, false), (4, false), (5, false), (12, false), (13, false)], [[2, 3]]⟩
def K62_1 : C := .seq (.pl <| .st (.ext 6 0) <|
    .st (.act none (.px (some 2) (.mv (.c (.bool true))))) .done) (.ret)
@[simp] def W62_1 := @C.wpe _ _ K62_1.eq_1
def K62_2 : C := .pl <| .st (.ext 6 1) <|
    .st (.act none (.px (some 6) (.bin .add (.v 5) (.c (.int .i64 1))))) <|
    .st (.act none (.px (some 5) (.mv (.v 6)))) .done
@[simp] def W62_2 := @C.wpe _ _ K62_2.eq_1
def K62_3 : C := .seq (.pl <| .st (.ext 6 0) <|
    .st (.act none (.px (some 2) (.mv (.c (.bool false))))) .done) (.ret)
@[simp] def W62_3 := @C.wpe _ _ K62_3.eq_1
def K62_4 : C := .cond 6 (.v 14) K62_3 (.skip)
@[simp] def W62_4 := @C.wpe _ _ K62_4.eq_1
def K62_5 : C := .seq (.pl <| .st (.ext 6 9) <|
    .st (.act none (.px (some 6) (.mv (.v 0)))) <|
    .st (.act none (.px (some 7) (.mv (.v 3)))) <|
    .st (.act none (.px (some 8) (.ia 1 (.v 6) (.v 7)))) <|
    .st (.act none (.ld (some 9) (.v 8) none)) <|
    .st (.act none (.px (some 10) (.mv (.v 1)))) <|
    .st (.act none (.px (some 11) (.mv (.v 3)))) <|
    .st (.act none (.px (some 12) (.ia 1 (.v 10) (.v 11)))) <|
    .st (.act none (.ld (some 13) (.v 12) none)) <|
    .st (.act none (.px (some 14) (.eqb true (.v 9) (.v 13)))) .done) K62_4
@[simp] def W62_5 := @C.wpe _ _ K62_5.eq_1
def K62_6 : C := .seq (.block 1 (.seq (.pl <| .st (.ext 6 1) <|
    .st (.act none (.px (some 6) (.mv (.v 5)))) <|
    .st (.act none (.px (some 3) (.mv (.v 6)))) .done) K62_5)) K62_2
@[simp] def W62_6 := @C.wpe _ _ K62_6.eq_1
def K62_7 : C := .seq (.cond 6 (.v 6) (.skip) (.exit 0)) K62_6
@[simp] def W62_7 := @C.wpe _ _ K62_7.eq_1
def K62_8 : C := .seq (.pl <| .st (.ext 6 1) <|
    .st (.act none (.px (some 6) (.bin .lss (.v 5) (.v 4)))) .done) K62_7
@[simp] def W62_8 := @C.wpe _ _ K62_8.eq_1
def K62_9 : C := .block 0 (.loop 6 [2, 3] K62_8)
@[simp] def W62_9 := @C.wpe _ _ K62_9.eq_1
def K62_10 : C := .seq (.seq (.pl <| .st (.ext 6 1) <|
    .st (.act none (.px (some 6) (.mv (.v 0)))) <|
    .st (.act none (.px (some 4) (.lenV (.v 6)))) <|
    .st (.act none (.px (some 5) (.mv (.c (.int .i64 0))))) .done) K62_9) K62_1
@[simp] def W62_10 := @C.wpe _ _ K62_10.eq_1
def K62_11 : C := .seq (.pl <| .st (.ext 6 0) <|
    .st (.act none (.px (some 2) (.mv (.c (.bool false))))) .done) (.ret)
@[simp] def W62_11 := @C.wpe _ _ K62_11.eq_1
def K62_12 : C := .cond 6 (.v 10) K62_11 (.skip)
@[simp] def W62_12 := @C.wpe _ _ K62_12.eq_1
def K62_13 : C := .seq (.seq (.pl <| .st (.ext 6 5) <|
    .st (.act none (.px (some 6) (.mv (.v 0)))) <|
    .st (.act none (.px (some 7) (.lenV (.v 6)))) <|
    .st (.act none (.px (some 8) (.mv (.v 1)))) <|
    .st (.act none (.px (some 9) (.lenV (.v 8)))) <|
    .st (.act none (.px (some 10) (.bin .neq (.v 7) (.v 9)))) .done) K62_12) K62_10
@[simp] def W62_13 := @C.wpe _ _ K62_13.eq_1
def B_slices_Equal_S_bool_bool : C := .seq (.pl <| .st (.ext 6 0) <|
    .st (.act none (.px (some 2) (.mv (.c (.bool false))))) .done) K62_13
@[simp] def WB_slices_Equal_S_bool_bool := @C.wpe _ _ B_slices_Equal_S_bool_bool.eq_1
def R_slices_Equal_S_bool_bool : FIR := ⟨B_slices_Equal_S_bool_bool, 6, [(2, none)]⟩
theorem IR_slices_Equal_S_bool_bool : cfun Try.prog H_slices_Equal_S_bool_bool Try.f62 = some R_slices_Equal_S_bool_bool := by kernel_rfl
theorem EN_slices_Equal_S_bool_bool {args : List Value} {h : Heap} {k : Value → Heap → Prop} (hargs : args.length = 2) (hw : B_slices_Equal_S_bool_bool.wp Try.prog (retQ [(2, none)] k) (env0 args 6) h) : CallE Try.prog fn_slices_Equal_S_bool_bool args h k := enter Try.func62 rfl IR_slices_Equal_S_bool_bool hargs hw

def H_slices_Equal_S_impl_Transition_impl_Transition : Hint := ⟨[(0, false), (1, false), (4, false), (5, false), (12, false), (13, false)], [[2, 3]]⟩
def K63_1 : C := .seq (.pl <| .st (.ext 6 0) <|
    .st (.act none (.px (some 2) (.mv (.c (.bool true))))) .done) (.ret)
@[simp] def W63_1 := @C.wpe _ _ K63_1.eq_1
def K63_2 : C := .pl <| .st (.ext 6 1) <|
    .st (.act none (.px (some 6) (.bin .add (.v 5) (.c (.int .i64 1))))) <|
    .st (.act none (.px (some 5) (.mv (.v 6)))) .done
@[simp] def W63_2 := @C.wpe _ _ K63_2.eq_1
def K63_3 : C := .seq (.pl <| .st (.ext 6 0) <|
    .st (.act none (.px (some 2) (.mv (.c (.bool false))))) .done) (.ret)
@[simp] def W63_3 := @C.wpe _ _ K63_3.eq_1
def K63_4 : C := .cond 6 (.v 14) K63_3 (.skip)
@[simp] def W63_4 := @C.wpe _ _ K63_4.eq_1
def K63_5 : C := .seq (.pl <| .st (.ext 6 9) <|
    .st (.act none (.px (some 6) (.mv (.v 0)))) <|
    .st (.act none (.px (some 7) (.mv (.v 3)))) <|
    .st (.act none (.px (some 8) (.ia 4 (.v 6) (.v 7)))) <|
    .st (.act none (.ld (some 9) (.v 8) (some 4))) <|
    .st (.act none (.px (some 10) (.mv (.v 1)))) <|
    .st (.act none (.px (some 11) (.mv (.v 3)))) <|
    .st (.act none (.px (some 12) (.ia 4 (.v 10) (.v 11)))) <|
    .st (.act none (.ld (some 13) (.v 12) (some 4))) <|
    .st (.act none (.px (some 14) (.eqf true [.i, .i, .i, .i] (.v 9) (.v 13)))) .done) K63_4
@[simp] def W63_5 := @C.wpe _ _ K63_5.eq_1
def K63_6 : C := .seq (.block 1 (.seq (.pl <| .st (.ext 6 1) <|
    .st (.act none (.px (some 6) (.mv (.v 5)))) <|
    .st (.act none (.px (some 3) (.mv (.v 6)))) .done) K63_5)) K63_2
@[simp] def W63_6 := @C.wpe _ _ K63_6.eq_1
def K63_7 : C := .seq (.cond 6 (.v 6) (.skip) (.exit 0)) K63_6
@[simp] def W63_7 := @C.wpe _ _ K63_7.eq_1
def K63_8 : C := .seq (.pl <| .st (.ext 6 1) <|
    .st (.act none (.px (some 6) (.bin .lss (.v 5) (.v 4)))) .done) K63_7
@[simp] def W63_8 := @C.wpe _ _ K63_8.eq_1
def K63_9 : C := .block 0 (.loop 6 [2, 3] K63_8)
@[simp] def W63_9 := @C.wpe _ _ K63_9.eq_1
def K63_10 : C := .seq (.seq (.pl <| .st (.ext 6 1) <|
    .st (.act none (.px (some 6) (.mv (.v 0)))) <|
    .st (.act none (.px (some 4) (.lenV (.v 6)))) <|
    .st (.act none (.px (some 5) (.mv (.c (.int .i64 0))))) .done) K63_9) K63_1
@[simp] def W63_10 := @C.wpe _ _ K63_10.eq_1
def K63_11 : C := .seq (.pl <| .st (.ext 6 0) <|
    .st (.act none (.px (some 2) (.mv (.c (.bool false))))) .done) (.ret)
@[simp] def W63_11 := @C.wpe _ _ K63_11.eq_1
def K63_12 : C := .cond 6 (.v 10) K63_11 (.skip)
@[simp] def W63_12 := @C.wpe _ _ K63_12.eq_1
def K63_13 : C := .seq (.seq (.pl <| .st (.ext 6 5) <|
    .st (.act none (.px (some 6) (.mv (.v 0)))) <|
    .st (.act none (.px (some 7) (.lenV (.v 6)))) <|
    .st (.act none (.px (some 8) (.mv (.v 1)))) <|
    .st (.act none (.px (some 9) (.lenV (.v 8)))) <|
    .st (.act none (.px (some 10) (.bin .neq (.v 7) (.v 9)))) .done) K63_12) K63_10
@[simp] def W63_13 := @C.wpe _ _ K63_13.eq_1
def B_slices_Equal_S_impl_Transition_impl_Transition : C := .seq (.pl <| .st (.ext 6 0) <|
    .st (.act none (.px (some 2) (.mv (.c (.bool false))))) .done) K63_13
@[simp] def WB_slices_Equal_S_impl_Transition_impl_Transition := @C.wpe _ _ B_slices_Equal_S_impl_Transition_impl_Transition.eq_1
def R_slices_Equal_S_impl_Transition_impl_Transition : FIR := ⟨B_slices_Equal_S_impl_Transition_impl_Transition, 6, [(2, none)]⟩
theorem IR_slices_Equal_S_impl_Transition_impl_Transition : cfun Try.prog H_slices_Equal_S_impl_Transition_impl_Transition Try.f63 = some R_slices_Equal_S_impl_Transition_impl_Transition := by kernel_rfl
theorem EN_slices_Equal_S_impl_Transition_impl_Transition {args : List Value} {h : Heap} {k : Value → Heap → Prop} (hargs : args.length = 2) (hw : B_slices_Equal_S_impl_Transition_impl_Transition.wp Try.prog (retQ [(2, none)] k) (env0 args 6) h) : CallE Try.prog fn_slices_Equal_S_impl_Transition_impl_Transition args h k := enter Try.func63 rfl IR_slices_Equal_S_impl_Transition_impl_Transition hargs hw

def H_slices_Equal_S_int_int : Hint := ⟨[(0, false), (1, false), (4, false), (5, false), (12, false), (13, false)], [[2, 3]]⟩
def K61_1 : C := .seq (.pl <| .st (.ext 6 0) <|
    .st (.act none (.px (some 2) (.mv (.c (.bool true))))) .done) (.ret)
@[simp] def W61_1 := @C.wpe _ _ K61_1.eq_1
def K61_2 : C := .pl <| .st (.ext 6 1) <|
    .st (.act none (.px (some 6) (.bin .add (.v 5) (.c (.int .i64 1))))) <|
    .st (.act none (.px (some 5) (.mv (.v 6)))) .done
@[simp] def W61_2 := @C.wpe _ _ K61_2.eq_1
def K61_3 : C := .seq (.pl <| .st (.ext 6 0) <|
    .st (.act none (.px (some 2) (.mv (.c (.bool false))))) .done) (.ret)
@[simp] def W61_3 := @C.wpe _ _ K61_3.eq_1
def K61_4 : C := .cond 6 (.v 14) K61_3 (.skip)
@[simp] def W61_4 := @C.wpe _ _ K61_4.eq_1
def K61_5 : C := .seq (.pl <| .st (.ext 6 9) <|
    .st (.act none (.px (some 6) (.mv (.v 0)))) <|
    .st (.act none (.px (some 7) (.mv (.v 3)))) <|
    .st (.act none (.px (some 8) (.ia 1 (.v 6) (.v 7)))) <|
    .st (.act none (.ld (some 9) (.v 8) none)) <|
    .st (.act none (.px (some 10) (.mv (.v 1)))) <|
    .st (.act none (.px (some 11) (.mv (.v 3)))) <|
    .st (.act none (.px (some 12) (.ia 1 (.v 10) (.v 11)))) <|
    .st (.act none (.ld (some 13) (.v 12) none)) <|
    .st (.act none (.px (some 14) (.bin .neq (.v 9) (.v 13)))) .done) K61_4
@[simp] def W61_5 := @C.wpe _ _ K61_5.eq_1
def K61_6 : C := .seq (.block 1 (.seq (.pl <| .st (.ext 6 1) <|
    .st (.act none (.px (some 6) (.mv (.v 5)))) <|
    .st (.act none (.px (some 3) (.mv (.v 6)))) .done) K61_5)) K61_2
@[simp] def W61_6 := @C.wpe _ _ K61_6.eq_1
def K61_7 : C := .seq (.cond 6 (.v 6) (.skip) (.exit 0)) K61_6
@[simp] def W61_7 := @C.wpe _ _ K61_7.eq_1
def K61_8 : C := .seq (.pl <| .st (.ext 6 1) <|
    .st (.act none (.px (some 6) (.bin .lss (.v 5) (.v 4)))) .done) K61_7
@[simp] def W61_8 := @C.wpe _ _ K61_8.eq_1
def K61_9 : C := .block 0 (.loop 6 [2, 3] K61_8)
@[simp] def W61_9 := @C.wpe _ _ K61_9.eq_1
def K61_10 : C := .seq (.seq (.pl <| .st (.ext 6 1) <|
    .st (.act none (.px (some 6) (.mv (.v 0)))) <|
    .st (.act none (.px (some 4) (.lenV (.v 6)))) <|
    .st (.act none (.px (some 5) (.mv (.c (.int .i64 0))))) .done) K61_9) K61_1
@[simp] def W61_10 := @C.wpe _ _ K61_10.eq_1
def K61_11 : C := .seq (.pl <| .st (.ext 6 0) <|
    .st (.act none (.px (some 2) (.mv (.c (.bool false))))) .done) (.ret)
@[simp] def W61_11 := @C.wpe _ _ K61_11.eq_1
def K61_12 : C := .cond 6 (.v 10) K61_11 (.skip)
@[simp] def W61_12 := @C.wpe _ _ K61_12.eq_1
def K61_13 : C := .seq (.seq (.pl <| .st (.ext 6 5) <|
    .st (.act none (.px (some 6) (.mv (.v 0)))) <|
    .st (.act none (.px (some 7) (.lenV (.v 6)))) <|
    .st (.act none (.px (some 8) (.mv (.v 1)))) <|
    .st (.act none (.px (some 9) (.lenV (.v 8)))) <|
    .st (.act none (.px (some 10) (.bin .neq (.v 7) (.v 9)))) .done) K61_12) K61_10
@[simp] def W61_13 := @C.wpe _ _ K61_13.eq_1
def B_slices_Equal_S_int_int : C := .seq (.pl <| .st (.ext 6 0) <|
    .st (.act none (.px (some 2) (.mv (.c (.bool false))))) .done) K61_13
@[simp] def WB_slices_Equal_S_int_int := @C.wpe _ _ B_slices_Equal_S_int_int.eq_1
def R_slices_Equal_S_int_int : FIR := ⟨B_slices_Equal_S_int_int, 6, [(2, none)]⟩
theorem IR_slices_Equal_S_int_int : cfun Try.prog H_slices_Equal_S_int_int Try.f61 = some R_slices_Equal_S_int_int := by kernel_rfl
theorem EN_slices_Equal_S_int_int {args : List Value} {h : Heap} {k : Value → Heap → Prop} (hargs : args.length = 2) (hw : B_slices_Equal_S_int_int.wp Try.prog (retQ [(2, none)] k) (env0 args 6) h) : CallE Try.prog fn_slices_Equal_S_int_int args h k := enter Try.func61 rfl IR_slices_Equal_S_int_int hargs hw


end Go.Proofs.Ytglnelcmcimljaa

/-
  Contracts of the library's own functions, laid at this program in plain words (printed by the shelf's tools).
-/
namespace Go.Proofs.Ytglnelcmcimljaa
open Go Go.Shelf
set_option linter.all false
set_option maxRecDepth 1000000
def sh_lays189_ren : Ren := ⟨fun | 189 => 118 | 125 => 156 | 257 => 155 | 128 => 187 | 129 => 188 | 294 => 178 | 295 => 179 | 296 => 180 | 297 => 181 | 298 => 182 | 299 => 183 | 216 => 184 | 300 => 185 | 301 => 186 | 328 => 200 | 329 => 201 | 330 => 202 | 331 => 203 | 332 => 204 | 215 => 205 | 343 => 206 | n => n, fun | 28 => 23 | 3 => 3 | 46 => 149 | 0 => 0 | 51 => 184 | 53 => 72 | 4 => 4 | 183 => 178 | 182 => 177 | 131 => 152 | 5 => 5 | 9 => 9 | 218 => 188 | 222 => 192 | 228 => 194 | 229 => 154 | n => n, fun | n => n⟩
def sh_laysNm220_ren : Ren := ⟨fun | 20 => 119 | n => n, fun | 22 => 23 | 3 => 3 | 4 => 4 | 0 => 0 | n => n, fun | n => n⟩
end Go.Proofs.Ytglnelcmcimljaa

/-
  The library's sort of numbers, and the fall of equal neighbours, as contracts over a partial memory.
-/
namespace Go.Proofs.Ytglnelcmcimljaa
open Go
set_option linter.all false
set_option linter.unusedVariables false
set_option linter.unusedSimpArgs false
set_option linter.defProp false
set_option maxRecDepth 1000000

theorem encI (l : List Int) : encL l = l.map (Value.int .i64) := by
  induction l with
  | nil => rfl
  | cons x l ih => rw [encL_cons, ih]; rfl

open Go.Sort in
/-- where a row of a slice's own is written over -/
theorem row_put {g g' : Heap} {Γ : List HP} {b off cap : Nat} {cells : List Value} {el : TypeId} {l d : List Int} {m n : Nat} {os : Array Obj} {w : World} (d1 : g' b = none) (H : HS g Γ g') (h1 : l.length ≤ cap ∧ l.length < 4611686018427387904) (h2 : off + cap ≤ cells.length)
    (hw : (g'.add (Heap.one b (.cells cells.toArray el (0, 0)))).sub w) (hd : d.length = l.length) (hm : m ≤ d.length) (hok : ∀ x ∈ d.take m, Flat.ok x) :
    ∃ h', HS g (ow (.slice (some ⟨b, off, none⟩) m cap) (d.take m) :: Γ) h' ∧ h'.sub (grow (putRow (Value.int .i64) (Sort.ahead w n) b off d.toArray) os) ∧ Frm (g'.add (Heap.one b (.cells cells.toArray el (0, 0)))) w h' (grow (putRow (Value.int .i64) (Sort.ahead w n) b off d.toArray) os) := by
  have hb : w.heap[b]? = some (.cells cells.toArray el (0, 0)) := hw b _ (by simp [Heap.add, Heap.one, d1])
  have hbs : b < w.heap.size := (Array.getElem?_eq_some_iff.1 hb).1
  have hold : ∀ x, x < w.heap.size → (grow (putRow (Value.int .i64) (Sort.ahead w n) b off d.toArray) os).heap[x]? = if x = b then some (.cells (putCells (Value.int .i64) off d.toArray cells.toArray) el (0, 0)) else w.heap[x]? := by
    intro x hx
    rw [heap_grow_old _ _ (by simpa [putRow, mapBlock, Sort.ahead] using hx)]
    simp only [putRow, mapBlock, Sort.ahead, Array.getElem?_modify]
    by_cases e : b = x
    · subst e; simp [hb, onCells]
    · simp [e, Ne.symm e]
  have hpt : (putCells (Value.int .i64) off d.toArray cells.toArray).toList.length = cells.length := by simp [putCells]
  refine ⟨g'.add (Heap.one b (.cells (putCells (Value.int .i64) off d.toArray cells.toArray).toList.toArray el (0, 0))), ⟨g', _, rfl, Dj_one.2 d1, ?_, H⟩, ?_, ?_⟩
  · have hlm : (d.take m).length = m := by simp; omega
    refine Own_list.2 (.inr ⟨b, off, cap, _, el, Heap.nil, by rw [hlm], ⟨by omega, by omega⟩, by rw [hpt]; show off + cap * 1 ≤ _; omega, by simp, rfl, ?_⟩)
    refine ownL_congr (ownL_enc hok) ?_
    rw [encI, hlm]
    show List.take (m * 1) _ = List.take (m * 1) _
    rw [List.take_of_length_le (l := List.map (Value.int .i64) (d.take m)) (by simp; omega)]
    apply List.ext_getElem?
    intro j
    by_cases hj : j < m
    · have hjd : j < d.length := by omega
      have hjc : off + j < cells.length := by omega
      have key : (putCells (Value.int .i64) off d.toArray cells.toArray).toList[off + j]? = some (.int .i64 d[j]) := by
        rw [Array.getElem?_toList, putCells, Array.getElem?_mapIdx]
        simp [hjc, hjd]
      rw [Nat.mul_one, List.getElem?_take_of_lt hj, List.getElem?_drop, key, List.getElem?_map, List.getElem?_take_of_lt hj, List.getElem?_eq_getElem hjd]
      rfl
    · have e1 : (List.map (Value.int .i64) (List.take m d))[j]? = none := List.getElem?_eq_none (by simp; omega)
      have e2 : (List.take (m * 1) (List.drop off (putCells (Value.int .i64) off d.toArray cells.toArray).toList))[j]? = none := List.getElem?_eq_none (by simp; omega)
      rw [e1, e2]
  · intro x o hx
    by_cases e : x = b
    · subst e
      rw [hold x hbs, if_pos rfl]
      simp only [Heap.add, Heap.one, d1, if_true] at hx
      simpa using hx
    · have hx2 : g' x = some o := by
        simp only [Heap.add, Heap.one, if_neg e] at hx
        cases hg : g' x with
        | none => rw [hg] at hx; simp at hx
        | some o' => rw [hg] at hx; simpa using hx
      have hwx : w.heap[x]? = some o := hw x o (by simp [Heap.add, Heap.one, e, hx2])
      have hxs : x < w.heap.size := (Array.getElem?_eq_some_iff.1 hwx).1
      rw [hold x hxs, if_neg e]; exact hwx
  · refine ⟨rfl, rfl, rfl, by simp [grow, putRow, mapBlock, Sort.ahead], fun x hx hn => ?_, fun x hx hn => ?_⟩
    · have e : x ≠ b := by
        intro e
        subst e
        simp [Heap.add, Heap.one, d1] at hn
      rw [hold x hx, if_neg e]
    · have e : x ≠ b := by
        intro e
        subst e
        simp [Heap.add, Heap.one, d1] at hn
      simp only [Heap.add, Heap.one, if_neg e] at hn ⊢
      exact hn

end Go.Proofs.Ytglnelcmcimljaa

/-
  Merging of states that simulate each other, by the program.
-/
namespace Go.Proofs.Ytglnelcmcimljaa
open Go
set_option linter.all false
set_option linter.unusedVariables false
set_option linter.unusedSimpArgs false
set_option linter.defProp false
set_option maxRecDepth 1000000

def zl (l : List Nat) : List Int := l.map fun (x : Nat) => (x : Int)
@[simp] theorem zl_len {l : List Nat} : (zl l).length = l.length := by simp [zl]
end Go.Proofs.Ytglnelcmcimljaa

/-
  Bodies of functions in the small language, as a program printed them, and that each is what the translation gives.
-/
namespace Go.Proofs.Ytglnelcmcimljaa
open Go
set_option linter.all false
set_option linter.defProp false
set_option maxRecDepth 1000000

end Go.Proofs.Ytglnelcmcimljaa

/-
  A number is put into an ascending list; what is given back as a pair.
-/
namespace Go.Proofs.Ytglnelcmcimljaa
open Go
set_option linter.all false
set_option linter.unusedVariables false
set_option linter.unusedSimpArgs false
set_option linter.defProp false
set_option maxRecDepth 1000000

/-- what is given back: a pair of a piece of data and a truth value -/
def R2 {α : Type} [Ty α] (b : Bool) (y : α) (h : Heap) (u : Value) (h' : Heap) : Prop := ∃ v, u = .tuple #[v, .bool b] ∧ HS h [ow v y] h'
end Go.Proofs.Ytglnelcmcimljaa

/-
  Merging, by the program and by the reference.
-/
namespace Go.Proofs.Ytglnelcmcimljaa
open Go
set_option linter.all false
set_option linter.unusedVariables false
set_option linter.unusedSimpArgs false
set_option linter.defProp false
set_option maxRecDepth 1000000

end Go.Proofs.Ytglnelcmcimljaa

/-
  Merging by the reference; both as functions of the package.
-/
namespace Go.Proofs.Ytglnelcmcimljaa
open Go
set_option linter.all false
set_option linter.unusedVariables false
set_option linter.unusedSimpArgs false
set_option linter.defProp false
set_option maxRecDepth 1000000

end Go.Proofs.Ytglnelcmcimljaa

/-
  Equality of automata; trimming and merging until nothing changes.
-/
namespace Go.Proofs.Ytglnelcmcimljaa
open Go
set_option linter.all false
set_option linter.unusedVariables false
set_option linter.unusedSimpArgs false
set_option linter.defProp false
set_option maxRecDepth 1000000

theorem c_Equal_int {h : Heap} {a b : Value} {x y : List Int} (Ra : Rep h a x) (Rb : Rep h b y) : CallE Try.prog fn_slices_Equal_S_int_int [a, b] h (fun u h' => h' = h ∧ u = .bool (decide (x = y))) := by
  have hL := Ra.lt
  refine CallE.gen fun k hk => EN_slices_Equal_S_int_int rfl ?_
  by_cases hl : (x.length : Int) = y.length
  case neg =>
    simp -implicitDefEqProofs (disch := first | omega | (simp only [LnZ]; omega)) [wrap64, Ra.len, Rb.len, hl]
    exact RetK.keep (hk _ _ ⟨rfl, by congr 1; rw [eq_comm, decide_eq_false_iff_not]; intro e; subst e; exact hl rfl⟩)
  simp -implicitDefEqProofs (disch := first | omega | (simp only [LnZ]; omega)) [wrap64, Ra.len, Rb.len, hl]
  refine wp_count x.length (fun i e h' => e = [some a, some b, none, none, some (.int .i64 x.length), some (.int .i64 i)] ∧ h' = h ∧ x.take i = y.take i) ⟨by simp [hl], rfl, rfl⟩ ?_
  rintro J i _ h1 hJ hi ⟨rfl, rfl, hq⟩
  simp -implicitDefEqProofs (disch := first | omega | (simp only [LnZ]; omega)) [wrap64]
  refine IteW.mk (fun hlt => ?_) (fun hge => ?_)
  · have hlx : i < x.length := by omega
    have hly : i < y.length := by omega
    by_cases he : x[i] = y[i]
    · simp -implicitDefEqProofs (disch := first | omega | (simp only [LnZ]; omega)) [wrap64, Ra.I, Rb.I, he]
      exact hJ _ _ hlx ⟨rfl, rfl, take_step hq hlx hly he⟩
    · simp -implicitDefEqProofs (disch := first | omega | (simp only [LnZ]; omega)) [wrap64, Ra.I, Rb.I, he]
      exact RetK.keep (hk _ _ ⟨rfl, by congr 1; rw [eq_comm, decide_eq_false_iff_not]; intro e; subst e; exact he rfl⟩)
  · simp -implicitDefEqProofs (disch := first | omega | (simp only [LnZ]; omega)) [wrap64]
    rw [List.take_of_length_le (by omega), List.take_of_length_le (by omega)] at hq
    exact RetK.keep (hk _ _ ⟨rfl, by simp [hq]⟩)
theorem c_Equal_bool {h : Heap} {a b : Value} {x y : List Bool} (Ra : Rep h a x) (Rb : Rep h b y) : CallE Try.prog fn_slices_Equal_S_bool_bool [a, b] h (fun u h' => h' = h ∧ u = .bool (decide (x = y))) := by
  have hL := Ra.lt
  refine CallE.gen fun k hk => EN_slices_Equal_S_bool_bool rfl ?_
  by_cases hl : (x.length : Int) = y.length
  case neg =>
    simp -implicitDefEqProofs (disch := first | omega | (simp only [LnZ]; omega)) [wrap64, Ra.len, Rb.len, hl]
    exact RetK.keep (hk _ _ ⟨rfl, by congr 1; rw [eq_comm, decide_eq_false_iff_not]; intro e; subst e; exact hl rfl⟩)
  simp -implicitDefEqProofs (disch := first | omega | (simp only [LnZ]; omega)) [wrap64, Ra.len, Rb.len, hl]
  refine wp_count x.length (fun i e h' => e = [some a, some b, none, none, some (.int .i64 x.length), some (.int .i64 i)] ∧ h' = h ∧ x.take i = y.take i) ⟨by simp [hl], rfl, rfl⟩ ?_
  rintro J i _ h1 hJ hi ⟨rfl, rfl, hq⟩
  simp -implicitDefEqProofs (disch := first | omega | (simp only [LnZ]; omega)) [wrap64]
  refine IteW.mk (fun hlt => ?_) (fun hge => ?_)
  · have hlx : i < x.length := by omega
    have hly : i < y.length := by omega
    by_cases he : x[i] = y[i]
    · simp -implicitDefEqProofs (disch := first | omega | (simp only [LnZ]; omega)) [wrap64, Ra.B, Rb.B, he]
      exact hJ _ _ hlx ⟨rfl, rfl, take_step hq hlx hly he⟩
    · simp -implicitDefEqProofs (disch := first | omega | (simp only [LnZ]; omega)) [wrap64, Ra.B, Rb.B, he]
      exact RetK.keep (hk _ _ ⟨rfl, by congr 1; rw [eq_comm, decide_eq_false_iff_not]; intro e; subst e; exact he rfl⟩)
  · simp -implicitDefEqProofs (disch := first | omega | (simp only [LnZ]; omega)) [wrap64]
    rw [List.take_of_length_le (by omega), List.take_of_length_le (by omega)] at hq
    exact RetK.keep (hk _ _ ⟨rfl, by simp [hq]⟩)
theorem c_Equal_Tr {h : Heap} {a b : Value} {x y : List Tr} (Ra : Rep h a x) (Rb : Rep h b y) : CallE Try.prog fn_slices_Equal_S_impl_Transition_impl_Transition [a, b] h (fun u h' => h' = h ∧ u = .bool (decide (x = y))) := by
  have hL := Ra.lt
  refine CallE.gen fun k hk => EN_slices_Equal_S_impl_Transition_impl_Transition rfl ?_
  by_cases hl : (x.length : Int) = y.length
  case neg =>
    simp -implicitDefEqProofs (disch := first | omega | (simp only [LnZ]; omega)) [wrap64, Ra.len, Rb.len, hl]
    exact RetK.keep (hk _ _ ⟨rfl, by congr 1; rw [eq_comm, decide_eq_false_iff_not]; intro e; subst e; exact hl rfl⟩)
  simp -implicitDefEqProofs (disch := first | omega | (simp only [LnZ]; omega)) [wrap64, Ra.len, Rb.len, hl]
  refine wp_count x.length (fun i e h' => e = [some a, some b, none, none, some (.int .i64 x.length), some (.int .i64 i)] ∧ h' = h ∧ x.take i = y.take i) ⟨by simp [hl], rfl, rfl⟩ ?_
  rintro J i _ h1 hJ hi ⟨rfl, rfl, hq⟩
  simp -implicitDefEqProofs (disch := first | omega | (simp only [LnZ]; omega)) [wrap64]
  refine IteW.mk (fun hlt => ?_) (fun hge => ?_)
  · have hlx : i < x.length := by omega
    have hly : i < y.length := by omega
    by_cases he : x[i] = y[i]
    · simp -implicitDefEqProofs (disch := first | omega | (simp only [LnZ]; omega)) [wrap64, Ra.xTr, Rb.xTr, Tr.v, he]
      exact hJ _ _ hlx ⟨rfl, rfl, take_step hq hlx hly he⟩
    · have he2 := he
      rw [Tr.ext_iff'] at he2
      simp -implicitDefEqProofs (disch := first | omega | (simp only [LnZ]; omega)) [wrap64, Ra.xTr, Rb.xTr, Tr.v]
      refine IteW.mk (fun _ => ?_) (fun hh => absurd ?_ he2)
      · simp -implicitDefEqProofs (disch := first | omega | (simp only [LnZ]; omega)) [wrap64]
        exact RetK.keep (hk _ _ ⟨rfl, by congr 1; rw [eq_comm, decide_eq_false_iff_not]; intro e; subst e; exact he rfl⟩)
      · simpa [Classical.not_imp] using hh
  · simp -implicitDefEqProofs (disch := first | omega | (simp only [LnZ]; omega)) [wrap64]
    rw [List.take_of_length_le (by omega), List.take_of_length_le (by omega)] at hq
    exact RetK.keep (hk _ _ ⟨rfl, by simp [hq]⟩)
theorem c_AutomatonSame {h : Heap} {v w : Value} {a b : Aut} (Ra : Rep h v a) (Rb : Rep h w b) : CallE Try.prog fn_impl_AutomatonSame [v, w] h (fun u h' => h' = h ∧ u = .bool (decide (a = b))) := by
  obtain ⟨v1, v2, v3, rfl, R1, R2, R3⟩ := Rep_Aut.1 Ra
  obtain ⟨w1, w2, w3, rfl, S1, S2, S3⟩ := Rep_Aut.1 Rb
  refine CallE.gen fun k hk => EN_impl_AutomatonSame rfl ?_
  have hno : ¬ a = b → k (.bool false) h := fun hn => hk _ _ ⟨rfl, by simp [hn]⟩
  simp -implicitDefEqProofs (disch := first | omega | (simp only [LnZ]; omega)) [wrap64]
  refine (c_Equal_int R1 S1).go ?_
  rintro _ _ ⟨rfl, rfl⟩
  by_cases h1 : a.init = b.init
  case neg =>
    simp -implicitDefEqProofs (disch := first | omega | (simp only [LnZ]; omega)) [wrap64, h1]
    exact RetK.keep (hno fun e => h1 (e ▸ rfl))
  simp -implicitDefEqProofs (disch := first | omega | (simp only [LnZ]; omega)) [wrap64, h1]
  refine (c_Equal_bool R2 S2).go ?_
  rintro _ _ ⟨rfl, rfl⟩
  by_cases h2 : a.acc = b.acc
  case neg =>
    simp -implicitDefEqProofs (disch := first | omega | (simp only [LnZ]; omega)) [wrap64, h2]
    exact RetK.keep (hno fun e => h2 (e ▸ rfl))
  simp -implicitDefEqProofs (disch := first | omega | (simp only [LnZ]; omega)) [wrap64, h2]
  refine (c_Equal_Tr R3 S3).go ?_
  rintro _ _ ⟨rfl, rfl⟩
  by_cases h3 : a.edges = b.edges
  case neg =>
    simp -implicitDefEqProofs (disch := first | omega | (simp only [LnZ]; omega)) [wrap64, h3]
    exact RetK.keep (hno fun e => h3 (e ▸ rfl))
  simp -implicitDefEqProofs (disch := first | omega | (simp only [LnZ]; omega)) [wrap64, h3]
  exact RetK.keep (hk _ _ ⟨rfl, by simp [Aut.ext3 h1 h2 h3]⟩)

end Go.Proofs.Ytglnelcmcimljaa

/-
  What laws of automata share: relations returned by both, live states, words of lassos.
-/
namespace Go.Proofs.Ytglnelcmcimljaa
open Go
set_option linter.all false
set_option linter.unusedVariables false
set_option linter.unusedSimpArgs false
set_option linter.defProp false
set_option maxRecDepth 1000000

/-- what both programs answer -/
def SimR (a : Aut) (M : List (List Bool)) : Prop := (¬ a.Ok ∧ M = []) ∨ (a.Ok ∧ M.length = a.acc.length ∧ (∀ r ∈ M, r.length = a.acc.length) ∧ Great a (matR M))
theorem SimR.fn {a : Aut} {M M' : List (List Bool)} (h : SimR a M) (h' : SimR a M') : M = M' := by
  rcases h with ⟨h1, rfl⟩ | ⟨h1, h2, h3, h4⟩
  · rcases h' with ⟨_, rfl⟩ | ⟨h5, _⟩
    · rfl
    · exact absurd h5 h1
  · rcases h' with ⟨h5, _⟩ | ⟨h5, h6, h7, h8⟩
    · exact absurd h1 h5
    refine List.ext_getElem (by omega) fun i hi hi' => ?_
    have g1 := h3 _ (List.getElem_mem hi)
    have g2 := h7 _ (List.getElem_mem hi')
    refine List.ext_getElem (by omega) fun j hj hj' => ?_
    rw [← matR_get hi hj, ← matR_get hi' hj']
    exact h4.eq h8 (by omega) (by omega)
theorem c_LiveStates {h : Heap} {v : Value} {a : Aut} (Ra : Rep h v a) (ha : a.Ok) : CallE Try.prog fn_impl_LiveStates [v] h (fun u h' => ∃ L : List Bool, HS h [ow u L] h' ∧ L.length = a.acc.length ∧ ∀ q, tru L q ↔ q < a.acc.length ∧ a.Live q) := by
  have FA := Ra.aAut
  refine CallE.gen fun k hk => EN_impl_LiveStates rfl ?_
  simp -implicitDefEqProofs (disch := first | omega | (simp only [LnZ]; omega)) [wrap64, FA]
  refine (c_AutomatonValid Ra).go ?_
  rintro _ h1 ⟨l1, rfl⟩
  simp -implicitDefEqProofs (disch := first | omega | (simp only [LnZ]; omega)) [wrap64, ha, FA]
  refine (c_live (Ra.le l1) ha).go ?_
  rintro u h2 ⟨L, H, h3, h4⟩
  simp -implicitDefEqProofs (disch := first | omega | (simp only [LnZ]; omega)) [wrap64]
  exact RetK.keep (hk _ _ ⟨L, H.app (show HS h [] h1 from l1), h3, h4⟩)
theorem c_AcceptsV {h : Heap} {v w : Value} {a : Aut} {l : Las} (Ra : Rep h v a) (Rl : Rep h w l) (ha : a.Ok) : CallE Try.prog fn_impl_Accepts [v, w] h (fun u h' => h.le h' ∧ u = .tuple #[.bool (a.accB l), .bool (decide l.Ok)]) :=
  (c_Accepts Ra Rl).mono fun _ _ ⟨h1, h2⟩ => ⟨h1, by rw [h2, decide_eq_decide.2 (show a.Ok ∧ l.Ok ↔ l.Ok from ⟨fun hh => hh.2, fun hh => ⟨ha, hh⟩⟩)]⟩
theorem accB_eq {a b : Aut} {l : Las} (ha : a.Ok) (hb : b.Ok) (h : l.Ok → (a.Lang l.word ↔ b.Lang l.word)) : a.accB l = b.accB l := by
  by_cases hl : l.Ok
  · rw [Bool.eq_iff_iff, Aut.accB_lang ha hl, Aut.accB_lang hb hl]
    exact h hl
  · simp [Aut.accB, hl]
end Go.Proofs.Ytglnelcmcimljaa
