/-
  Texts of this proof, one behind the other.
-/
import Derived.Shelf.Sort.Plain
import Derived.Shelf.Slices.CompactI
import Derived.Shelf.Slices.In.SortNone
import Derived.Test.YtglnelcmcimljaaRows
import Derived.Lib.SlicesCompact
import Derived.Sort.Grow
import Derived.Sort.Row
import Derived.Test.YtglnelcmcimljaaYF5
set_option linter.all false
set_option linter.unusedVariables false
set_option linter.unusedSimpArgs false
set_option linter.defProp false
set_option maxRecDepth 1000000
namespace Go.Proofs.Ytglnelcmcimljaa
open Go
theorem take_mem_succ {α : Type} {l : List α} {i : Nat} (hi : i < l.length) {x : α} : x ∈ l.take (i + 1) ↔ x ∈ l.take i ∨ x = l[i] := by
  rw [List.take_add_one, List.getElem?_eq_getElem hi]
  simp only [Option.toList_some, List.mem_append, List.mem_singleton]
theorem snoc_of {α : Type} {l : List α} (h : 0 < l.length) : ∃ l' x, l = l' ++ [x] := by
  refine ⟨l.dropLast, l.getLast (List.ne_nil_of_length_pos h), ?_⟩
  exact (List.dropLast_concat_getLast _).symm
theorem c_reachable {h : Heap} {w s : Value} {G : List (List Int)} {S : List Int} {E : Nat → Nat → Prop} (Rw : Rep h w G) (Rs : Rep h s S) (hG : Adj E G) (hS : ∀ z ∈ S, 0 ≤ z ∧ z < G.length) (hSl : S.length ≤ 1048576) (hGl : G.length ≤ 1048576) :
    CallE Try.prog fn_impl_reachable [w, s] h (fun u h' => ∃ B : List Bool, HS h [ow u B] h' ∧ B.length = G.length ∧ ∀ x, tru B x ↔ ∃ z : Nat, (z : Int) ∈ S ∧ Rch E z x) := by
  refine CallE.gen fun k hk => EN_impl_reachable rfl ?_
  simp -implicitDefEqProofs (disch:=first|omega|(simp only[LnZ];omega))[wrap64, Rw.len]
  refine HS.init.mks (α := Bool) (z := false) rfl rfl own_false (Nat.le_refl _) (by omega) (by omega) fun b h1 H => ?_
  simp -implicitDefEqProofs (disch:=first|omega|(simp only[LnZ];omega))[wrap64]
  refine (c_clone_int (Rs.on H) (by omega)).go ?_
  intro t0 h2 H2
  have H := H2.app H
  simp -implicitDefEqProofs (disch:=first|omega|(simp only[LnZ];omega))[wrap64, (Rs.on H).len]
  refine wp_count S.length (fun i e h' => ∃ B, e = [some w, none, none, some b, some t0, none, none, none, some s, some (.int .i64 S.length), some (.int .i64 i), none, none, none] ∧ HS h [ow t0 S, ow b B] h' ∧ B.length = G.length ∧ ∀ x, tru B x ↔ (x : Int) ∈ S.take i) ⟨_, by simp, H, by simp, fun x => by simp [tru_replicate]⟩ ?_
  rintro J i _ h3 hJ hi ⟨B, rfl, H, hBl, hB⟩
  simp -implicitDefEqProofs (disch:=first|omega|(simp only[LnZ];omega))[wrap64]
  refine IteW.mk (fun hlt => ?_) (fun hge => ?_)
  · have hlx : i < S.length := by omega
    have hz := hS _ (List.getElem_mem hlx)
    obtain ⟨z, hz2⟩ : ∃ z : Nat, S[i] = z := ⟨S[i].toNat, by omega⟩
    have H := H.sw1
    have hzB : z < B.length := by omega
    simp -implicitDefEqProofs (disch:=first|omega|(simp only[LnZ];omega))[wrap64, (Rs.on H).I, hz2, H.rep.B]
    refine H.storeF true (i := z) hzB rfl rfl trivial rfl fun h4 H => ?_
    simp -implicitDefEqProofs (disch:=first|omega|(simp only[LnZ];omega))[wrap64]
    refine hJ _ _ hlx ⟨_, rfl, H.sw1, by simpa using hBl, fun x => ?_⟩
    rw [tru_set hzB, hB, take_mem_succ hlx, hz2]
    exact or_congr Iff.rfl (by omega)
  simp -implicitDefEqProofs (disch:=first|omega|(simp only[LnZ];omega))[wrap64]
  rw [List.take_of_length_le (by omega)] at hB
  have hI : Srch E (fun z => (z : Int) ∈ S) (tru B) (fun z => (z : Int) ∈ S) := Srch.init hB fun _ h => h
  have hcl := List.count_le_length (a := false) (l := B)
  refine wp_while (σ := List Bool × List Int) (fun s e h' => ∃ t, e = [some w, none, none, some b, some t, none, none, none, none, none, none, none, none, none] ∧
      HS h [ow t s.2, ow b s.1] h' ∧ s.1.length = G.length ∧ Srch E (fun z => (z : Int) ∈ S) (tru s.1) (fun z => (z : Int) ∈ s.2) ∧ (∀ z ∈ s.2, ∃ q : Nat, z = q ∧ tru s.1 q) ∧ s.2.length + s.1.count false ≤ S.length + G.length)
    (fun s => s.2.length + s.1.count false) (B, S) ⟨t0, by simp, H, hBl, hI, fun z hz => ⟨z.toNat, by have := hS z hz; omega, by rw [hB]; have := hS z hz; rwa [Int.toNat_of_nonneg this.1]⟩, by dsimp only; omega⟩ ?_
  rintro J ⟨B, T⟩ _ h4 hJ ⟨t, rfl, H, hBl, hI, hT, hm⟩
  dsimp only at H hBl hI hT hm
  simp -implicitDefEqProofs (disch:=first|omega|(simp only[LnZ];omega))[wrap64, H.rep.len]
  refine IteW.mkr (fun h0 => ?_) (fun h0 => ?_)
  · simp -implicitDefEqProofs (disch:=first|omega|(simp only[LnZ];omega))[wrap64]
    have hT0 : T = [] := List.eq_nil_of_length_eq_zero (by omega)
    subst hT0
    exact RetK.keep (hk _ _ ⟨B, H.drop, hBl, fun x => hI.done (by simp)⟩)
  obtain ⟨T, x, rfl⟩ := snoc_of (l := T) (by omega)
  obtain ⟨q, rfl, hq⟩ := hT x (by simp)
  have hqG : q < G.length := by rw [← hBl]; exact tru_lt hq
  obtain ⟨t', ht', H'⟩ := H.cut (n := T.length) (esz := 1) (k := .i64) (by simp)
  have hTl : T.length < 4611686018427387904 := by have := H.rep.lt; simp at this; omega
  rw [List.take_left' rfl] at H'
  obtain ⟨u, hu0, Ru⟩ := Rw.ldL hqG
  have hu := hload_le H.base hu0
  have hul := Ru.lt
  have hlen1 : (T ++ [(q : Int)]).length = T.length + 1 := by simp
  have hi1 : IntKind.i64.wrap ((T.length : Int) + 1 - 1) = T.length := by rw [wrap64 (by omega) (by omega)]; omega
  simp -implicitDefEqProofs (disch:=first|omega|(simp only[LnZ];omega))[wrap64, H.rep.I, hlen1, hi1, ht', (Rw.on H').X (n := 1) rfl, hu, Ru.len]
  have hlt0 := hm
  obtain ⟨m, hmm⟩ : ∃ m, m = T.length + 1 + B.count false := ⟨_, rfl⟩
  refine wp_count G[q].length (fun j e h' => ∃ (t : Value) (B : List Bool) (T' : List Int), e = [some w, none, none, some b, some t, none, none, none, none, none, none, some u, some (.int .i64 G[q].length), some (.int .i64 j)] ∧
      HS h [ow t T', ow b B] h' ∧ B.length = G.length ∧ Srch E (fun z => (z : Int) ∈ S) (tru B) (fun z => (z : Int) ∈ T' ∨ z = q) ∧ tru B q ∧ (∀ z ∈ T', ∃ q : Nat, z = q ∧ tru B q) ∧ T'.length + 1 + B.count false = m ∧
      ∀ j' (hj' : j' < G[q].length), j' < j → ∀ y : Nat, G[q][j'] = y → tru B y) ⟨t', B, T, by simp, H', hBl, hI.congr (fun _ => Iff.rfl) (fun z => by simp [Int.ofNat_inj]), hq, fun z hz => hT z (by simp [hz]), hmm.symm, fun j' _ hj' => absurd hj' (Nat.not_lt_zero j')⟩ ?_
  rintro J2 j _ h5 hJ2 hj ⟨t2, B2, T2, rfl, H, hBl2, hI2, hq2, hT2, hm2, hpr⟩
  simp -implicitDefEqProofs (disch:=first|omega|(simp only[LnZ];omega))[wrap64]
  refine IteW.mk (fun hlt2 => ?_) (fun hge2 => ?_)
  · have hjl : j < G[q].length := by omega
    obtain ⟨y, hy, hxy, hyG⟩ := hG.get hqG hjl
    have H := H.sw1
    have hyB : y < B2.length := by omega
    have hpr2 : ∀ B3, tru B3 y → (∀ z, tru B2 z → tru B3 z) → ∀ j' (hj' : j' < G[q].length), j' < j + 1 → ∀ y : Nat, G[q][j'] = y → tru B3 y := by
      intro B3 h1 h2 j' hj' hlt y' hy'
      by_cases e : j' = j
      · subst e
        rw [hy] at hy'
        obtain rfl : y = y' := by omega
        exact h1
      · exact h2 _ (hpr j' hj' (by omega) y' hy')
    by_cases hb : B2[y] = true
    · simp -implicitDefEqProofs (disch:=first|omega|(simp only[LnZ];omega))[wrap64, (Ru.on H).I, hy, H.rep.B, hb]
      exact hJ2 _ _ hjl ⟨t2, B2, T2, rfl, H.sw1, hBl2, hI2, hq2, hT2, hm2, hpr2 _ ((tru_get hyB).2 hb) fun _ h => h⟩
    · have hb' : B2[y] = false := by simpa using hb
      simp -implicitDefEqProofs (disch:=first|omega|(simp only[LnZ];omega))[wrap64, (Ru.on H).I, hy, H.rep.B, hb']
      refine H.storeF true (i := y) hyB rfl rfl trivial rfl fun h6 H => ?_
      have hcs := count_set hyB hb'
      simp -implicitDefEqProofs (disch:=first|omega|(simp only[LnZ];omega))[wrap64]
      refine H.sw1.app1 (y : Int) rfl rfl rfl ⟨by omega, by omega⟩ rfl rfl (by omega) (by omega) fun t3 h7 H => ?_
      simp -implicitDefEqProofs (disch:=first|omega|(simp only[LnZ];omega))[wrap64]
      refine hJ2 _ _ hjl ⟨t3, _, _, rfl, H, by simpa using hBl2, hI2.add (x := q) (y := y) hq2 hxy (fun z => tru_set hyB) (fun z => ?_), (tru_set hyB).2 (.inl hq2), ?_, ?_, hpr2 _ ((tru_set hyB).2 (.inr rfl)) fun z hz => (tru_set hyB).2 (.inl hz)⟩
      · simp only [List.mem_append, List.mem_singleton]
        constructor
        · rintro ((h | h) | h)
          · exact .inl (.inl h)
          · exact .inr (by omega)
          · exact .inl (.inr h)
        · rintro ((h | h) | h)
          · exact .inl (.inl h)
          · exact .inr h
          · exact .inl (.inr (by omega))
      · intro z hz
        rcases List.mem_append.1 hz with hz | hz
        · obtain ⟨p, h1, h2⟩ := hT2 z hz
          exact ⟨p, h1, (tru_set hyB).2 (.inl h2)⟩
        · exact ⟨y, by simpa using hz, (tru_set hyB).2 (.inr rfl)⟩
      · simp; omega
  · simp -implicitDefEqProofs (disch:=first|omega|(simp only[LnZ];omega))[wrap64]
    refine hJ (B2, T2) _ _ ?_ ⟨t2, rfl, H, hBl2, hI2.drop (x := q) (fun y hxy => ?_) (fun z hz => hz), hT2, ?_⟩
    · dsimp only; rw [hlen1]; omega
    · exact hG.all hqG (C := tru B2) (fun j' hj' y hy => hpr j' hj' (by omega) y hy) hxy
    · dsimp only at hm ⊢; rw [hlen1] at hm; omega
theorem c_l7Reach {h : Heap} {w s : Value} {G : List (List Int)} {S : List Int} {E : Nat → Nat → Prop} (Rw : Rep h w G) (Rs : Rep h s S) (hG : Adj E G) (hS : ∀ z ∈ S, 0 ≤ z ∧ z < G.length) (hGl : G.length ≤ 1048576) :
    CallE Try.prog fn_spec_l7Reach [w, s] h (fun u h' => ∃ Q : List Int, HS h [ow u Q] h' ∧ Q.length ≤ G.length ∧ (∀ z ∈ Q, 0 ≤ z ∧ z < G.length) ∧ ∀ x : Nat, (x : Int) ∈ Q ↔ ∃ z : Nat, (z : Int) ∈ S ∧ Rch E z x) := by
  refine CallE.gen fun k hk => EN_spec_l7Reach rfl ?_
  have hSl := Rs.lt
  simp -implicitDefEqProofs (disch:=first|omega|(simp only[LnZ];omega))[wrap64, Rw.len]
  refine HS.init.mks (α := Bool) (z := false) rfl rfl own_false (Nat.le_refl _) (by omega) (by omega) fun b h1 H => ?_
  simp -implicitDefEqProofs (disch:=first|omega|(simp only[LnZ];omega))[wrap64]
  refine H.bls0 Int fun t0 h2 H => ?_
  simp -implicitDefEqProofs (disch:=first|omega|(simp only[LnZ];omega))[wrap64]
  refine wp_count S.length (fun i e h' => ∃ (t : Value) (B : List Bool) (Q : List Int), e = [some w, some s, none, some b, some t, some (.int .i64 i), none, none, none] ∧ HS h [ow t Q, ow b B] h' ∧ B.length = G.length ∧ Q.length + B.count false = G.length ∧ (∀ z ∈ Q, ∃ q : Nat, z = q ∧ q < G.length) ∧ (∀ x, tru B x ↔ (x : Int) ∈ S.take i) ∧ ∀ x : Nat, tru B x ↔ (x : Int) ∈ Q) ⟨t0, _, [], by simp, H, by simp, by simp, by simp, fun x => by simp [tru_replicate], fun x => by simp [tru_replicate]⟩ ?_
  rintro J i _ h3 hJ hi ⟨t, B, Q, rfl, H, hBl, hQl, hQ, hB, hBQ⟩
  simp -implicitDefEqProofs (disch:=first|omega|(simp only[LnZ];omega))[wrap64, (Rs.on H).len]
  refine IteW.mk (fun hlt => ?_) (fun hge => ?_)
  · have hlx : i < S.length := by omega
    have hz := hS _ (List.getElem_mem hlx)
    obtain ⟨z, hz2⟩ : ∃ z : Nat, S[i] = z := ⟨S[i].toNat, by omega⟩
    have H := H.sw1
    have hzB : z < B.length := by omega
    by_cases hb : B[z] = true
    · simp -implicitDefEqProofs (disch:=first|omega|(simp only[LnZ];omega))[wrap64, (Rs.on H).I, hz2, H.rep.B, hb]
      refine hJ _ _ hlx ⟨t, B, Q, rfl, H.sw1, hBl, hQl, hQ, fun x => ?_, hBQ⟩
      rw [take_mem_succ hlx, hB, hz2]
      constructor
      · exact .inl
      · rintro (h | h)
        · exact h
        · obtain rfl : x = z := by omega
          exact (hB x).1 ((tru_get hzB).2 hb)
    · have hb' : B[z] = false := by simpa using hb
      have hcs := count_set hzB hb'
      simp -implicitDefEqProofs (disch:=first|omega|(simp only[LnZ];omega))[wrap64, (Rs.on H).I, hz2, H.rep.B, hb']
      refine H.storeF true (i := z) hzB rfl rfl trivial rfl fun h4 H => ?_
      simp -implicitDefEqProofs (disch:=first|omega|(simp only[LnZ];omega))[wrap64, (Rs.on H).I, hz2]
      refine H.sw1.app1 (z : Int) rfl rfl rfl ⟨by omega, by omega⟩ rfl rfl (by omega) (by omega) fun t3 h7 H => ?_
      simp -implicitDefEqProofs (disch:=first|omega|(simp only[LnZ];omega))[wrap64]
      refine hJ _ _ hlx ⟨t3, _, _, rfl, H, by simpa using hBl, by simp; omega, ?_, fun x => ?_, fun x => ?_⟩
      · intro y hy
        rcases List.mem_append.1 hy with hy | hy
        · exact hQ y hy
        · exact ⟨z, by simpa using hy, by omega⟩
      · rw [tru_set hzB, hB, take_mem_succ hlx, hz2]
        exact or_congr Iff.rfl (by omega)
      · rw [tru_set hzB, hBQ]
        simp [Int.ofNat_inj]
  simp -implicitDefEqProofs (disch:=first|omega|(simp only[LnZ];omega))[wrap64]
  rw [List.take_of_length_le (by omega)] at hB
  have hI : Srch E (fun z => (z : Int) ∈ S) (tru B) (fun z => (z : Int) ∈ Q.drop 0) := Srch.init hB fun z hz => by rw [List.drop_zero, ← hBQ, hB]; exact hz
  refine wp_while (σ := List Bool × List Int × Nat) (fun s e h' => ∃ t, e = [some w, none, none, some b, some t, none, some (.int .i64 s.2.2), none, none] ∧
      HS h [ow t s.2.1, ow b s.1] h' ∧ s.1.length = G.length ∧ s.2.1.length + s.1.count false = G.length ∧ s.2.2 ≤ s.2.1.length ∧ (∀ z ∈ s.2.1, ∃ q : Nat, z = q ∧ q < G.length) ∧ (∀ x : Nat, tru s.1 x ↔ (x : Int) ∈ s.2.1) ∧ Srch E (fun z => (z : Int) ∈ S) (tru s.1) (fun z => (z : Int) ∈ s.2.1.drop s.2.2))
    (fun s => G.length - s.2.2) (B, Q, 0) ⟨t, by simp, H, hBl, hQl, by dsimp only; omega, hQ, hBQ, hI⟩ ?_
  rintro J ⟨B, Q, i⟩ _ h4 hJ ⟨t, rfl, H, hBl, hQl, hiQ, hQ, hBQ, hI⟩
  dsimp only at H hBl hQl hiQ hQ hBQ hI
  simp -implicitDefEqProofs (disch:=first|omega|(simp only[LnZ];omega))[wrap64, H.rep.len]
  refine IteW.mkr (fun h0 => ?_) (fun h0 => ?_)
  · simp -implicitDefEqProofs (disch:=first|omega|(simp only[LnZ];omega))[wrap64]
    have hd : Q.drop i = [] := List.drop_eq_nil_of_le (by omega)
    rw [hd] at hI
    refine RetK.keep (hk _ _ ⟨Q, H.sw1.drop, by omega, fun z hz => ?_, fun x => ?_⟩)
    · obtain ⟨q, rfl, h2⟩ := hQ z hz; omega
    · rw [← hBQ]; exact hI.done (by simp)
  have hiQ2 : i < Q.length := by omega
  obtain ⟨q, hq, hqG⟩ := hQ _ (List.getElem_mem hiQ2)
  obtain ⟨u, hu0, Ru⟩ := Rw.ldL hqG
  have hul := Ru.lt
  have hqB : tru B q := by rw [hBQ, ← hq]; exact List.getElem_mem hiQ2
  simp -implicitDefEqProofs (disch:=first|omega|(simp only[LnZ];omega))[wrap64]
  refine wp_count G[q].length (fun j e h' => ∃ (t : Value) (B' : List Bool) (W : List Int), e = [some w, none, none, some b, some t, none, some (.int .i64 i), some (.int .i64 j), none] ∧
      HS h [ow t (Q ++ W), ow b B'] h' ∧ B'.length = G.length ∧ (Q ++ W).length + B'.count false = G.length ∧ (∀ z ∈ Q ++ W, ∃ q : Nat, z = q ∧ q < G.length) ∧ (∀ x : Nat, tru B' x ↔ (x : Int) ∈ Q ++ W) ∧ Srch E (fun z => (z : Int) ∈ S) (tru B') (fun z => (z : Int) ∈ (Q ++ W).drop i) ∧
      ∀ j' (hj' : j' < G[q].length), j' < j → ∀ y : Nat, G[q][j'] = y → tru B' y) ⟨t, B, [], by simp, by simpa using H, hBl, by simpa using hQl, by simpa using hQ, by simpa using hBQ, by simpa using hI, fun j' _ hj' => absurd hj' (Nat.not_lt_zero j')⟩ ?_
  rintro J2 j _ h5 hJ2 hj ⟨t2, B2, W, rfl, H, hBl2, hQl2, hQ2, hBQ2, hI2, hpr⟩
  have hiW : i < (Q ++ W).length := by simp; omega
  have hqi : (Q ++ W)[i] = (q : Int) := by rw [List.getElem_append_left hiQ2]; exact hq
  have hu := hload_le H.base hu0
  simp -implicitDefEqProofs (disch:=first|omega|(simp only[LnZ];omega))[wrap64, H.rep.I, hqi, (Rw.on H).X (n := 1) rfl, hu, (Ru.on H).len]
  refine IteW.mk (fun hlt2 => ?_) (fun hge2 => ?_)
  · have hjl : j < G[q].length := by omega
    obtain ⟨y, hy, hxy, hyG⟩ := hG.get hqG hjl
    have H := H.sw1
    have hyB : y < B2.length := by omega
    have hpr2 : ∀ B3, tru B3 y → (∀ z, tru B2 z → tru B3 z) → ∀ j' (hj' : j' < G[q].length), j' < j + 1 → ∀ y : Nat, G[q][j'] = y → tru B3 y := by
      intro B3 h1 h2 j' hj' hlt y' hy'
      by_cases e : j' = j
      · subst e
        rw [hy] at hy'
        obtain rfl : y = y' := by omega
        exact h1
      · exact h2 _ (hpr j' hj' (by omega) y' hy')
    have hqB2 : tru B2 q := by rw [hBQ2, ← hqi]; exact List.getElem_mem hiW
    by_cases hb : B2[y] = true
    · simp -implicitDefEqProofs (disch:=first|omega|(simp only[LnZ];omega))[wrap64, H.sw1.rep.I, hqi, (Rw.on H).X (n := 1) rfl, hu, (Ru.on H).I, hy, H.rep.B, hb]
      exact hJ2 _ _ hjl ⟨t2, B2, W, rfl, H.sw1, hBl2, hQl2, hQ2, hBQ2, hI2, hpr2 _ ((tru_get hyB).2 hb) fun _ h => h⟩
    · have hb' : B2[y] = false := by simpa using hb
      simp -implicitDefEqProofs (disch:=first|omega|(simp only[LnZ];omega))[wrap64, H.sw1.rep.I, hqi, (Rw.on H).X (n := 1) rfl, hu, (Ru.on H).I, hy, H.rep.B, hb']
      refine H.storeF true (i := y) hyB rfl rfl trivial rfl fun h6 H => ?_
      have hcs := count_set hyB hb'
      simp -implicitDefEqProofs (disch:=first|omega|(simp only[LnZ];omega))[wrap64]
      refine H.sw1.app1 (y : Int) rfl rfl rfl ⟨by omega, by omega⟩ rfl rfl (by omega) (by omega) fun t3 h7 H => ?_
      simp -implicitDefEqProofs (disch:=first|omega|(simp only[LnZ];omega))[wrap64]
      have hassoc : Q ++ W ++ [(y : Int)] = Q ++ (W ++ [(y : Int)]) := List.append_assoc _ _ _
      rw [hassoc] at H
      refine hJ2 _ _ hjl ⟨t3, _, W ++ [(y : Int)], rfl, H, by simpa using hBl2, by simp at hQl2 ⊢; omega, ?_, fun x => ?_, hI2.add (x := q) (y := y) hqB2 hxy (fun z => tru_set hyB) (fun z => ?_), hpr2 _ ((tru_set hyB).2 (.inr rfl)) fun z hz => (tru_set hyB).2 (.inl hz)⟩
      · intro z hz
        rw [← hassoc] at hz
        rcases List.mem_append.1 hz with hz | hz
        · exact hQ2 z hz
        · exact ⟨y, by simpa using hz, hyG⟩
      · rw [tru_set hyB, hBQ2, ← hassoc]
        simp [Int.ofNat_inj, or_assoc]
      · rw [← hassoc, List.drop_append_of_le_length (by omega)]
        simp [Int.ofNat_inj]
  · simp -implicitDefEqProofs (disch:=first|omega|(simp only[LnZ];omega))[wrap64]
    refine hJ (B2, Q ++ W, i + 1) _ _ ?_ ⟨t2, rfl, H, hBl2, hQl2, by dsimp only; omega, hQ2, hBQ2, hI2.drop (x := q) (fun y hxy => ?_) (fun z hz => ?_)⟩
    · dsimp only; omega
    · exact hG.all hqG (C := tru B2) (fun j' hj' y hy => hpr j' hj' (by omega) y hy) hxy
    · dsimp only
      rw [List.drop_eq_getElem_cons hiW, hqi] at hz
      rcases List.mem_cons.1 hz with hz | hz
      · exact .inr (by omega)
      · exact .inl hz
end Go.Proofs.Ytglnelcmcimljaa

namespace Go.Proofs.Ytglnelcmcimljaa
open Go
structure LpI (E : Nat → Nat → Prop) (n q : Nat) (B : List Bool) (Q : List Int) (i : Nat) : Prop where
  len : B.length = n
  size : Q.length + 2048 * B.count false ≤ 2048 * (n + 1)
  le : i ≤ Q.length
  snd : ∀ z ∈ Q, ∃ p : Nat, z = p ∧ p < n ∧ ∃ y, E q y ∧ Rch E y p
  start : ∀ y, E q y → (y : Int) ∈ Q
  seen : ∀ x, tru B x → ∀ y, E x y → (y : Int) ∈ Q
  past : ∀ j (hj : j < Q.length), j < i → Q[j] ≠ q ∧ tru B Q[j].toNat
theorem LpI.done {E : Nat → Nat → Prop} {n q : Nat} {B : List Bool} {Q : List Int} {i : Nat} (h : LpI E n q B Q i) (hi : Q.length ≤ i) : ¬ Cyc E q := by
  rintro ⟨y, h1, h2⟩
  have hm : ((q : Nat) : Int) ∈ Q := by
    refine h2.closed (C := fun x => (x : Int) ∈ Q) (fun u v hu huv => ?_) (h.start y h1)
    obtain ⟨j, hj, h3⟩ := List.mem_iff_getElem.1 hu
    have h4 := (h.past j hj (by omega)).2
    rw [h3] at h4
    exact h.seen u h4 v huv
  obtain ⟨j, hj, h3⟩ := List.mem_iff_getElem.1 hm
  exact (h.past j hj (by omega)).1 h3
theorem c_l7Loop {h : Heap} {w : Value} {G : List (List Int)} {E : Nat → Nat → Prop} (Rw : Rep h w G) (hG : Adj E G) (hrow : ∀ x (hx : x < G.length), G[x].length ≤ 2048) (hGl : G.length ≤ 1048576) {q : Nat} (hq : q < G.length) :
    CallE Try.prog fn_spec_l7Loop [w, .int .i64 q] h (fun u h' => h.le h' ∧ ∃ r : Bool, u = .bool r ∧ (r = true ↔ Cyc E q)) := by
  refine CallE.gen fun k hk => EN_spec_l7Loop rfl ?_
  obtain ⟨u, hu0, Ru⟩ := Rw.ldL hq
  have hul := hrow q hq
  simp -implicitDefEqProofs (disch:=first|omega|(simp only[LnZ];omega))[wrap64]
  refine wp_count G[q].length (fun i e h' => e = [some w, some (.int .i64 q), none, some (.int .i64 i), none, none, none, none] ∧ h' = h ∧ ∀ (j : Nat) (hj : j < G[q].length), j < i → G[q][j] ≠ q) ⟨rfl, rfl, fun j _ hj => absurd hj (Nat.not_lt_zero j)⟩ ?_
  rintro J i _ h hJ hi ⟨rfl, rfl, hn⟩
  simp -implicitDefEqProofs (disch:=first|omega|(simp only[LnZ];omega))[wrap64, Rw.X (n := 1) rfl, hu0, Ru.I]
  refine IteW.mk (fun hlt => ?_) (fun hge => ?_)
  · have hlx : i < G[q].length := by omega
    simp -implicitDefEqProofs (disch:=first|omega|(simp only[LnZ];omega))[wrap64, Rw.X (n := 1) rfl, hu0, Ru.I]
    refine IteW.mk (fun he => ?_) (fun he => ?_)
    · simp -implicitDefEqProofs (disch:=first|omega|(simp only[LnZ];omega))[wrap64]
      refine RetK.keep (hk _ _ ⟨Heap.le.refl _, true, rfl, ?_⟩)
      simp only [true_iff]
      obtain ⟨y, h1, h2, _⟩ := hG.get hq hlx
      obtain rfl : y = q := by rw [he] at h1; omega
      exact ⟨y, h2, .refl _⟩
    · simp -implicitDefEqProofs (disch:=first|omega|(simp only[LnZ];omega))[wrap64]
      refine hJ _ _ hlx ⟨rfl, rfl, fun j hj hji => ?_⟩
      by_cases hji2 : j = i
      · subst hji2; exact he
      · exact hn j hj (by omega)
  clear hn
  simp -implicitDefEqProofs (disch:=first|omega|(simp only[LnZ];omega))[wrap64, Rw.len]
  refine HS.init.mks (α := Bool) (z := false) rfl rfl own_false (Nat.le_refl _) (by omega) (by omega) fun b h1 H => ?_
  have hu := hload_le H.base hu0
  simp -implicitDefEqProofs (disch:=first|omega|(simp only[LnZ];omega))[wrap64, (Rw.on H).X (n := 1) rfl, hu]
  refine H.appPL (α := Int) (l2 := G[q]) rfl rfl (Ru.on H) rfl rfl (by omega) fun t h2 H => ?_
  simp -implicitDefEqProofs (disch:=first|omega|(simp only[LnZ];omega))[wrap64]
  have hmem := hG.mem q hq
  have hI : LpI E G.length q (List.replicate G.length false) G[q] 0 := by
    refine ⟨by simp, by simp; omega, by omega, fun z hz => ?_, fun y hy => (hmem y).2 ⟨y, rfl, hy⟩, fun x hx => absurd hx tru_replicate, fun j _ hj => absurd hj (Nat.not_lt_zero j)⟩
    obtain ⟨y, rfl, h2⟩ := (hmem z).1 hz
    exact ⟨y, rfl, (hG.lt _ _ h2).2, y, h2, .refl _⟩
  refine wp_while (σ := List Bool × List Int × Nat) (fun s e h' => ∃ t, e = [some w, some (.int .i64 q), none, none, some b, some t, some (.int .i64 s.2.2), none] ∧
      HS h [ow t s.2.1, ow b s.1] h' ∧ LpI E G.length q s.1 s.2.1 s.2.2) (fun s => s.1.count false * 2049 + (s.2.1.length - s.2.2)) (List.replicate G.length false, G[q], 0) ⟨t, by simp, H, hI⟩ ?_
  rintro J2 ⟨B, Q, i⟩ _ h3 hJ2 ⟨t, rfl, H, hI⟩
  dsimp only at H hI
  have hsz := hI.size
  have hle := hI.le
  have hBl := hI.len
  simp -implicitDefEqProofs (disch:=first|omega|(simp only[LnZ];omega))[wrap64, H.rep.len]
  refine IteW.mkr (fun h0 => ?_) (fun h0 => ?_)
  · simp -implicitDefEqProofs (disch:=first|omega|(simp only[LnZ];omega))[wrap64]
    exact RetK.keep (hk _ _ ⟨H.base, false, rfl, by simpa using hI.done (by omega)⟩)
  have hiQ : i < Q.length := by omega
  obtain ⟨p, hp, hpn, y, hy1, hy2⟩ := hI.snd _ (List.getElem_mem hiQ)
  by_cases hpq : p = q
  · have hp2 : Q[i] = (q : Int) := by rw [hp, hpq]
    simp -implicitDefEqProofs (disch:=first|omega|(simp only[LnZ];omega))[wrap64, H.rep.I, hp2]
    refine RetK.keep (hk _ _ ⟨H.base, true, rfl, ?_⟩)
    simp only [true_iff]
    exact ⟨y, hy1, hpq ▸ hy2⟩
  have hpq2 : ¬ ((p : Int) = q) := by omega
  have H := H.sw1
  have hpB : p < B.length := by omega
  have hpast : ∀ (B' : List Bool) (W : List Int), (∀ x, tru B x → tru B' x) → tru B' p → ∀ j (hj : j < (Q ++ W).length), j < i + 1 → (Q ++ W)[j] ≠ q ∧ tru B' (Q ++ W)[j].toNat := by
    intro B' W h1 h2 j hj hji
    have hjQ : j < Q.length := by omega
    rw [List.getElem_append_left hjQ]
    by_cases e : j = i
    · subst e
      rw [hp]
      exact ⟨hpq2, by simpa using h2⟩
    · have := hI.past j hjQ (by omega)
      exact ⟨this.1, h1 _ this.2⟩
  by_cases hb : B[p] = true
  · simp -implicitDefEqProofs (disch:=first|omega|(simp only[LnZ];omega))[wrap64, H.sw1.rep.I, hp, hpq2, H.rep.B, hb]
    refine hJ2 (B, Q, i + 1) _ _ ?_ ⟨t, rfl, H.sw1, hI.len, hsz, by dsimp only; omega, hI.snd, hI.start, hI.seen, ?_⟩
    · dsimp only; omega
    · dsimp only
      have := hpast B [] (fun _ h => h) ((tru_get hpB).2 hb)
      simpa using this
  · have hb' : B[p] = false := by simpa using hb
    obtain ⟨v, hv0, Rv⟩ := Rw.ldL hpn
    have hrp := hrow p hpn
    have hcs := count_set hpB hb'
    simp -implicitDefEqProofs (disch:=first|omega|(simp only[LnZ];omega))[wrap64, H.sw1.rep.I, hp, hpq2, H.rep.B, hb']
    refine H.storeF true (i := p) hpB rfl rfl trivial rfl fun h4 H => ?_
    have hv := hload_le H.base hv0
    simp -implicitDefEqProofs (disch:=first|omega|(simp only[LnZ];omega))[wrap64, (Rw.on H).X (n := 1) rfl, hv]
    refine H.sw1.appL rfl rfl (Rv.on H) rfl rfl (by omega) (by omega) fun t3 h5 H => ?_
    simp -implicitDefEqProofs (disch:=first|omega|(simp only[LnZ];omega))[wrap64]
    have hmp := hG.mem p hpn
    refine hJ2 (B.set p true, Q ++ G[p], i + 1) _ _ ?_ ⟨t3, rfl, H, by simpa using hI.len, by simp; omega, by simp; omega, ?_, ?_, ?_, hpast _ _ (fun x hx => (tru_set hpB).2 (.inl hx)) ((tru_set hpB).2 (.inr rfl))⟩
    · simp; omega
    · intro z hz
      rcases List.mem_append.1 hz with hz | hz
      · exact hI.snd z hz
      · obtain ⟨y', rfl, h2⟩ := (hmp z).1 hz
        exact ⟨y', rfl, (hG.lt _ _ h2).2, y, hy1, hy2.snoc h2⟩
    · intro y' hy'
      exact List.mem_append_left _ (hI.start y' hy')
    · intro x hx y' hxy
      rcases (tru_set hpB).1 hx with hx | rfl
      · exact List.mem_append_left _ (hI.seen x hx y' hxy)
      · exact List.mem_append_right _ ((hmp _).2 ⟨y', rfl, hxy⟩)
theorem ok_one {n : Int} (h : -9223372036854775808 ≤ n ∧ n < 9223372036854775808) : ∀ x ∈ [n], Flat.ok x := by
  intro x hx
  obtain rfl : x = n := by simpa using hx
  exact h
theorem c_spec_LiveStates {h : Heap} {v : Value} {a : Aut} (Ra : Rep h v a) (ha : a.Ok) : CallE Try.prog fn_spec_LiveStates [v] h (fun u h' => ∃ L : List Bool, HS h [ow u L] h' ∧ L.length = a.acc.length ∧ ∀ q, tru L q ↔ q < a.acc.length ∧ a.Live q) := by
  obtain ⟨v1, v2, v3, rfl, R1, R2, R3⟩ := Rep_Aut.1 Ra
  refine CallE.gen fun k hk => EN_spec_LiveStates rfl ?_
  have hn := ha.n
  simp -implicitDefEqProofs (disch:=first|omega|(simp only[LnZ];omega))[wrap64]
  refine HS.init.bls0 Bool fun o h1 H => ?_
  simp -implicitDefEqProofs (disch:=first|omega|(simp only[LnZ];omega))[wrap64]
  refine (c_spec_AutomatonValid (Ra.on H)).go ?_
  rintro _ h1 ⟨rfl, rfl⟩
  simp -implicitDefEqProofs (disch:=first|omega|(simp only[LnZ];omega))[wrap64, ha]
  refine (c_l7Next (Ra.on H) ha).go ?_
  rintro w h2 ⟨G, H2, hG, hGl, hrow⟩
  have H := H2.app H
  have H := H.sw1
  simp -implicitDefEqProofs (disch:=first|omega|(simp only[LnZ];omega))[wrap64]
  refine wp_count a.acc.length (fun i e h' => ∃ (o : Value) (L : List Bool), e = [none, some (.agg #[v1, v2, v3]), none, some o, some w, some (.int .i64 i), none, none, none] ∧ HS h [ow o L, ow w G] h' ∧ L.length = i ∧ ∀ q, tru L q ↔ q < i ∧ a.Live q) ⟨o, [], by simp, H, rfl, fun q => by simp [tru]⟩ ?_
  rintro J i _ h3 hJ hi ⟨o, L, rfl, H, hLl, hL⟩
  simp -implicitDefEqProofs (disch:=first|omega|(simp only[LnZ];omega))[wrap64, (R2.on H).len]
  refine IteW.mk (fun hlt => ?_) (fun hge => ?_)
  · have hin : i < a.acc.length := by omega
    simp -implicitDefEqProofs (disch:=first|omega|(simp only[LnZ];omega))[wrap64]
    refine H.bls (α := Int) [(i : Int)] (by rfl) rfl (ok_one (by omega)) (by decide) fun s h4 H => ?_
    simp -implicitDefEqProofs (disch:=first|omega|(simp only[LnZ];omega))[wrap64]
    have hS1 : ∀ z ∈ [(i : Int)], 0 ≤ z ∧ z < (G.length : Int) := by
      intro z hz
      have hxi : z = i := by simpa using hz
      omega
    refine (c_l7Reach (S := [(i : Int)]) H.sw2.rep H.rep hG hS1 (by omega)).go ?_
    rintro qv h5 ⟨Q, H5, hQl, hQn, hQ⟩
    have H := H5.app H.drop
    simp -implicitDefEqProofs (disch:=first|omega|(simp only[LnZ];omega))[wrap64]
    refine wp_count Q.length (fun k e h' => ∃ (r : Bool), e = [none, some (.agg #[v1, v2, v3]), none, some o, some w, some (.int .i64 i), some qv, some (.bool r), some (.int .i64 k)] ∧ HS h [ow qv Q, ow o L, ow w G] h' ∧ (r = true → a.Live i) ∧ ∀ j (hj : j < Q.length), j < k → r = false → ¬ (tru a.acc Q[j].toNat ∧ Cyc a.E Q[j].toNat)) ⟨false, by simp, H, by simp, fun j _ hj => absurd hj (Nat.not_lt_zero j)⟩ ?_
    rintro J2 k _ h6 hJ2 hk2 ⟨r, rfl, H, hr1, hr2⟩
    simp -implicitDefEqProofs (disch:=first|omega|(simp only[LnZ];omega))[wrap64, H.rep.len]
    by_cases hx : k < Q.length ∧ r = false
    · obtain ⟨hkl, rfl⟩ := hx
      obtain ⟨hz0, hz1⟩ := hQn _ (List.getElem_mem hkl)
      obtain ⟨z, hz⟩ : ∃ z : Nat, Q[k] = z := ⟨Q[k].toNat, by omega⟩
      have hzG : z < G.length := by omega
      have hzr : Rch a.E i z := by
        have h1 : ((z : Nat) : Int) ∈ Q := by rw [← hz]; exact List.getElem_mem hkl
        obtain ⟨i', h2, h3⟩ := (hQ z).1 h1
        obtain rfl : i' = i := by simpa [Int.ofNat_inj] using h2
        exact h3
      have hnext : ∀ r' : Bool, (r' = true ↔ tru a.acc z ∧ Cyc a.E z) → (r' = true → a.Live i) ∧ ∀ j (hj : j < Q.length), j < k + 1 → r' = false → ¬ (tru a.acc Q[j].toNat ∧ Cyc a.E Q[j].toNat) := by
        intro r' hr'
        refine ⟨fun h => ⟨z, hzr, (hr'.1 h).2, (hr'.1 h).1⟩, fun j hj hjk hf => ?_⟩
        by_cases e : j = k
        · subst e
          rw [hz]
          intro hh
          have := hr'.2 (by simpa using hh)
          rw [hf] at this; simp at this
        · exact hr2 j hj (by omega) rfl
      by_cases hac : tru a.acc z
      · have hac2 := (tru_get (by omega : z < a.acc.length)).1 hac
        simp -implicitDefEqProofs (disch:=first|omega|(simp only[LnZ];omega))[wrap64, hkl, H.rep.I, hz, (R2.on H).B, hac2]
        refine (c_l7Loop H.sw2.rep hG hrow (by omega) hzG).go ?_
        rintro _ h7 ⟨l7, r', rfl, hr'⟩
        have H := H.le l7
        simp -implicitDefEqProofs (disch:=first|omega|(simp only[LnZ];omega))[wrap64]
        have h8 := hnext r' (by rw [hr']; simp [hac])
        exact hJ2 _ _ hkl ⟨r', by simp, H, h8.1, h8.2⟩
      · have hac2 : a.acc[z]'(by omega) = false := by
          have := mt (tru_get (by omega : z < a.acc.length)).2 hac
          simpa using this
        simp -implicitDefEqProofs (disch:=first|omega|(simp only[LnZ];omega))[wrap64, hkl, H.rep.I, hz, (R2.on H).B, hac2]
        have h8 := hnext false (by simp [hac])
        exact hJ2 _ _ hkl ⟨false, by simp, H, h8.1, h8.2⟩
    · have hfin : r = true ↔ a.Live i := by
        refine ⟨hr1, fun ⟨t, h1, h2, h3⟩ => ?_⟩
        cases r with
        | true => rfl
        | false =>
          exfalso
          have hkl : ¬ k < Q.length := fun h => hx ⟨h, rfl⟩
          have hm : ((t : Nat) : Int) ∈ Q := (hQ t).2 ⟨i, by simp, h1⟩
          obtain ⟨j, hj, h4⟩ := List.mem_iff_getElem.1 hm
          refine hr2 j hj (by omega) rfl ?_
          rw [h4]
          exact ⟨by simpa using h3, by simpa using h2⟩
      have hstep : ∀ q, tru (L ++ [r]) q ↔ q < i + 1 ∧ a.Live q := by
        intro q
        by_cases e : q = i
        · subst e
          rw [← hfin]
          simp [tru, ← hLl]
        · have h1 : tru (L ++ [r]) q ↔ tru L q := by
            simp only [tru, List.getD_eq_getElem?_getD]
            by_cases h2 : q < L.length
            · rw [List.getElem?_append_left h2]
            · rw [List.getElem?_eq_none (by simp; omega), List.getElem?_eq_none (by omega)]
          rw [h1, hL]
          constructor
          · rintro ⟨h2, h3⟩; exact ⟨by omega, h3⟩
          · rintro ⟨h2, h3⟩; exact ⟨by omega, h3⟩
      have hcase : (¬ k < Q.length) ∨ (k < Q.length ∧ r = true) := by
        by_cases hkl : k < Q.length
        · exact .inr ⟨hkl, by cases r with | true => rfl | false => exact absurd ⟨hkl, rfl⟩ hx⟩
        · exact .inl hkl
      have H := H.drop
      rcases hcase with hkl | ⟨hkl, rfl⟩
      · simp -implicitDefEqProofs (disch:=first|omega|(simp only[LnZ];omega))[wrap64, hkl]
        refine H.app1 r rfl rfl rfl trivial rfl rfl (by omega) (by omega) fun o' h7 H => ?_
        simp -implicitDefEqProofs (disch:=first|omega|(simp only[LnZ];omega))[wrap64]
        exact hJ _ _ hin ⟨o', _, by simp, H, by simp [hLl], hstep⟩
      · simp -implicitDefEqProofs (disch:=first|omega|(simp only[LnZ];omega))[wrap64, hkl]
        refine H.app1 true rfl rfl rfl trivial rfl rfl (by omega) (by omega) fun o' h7 H => ?_
        simp -implicitDefEqProofs (disch:=first|omega|(simp only[LnZ];omega))[wrap64]
        exact hJ _ _ hin ⟨o', _, by simp, H, by simp [hLl], hstep⟩
  · simp -implicitDefEqProofs (disch:=first|omega|(simp only[LnZ];omega))[wrap64]
    have hia : i = a.acc.length := by omega
    exact RetK.keep (hk _ _ ⟨L, H.sw1.drop, by omega, fun q => by rw [hL, hia]⟩)
end Go.Proofs.Ytglnelcmcimljaa

namespace Go.Proofs.Ytglnelcmcimljaa
open Go
def gd (l : List Int) : Nat → Int := fun x => l.getD x 0
theorem gd_get {l : List Int} {i : Nat} (hi : i < l.length) : gd l i = l[i] := by simp [gd, hi]
theorem gd_set {l : List Int} {i : Nat} {v : Int} (hi : i < l.length) : gd (l.set i v) = fput (gd l) i v := by
  funext x
  simp only [gd, fput, List.getD_eq_getElem?_getD, List.getElem?_set]
  by_cases h : i = x
  · subst h; simp [hi]
  · simp [h, Ne.symm h]
theorem ite_min {a b : Int} : (if b < a then b else a) = min a b := by
  split <;> omega
def unv (n : Nat) (f : Nat → Int) : Nat := ((List.range n).filter fun x => decide (x < n ∧ f x = 0)).length
theorem unv_lt {n : Nat} {f f' : Nat → Int} {a : Nat} (ha : a < n) (h0 : f a = 0) (h1 : f' a ≠ 0) (h : ∀ x, x < n → f x ≠ 0 → f' x ≠ 0) : unv n f' < unv n f := by
  refine filter_lt_of ?_ ⟨a, by simpa using ha, by simp [h1], by simp [h0, ha]⟩
  intro x hx2
  simp at hx2 ⊢
  exact ⟨hx2.1, Classical.byContradiction fun hn => h x hx2.1 hn hx2.2⟩
@[reducible] def FB (bN bL bQ bG bV : Nat) (vn vl vq w fv : Value) (h : Heap) : Prop := hload h (some (.pointer (some ⟨bN, 0, none⟩))) none = some vn ∧ hload h (some (.pointer (some ⟨bL, 0, none⟩))) none = some vl ∧ hload h (some (.pointer (some ⟨bQ, 0, none⟩))) none = some vq ∧
  hload h (some (.pointer (some ⟨bG, 0, none⟩))) none = some w ∧ hload h (some (.pointer (some ⟨bV, 0, none⟩))) none = some fv
theorem FB.on {bN bL bQ bG bV : Nat} {vn vl vq w fv : Value} {g h : Heap} {Γ : List HP} (F : FB bN bL bQ bG bV vn vl vq w fv g) (H : HS g Γ h) : FB bN bL bQ bG bV vn vl vq w fv h :=
  ⟨hload_le H.base F.1, hload_le H.base F.2.1, hload_le H.base F.2.2.1, hload_le H.base F.2.2.2.1, hload_le H.base F.2.2.2.2⟩
@[reducible] def CHs (vn vl vq : Value) (bS bC bP : Nat) (vs : Value) (N L Q : List Int) (s : TS) : List HP :=
  [ow vn N, ow vl L, ow vq Q, ow vs (s.stk.map Int.ofNat), bx bS [vs], bx bC [.int .i64 s.cnt], bx bP [.int .i64 s.prt]]
structure CHl (n : Nat) (N L Q : List Int) (s : TS) : Prop where
  hN : N.length = n
  hL : L.length = n
  hQ : Q.length = n
  num : s.num = gd N
  low : s.low = gd L
  part : s.part = gd Q
  cnt : s.cnt + unv n s.num ≤ n
def CH (g : Heap) (vn vl vq : Value) (bS bC bP n : Nat) (s : TS) (h : Heap) : Prop := ∃ (N L Q : List Int) (vs : Value), CHl n N L Q s ∧ HS g (CHs vn vl vq bS bC bP vs N L Q s) h
theorem TL.mono {n : Nat} {E : Nat → Nat → Prop} {gr sc sc' : Nat → Prop} {s s1 : TS} {a : Nat} (h : TL n E gr s a sc s1) (hs : ∀ y, sc' y → sc y) : TL n E gr s a sc' s1 :=
  ⟨h.inv, h.num, h.part, h.stk, h.na, h.cnt, h.fresh, h.black, h.lowa, h.low, h.min, fun y hy => h.proc y (hs y hy)⟩
def topv (C : List Nat) (m : Nat) : Int := if h : m < C.length then (C[m] : Int) else -1
set_option maxHeartbeats 4000000 in
theorem c_visit {g : Heap} {bN bL bQ bG bV bS bC bP n : Nat} {vn vl vq w fv : Value} {G : List (List Int)} {E : Nat → Nat → Prop} (F : FB bN bL bQ bG bV vn vl vq w fv g) (Rw : Rep g w G) (hG : Adj E G) (hn : G.length = n) (hnl : n ≤ 1048576)
    (hfv : fnOf fv = some (fn_impl_components_1, [], [.pointer (some ⟨bC, 0, none⟩), .pointer (some ⟨bN, 0, none⟩), .pointer (some ⟨bL, 0, none⟩), .pointer (some ⟨bS, 0, none⟩), .pointer (some ⟨bG, 0, none⟩), .pointer (some ⟨bV, 0, none⟩), .pointer (some ⟨bQ, 0, none⟩), .pointer (some ⟨bP, 0, none⟩)])) :
    ∀ (m : Nat) (gr : Nat → Prop) (s : TS) (a : Nat) (h : Heap), unv n s.num = m → CH g vn vl vq bS bC bP n s h → TI n E gr s → a < n → s.num a = 0 → (∀ g, gr g → g ∈ s.stk → Rch E g a) → (∀ g, gr g → g < n ∧ s.num g ≠ 0) →
    CallE Try.prog fn_impl_components_1 [.int .i64 a, .pointer (some ⟨bC, 0, none⟩), .pointer (some ⟨bN, 0, none⟩), .pointer (some ⟨bL, 0, none⟩), .pointer (some ⟨bS, 0, none⟩), .pointer (some ⟨bG, 0, none⟩), .pointer (some ⟨bV, 0, none⟩), .pointer (some ⟨bQ, 0, none⟩), .pointer (some ⟨bP, 0, none⟩)] h
      (fun u h' => ∃ s', CH g vn vl vq bS bC bP n s' h' ∧ TV n E gr s a s') := by
  intro m
  induction m using Nat.strongRecOn with
  | ind m ih =>
  rintro gr s a h hm ⟨N, L, Q, vs, hl, H⟩ hI han ha0 hg1 hg2
  have hE : ∀ x y, E x y → x < n ∧ y < n := fun x y hxy => hn ▸ hG.lt x y hxy
  have hc := hI.cnt
  have hcn := hl.cnt
  have hNl := hl.hN
  have hLl := hl.hL
  have hQl := hl.hQ
  have haG : a < G.length := by omega
  obtain ⟨u, hu0, Ru⟩ := Rw.ldL haG
  have hul := Ru.lt
  refine CallE.gen fun k hk => EN_impl_components_1 rfl ?_
  simp -implicitDefEqProofs (disch:=first|omega|(simp only[LnZ];omega))[wrap64, H.sw5.bxld0]
  refine H.sw5.bxst (u := .int .i64 (s.cnt + 1)) rfl rfl rfl rfl (by simp) fun h1 H => ?_
  simp only [setC, cells_int, List.take_zero, List.nil_append] at H
  have H : HS g (bx bC [.int .i64 (s.cnt + 1)] :: ow vn N :: ow vl L :: ow vq Q :: ow vs (s.stk.map Int.ofNat) :: bx bS [vs] :: [bx bP [.int .i64 s.prt]]) h1 := H
  have H := H.bk5
  simp -implicitDefEqProofs (disch:=first|omega|(simp only[LnZ];omega))[wrap64, F.on H, H.sw5.bxld0, H.rep.I]
  refine H.storeF (s.cnt + 1) (i := a) (by omega) rfl rfl ⟨by omega, by omega⟩ rfl fun h2 H => ?_
  have H := H.sw1
  simp -implicitDefEqProofs (disch:=first|omega|(simp only[LnZ];omega))[wrap64, F.on H, H.sw5.bxld0, H.rep.I]
  refine H.storeF (s.cnt + 1) (i := a) (by omega) rfl rfl ⟨by omega, by omega⟩ rfl fun h3 H => ?_
  have H := H.sw1
  simp -implicitDefEqProofs (disch:=first|omega|(simp only[LnZ];omega))[wrap64, F.on H, H.sw4.bxld0]
  refine H.sw3.app1 (a : Int) rfl rfl rfl ⟨by omega, by omega⟩ rfl rfl (by simp; omega) (by simp; omega) fun vs1 h4 H => ?_
  have H := H.bk3
  simp -implicitDefEqProofs (disch:=first|omega|(simp only[LnZ];omega))[wrap64, F.on H]
  refine H.sw4.bxst (u := vs1) rfl rfl (by rw [H.sw3.rep.cells]; rfl) (by rw [H.sw3.rep.cells]; simp [H.sw3.rep.one]) (by simp [H.sw3.rep.cells]) fun h5 H => ?_
  have H : HS g [ow vn (N.set a (s.cnt + 1)), ow vl (L.set a (s.cnt + 1)), ow vq Q, ow vs1 ((s.push a).stk.map Int.ofNat), bx bS [vs1], bx bC [.int .i64 (s.cnt + 1)], bx bP [.int .i64 s.prt]] h5 := by
    simpa [setC, H.sw4.rep.cells, TS.push] using H.bk4
  have hl1 : CHl n (N.set a (s.cnt + 1)) (L.set a (s.cnt + 1)) Q (s.push a) := by
    refine ⟨by simpa using hNl, by simpa using hLl, hQl, by rw [gd_set (by omega), ← hl.num]; rfl, by rw [gd_set (by omega), ← hl.low]; rfl, hl.part, ?_⟩
    have h1 : unv n (s.push a).num < unv n s.num := by
      refine unv_lt han ha0 (by simp [TS.push]; omega) fun x hx hx0 => ?_
      by_cases e : x = a
      · exact absurd ha0 (e ▸ hx0)
      · simp only [TS.push, fput_ne e]; exact hx0
    show s.cnt + 1 + (unv n (s.push a).num : Int) ≤ n
    omega
  have hT := TL.start hE hI han ha0 hg1
  simp -implicitDefEqProofs (disch:=first|omega|(simp only[LnZ];omega))[wrap64, F.on H, (Rw.on H).X (n := 1) rfl, hload_le H.base hu0, Ru.len]
  refine wp_count G[a].length (fun j e h' => e = [some (.int .i64 a), none, some (.pointer (some ⟨bN, 0, none⟩)), some (.pointer (some ⟨bL, 0, none⟩)), some (.pointer (some ⟨bS, 0, none⟩)), none, some (.pointer (some ⟨bV, 0, none⟩)), some (.pointer (some ⟨bQ, 0, none⟩)), some (.pointer (some ⟨bP, 0, none⟩)), none, none, some u, some (.int .i64 G[a].length), some (.int .i64 j)] ∧
    ∃ s1, CH g vn vl vq bS bC bP n s1 h' ∧ TL n E gr s a (fun y => ∃ (j' : Nat) (hj' : j' < G[a].length), j' < j ∧ G[a][j'] = y) s1) ⟨by simp, _, ⟨_, _, _, _, hl1, H⟩, hT.mono fun y ⟨_, _, h0, _⟩ => absurd h0 (Nat.not_lt_zero _)⟩ ?_
  clear hl1 hT H hl
  rintro J j _ h6 hJ hj ⟨rfl, s1, ⟨N, L, Q, vs, hl, H⟩, hT⟩
  have hNl := hl.hN
  have hLl := hl.hL
  have hQl := hl.hQ
  simp -implicitDefEqProofs (disch:=first|omega|(simp only[LnZ];omega))[wrap64]
  refine IteW.mk (fun hlt => ?_) (fun hge => ?_)
  · have hjl : j < G[a].length := by omega
    obtain ⟨y, hy, hxy, hyG⟩ := hG.get haG hjl
    have hyn : y < n := by omega
    have hsc : ∀ z : Nat, (∃ (j' : Nat) (hj' : j' < G[a].length), j' < j + 1 ∧ G[a][j'] = z) → (∃ (j' : Nat) (hj' : j' < G[a].length), j' < j ∧ G[a][j'] = z) ∨ z = y := by
      rintro z ⟨j', hj', h1, h2⟩
      by_cases e : j' = j
      · subst e; exact .inr (by omega)
      · exact .inl ⟨j', hj', by omega, h2⟩
    have hNy : s1.num y = N[y]'(by omega) := by rw [hl.num, gd_get]
    have hQy : s1.part y = Q[y]'(by omega) := by rw [hl.part, gd_get]
    have hLa : s1.low a = L[a]'(by omega) := by rw [hl.low, gd_get]
    by_cases hy0 : N[y]'(by omega) = 0
    · have hy0' : s1.num y = 0 := by rw [hNy, hy0]
      have hgray := hT.gray hxy hI hg2 han
      have hlt2 : unv n s1.num < m := by
        rw [← hm]
        refine unv_lt han ha0 (by rw [hT.na]; omega) fun x hx hx0 => ?_
        rw [(hT.num x hx hx0).1]; exact hx0
      simp -implicitDefEqProofs (disch:=first|omega|(simp only[LnZ];omega))[wrap64, (Ru.on H).I, hy, F.on H, H.rep.I, hy0, hfv]
      refine (ih (unv n s1.num) hlt2 _ s1 y _ rfl ⟨N, L, Q, vs, hl, H⟩ hT.inv hyn hy0' hgray.1 hgray.2.1).go ?_
      clear H hl hNy hQy hLa
      rintro u' h7 ⟨s2, ⟨N2, L2, Q2, vs2, hl, H⟩, hV⟩
      have hLl2 := hl.hL
      have hLa : L2[a]'(by omega) = s2.low a := by rw [hl.low, gd_get]
      have hLy : L2[y]'(by omega) = s2.low y := by rw [hl.low, gd_get]
      have H := H.sw1
      have hla := H.rep.okI (i := a) (by omega)
      have hly := H.rep.okI (i := y) (by omega)
      simp -implicitDefEqProofs (disch:=first|omega|(simp only[LnZ];omega))[wrap64, F.on H, H.rep.I, ite_min]
      refine H.storeF (min (L2[a]'(by omega)) (L2[y]'(by omega))) (i := a) (by omega) rfl rfl ⟨by omega, by omega⟩ rfl fun h8 H => ?_
      simp -implicitDefEqProofs (disch:=first|omega|(simp only[LnZ];omega))[wrap64]
      refine hJ _ _ hjl ⟨rfl, s2.lower a (s2.low y), ⟨N2, L2.set a (min (L2[a]'(by omega)) (L2[y]'(by omega))), Q2, vs2, ⟨hl.hN, by simpa using hLl2, hl.hQ, hl.num, ?_, hl.part, hl.cnt⟩, H.sw1⟩, (hT.visit hxy hE ha0 hI hy0' hV).mono hsc⟩
      rw [gd_set (by omega), ← hl.low, hLa, hLy]
      rfl
    · have hy0' : s1.num y ≠ 0 := by rw [hNy]; exact hy0
      by_cases hp : Q[y]'(by omega) < 0
      · have hl2 : (L[a]'(by omega)) = s1.low a := hLa.symm
        have H1 := H.sw1
        have hla := H1.rep.okI (i := a) (by omega)
        have hny := H.rep.okI (i := y) (by omega)
        simp -implicitDefEqProofs (disch:=first|omega|(simp only[LnZ];omega))[wrap64, (Ru.on H).I, hy, F.on H, H.rep.I, hy0, H.sw2.rep.I, hp, H.sw1.rep.I, ite_min]
        refine H1.storeF (min (L[a]'(by omega)) (N[y]'(by omega))) (i := a) (by omega) rfl rfl ⟨by omega, by omega⟩ rfl fun h8 H => ?_
        simp -implicitDefEqProofs (disch:=first|omega|(simp only[LnZ];omega))[wrap64]
        refine hJ _ _ hjl ⟨rfl, s1.lower a (s1.num y), ⟨N, L.set a (min (L[a]'(by omega)) (N[y]'(by omega))), Q, vs, ⟨hl.hN, by simpa using hLl, hl.hQ, hl.num, ?_, hl.part, hl.cnt⟩, H.sw1⟩, (hT.seen hxy hE ha0 hI hy0' (by rw [hQy]; exact hp)).mono hsc⟩
        rw [gd_set (by omega), ← hl.low, hl2, ← hNy]
        rfl
      · simp -implicitDefEqProofs (disch:=first|omega|(simp only[LnZ];omega))[wrap64, (Ru.on H).I, hy, F.on H, H.rep.I, hy0, H.sw2.rep.I, hp]
        exact hJ _ _ hjl ⟨rfl, s1, ⟨N, L, Q, vs, hl, H⟩, (hT.skip hI hyn hy0' (by rw [hQy]; omega)).mono hsc⟩
  have hall : ∀ y, E a y → ∃ (j' : Nat) (hj' : j' < G[a].length), j' < j ∧ G[a][j'] = y := by
    intro y hxy
    obtain ⟨_, j', hj', h1⟩ := hG.of hxy
    exact ⟨j', hj', by omega, h1⟩
  have hLa : s1.low a = L[a]'(by omega) := by rw [hl.low, gd_get]
  have hNa : s1.num a = N[a]'(by omega) := by rw [hl.num, gd_get]
  have hc1 := hT.inv.cnt
  by_cases he : L[a]'(by omega) = N[a]'(by omega)
  case neg =>
    simp -implicitDefEqProofs (disch:=first|omega|(simp only[LnZ];omega))[wrap64, F.on H, H.rep.I, H.sw1.rep.I, he]
    exact RetK.keep (hk _ _ ⟨s1, ⟨N, L, Q, vs, hl, H⟩, hT.end1 hall han ha0 hI (by rw [hLa, hNa]; exact he)⟩)
  obtain ⟨wl, hw, hw2⟩ := hT.stk
  have hlen : s1.stk.length = s.stk.length + (a :: wl).length := by rw [hw]; simp
  have hcl : s1.cnt ≤ n := by have := hl.cnt; omega
  have hpr : ∀ x ∈ a :: wl, x < n := fun x hx => hT.inv.stk_lt (by rw [hw]; exact List.mem_append_right _ hx)
  simp -implicitDefEqProofs (disch:=first|omega|(simp only[LnZ];omega))[wrap64, F.on H, H.rep.I, H.sw1.rep.I, he]
  refine wp_while (σ := Nat) (fun m e h' => m ≤ (a :: wl).length ∧ e = [some (.int .i64 a), none, none, none, some (.pointer (some ⟨bS, 0, none⟩)), none, none, some (.pointer (some ⟨bQ, 0, none⟩)), some (.pointer (some ⟨bP, 0, none⟩)), none, some (.int .i64 (topv (a :: wl) m)), none, none, none] ∧
      ∃ Q' vs', Q'.length = n ∧ gd Q' = (fun x => if x ∈ (a :: wl).drop m then s1.prt else s1.part x) ∧ HS g [ow vn N, ow vl L, ow vq Q', ow vs' ((s.stk ++ (a :: wl).take m).map Int.ofNat), bx bS [vs'], bx bC [.int .i64 s1.cnt], bx bP [.int .i64 s1.prt]] h')
    (fun m => m) (a :: wl).length ⟨Nat.le_refl _, by simp [topv], Q, vs, hQl, by rw [List.drop_length]; simp [hl.part], by rw [List.take_length, ← hw]; exact H⟩ ?_
  rintro J2 m _ h7 hJ2 ⟨hml, rfl, Q', vs', hQl', hQ', H⟩
  cases m with
  | zero =>
    have ht : topv (a :: wl) 0 = a := by simp [topv]
    simp -implicitDefEqProofs (disch:=first|omega|(simp only[LnZ];omega))[wrap64, ht, H.sw6.bxld0]
    refine H.sw6.bxst (u := .int .i64 (s1.prt + 1)) rfl rfl rfl rfl (by simp) fun h8 H => ?_
    have H : HS g (bx bP [.int .i64 (s1.prt + 1)] :: ow vn N :: ow vl L :: ow vq Q' :: ow vs' (s.stk.map Int.ofNat) :: bx bS [vs'] :: [bx bC [.int .i64 s1.cnt]]) h8 := by
      simpa [setC] using H
    have H := H.bk6
    simp -implicitDefEqProofs (disch:=first|omega|(simp only[LnZ];omega))[wrap64]
    exact RetK.keep (hk _ _ ⟨s1.pop s.stk (a :: wl), ⟨N, L, Q', vs', ⟨hl.hN, hl.hL, hQl', hl.num, hl.low, by rw [hQ']; rfl, hl.cnt⟩, H⟩, hT.end2 hE hall han ha0 hI hg2 (by rw [hLa, hNa]; exact he) hw⟩)
  | succ m =>
    have hmC : m < (a :: wl).length := by omega
    obtain ⟨c, hc'⟩ : ∃ c, (a :: wl)[m] = c := ⟨_, rfl⟩
    have hcn : c < n := hpr c (hc' ▸ List.getElem_mem hmC)
    have ht : ¬ (topv (a :: wl) (m + 1) = a) := by
      unfold topv
      split
      · rename_i hlt2
        simp only [List.getElem_cons_succ]
        have hm2 : m < wl.length := by simpa using hlt2
        have := (hw2 _ (List.getElem_mem hm2)).2
        omega
      · omega
    have htm : topv (a :: wl) m = c := by simp only [topv, hmC, dif_pos, hc']
    obtain ⟨W, hW⟩ : ∃ W, W = (s.stk ++ (a :: wl).take m).map Int.ofNat := ⟨_, rfl⟩
    have hst : (s.stk ++ (a :: wl).take (m + 1)).map Int.ofNat = W ++ [(c : Int)] := by
      rw [hW, List.take_add_one, List.getElem?_eq_getElem hmC, hc']
      simp
    have hWl : W.length = s.stk.length + m := by
      rw [hW]
      simp at hml ⊢
      omega
    rw [hst] at H
    obtain ⟨v', hv', H'⟩ := H.sw3.cut (n := W.length) (esz := 1) (k := .i64) (by simp)
    rw [List.take_left' rfl] at H'
    have hlen1 : (W ++ [(c : Int)]).length = W.length + 1 := by simp
    have hi1 : IntKind.i64.wrap ((W.length : Int) + 1 - 1) = W.length := by rw [wrap64 (by omega) (by omega)]; omega
    have H' := H'.bk3
    simp -implicitDefEqProofs (disch:=first|omega|(simp only[LnZ];omega))[wrap64, ht, H.sw4.bxld0, H.sw3.rep.I, hlen1, hi1, hv']
    refine H'.sw4.bxst (u := v') rfl rfl (by rw [H'.sw3.rep.cells]; rfl) (by rw [H'.sw3.rep.cells]; simp [H'.sw3.rep.one]) (by simp [H'.sw3.rep.cells]) fun h8 H => ?_
    have H : HS g [ow vn N, ow vl L, ow vq Q', ow v' W, bx bS [v'], bx bC [.int .i64 s1.cnt], bx bP [.int .i64 s1.prt]] h8 := by
      simpa [setC, H'.sw3.rep.cells] using H.bk4
    have hQb := hT.inv.bnd a han
    simp -implicitDefEqProofs (disch:=first|omega|(simp only[LnZ];omega))[wrap64, F.on H, H.sw6.bxld0, H.sw2.rep.I]
    refine H.sw2.storeF s1.prt (i := c) (by omega) rfl rfl ⟨by omega, by omega⟩ rfl fun h9 H => ?_
    have H := H.bk2
    simp -implicitDefEqProofs (disch:=first|omega|(simp only[LnZ];omega))[wrap64]
    refine hJ2 m _ _ (by omega) ⟨by omega, by rw [htm], Q'.set c s1.prt, v', by simpa using hQl', ?_, by rw [← hW]; exact H⟩
    rw [gd_set (by omega), hQ']
    funext x
    rw [List.drop_eq_getElem_cons hmC, hc']
    by_cases e : x = c
    · subst e; simp
    · simp only [fput_ne e, List.mem_cons, e, false_or]
end Go.Proofs.Ytglnelcmcimljaa

namespace Go.Proofs.Ytglnelcmcimljaa
open Go
theorem HS.only {g h : Heap} {Γ : List HP} {p : HP} (H : HS g (p :: Γ) h) : HS g [p] h := by
  obtain ⟨g', r, e, d, hp, H⟩ := H
  exact ⟨g', r, e, d, hp, H.base⟩
structure NmI (n : Nat) (f : Nat → Int) (i : Nat) (l : List (Int × Int)) (Q : List Int) : Prop where
  len : Q.length = n
  le : l.length ≤ i
  done : ∀ x, x < i → mlk l (f x) = some (gd Q x)
  rest : ∀ x, i ≤ x → x < n → gd Q x = f x
  bnd : ∀ a y, mlk l a = some y → 0 ≤ y ∧ y < l.length
  inj : ∀ a b y, mlk l a = some y → mlk l b = some y → a = b
theorem NmI.old {n : Nat} {f : Nat → Int} {i : Nat} {l : List (Int × Int)} {Q : List Int} {y : Int} (h : NmI n f i l Q) (hi : i < n) (hy : mlk l (f i) = some y) : NmI n f (i + 1) l (Q.set i y) := by
  have hl := h.len
  refine ⟨by simpa using hl, by have := h.le; omega, ?_, ?_, h.bnd, h.inj⟩
  · intro x hx
    rw [gd_set (by omega)]
    by_cases e : x = i
    · subst e; simp [hy]
    · rw [fput_ne e]; exact h.done x (by omega)
  · intro x hx hxn
    rw [gd_set (by omega), fput_ne (by omega)]
    exact h.rest x (by omega) hxn
theorem NmI.new {n : Nat} {f : Nat → Int} {i : Nat} {l : List (Int × Int)} {Q : List Int} (h : NmI n f i l Q) (hi : i < n) (hy : mlk l (f i) = none) : NmI n f (i + 1) (l ++ [(f i, (l.length : Int))]) (Q.set i (l.length : Int)) ∧ mlk (l ++ [(f i, (l.length : Int))]) (f i) = some (l.length : Int) := by
  have hl := h.len
  have hs := fun b => mlk_snoc (y := (l.length : Int)) (b := b) hy
  refine ⟨⟨by simpa using hl, by have := h.le; simp; omega, ?_, ?_, ?_, ?_⟩, by rw [hs, if_pos rfl]⟩
  · intro x hx
    rw [gd_set (by omega), hs]
    by_cases e : x = i
    · subst e; simp
    · rw [fput_ne e]
      have h1 := h.done x (by omega)
      rw [if_neg]
      · exact h1
      · intro e2; rw [← e2, hy] at h1; simp at h1
  · intro x hx hxn
    rw [gd_set (by omega), fput_ne (by omega)]
    exact h.rest x (by omega) hxn
  · intro a y ha
    rw [hs] at ha
    split at ha
    · simp at ha; subst ha; simp; omega
    · have := h.bnd a y ha; simp; omega
  · intro a b y ha hb
    rw [hs] at ha hb
    split at ha
    · simp at ha
      split at hb
      · rename_i e1 e2; rw [← e1, ← e2]
      · have := h.bnd b y hb; omega
    · split at hb
      · simp at hb
        have := h.bnd a y ha; omega
      · exact h.inj a b y ha hb
theorem NmI.result {n : Nat} {f : Nat → Int} {l : List (Int × Int)} {Q : List Int} (h : NmI n f n l Q) : (∀ x, x < n → 0 ≤ gd Q x ∧ gd Q x < n) ∧ ∀ x y, x < n → y < n → (gd Q x = gd Q y ↔ f x = f y) := by
  refine ⟨fun x hx => ?_, fun x y hx hy => ⟨fun e => ?_, fun e => ?_⟩⟩
  · have := h.bnd _ _ (h.done x hx)
    have := h.le
    omega
  · have h1 := h.done x hx
    have h2 := h.done y hy
    rw [e] at h1
    exact h.inj _ _ _ h1 h2
  · have h1 := h.done x hx
    have h2 := h.done y hy
    rw [e, h2] at h1
    simpa using h1.symm
set_option maxHeartbeats 4000000 in
theorem c_components {h : Heap} {w : Value} {G : List (List Int)} {E : Nat → Nat → Prop} (Rw : Rep h w G) (hG : Adj E G) (hnl : G.length ≤ 1048576) :
    CallE Try.prog fn_impl_components [w] h (fun u h' => ∃ Q : List Int, HS h [ow u Q] h' ∧ Q.length = G.length ∧ (∀ x, x < G.length → 0 ≤ gd Q x ∧ gd Q x < G.length) ∧ ∀ x y, x < G.length → y < G.length → (gd Q x = gd Q y ↔ Scc E x y)) := by
  refine CallE.gen fun k hk => EN_impl_components rfl ?_
  simp -implicitDefEqProofs (disch:=first|omega|(simp only[LnZ];omega))[wrap64]
  refine HS.init.alloc rfl fun bG h1 H => ?_
  have H : HS h [bx bG [w]] h1 := by simpa [Rw.cells] using H
  simp -implicitDefEqProofs (disch:=first|omega|(simp only[LnZ];omega))[wrap64, H.bxld0, Rw.len]
  refine H.mks (α := Int) (z := 0) rfl rfl (own_zero (by decide) (by decide)) (Nat.le_refl _) (by omega) (by omega) fun vn h2 H => ?_
  simp -implicitDefEqProofs (disch:=first|omega|(simp only[LnZ];omega))[wrap64]
  refine H.mks (α := Int) (z := 0) rfl rfl (own_zero (by decide) (by decide)) (Nat.le_refl _) (by omega) (by omega) fun vl h3 H => ?_
  simp -implicitDefEqProofs (disch:=first|omega|(simp only[LnZ];omega))[wrap64]
  refine H.mks (α := Int) (z := 0) rfl rfl (own_zero (by decide) (by decide)) (Nat.le_refl _) (by omega) (by omega) fun vq h4 H => ?_
  simp -implicitDefEqProofs (disch:=first|omega|(simp only[LnZ];omega))[wrap64]
  refine H.alloc rfl fun bN h5 H => ?_
  simp -implicitDefEqProofs (disch:=first|omega|(simp only[LnZ];omega))[wrap64]
  refine H.alloc rfl fun bL h6 H => ?_
  simp -implicitDefEqProofs (disch:=first|omega|(simp only[LnZ];omega))[wrap64]
  refine H.alloc rfl fun bQ h7 H => ?_
  simp -implicitDefEqProofs (disch:=first|omega|(simp only[LnZ];omega))[wrap64]
  have R0 := H.sw3.rep
  have R1 := H.sw4.rep
  have R2 := H.sw5.rep
  refine H.sw2.bxst (u := vn) rfl rfl (by rw [R2.cells]; rfl) (by rw [R2.cells]; simp [R2.one]) (by simp [R2.cells]) fun h8 H => ?_
  simp -implicitDefEqProofs (disch:=first|omega|(simp only[LnZ];omega))[wrap64]
  refine H.sw2.bxst (u := vl) rfl rfl (by rw [R1.cells]; rfl) (by rw [R1.cells]; simp [R1.one]) (by simp [R1.cells]) fun h9 H => ?_
  simp -implicitDefEqProofs (disch:=first|omega|(simp only[LnZ];omega))[wrap64]
  refine H.sw2.bxst (u := vq) rfl rfl (by rw [R0.cells]; rfl) (by rw [R0.cells]; simp [R0.one]) (by simp [R0.cells]) fun h10 H => ?_
  have H : HS h [bx bQ [vq], bx bL [vl], bx bN [vn], ow vq (List.replicate G.length (0 : Int)), ow vl (List.replicate G.length (0 : Int)), ow vn (List.replicate G.length (0 : Int)), bx bG [w]] h10 := by
    simpa [setC, R0.cells, R1.cells, R2.cells] using H
  have H := H.sw3
  simp -implicitDefEqProofs (disch:=first|omega|(simp only[LnZ];omega))[wrap64, H.sw1.bxld0, H.rep.len]
  refine wp_count G.length (fun i e h' => e = [none, some (.pointer (some ⟨bG, 0, none⟩)), none, some (.int .i64 G.length), some (.pointer (some ⟨bN, 0, none⟩)), some (.pointer (some ⟨bL, 0, none⟩)), some (.pointer (some ⟨bQ, 0, none⟩)), none, none, none, none, none, none, none, none, none, none, some (.int .i64 G.length), some (.int .i64 i), none, none, none, none, none] ∧
    ∃ Q : List Int, HS h [ow vq Q, bx bQ [vq], bx bL [vl], bx bN [vn], ow vl (List.replicate G.length (0 : Int)), ow vn (List.replicate G.length (0 : Int)), bx bG [w]] h' ∧ Q.length = G.length ∧ ∀ x, x < i → gd Q x = -1) ⟨by simp, _, H, by simp, fun x hx => absurd hx (Nat.not_lt_zero x)⟩ ?_
  clear H
  rintro J i _ h11 hJ hi ⟨rfl, Q, H, hQl, hQ⟩
  simp -implicitDefEqProofs (disch:=first|omega|(simp only[LnZ];omega))[wrap64]
  refine IteW.mk (fun hlt => ?_) (fun hge => ?_)
  · have hin : i < G.length := by omega
    simp -implicitDefEqProofs (disch:=first|omega|(simp only[LnZ];omega))[wrap64, H.sw1.bxld0, H.rep.I]
    refine H.storeF (-1) (i := i) (by omega) rfl rfl ⟨by decide, by decide⟩ rfl fun h12 H => ?_
    simp -implicitDefEqProofs (disch:=first|omega|(simp only[LnZ];omega))[wrap64]
    refine hJ _ _ hin ⟨rfl, _, H, by simpa using hQl, fun x hx => ?_⟩
    rw [gd_set (by omega)]
    by_cases e : x = i
    · subst e; simp
    · rw [fput_ne e]; exact hQ x (by omega)
  have hin : i = G.length := by omega
  subst hin
  simp -implicitDefEqProofs (disch:=first|omega|(simp only[LnZ];omega))[wrap64]
  refine H.alloc rfl fun bS h12 H => ?_
  simp -implicitDefEqProofs (disch:=first|omega|(simp only[LnZ];omega))[wrap64]
  refine H.alloc rfl fun bC h13 H => ?_
  simp -implicitDefEqProofs (disch:=first|omega|(simp only[LnZ];omega))[wrap64]
  refine H.alloc rfl fun bP h14 H => ?_
  simp -implicitDefEqProofs (disch:=first|omega|(simp only[LnZ];omega))[wrap64]
  refine H.sw1.bxst (u := .int .i64 0) rfl rfl rfl rfl (by simp) fun h15 H => ?_
  simp -implicitDefEqProofs (disch:=first|omega|(simp only[LnZ];omega))[wrap64]
  refine H.sw1.bxst (u := .int .i64 0) rfl rfl rfl rfl (by simp) fun h16 H => ?_
  simp -implicitDefEqProofs (disch:=first|omega|(simp only[LnZ];omega))[wrap64]
  refine H.alloc rfl fun bV h17 H => ?_
  simp -implicitDefEqProofs (disch:=first|omega|(simp only[LnZ];omega))[wrap64]
  obtain ⟨fv, hfv⟩ : ∃ fv, fv = Value.func (.func fn_impl_components_1) #[] #[.pointer (some ⟨bC, 0, none⟩), .pointer (some ⟨bN, 0, none⟩), .pointer (some ⟨bL, 0, none⟩), .pointer (some ⟨bS, 0, none⟩), .pointer (some ⟨bG, 0, none⟩), .pointer (some ⟨bV, 0, none⟩), .pointer (some ⟨bQ, 0, none⟩), .pointer (some ⟨bP, 0, none⟩)] := ⟨_, rfl⟩
  have hfn : fnOf fv = some (fn_impl_components_1, [], [.pointer (some ⟨bC, 0, none⟩), .pointer (some ⟨bN, 0, none⟩), .pointer (some ⟨bL, 0, none⟩), .pointer (some ⟨bS, 0, none⟩), .pointer (some ⟨bG, 0, none⟩), .pointer (some ⟨bV, 0, none⟩), .pointer (some ⟨bQ, 0, none⟩), .pointer (some ⟨bP, 0, none⟩)]) := by subst hfv; rfl
  have hfc : fv.cells = #[fv] := by subst hfv; rfl
  have hf1 : fv.oneCell' = true := by subst hfv; rfl
  rw [← hfv]
  refine H.bxst (u := fv) rfl rfl (by rw [hfc]; rfl) (by rw [hfc]; simp [hf1]) (by simp) fun h18 H => ?_
  have H : HS h [bx bV [fv], bx bP [.int .i64 0], bx bC [.int .i64 0], bx bS [.slice none 0 0], ow vq Q, bx bQ [vq], bx bL [vl], bx bN [vn], ow vl (List.replicate G.length (0 : Int)), ow vn (List.replicate G.length (0 : Int)), bx bG [w]] h18 := by
    simpa [setC, hfc] using H
  have H := H.nil_ow (α := Int)
  have H := H.sw1.sw11.sw7.sw8.sw9.sw6.sw7.sw8.sw8.sw9.sw10.sw11
  obtain ⟨g1, H0, H⟩ := HS.rebase (Δ := [ow vn (List.replicate G.length (0 : Int)), ow vl (List.replicate G.length (0 : Int)), ow vq Q, ow (.slice none 0 0) ([] : List Int), bx bS [.slice none 0 0], bx bC [.int .i64 0], bx bP [.int .i64 0]]) (Γ := [bx bN [vn], bx bL [vl], bx bQ [vq], bx bG [w], bx bV [fv]]) H
  have F : FB bN bL bQ bG bV vn vl vq w fv g1 := ⟨H0.bxld0, H0.sw1.bxld0, H0.sw2.bxld0, H0.sw3.bxld0, H0.sw4.bxld0⟩
  have Rw1 := Rw.on H0
  have hg0 : ∀ x, gd (List.replicate G.length (0 : Int)) x = 0 := by
    intro x
    simp only [gd, List.getD_eq_getElem?_getD, List.getElem?_replicate]
    split <;> rfl
  have hE := hG.lt
  have hC0 : ∃ s, CH g1 vn vl vq bS bC bP G.length s h18 ∧ TI G.length E (fun _ => False) s ∧ ∀ x, x < 0 → s.num x ≠ 0 := by
    refine ⟨⟨gd (List.replicate G.length (0 : Int)), gd (List.replicate G.length (0 : Int)), gd Q, [], 0, 0⟩, ⟨_, _, Q, .slice none 0 0, ⟨by simp, by simp, hQl, rfl, rfl, rfl, ?_⟩, H⟩, TI.start (fun x _ => hg0 x) (fun x hx => hQ x hx) rfl rfl rfl, fun x hx => absurd hx (Nat.not_lt_zero x)⟩
    have := List.length_filter_le (fun x => decide (x < G.length ∧ gd (List.replicate G.length (0 : Int)) x = 0)) (List.range G.length)
    simp only [List.length_range] at this
    show (0 : Int) + ((unv G.length (gd (List.replicate G.length (0 : Int))) : Nat) : Int) ≤ _
    unfold unv
    omega
  simp -implicitDefEqProofs (disch:=first|omega|(simp only[LnZ];omega))[wrap64]
  refine wp_count G.length (fun i e h' => e = [none, none, none, none, some (.pointer (some ⟨bN, 0, none⟩)), none, some (.pointer (some ⟨bQ, 0, none⟩)), none, none, none, none, some (.pointer (some ⟨bV, 0, none⟩)), none, none, none, none, none, none, none, some (.int .i64 G.length), some (.int .i64 i), none, none, none] ∧
    ∃ s, CH g1 vn vl vq bS bC bP G.length s h' ∧ TI G.length E (fun _ => False) s ∧ ∀ x, x < i → s.num x ≠ 0) ⟨by simp, hC0⟩ ?_
  clear H hC0 hQ hQl hJ
  rintro J2 i _ h19 hJ2 hi2 ⟨rfl, s, ⟨N, L, Q, vs, hl, H⟩, hI, hv⟩
  have hNl := hl.hN
  simp -implicitDefEqProofs (disch:=first|omega|(simp only[LnZ];omega))[wrap64]
  refine IteW.mk (fun hlt2 => ?_) (fun hge2 => ?_)
  · have hin : i < G.length := by omega
    have hNi : s.num i = N[i]'(by omega) := by rw [hl.num, gd_get]
    by_cases h0 : N[i]'(by omega) = 0
    · simp -implicitDefEqProofs (disch:=first|omega|(simp only[LnZ];omega))[wrap64, F.on H, H.rep.I, h0, hfn]
      refine (c_visit F Rw1 hG rfl hnl hfn _ (fun _ => False) s i _ rfl ⟨N, L, Q, vs, hl, H⟩ hI hin (by rw [hNi, h0]) (fun _ h => h.elim) (fun _ h => h.elim)).go ?_
      rintro u h20 ⟨s2, hC2, hV⟩
      simp -implicitDefEqProofs (disch:=first|omega|(simp only[LnZ];omega))[wrap64]
      refine hJ2 _ _ hin ⟨rfl, s2, hC2, hV.inv, fun x hx => ?_⟩
      by_cases e : x = i
      · subst e; exact hV.vis
      · have h1 := hv x (by omega)
        rw [(hV.num x (by omega) h1).1]; exact h1
    · simp -implicitDefEqProofs (disch:=first|omega|(simp only[LnZ];omega))[wrap64, F.on H, H.rep.I, h0]
      refine hJ2 _ _ hin ⟨rfl, s, ⟨N, L, Q, vs, hl, H⟩, hI, fun x hx => ?_⟩
      by_cases e : x = i
      · subst e; rw [hNi]; exact h0
      · exact hv x (by omega)
  have hin : i = G.length := by omega
  subst hin
  obtain ⟨hr1, hr2⟩ := hI.result hv
  have hQl := hl.hQ
  have H := H.sw2.only
  simp -implicitDefEqProofs (disch:=first|omega|(simp only[LnZ];omega))[wrap64]
  refine H.mkm (fun n : Int => .int .i64 n) (fun n : Int => .int .i64 n) fun bm h20 H => ?_
  have H := H.sw1
  simp -implicitDefEqProofs (disch:=first|omega|(simp only[LnZ];omega))[wrap64, F.on H, H.rep.len]
  refine wp_count G.length (fun i e h' => e = [none, none, none, none, none, none, some (.pointer (some ⟨bQ, 0, none⟩)), none, none, none, none, none, none, some (.map (some bm)), none, none, none, none, none, none, none, some vq, some (.int .i64 G.length), some (.int .i64 i)] ∧
    ∃ (l : List (Int × Int)) (Q : List Int), HS g1 [ow vq Q, mpo (fun n : Int => .int .i64 n) (fun n : Int => .int .i64 n) bm l] h' ∧ NmI G.length s.part i l Q) ⟨by simp [hQl], [], Q, H, hQl, by simp, fun x hx => absurd hx (Nat.not_lt_zero x), fun x _ _ => by rw [hl.part], fun a y h => by simp [mlk_nil] at h, fun a b y h => by simp [mlk_nil] at h⟩ ?_
  clear H hQl hl
  rintro J3 i _ h21 hJ3 hi3 ⟨rfl, l, Q, H, hM⟩
  have hQl := hM.len
  have hle := hM.le
  simp -implicitDefEqProofs (disch:=first|omega|(simp only[LnZ];omega))[wrap64]
  refine IteW.mk (fun hlt3 => ?_) (fun hge3 => ?_)
  · have hin : i < G.length := by omega
    have hQi : Q[i]'(by omega) = s.part i := by rw [← gd_get, hM.rest i (Nat.le_refl _) hin]
    simp -implicitDefEqProofs (disch:=first|omega|(simp only[LnZ];omega))[wrap64, H.rep.I, hQi]
    refine H.sw1.mget (a := s.part i) rfl rfl keyEq_int ?_
    cases hlk : mlk l (s.part i) with
    | some y =>
      have hyb := hM.bnd _ _ hlk
      simp -implicitDefEqProofs (disch:=first|omega|(simp only[LnZ];omega))[wrap64, F.on H]
      refine H.sw1.mget (a := s.part i) rfl rfl keyEq_int ?_
      rw [hlk]
      simp -implicitDefEqProofs (disch:=first|omega|(simp only[LnZ];omega))[wrap64, F.on H, H.rep.I]
      refine H.storeF y (i := i) (by omega) rfl rfl ⟨by omega, by omega⟩ rfl fun h22 H => ?_
      simp -implicitDefEqProofs (disch:=first|omega|(simp only[LnZ];omega))[wrap64]
      exact hJ3 _ _ hin ⟨rfl, l, _, H, hM.old hin hlk⟩
    | none =>
      obtain ⟨hn1, hn2⟩ := hM.new hin hlk
      simp -implicitDefEqProofs (disch:=first|omega|(simp only[LnZ];omega))[wrap64]
      refine H.sw1.mlen rfl ?_
      simp -implicitDefEqProofs (disch:=first|omega|(simp only[LnZ];omega))[wrap64]
      refine H.sw1.mput (a := s.part i) (v := (l.length : Int)) rfl rfl rfl keyEq_int hlk fun h22 H => ?_
      simp -implicitDefEqProofs (disch:=first|omega|(simp only[LnZ];omega))[wrap64, F.on H]
      refine H.mget (a := s.part i) rfl rfl keyEq_int ?_
      rw [hn2]
      have H := H.sw1
      simp -implicitDefEqProofs (disch:=first|omega|(simp only[LnZ];omega))[wrap64, F.on H, H.rep.I]
      refine H.storeF (l.length : Int) (i := i) (by omega) rfl rfl ⟨by omega, by omega⟩ rfl fun h23 H => ?_
      simp -implicitDefEqProofs (disch:=first|omega|(simp only[LnZ];omega))[wrap64]
      exact hJ3 _ _ hin ⟨rfl, _, _, H, hn1⟩
  have hin : i = G.length := by omega
  subst hin
  simp -implicitDefEqProofs (disch:=first|omega|(simp only[LnZ];omega))[wrap64, F.on H]
  obtain ⟨hb, hc⟩ := hM.result
  have Hf := (H.app H0).only
  exact RetK.keep (hk _ _ ⟨Q, Hf, hQl, hb, fun x y hx hy => by rw [hc x y hx hy, hr2 x y hx hy]⟩)
end Go.Proofs.Ytglnelcmcimljaa

namespace Go.Proofs.Ytglnelcmcimljaa
open Go
def cntP (Q : List Int) (i : Nat) (p : Int) : Nat := ((List.range i).filter fun y => decide (gd Q y = p)).length
theorem cntP_succ {Q : List Int} {i : Nat} {p : Int} : cntP Q (i + 1) p = cntP Q i p + if gd Q i = p then 1 else 0 := by
  simp only [cntP, List.range_succ, List.filter_append, List.length_append, List.filter_cons, List.filter_nil]
  by_cases h : gd Q i = p <;> simp [h]
theorem cntP_le {Q : List Int} {i : Nat} {p : Int} : cntP Q i p ≤ i := by
  have := List.length_filter_le (fun y => decide (gd Q y = p)) (List.range i)
  simpa [cntP] using this
theorem c_cyclic {h : Heap} {w : Value} {G : List (List Int)} {E : Nat → Nat → Prop} (Rw : Rep h w G) (hG : Adj E G) (hnl : G.length ≤ 1048576) :
    CallE Try.prog fn_impl_cyclic [w] h (fun u h' => ∃ C : List Bool, HS h [ow u C] h' ∧ C.length = G.length ∧ ∀ x, x < G.length → (tru C x ↔ Cyc E x)) := by
  refine CallE.gen fun k hk => EN_impl_cyclic rfl ?_
  simp -implicitDefEqProofs (disch:=first|omega|(simp only[LnZ];omega))[wrap64]
  refine (c_components Rw hG hnl).go ?_
  rintro p h1 ⟨Q, H, hQl, hQb, hQ⟩
  simp -implicitDefEqProofs (disch:=first|omega|(simp only[LnZ];omega))[wrap64, (Rw.on H).len]
  refine H.mks (α := Int) (z := 0) rfl rfl (own_zero (by decide) (by decide)) (Nat.le_refl _) (by omega) (by omega) fun z h2 H => ?_
  simp -implicitDefEqProofs (disch:=first|omega|(simp only[LnZ];omega))[wrap64, H.sw1.rep.len]
  refine wp_count G.length (fun i e h' => e = [some w, none, some p, some z, none, none, none, some p, some (.int .i64 G.length), some (.int .i64 i), none, none] ∧ ∃ Z : List Int, HS h [ow z Z, ow p Q] h' ∧ Z.length = G.length ∧ ∀ x, x < G.length → gd Z x = cntP Q i x) ⟨by simp [hQl], _, H, by simp, fun x hx => by rw [gd_get (by simpa using hx)]; simp [cntP]⟩ ?_
  clear H
  rintro J i _ h3 hJ hi ⟨rfl, Z, H, hZl, hZ⟩
  simp -implicitDefEqProofs (disch:=first|omega|(simp only[LnZ];omega))[wrap64]
  refine IteW.mk (fun hlt => ?_) (fun hge => ?_)
  · have hin : i < G.length := by omega
    have hq := hQb i hin
    obtain ⟨q, hqi⟩ : ∃ q : Nat, Q[i]'(by omega) = q := ⟨(Q[i]'(by omega)).toNat, by rw [← gd_get]; omega⟩
    have hqn : q < G.length := by rw [gd_get (by omega), hqi] at hq; omega
    have hzq : Z[q]'(by omega) = cntP Q i q := by rw [← gd_get, hZ q hqn]
    have hcl := cntP_le (Q := Q) (i := i) (p := q)
    simp -implicitDefEqProofs (disch:=first|omega|(simp only[LnZ];omega))[wrap64, H.sw1.rep.I, hqi, H.rep.I, hzq]
    refine H.storeF ((cntP Q i q : Int) + 1) (i := q) (by omega) rfl rfl ⟨by omega, by omega⟩ rfl fun h4 H => ?_
    simp -implicitDefEqProofs (disch:=first|omega|(simp only[LnZ];omega))[wrap64]
    refine hJ _ _ hin ⟨rfl, _, H, by simpa using hZl, fun x hx => ?_⟩
    rw [gd_set (by omega), cntP_succ, gd_get (by omega), hqi]
    by_cases e : x = q
    · subst e; simp
    · rw [fput_ne e, hZ x hx, if_neg (by omega)]; simp
  have hin : i = G.length := by omega
  subst hin
  simp -implicitDefEqProofs (disch:=first|omega|(simp only[LnZ];omega))[wrap64, (Rw.on H).len]
  refine H.mks (α := Bool) (z := false) rfl rfl own_false (Nat.le_refl _) (by omega) (by omega) fun c h4 H => ?_
  simp -implicitDefEqProofs (disch:=first|omega|(simp only[LnZ];omega))[wrap64, (Rw.on H).len]
  refine wp_count G.length (fun i e h' => e = [some w, none, some p, some z, none, some c, none, none, none, none, some (.int .i64 G.length), some (.int .i64 i)] ∧ ∃ C : List Bool, HS h [ow c C, ow z Z, ow p Q] h' ∧ C.length = G.length ∧ ∀ x, x < i → (tru C x ↔ Cyc E x)) ⟨by simp, _, H, by simp, fun x hx => absurd hx (Nat.not_lt_zero x)⟩ ?_
  clear H hJ
  rintro J i _ h5 hJ hi ⟨rfl, C, H, hCl, hC⟩
  simp -implicitDefEqProofs (disch:=first|omega|(simp only[LnZ];omega))[wrap64]
  refine IteW.mk (fun hlt2 => ?_) (fun hge2 => ?_)
  · have hin : i < G.length := by omega
    have hq := hQb i hin
    obtain ⟨q, hqi⟩ : ∃ q : Nat, Q[i]'(by omega) = q := ⟨(Q[i]'(by omega)).toNat, by rw [← gd_get]; omega⟩
    have hqn : q < G.length := by rw [gd_get (by omega), hqi] at hq; omega
    have hzq : Z[q]'(by omega) = cntP Q G.length q := by rw [← gd_get, hZ q hqn]
    have hpc := part_cycle hQ hG.lt hin
    have hcnt : ((List.range G.length).filter fun y => decide (gd Q y = gd Q i)).length = cntP Q G.length q := by
      rw [gd_get (by omega), hqi]; rfl
    rw [hcnt] at hpc
    have hstep : ∀ b : Bool, (b = true ↔ Cyc E i) → ∀ x, x < i + 1 → (tru (C.set i b) x ↔ Cyc E x) := by
      intro b hb x hx
      have h1 : tru (C.set i b) x ↔ if x = i then b = true else tru C x := by
        simp only [tru, List.getD_eq_getElem?_getD, List.getElem?_set]
        by_cases e : i = x
        · subst e; simp [show i < C.length by omega]
        · simp [e, Ne.symm e]
      rw [h1]
      split
      · rename_i e; subst e; exact hb
      · exact hC x (by omega)
    by_cases h1 : (1 : Int) < cntP Q G.length q
    · simp -implicitDefEqProofs (disch:=first|omega|(simp only[LnZ];omega))[wrap64, H.sw2.rep.I, hqi, H.sw1.rep.I, hzq, h1, H.rep.B]
      refine H.storeF true (i := i) (by omega) rfl rfl trivial rfl fun h6 H => ?_
      simp -implicitDefEqProofs (disch:=first|omega|(simp only[LnZ];omega))[wrap64]
      exact hJ _ _ hin ⟨rfl, _, H, by simpa using hCl, hstep true (by rw [hpc]; simp; omega)⟩
    · obtain ⟨u, hu0, Ru⟩ := Rw.ldL hin
      simp -implicitDefEqProofs (disch:=first|omega|(simp only[LnZ];omega))[wrap64, H.sw2.rep.I, hqi, H.sw1.rep.I, hzq, h1, H.rep.B, (Rw.on H).X (n := 1) rfl, hload_le H.base hu0]
      refine (c_Contains_int (Ru.on H)).go ?_
      rintro _ _ ⟨rfl, rfl⟩
      simp -implicitDefEqProofs (disch:=first|omega|(simp only[LnZ];omega))[wrap64, H.rep.B]
      refine H.storeF (decide ((i : Int) ∈ G[i])) (i := i) (by omega) rfl rfl trivial rfl fun h6 H => ?_
      simp -implicitDefEqProofs (disch:=first|omega|(simp only[LnZ];omega))[wrap64]
      refine hJ _ _ hin ⟨rfl, _, H, by simpa using hCl, hstep _ ?_⟩
      rw [hpc, decide_eq_true_iff, hG.mem i hin]
      constructor
      · rintro ⟨y, h2, h3⟩
        obtain rfl : i = y := by omega
        exact .inr h3
      · rintro (h2 | h2)
        · omega
        · exact ⟨i, rfl, h2⟩
  have hin : i = G.length := by omega
  subst hin
  simp -implicitDefEqProofs (disch:=first|omega|(simp only[LnZ];omega))[wrap64]
  exact RetK.keep (hk _ _ ⟨C, H.only, hCl, hC⟩)
theorem c_live {h : Heap} {v : Value} {a : Aut} (Ra : Rep h v a) (ha : a.Ok) : CallE Try.prog fn_impl_Automaton_live [v] h (fun u h' => ∃ L : List Bool, HS h [ow u L] h' ∧ L.length = a.acc.length ∧ ∀ q, tru L q ↔ q < a.acc.length ∧ a.Live q) := by
  obtain ⟨v1, v2, v3, rfl, R1, R2, R3⟩ := Rep_Aut.1 Ra
  have hn := ha.n
  refine CallE.gen fun k hk => EN_impl_Automaton_live rfl ?_
  simp -implicitDefEqProofs (disch:=first|omega|(simp only[LnZ];omega))[wrap64]
  refine (c_next Ra ha).go ?_
  rintro w h1 ⟨G, H, hG, hGl⟩
  simp -implicitDefEqProofs (disch:=first|omega|(simp only[LnZ];omega))[wrap64]
  refine (c_cyclic H.rep hG (by omega)).go ?_
  rintro c h2 ⟨C, H2, hCl, hC⟩
  have H := H2.app H
  simp -implicitDefEqProofs (disch:=first|omega|(simp only[LnZ];omega))[wrap64, H.sw1.rep.len]
  refine H.mks (α := Bool) (z := false) rfl rfl own_false (Nat.le_refl _) (by omega) (by omega) fun o h3 H => ?_
  simp -implicitDefEqProofs (disch:=first|omega|(simp only[LnZ];omega))[wrap64, H.sw2.rep.len]
  refine wp_count G.length (fun i e h' => e = [none, some (.agg #[v1, v2, v3]), none, some w, some c, some o, none, none, none, some (.int .i64 G.length), some (.int .i64 i), none, none, none] ∧ ∃ L : List Bool, HS h [ow o L, ow c C, ow w G] h' ∧ L.length = G.length ∧ ∀ q, tru L q ↔ q < i ∧ a.Live q) ⟨by simp, _, H, by simp, fun q => by simp [tru_replicate]⟩ ?_
  clear H
  rintro J i _ h4 hJ hi ⟨rfl, L, H, hLl, hL⟩
  simp -implicitDefEqProofs (disch:=first|omega|(simp only[LnZ];omega))[wrap64]
  refine IteW.mk (fun hlt => ?_) (fun hge => ?_)
  · have hin : i < G.length := by omega
    simp -implicitDefEqProofs (disch:=first|omega|(simp only[LnZ];omega))[wrap64]
    refine H.bls (α := Int) [(i : Int)] (by rfl) rfl (ok_one (by omega)) (by decide) fun s h4 H => ?_
    simp -implicitDefEqProofs (disch:=first|omega|(simp only[LnZ];omega))[wrap64]
    have hS1 : ∀ z ∈ [(i : Int)], 0 ≤ z ∧ z < (G.length : Int) := by
      intro z hz
      have hxi : z = i := by simpa using hz
      omega
    refine (c_reachable (S := [(i : Int)]) H.sw3.rep H.rep hG hS1 (by simp) (by omega)).go ?_
    rintro r h5 ⟨B, H5, hBl, hB⟩
    have H := H5.app H.drop
    simp -implicitDefEqProofs (disch:=first|omega|(simp only[LnZ];omega))[wrap64, H.rep.len]
    refine wp_count G.length (fun k e h' => e = [none, some (.agg #[v1, v2, v3]), none, some w, some c, some o, some (.int .i64 i), none, none, some (.int .i64 G.length), some (.int .i64 i), some r, some (.int .i64 G.length), some (.int .i64 k)] ∧ ∃ (L' : List Bool), HS h [ow r B, ow o L', ow c C, ow w G] h' ∧ L'.length = G.length ∧ (∀ q, q ≠ i → (tru L' q ↔ q < i ∧ a.Live q)) ∧ (tru L' i ↔ ∃ t, t < k ∧ tru B t ∧ tru C t ∧ tru a.acc t)) ⟨by simp [hBl], L, H, hLl, fun q _ => hL q, by rw [hL]; simp⟩ ?_
    rintro J2 k _ h6 hJ2 hk2 ⟨rfl, L', H, hLl', hL1, hL2⟩
    simp -implicitDefEqProofs (disch:=first|omega|(simp only[LnZ];omega))[wrap64]
    refine IteW.mk (fun hlt2 => ?_) (fun hge2 => ?_)
    · have hkn : k < G.length := by omega
      have H := H.sw1
      have hold : tru L' i ↔ L'[i]'(by omega) = true := tru_get (by omega)
      have hstep : ∀ b : Bool, (b = true ↔ tru L' i ∨ (tru B k ∧ tru C k ∧ tru a.acc k)) → (∀ q, q ≠ i → (tru (L'.set i b) q ↔ q < i ∧ a.Live q)) ∧ (tru (L'.set i b) i ↔ ∃ t, t < k + 1 ∧ tru B t ∧ tru C t ∧ tru a.acc t) := by
        intro b hb
        have h1 : ∀ x, tru (L'.set i b) x ↔ if x = i then b = true else tru L' x := by
          intro x
          simp only [tru, List.getD_eq_getElem?_getD, List.getElem?_set]
          by_cases e : i = x
          · subst e; simp [show i < L'.length by omega]
          · simp [e, Ne.symm e]
        refine ⟨fun q hq => by rw [h1, if_neg hq]; exact hL1 q hq, ?_⟩
        rw [h1, if_pos rfl, hb, hL2]
        constructor
        · rintro (⟨t, h2, h3⟩ | h3)
          · exact ⟨t, by omega, h3⟩
          · exact ⟨k, by omega, h3⟩
        · rintro ⟨t, h2, h3⟩
          by_cases e : t = k
          · subst e; exact .inr h3
          · exact .inl ⟨t, by omega, h3⟩
      have hgB := tru_get (B := B) (i := k) (by omega)
      have hgC := tru_get (B := C) (i := k) (by omega)
      have hgA := tru_get (B := a.acc) (i := k) (by omega)
      have hfin : ∀ b : Bool, (b = true ↔ tru L' i ∨ (tru B k ∧ tru C k ∧ tru a.acc k)) → ∀ h8, HS h [ow o (L'.set i b), ow r B, ow c C, ow w G] h8 → J2 [none, some (.agg #[v1, v2, v3]), none, some w, some c, some o, some (.int .i64 i), none, none, some (.int .i64 G.length), some (.int .i64 i), some r, some (.int .i64 G.length), some (.int .i64 ((k + 1 : Nat) : Int))] h8 :=
        fun b hb h8 H => hJ2 _ _ hkn ⟨rfl, _, H.sw1, by simpa using hLl', hstep b hb⟩
      by_cases e0 : L'[i]'(by omega) = true
      · simp -implicitDefEqProofs (disch:=first|omega|(simp only[LnZ];omega))[wrap64, H.sw1.rep.B, H.rep.B, e0]
        refine H.storeF true (i := i) (by omega) rfl rfl trivial rfl fun h7 H => ?_
        simp -implicitDefEqProofs (disch:=first|omega|(simp only[LnZ];omega))[wrap64]
        exact hfin true (by simp [hold, e0]) _ H
      by_cases e1 : B[k]'(by omega) = true
      case neg =>
        simp -implicitDefEqProofs (disch:=first|omega|(simp only[LnZ];omega))[wrap64, H.sw1.rep.B, H.rep.B, e0, e1]
        refine H.storeF false (i := i) (by omega) rfl rfl trivial rfl fun h7 H => ?_
        simp -implicitDefEqProofs (disch:=first|omega|(simp only[LnZ];omega))[wrap64]
        exact hfin false (by simp [hold, e0, hgB, e1]) _ H
      by_cases e2 : C[k]'(by omega) = true
      case neg =>
        simp -implicitDefEqProofs (disch:=first|omega|(simp only[LnZ];omega))[wrap64, H.sw1.rep.B, H.sw2.rep.B, H.rep.B, e0, e1, e2]
        refine H.storeF false (i := i) (by omega) rfl rfl trivial rfl fun h7 H => ?_
        simp -implicitDefEqProofs (disch:=first|omega|(simp only[LnZ];omega))[wrap64]
        exact hfin false (by simp [hold, e0, hgC, e2]) _ H
      by_cases e3 : a.acc[k]'(by omega) = true
      · simp -implicitDefEqProofs (disch:=first|omega|(simp only[LnZ];omega))[wrap64, H.sw1.rep.B, H.sw2.rep.B, H.rep.B, (R2.on H).B, e0, e1, e2, e3]
        refine H.storeF true (i := i) (by omega) rfl rfl trivial rfl fun h7 H => ?_
        simp -implicitDefEqProofs (disch:=first|omega|(simp only[LnZ];omega))[wrap64]
        exact hfin true (by simp [hgB, hgC, hgA, e1, e2, e3]) _ H
      · simp -implicitDefEqProofs (disch:=first|omega|(simp only[LnZ];omega))[wrap64, H.sw1.rep.B, H.sw2.rep.B, H.rep.B, (R2.on H).B, e0, e1, e2, e3]
        refine H.storeF false (i := i) (by omega) rfl rfl trivial rfl fun h7 H => ?_
        simp -implicitDefEqProofs (disch:=first|omega|(simp only[LnZ];omega))[wrap64]
        exact hfin false (by simp [hold, e0, hgA, e3]) _ H
    · simp -implicitDefEqProofs (disch:=first|omega|(simp only[LnZ];omega))[wrap64]
      refine hJ _ _ hin ⟨rfl, L', H.drop, hLl', fun q => ?_⟩
      by_cases e : q = i
      · subst e
        rw [hL2]
        constructor
        · rintro ⟨t, h1, h2, h3, h4⟩
          obtain ⟨z, h5, h6⟩ := (hB t).1 h2
          obtain rfl : z = q := by simpa [Int.ofNat_inj] using h5
          exact ⟨by omega, t, h6, (hC t (by rw [← hBl]; exact tru_lt h2)).1 h3, h4⟩
        · rintro ⟨_, t, h1, h2, h3⟩
          have htn : t < G.length := by rw [hGl]; exact tru_lt h3
          exact ⟨t, by omega, (hB t).2 ⟨q, by simp, h1⟩, (hC t htn).2 h2, h3⟩
      · rw [hL1 q e]
        constructor
        · rintro ⟨h1, h2⟩; exact ⟨by omega, h2⟩
        · rintro ⟨h1, h2⟩; exact ⟨by omega, h2⟩
  have hin : i = G.length := by omega
  subst hin
  simp -implicitDefEqProofs (disch:=first|omega|(simp only[LnZ];omega))[wrap64]
  exact RetK.keep (hk _ _ ⟨L, H.only, by omega, by rw [← hGl]; exact hL⟩)
end Go.Proofs.Ytglnelcmcimljaa

namespace Go.Proofs.Ytglnelcmcimljaa
open Go
def H_impl_Automaton_after : Hint := ⟨[(0, false), (1, false), (2, false), (3, false), (4, true), (8, false), (9, false), (11, true), (16, false), (17, false), (18, false)], [[0, 4, 5, 7]]⟩
def K106_1 : C := .seq (.pl <| .e 11 1 <|
 .m 11 6 <|
 .m 5 11 .done) (.ret)
@[simp] def W106_1 := C.w K106_1.eq_1
def K106_2 : C := .pl <| .e 11 1 <|
 .x 11 (.bin .add (.v 10) (.c (.int .i64 1))) <|
 .m 10 11 .done
@[simp] def W106_2 := C.w K106_2.eq_1
def K106_3 : C := .pl <| .e 11 4 <|
 .m 11 6 <|
 .a 12 7 <|
 .g 13 12 7 3 <|
 .x 14 (.ia 1 (.v 11) (.v 13)) <|
 .o (.ex none (.store 1 (.v 14) (.c (.bool true)))) .done
@[simp] def W106_3 := C.w K106_3.eq_1
def K106_4 : C := .cond 11 (.v 27) K106_3 (.skip)
@[simp] def W106_4 := C.w K106_4.eq_1
def K106_5 : Pl := .x 27 (.pick (.v 23) (.v 26) (.c (.bool false))) .done
@[simp] def W106_5 := Pl.w K106_5.eq_1
def K106_6 : C := .seq (.pl <| .e 11 17 <|
 .m 11 2 <|
 .a 12 7 <|
 .g 13 12 7 0 <|
 .x 14 (.ia 1 (.v 11) (.v 13)) <|
 .l 15 14 <|
 .m 16 15 <|
 .y 16 (.px (some 17) (.mv (.v 1))) <|
 .y 16 (.als 18 none 7) <|
 .y 16 (.pget (some 19) (some 18) 7 3 none) <|
 .y 16 (.px (some 20) (.ia 1 (.v 17) (.v 19))) <|
 .y 16 (.ld (some 21) (.v 20) none) <|
 .x 22 (.pick (.v 16) (.v 21) (.c (.bool false))) <|
 .m 23 22 <|
 .y 23 (.pget (some 24) none 7 0 (some 4)) <|
 .y 23 (.px (some 25) (.mv (.v 3))) <|
 .st (.act (some (.v 23, true)) (.ex (some 26) (.call fn_impl_Transition_takes [.v 24, .v 25]))) K106_5) K106_4
@[simp] def W106_6 := C.w K106_6.eq_1
def K106_7 : C := .seq (.block 1 (.seq (.pl <| .e 11 2 <|
 .x 11 (.ia 4 (.v 8) (.v 10)) <|
 .o (.ld (some 12) (.v 11) (some 4)) <|
 .o (.pnew 7 (.c (.agg #[.int .i64 0, .int .i64 0, .int .i64 0, .int .i64 0])) []) <|
 .o (.pset none 7 0 4 (.v 12)) .done) K106_6)) K106_2
@[simp] def W106_7 := C.w K106_7.eq_1
def K106_8 : C := .seq (.cond 11 (.v 11) (.skip) (.exit 0)) K106_7
@[simp] def W106_8 := C.w K106_8.eq_1
def K106_9 : C := .seq (.pl <| .e 11 1 <|
 .x 11 (.bin .lss (.v 10) (.v 9)) .done) K106_8
@[simp] def W106_9 := C.w K106_9.eq_1
def K106_10 : C := .block 0 (.loop 11 [0, 4, 5, 7] K106_9)
@[simp] def W106_10 := C.w K106_10.eq_1
def K106_11 : C := .seq (.seq (.pl <| .e 11 1 <|
 .a 11 4 <|
 .g 8 11 4 2 <|
 .x 9 (.lenV (.v 8)) <|
 .x 10 (.mv (.c (.int .i64 0))) .done) K106_10) K106_1
@[simp] def W106_11 := C.w K106_11.eq_1
def K106_12 : Pl := .m 6 13 .done
@[simp] def W106_12 := Pl.w K106_12.eq_1
def K106_13 : C := .seq (.pl <| .e 11 3 <|
 .m 11 1 <|
 .x 12 (.lenV (.v 11)) <|
 .c 13 (.mks 1 1 [.bool false] (.v 12) (.v 12)) K106_12) K106_11
@[simp] def W106_13 := C.w K106_13.eq_1
def B_impl_Automaton_after : C := .seq (.pl <| .e 11 0 <|
 .o (.pnew 4 (.v 0) []) <|
 .x 5 (.mv (.c (.slice none 0 0))) .done) K106_13
@[simp] def WB_impl_Automaton_after := C.w B_impl_Automaton_after.eq_1
def R_impl_Automaton_after : FIR := ⟨B_impl_Automaton_after, 11, [(5, none)]⟩
theorem IR_impl_Automaton_after : cfun Try.prog H_impl_Automaton_after Try.f106 = some R_impl_Automaton_after := by kernel_rfl
theorem EN_impl_Automaton_after : ENT Try.prog B_impl_Automaton_after [(5, none)] 4 11 fn_impl_Automaton_after := fun hargs hw => enter Try.func106 rfl IR_impl_Automaton_after hargs hw
def H_impl_Automaton_begin : Hint := ⟨[(0, false), (1, false), (2, true), (4, false), (5, false), (7, false), (12, false), (13, false), (14, false)], [[0, 2, 3, 5]]⟩
def K105_1 : C := .seq (.pl <| .e 9 1 <|
 .m 9 4 <|
 .m 3 9 .done) (.ret)
@[simp] def W105_1 := C.w K105_1.eq_1
def K105_2 : C := .pl <| .e 9 1 <|
 .x 9 (.bin .add (.v 8) (.c (.int .i64 1))) <|
 .m 8 9 .done
@[simp] def W105_2 := C.w K105_2.eq_1
def K105_3 : C := .pl <| .e 9 7 <|
 .m 9 4 <|
 .m 10 5 <|
 .m 11 1 <|
 .m 12 5 <|
 .x 13 (.ia 1 (.v 11) (.v 12)) <|
 .l 14 13 <|
 .x 15 (.ia 1 (.v 9) (.v 10)) <|
 .o (.ex none (.store 1 (.v 15) (.v 14))) .done
@[simp] def W105_3 := C.w K105_3.eq_1
def K105_4 : C := .seq (.block 1 (.seq (.pl <| .e 9 2 <|
 .x 9 (.ia 1 (.v 6) (.v 8)) <|
 .l 10 9 <|
 .m 5 10 .done) K105_3)) K105_2
@[simp] def W105_4 := C.w K105_4.eq_1
def K105_5 : C := .seq (.cond 9 (.v 9) (.skip) (.exit 0)) K105_4
@[simp] def W105_5 := C.w K105_5.eq_1
def K105_6 : C := .seq (.pl <| .e 9 1 <|
 .x 9 (.bin .lss (.v 8) (.v 7)) .done) K105_5
@[simp] def W105_6 := C.w K105_6.eq_1
def K105_7 : C := .block 0 (.loop 9 [0, 2, 3, 5] K105_6)
@[simp] def W105_7 := C.w K105_7.eq_1
def K105_8 : C := .seq (.seq (.pl <| .e 9 1 <|
 .a 9 2 <|
 .g 6 9 2 0 <|
 .x 7 (.lenV (.v 6)) <|
 .x 8 (.mv (.c (.int .i64 0))) .done) K105_7) K105_1
@[simp] def W105_8 := C.w K105_8.eq_1
def K105_9 : Pl := .m 4 11 .done
@[simp] def W105_9 := Pl.w K105_9.eq_1
def K105_10 : C := .seq (.pl <| .e 9 3 <|
 .m 9 1 <|
 .x 10 (.lenV (.v 9)) <|
 .c 11 (.mks 1 1 [.bool false] (.v 10) (.v 10)) K105_9) K105_8
@[simp] def W105_10 := C.w K105_10.eq_1
def B_impl_Automaton_begin : C := .seq (.pl <| .e 9 0 <|
 .o (.pnew 2 (.v 0) []) <|
 .x 3 (.mv (.c (.slice none 0 0))) .done) K105_10
@[simp] def WB_impl_Automaton_begin := C.w B_impl_Automaton_begin.eq_1
def R_impl_Automaton_begin : FIR := ⟨B_impl_Automaton_begin, 9, [(3, none)]⟩
theorem IR_impl_Automaton_begin : cfun Try.prog H_impl_Automaton_begin Try.f105 = some R_impl_Automaton_begin := by kernel_rfl
theorem EN_impl_Automaton_begin : ENT Try.prog B_impl_Automaton_begin [(3, none)] 2 9 fn_impl_Automaton_begin := fun hargs hw => enter Try.func105 rfl IR_impl_Automaton_begin hargs hw
def H_impl_Automaton_prefix : Hint := ⟨[(0, false), (1, false), (2, true), (4, false), (5, false), (6, false), (8, false), (14, false), (15, false), (16, false)], [[0, 1, 3, 6]]⟩
def K55_1 : Pl := .m 3 11 .done
@[simp] def W55_1 := Pl.w K55_1.eq_1
def K55_2 : C := .seq (.pl <| .e 10 2 <|
 .m 10 5 <|
 .c 11 (.call fn_impl_members [.v 10]) K55_1) (.ret)
@[simp] def W55_2 := C.w K55_2.eq_1
def K55_3 : C := .pl <| .e 10 1 <|
 .x 10 (.bin .add (.v 9) (.c (.int .i64 1))) <|
 .m 9 10 .done
@[simp] def W55_3 := C.w K55_3.eq_1
def K55_4 : Pl := .m 5 14 .done
@[simp] def W55_4 := Pl.w K55_4.eq_1
def K55_5 : C := .pl <| .e 10 5 <|
 .o (.pget (some 10) none 2 0 (some 3)) <|
 .m 11 4 <|
 .m 12 5 <|
 .m 13 6 <|
 .c 14 (.call fn_impl_Automaton_after [.v 10, .v 11, .v 12, .v 13]) K55_4
@[simp] def W55_5 := C.w K55_5.eq_1
def K55_6 : C := .seq (.block 1 (.seq (.pl <| .e 10 2 <|
 .x 10 (.ia 1 (.v 7) (.v 9)) <|
 .l 11 10 <|
 .m 6 11 .done) K55_5)) K55_3
@[simp] def W55_6 := C.w K55_6.eq_1
def K55_7 : C := .seq (.cond 10 (.v 10) (.skip) (.exit 0)) K55_6
@[simp] def W55_7 := C.w K55_7.eq_1
def K55_8 : C := .seq (.pl <| .e 10 1 <|
 .x 10 (.bin .lss (.v 9) (.v 8)) .done) K55_7
@[simp] def W55_8 := C.w K55_8.eq_1
def K55_9 : C := .block 0 (.loop 10 [0, 1, 3, 6] K55_8)
@[simp] def W55_9 := C.w K55_9.eq_1
def K55_10 : C := .seq (.seq (.pl <| .e 10 0 <|
 .m 7 1 <|
 .x 8 (.lenV (.v 7)) <|
 .x 9 (.mv (.c (.int .i64 0))) .done) K55_9) K55_2
@[simp] def W55_10 := C.w K55_10.eq_1
def K55_11 : Pl := .m 5 12 .done
@[simp] def W55_11 := Pl.w K55_11.eq_1
def K55_12 : C := .seq (.pl <| .e 10 3 <|
 .o (.pget (some 10) none 2 0 (some 3)) <|
 .m 11 4 <|
 .c 12 (.call fn_impl_Automaton_begin [.v 10, .v 11]) K55_11) K55_10
@[simp] def W55_12 := C.w K55_12.eq_1
def K55_13 : Pl := .m 4 11 .done
@[simp] def W55_13 := Pl.w K55_13.eq_1
def K55_14 : C := .seq (.pl <| .e 10 2 <|
 .o (.pget (some 10) none 2 0 (some 3)) <|
 .c 11 (.call fn_impl_Automaton_live [.v 10]) K55_13) K55_12
@[simp] def W55_14 := C.w K55_14.eq_1
def B_impl_Automaton_prefix : C := .seq (.pl <| .e 10 0 <|
 .o (.pnew 2 (.v 0) []) <|
 .x 3 (.mv (.c (.slice none 0 0))) .done) K55_14
@[simp] def WB_impl_Automaton_prefix := C.w B_impl_Automaton_prefix.eq_1
def R_impl_Automaton_prefix : FIR := ⟨B_impl_Automaton_prefix, 10, [(3, none)]⟩
theorem IR_impl_Automaton_prefix : cfun Try.prog H_impl_Automaton_prefix Try.f55 = some R_impl_Automaton_prefix := by kernel_rfl
theorem EN_impl_Automaton_prefix : ENT Try.prog B_impl_Automaton_prefix [(3, none)] 2 10 fn_impl_Automaton_prefix := fun hargs hw => enter Try.func55 rfl IR_impl_Automaton_prefix hargs hw
def H_impl_PrefixStates : Hint := ⟨[(0, false), (1, false), (2, true), (4, false), (5, false)], []⟩
def K17_1 : Pl := .m 3 7 <|
 .x 4 (.mv (.c (.bool true))) .done
@[simp] def W17_1 := Pl.w K17_1.eq_1
def K17_2 : C := .seq (.pl <| .e 5 3 <|
 .o (.pget (some 5) none 2 0 (some 3)) <|
 .m 6 1 <|
 .c 7 (.call fn_impl_Automaton_prefix [.v 5, .v 6]) K17_1) (.ret)
@[simp] def W17_2 := C.w K17_2.eq_1
def K17_3 : C := .seq (.pl <| .e 5 0 <|
 .x 3 (.mv (.c (.slice none 0 0))) <|
 .x 4 (.mv (.c (.bool false))) .done) (.ret)
@[simp] def W17_3 := C.w K17_3.eq_1
def K17_4 : C := .cond 5 (.v 12) K17_3 (.skip)
@[simp] def W17_4 := C.w K17_4.eq_1
def K17_5 : Pl := .n 8 (.px (some 11) (.un .not (.v 10))) <|
 .x 12 (.pick (.v 8) (.c (.bool true)) (.v 11)) .done
@[simp] def W17_5 := Pl.w K17_5.eq_1
def K17_6 : Pl := .x 7 (.un .not (.v 6)) <|
 .m 8 7 <|
 .n 8 (.px (some 9) (.mv (.v 1))) <|
 .st (.act (some (.v 8, false)) (.ex (some 10) (.call fn_impl_wordOk [.v 9]))) K17_5
@[simp] def W17_6 := Pl.w K17_6.eq_1
def K17_7 : C := .seq (.seq (.pl <| .e 5 8 <|
 .o (.pget (some 5) none 2 0 (some 3)) <|
 .c 6 (.call fn_impl_AutomatonValid [.v 5]) K17_6) K17_4) K17_2
@[simp] def W17_7 := C.w K17_7.eq_1
def B_impl_PrefixStates : C := .seq (.pl <| .e 5 0 <|
 .o (.pnew 2 (.v 0) []) <|
 .x 3 (.mv (.c (.slice none 0 0))) <|
 .x 4 (.mv (.c (.bool false))) .done) K17_7
@[simp] def WB_impl_PrefixStates := C.w B_impl_PrefixStates.eq_1
def R_impl_PrefixStates : FIR := ⟨B_impl_PrefixStates, 5, [(3, none), (4, none)]⟩
theorem IR_impl_PrefixStates : cfun Try.prog H_impl_PrefixStates Try.f17 = some R_impl_PrefixStates := by kernel_rfl
theorem EN_impl_PrefixStates : ENT Try.prog B_impl_PrefixStates [(3, none), (4, none)] 2 5 fn_impl_PrefixStates := fun hargs hw => enter Try.func17 rfl IR_impl_PrefixStates hargs hw
def H_impl_members : Hint := ⟨[(0, false), (2, false), (3, false), (4, false), (5, false), (6, false), (7, false), (8, false)], [[0, 1, 3, 4]]⟩
def K107_1 : Pl := .m 1 9 .done
@[simp] def W107_1 := Pl.w K107_1.eq_1
def K107_2 : C := .seq (.pl <| .e 8 2 <|
 .m 8 2 <|
 .c 9 (.call fn_slices_Clip_S_int_int [.v 8]) K107_1) (.ret)
@[simp] def W107_2 := C.w K107_2.eq_1
def K107_3 : C := .pl <| .e 8 1 <|
 .x 8 (.bin .add (.v 7) (.c (.int .i64 1))) <|
 .m 7 8 .done
@[simp] def W107_3 := C.w K107_3.eq_1
def K107_4 : Pl := .m 2 11 .done
@[simp] def W107_4 := Pl.w K107_4.eq_1
def K107_5 : C := .pl <| .e 8 4 <|
 .m 8 2 <|
 .m 9 3 <|
 .o (.psl 10 [.int .i64 0] [(0, 1, .v 9)]) <|
 .c 11 (.app 8 1 [.int .i64 0] (.o (.v 8)) (.p 1 10)) K107_4
@[simp] def W107_5 := C.w K107_5.eq_1
def K107_6 : C := .cond 8 (.v 8) K107_5 (.skip)
@[simp] def W107_6 := C.w K107_6.eq_1
def K107_7 : C := .seq (.pl <| .e 8 1 <|
 .m 8 4 .done) K107_6
@[simp] def W107_7 := C.w K107_7.eq_1
def K107_8 : C := .seq (.block 1 (.seq (.pl <| .e 8 3 <|
 .m 8 7 <|
 .x 9 (.ia 1 (.v 5) (.v 7)) <|
 .l 10 9 <|
 .m 3 8 <|
 .m 4 10 .done) K107_7)) K107_3
@[simp] def W107_8 := C.w K107_8.eq_1
def K107_9 : C := .seq (.cond 8 (.v 8) (.skip) (.exit 0)) K107_8
@[simp] def W107_9 := C.w K107_9.eq_1
def K107_10 : C := .seq (.pl <| .e 8 1 <|
 .x 8 (.bin .lss (.v 7) (.v 6)) .done) K107_9
@[simp] def W107_10 := C.w K107_10.eq_1
def K107_11 : C := .block 0 (.loop 8 [0, 1, 3, 4] K107_10)
@[simp] def W107_11 := C.w K107_11.eq_1
def K107_12 : C := .seq (.seq (.pl <| .e 8 0 <|
 .m 5 0 <|
 .x 6 (.lenV (.v 5)) <|
 .x 7 (.mv (.c (.int .i64 0))) .done) K107_11) K107_2
@[simp] def W107_12 := C.w K107_12.eq_1
def K107_13 : C := .seq (.pl <| .e 8 0 <|
 .x 2 (.mv (.c (.slice none 0 0))) .done) K107_12
@[simp] def W107_13 := C.w K107_13.eq_1
def B_impl_members : C := .seq (.pl <| .e 8 0 <|
 .x 1 (.mv (.c (.slice none 0 0))) .done) K107_13
@[simp] def WB_impl_members := C.w B_impl_members.eq_1
def R_impl_members : FIR := ⟨B_impl_members, 8, [(1, none)]⟩
theorem IR_impl_members : cfun Try.prog H_impl_members Try.f107 = some R_impl_members := by kernel_rfl
theorem EN_impl_members : ENT Try.prog B_impl_members [(1, none)] 1 8 fn_impl_members := fun hargs hw => enter Try.func107 rfl IR_impl_members hargs hw
def H_impl_wordOk : Hint := ⟨[(0, false), (2, false)], []⟩
def K54_1 : Pl := .x 8 (.pick (.v 5) (.v 7) (.c (.bool false))) <|
 .m 1 8 .done
@[simp] def W54_1 := Pl.w K54_1.eq_1
def K54_2 : C := .seq (.pl <| .e 2 7 <|
 .m 2 0 <|
 .x 3 (.lenV (.v 2)) <|
 .x 4 (.bin .leq (.v 3) (.c (.int .i64 200))) <|
 .m 5 4 <|
 .y 5 (.px (some 6) (.mv (.v 0))) <|
 .st (.act (some (.v 5, true)) (.ex (some 7) (.call fn_impl_letters [.v 6]))) K54_1) (.ret)
@[simp] def W54_2 := C.w K54_2.eq_1
def B_impl_wordOk : C := .seq (.pl <| .e 2 0 <|
 .x 1 (.mv (.c (.bool false))) .done) K54_2
@[simp] def WB_impl_wordOk := C.w B_impl_wordOk.eq_1
def R_impl_wordOk : FIR := ⟨B_impl_wordOk, 2, [(1, none)]⟩
theorem IR_impl_wordOk : cfun Try.prog H_impl_wordOk Try.f54 = some R_impl_wordOk := by kernel_rfl
theorem EN_impl_wordOk : ENT Try.prog B_impl_wordOk [(1, none)] 1 2 fn_impl_wordOk := fun hargs hw => enter Try.func54 rfl IR_impl_wordOk hargs hw
def H_spec_PrefixStates : Hint := ⟨[(0, false), (1, false), (2, true), (4, false), (5, false)], []⟩
def K18_1 : Pl := .m 3 7 <|
 .x 4 (.mv (.c (.bool true))) .done
@[simp] def W18_1 := Pl.w K18_1.eq_1
def K18_2 : C := .seq (.pl <| .e 5 3 <|
 .o (.pget (some 5) none 2 0 (some 3)) <|
 .m 6 1 <|
 .c 7 (.call fn_spec_l12States [.v 5, .v 6]) K18_1) (.ret)
@[simp] def W18_2 := C.w K18_2.eq_1
def K18_3 : Pl := .m 3 5 <|
 .x 4 (.mv (.c (.bool false))) .done
@[simp] def W18_3 := Pl.w K18_3.eq_1
def K18_4 : C := .seq (.pl <| .e 5 1 <|
 .c 5 (.bls 1 0 [.int .i64 0] []) K18_3) (.ret)
@[simp] def W18_4 := C.w K18_4.eq_1
def K18_5 : C := .cond 5 (.v 12) K18_4 (.skip)
@[simp] def W18_5 := C.w K18_5.eq_1
def K18_6 : Pl := .n 8 (.px (some 11) (.un .not (.v 10))) <|
 .x 12 (.pick (.v 8) (.c (.bool true)) (.v 11)) .done
@[simp] def W18_6 := Pl.w K18_6.eq_1
def K18_7 : Pl := .x 7 (.un .not (.v 6)) <|
 .m 8 7 <|
 .n 8 (.px (some 9) (.mv (.v 1))) <|
 .st (.act (some (.v 8, false)) (.ex (some 10) (.call fn_spec_l12Word [.v 9]))) K18_6
@[simp] def W18_7 := Pl.w K18_7.eq_1
def K18_8 : C := .seq (.seq (.pl <| .e 5 8 <|
 .o (.pget (some 5) none 2 0 (some 3)) <|
 .c 6 (.call fn_spec_AutomatonValid [.v 5]) K18_7) K18_5) K18_2
@[simp] def W18_8 := C.w K18_8.eq_1
def B_spec_PrefixStates : C := .seq (.pl <| .e 5 0 <|
 .o (.pnew 2 (.v 0) []) <|
 .x 3 (.mv (.c (.slice none 0 0))) <|
 .x 4 (.mv (.c (.bool false))) .done) K18_8
@[simp] def WB_spec_PrefixStates := C.w B_spec_PrefixStates.eq_1
def R_spec_PrefixStates : FIR := ⟨B_spec_PrefixStates, 5, [(3, none), (4, none)]⟩
theorem IR_spec_PrefixStates : cfun Try.prog H_spec_PrefixStates Try.f18 = some R_spec_PrefixStates := by kernel_rfl
theorem EN_spec_PrefixStates : ENT Try.prog B_spec_PrefixStates [(3, none), (4, none)] 2 5 fn_spec_PrefixStates := fun hargs hw => enter Try.func18 rfl IR_spec_PrefixStates hargs hw
def H_spec_l12Only : Hint := ⟨[(0, false), (1, false), (4, false), (5, false), (6, false)], [[2]]⟩
def K110_1 : C := .seq (.pl <| .e 5 1 <|
 .m 5 3 <|
 .m 2 5 .done) (.ret)
@[simp] def W110_1 := C.w K110_1.eq_1
def K110_2 : C := .pl <| .e 5 2 <|
 .m 5 4 <|
 .x 6 (.bin .add (.v 5) (.c (.int .i64 1))) <|
 .m 4 6 .done
@[simp] def W110_2 := C.w K110_2.eq_1
def K110_3 : Pl := .m 3 11 .done
@[simp] def W110_3 := Pl.w K110_3.eq_1
def K110_4 : C := .pl <| .e 5 7 <|
 .m 5 3 <|
 .m 6 0 <|
 .m 7 4 <|
 .x 8 (.ia 1 (.v 6) (.v 7)) <|
 .l 9 8 <|
 .o (.psl 10 [.int .i64 0] [(0, 1, .v 9)]) <|
 .c 11 (.app 8 1 [.int .i64 0] (.o (.v 5)) (.p 1 10)) K110_3
@[simp] def W110_4 := C.w K110_4.eq_1
def K110_5 : C := .cond 5 (.v 11) K110_4 (.skip)
@[simp] def W110_5 := C.w K110_5.eq_1
def K110_6 : C := .seq (.block 1 (.seq (.pl <| .e 5 7 <|
 .m 5 1 <|
 .m 6 0 <|
 .m 7 4 <|
 .x 8 (.ia 1 (.v 6) (.v 7)) <|
 .l 9 8 <|
 .x 10 (.ia 1 (.v 5) (.v 9)) <|
 .l 11 10 .done) K110_5)) K110_2
@[simp] def W110_6 := C.w K110_6.eq_1
def K110_7 : C := .cond 5 (.v 8) (.skip) (.exit 0)
@[simp] def W110_7 := C.w K110_7.eq_1
def K110_8 : C := .seq (.seq (.pl <| .e 5 4 <|
 .m 5 4 <|
 .m 6 0 <|
 .x 7 (.lenV (.v 6)) <|
 .x 8 (.bin .lss (.v 5) (.v 7)) .done) K110_7) K110_6
@[simp] def W110_8 := C.w K110_8.eq_1
def K110_9 : C := .block 0 (.loop 5 [2] K110_8)
@[simp] def W110_9 := C.w K110_9.eq_1
def K110_10 : C := .seq (.seq (.pl <| .e 5 0 <|
 .x 4 (.mv (.c (.int .i64 0))) .done) K110_9) K110_1
@[simp] def W110_10 := C.w K110_10.eq_1
def K110_11 : Pl := .m 3 5 .done
@[simp] def W110_11 := Pl.w K110_11.eq_1
def K110_12 : C := .seq (.pl <| .e 5 1 <|
 .c 5 (.bls 1 0 [.int .i64 0] []) K110_11) K110_10
@[simp] def W110_12 := C.w K110_12.eq_1
def B_spec_l12Only : C := .seq (.pl <| .e 5 0 <|
 .x 2 (.mv (.c (.slice none 0 0))) .done) K110_12
@[simp] def WB_spec_l12Only := C.w B_spec_l12Only.eq_1
def R_spec_l12Only : FIR := ⟨B_spec_l12Only, 5, [(2, none)]⟩
theorem IR_spec_l12Only : cfun Try.prog H_spec_l12Only Try.f110 = some R_spec_l12Only := by kernel_rfl
theorem EN_spec_l12Only : ENT Try.prog B_spec_l12Only [(2, none)] 2 5 fn_spec_l12Only := fun hargs hw => enter Try.func110 rfl IR_spec_l12Only hargs hw
def H_spec_l12States : Hint := ⟨[(0, false), (1, false), (2, true), (4, false), (5, false), (6, false), (7, false)], [[0, 3]]⟩
def K57_1 : Pl := .m 3 9 .done
@[simp] def W57_1 := Pl.w K57_1.eq_1
def K57_2 : C := .seq (.pl <| .e 7 3 <|
 .o (.psl 7 [] []) <|
 .m 8 5 <|
 .c 9 (.app 8 1 [.int .i64 0] (.p 0 7) (.o (.v 8))) K57_1) (.ret)
@[simp] def W57_2 := C.w K57_2.eq_1
def K57_3 : C := .pl <| .e 7 2 <|
 .m 7 6 <|
 .x 8 (.bin .add (.v 7) (.c (.int .i64 1))) <|
 .m 6 8 .done
@[simp] def W57_3 := C.w K57_3.eq_1
def K57_4 : Pl := .m 5 15 .done
@[simp] def W57_4 := Pl.w K57_4.eq_1
def K57_5 : Pl := .c 15 (.call fn_spec_l12Only [.v 13, .v 14]) K57_4
@[simp] def W57_5 := Pl.w K57_5.eq_1
def K57_6 : C := .seq (.block 1 (.pl <| .e 7 9 <|
 .o (.pget (some 7) none 2 0 (some 3)) <|
 .m 8 5 <|
 .m 9 1 <|
 .m 10 6 <|
 .x 11 (.ia 1 (.v 9) (.v 10)) <|
 .l 12 11 <|
 .m 14 4 <|
 .c 13 (.call fn_spec_l12Step [.v 7, .v 8, .v 12]) K57_5)) K57_3
@[simp] def W57_6 := C.w K57_6.eq_1
def K57_7 : C := .cond 7 (.v 10) (.skip) (.exit 0)
@[simp] def W57_7 := C.w K57_7.eq_1
def K57_8 : C := .seq (.seq (.pl <| .e 7 4 <|
 .m 7 6 <|
 .m 8 1 <|
 .x 9 (.lenV (.v 8)) <|
 .x 10 (.bin .lss (.v 7) (.v 9)) .done) K57_7) K57_6
@[simp] def W57_8 := C.w K57_8.eq_1
def K57_9 : C := .block 0 (.loop 7 [0, 3] K57_8)
@[simp] def W57_9 := C.w K57_9.eq_1
def K57_10 : C := .seq (.seq (.pl <| .e 7 0 <|
 .x 6 (.mv (.c (.int .i64 0))) .done) K57_9) K57_2
@[simp] def W57_10 := C.w K57_10.eq_1
def K57_11 : Pl := .m 5 10 .done
@[simp] def W57_11 := Pl.w K57_11.eq_1
def K57_12 : C := .seq (.pl <| .e 7 4 <|
 .a 7 2 <|
 .g 8 7 2 0 <|
 .m 9 4 <|
 .c 10 (.call fn_spec_l12Only [.v 8, .v 9]) K57_11) K57_10
@[simp] def W57_12 := C.w K57_12.eq_1
def K57_13 : Pl := .m 4 8 .done
@[simp] def W57_13 := Pl.w K57_13.eq_1
def K57_14 : C := .seq (.pl <| .e 7 2 <|
 .o (.pget (some 7) none 2 0 (some 3)) <|
 .c 8 (.call fn_spec_LiveStates [.v 7]) K57_13) K57_12
@[simp] def W57_14 := C.w K57_14.eq_1
def B_spec_l12States : C := .seq (.pl <| .e 7 0 <|
 .o (.pnew 2 (.v 0) []) <|
 .x 3 (.mv (.c (.slice none 0 0))) .done) K57_14
@[simp] def WB_spec_l12States := C.w B_spec_l12States.eq_1
def R_spec_l12States : FIR := ⟨B_spec_l12States, 7, [(3, none)]⟩
theorem IR_spec_l12States : cfun Try.prog H_spec_l12States Try.f57 = some R_spec_l12States := by kernel_rfl
theorem EN_spec_l12States : ENT Try.prog B_spec_l12States [(3, none)] 2 7 fn_spec_l12States := fun hargs hw => enter Try.func57 rfl IR_spec_l12States hargs hw
def H_spec_l12Step : Hint := ⟨[(0, false), (1, false), (2, false), (3, true), (6, false), (7, false), (8, false)], [[0, 4]]⟩
def K111_1 : C := .seq (.pl <| .e 7 1 <|
 .m 7 5 <|
 .m 4 7 .done) (.ret)
@[simp] def W111_1 := C.w K111_1.eq_1
def K111_2 : C := .pl <| .e 7 2 <|
 .m 7 6 <|
 .x 8 (.bin .add (.v 7) (.c (.int .i64 1))) <|
 .m 6 8 .done
@[simp] def W111_2 := C.w K111_2.eq_1
def K111_3 : Pl := .m 5 14 .done
@[simp] def W111_3 := Pl.w K111_3.eq_1
def K111_4 : C := .pl <| .e 7 8 <|
 .m 7 5 <|
 .a 8 3 <|
 .g 9 8 3 2 <|
 .m 10 6 <|
 .x 11 (.ia 4 (.v 9) (.v 10)) <|
 .x 12 (.fa 3 (.v 11)) <|
 .l 13 12 <|
 .c 14 (.call fn_spec_l10Sorted [.v 7, .v 13]) K111_3
@[simp] def W111_4 := C.w K111_4.eq_1
def K111_5 : C := .cond 7 (.v 23) K111_4 (.skip)
@[simp] def W111_5 := C.w K111_5.eq_1
def K111_6 : Pl := .x 23 (.pick (.v 15) (.v 22) (.c (.bool false))) .done
@[simp] def W111_6 := Pl.w K111_6.eq_1
def K111_7 : Pl := .m 15 14 <|
 .y 15 (.als 16 none 3) <|
 .y 15 (.pget (some 17) (some 16) 3 2 none) <|
 .y 15 (.px (some 18) (.mv (.v 6))) <|
 .y 15 (.px (some 19) (.ia 4 (.v 17) (.v 18))) <|
 .y 15 (.ld (some 20) (.v 19) (some 4)) <|
 .y 15 (.px (some 21) (.mv (.v 2))) <|
 .st (.act (some (.v 15, true)) (.ex (some 22) (.call fn_spec_l7On [.v 20, .v 21]))) K111_6
@[simp] def W111_7 := Pl.w K111_7.eq_1
def K111_8 : C := .seq (.block 1 (.seq (.pl <| .e 7 17 <|
 .m 7 1 <|
 .a 8 3 <|
 .g 9 8 3 2 <|
 .m 10 6 <|
 .x 11 (.ia 4 (.v 9) (.v 10)) <|
 .x 12 (.fa 0 (.v 11)) <|
 .l 13 12 <|
 .c 14 (.call fn_spec_l4In [.v 7, .v 13]) K111_7) K111_5)) K111_2
@[simp] def W111_8 := C.w K111_8.eq_1
def K111_9 : C := .cond 7 (.v 11) (.skip) (.exit 0)
@[simp] def W111_9 := C.w K111_9.eq_1
def K111_10 : C := .seq (.seq (.pl <| .e 7 5 <|
 .m 7 6 <|
 .a 8 3 <|
 .g 9 8 3 2 <|
 .x 10 (.lenV (.v 9)) <|
 .x 11 (.bin .lss (.v 7) (.v 10)) .done) K111_9) K111_8
@[simp] def W111_10 := C.w K111_10.eq_1
def K111_11 : C := .block 0 (.loop 7 [0, 4] K111_10)
@[simp] def W111_11 := C.w K111_11.eq_1
def K111_12 : C := .seq (.seq (.pl <| .e 7 0 <|
 .x 6 (.mv (.c (.int .i64 0))) .done) K111_11) K111_1
@[simp] def W111_12 := C.w K111_12.eq_1
def K111_13 : Pl := .m 5 7 .done
@[simp] def W111_13 := Pl.w K111_13.eq_1
def K111_14 : C := .seq (.pl <| .e 7 1 <|
 .c 7 (.bls 1 0 [.int .i64 0] []) K111_13) K111_12
@[simp] def W111_14 := C.w K111_14.eq_1
def B_spec_l12Step : C := .seq (.pl <| .e 7 0 <|
 .o (.pnew 3 (.v 0) []) <|
 .x 4 (.mv (.c (.slice none 0 0))) .done) K111_14
@[simp] def WB_spec_l12Step := C.w B_spec_l12Step.eq_1
def R_spec_l12Step : FIR := ⟨B_spec_l12Step, 7, [(4, none)]⟩
theorem IR_spec_l12Step : cfun Try.prog H_spec_l12Step Try.f111 = some R_spec_l12Step := by kernel_rfl
theorem EN_spec_l12Step : ENT Try.prog B_spec_l12Step [(4, none)] 3 7 fn_spec_l12Step := fun hargs hw => enter Try.func111 rfl IR_spec_l12Step hargs hw
def H_spec_l12Word : Hint := ⟨[(0, false), (2, false)], []⟩
def K56_1 : Pl := .m 4 3 <|
 .y 4 (.px (some 5) (.mv (.v 0))) <|
 .y 4 (.px (some 6) (.lenV (.v 5))) <|
 .y 4 (.px (some 7) (.bin .leq (.v 6) (.c (.int .i64 200)))) <|
 .x 8 (.pick (.v 4) (.v 7) (.c (.bool false))) <|
 .m 1 8 .done
@[simp] def W56_1 := Pl.w K56_1.eq_1
def K56_2 : C := .seq (.pl <| .e 2 7 <|
 .m 2 0 <|
 .c 3 (.call fn_spec_l6Letters [.v 2]) K56_1) (.ret)
@[simp] def W56_2 := C.w K56_2.eq_1
def B_spec_l12Word : C := .seq (.pl <| .e 2 0 <|
 .x 1 (.mv (.c (.bool false))) .done) K56_2
@[simp] def WB_spec_l12Word := C.w B_spec_l12Word.eq_1
def R_spec_l12Word : FIR := ⟨B_spec_l12Word, 2, [(1, none)]⟩
theorem IR_spec_l12Word : cfun Try.prog H_spec_l12Word Try.f56 = some R_spec_l12Word := by kernel_rfl
theorem EN_spec_l12Word : ENT Try.prog B_spec_l12Word [(1, none)] 1 2 fn_spec_l12Word := fun hargs hw => enter Try.func56 rfl IR_spec_l12Word hargs hw
def H_spec_l6Letters : Hint := ⟨[(0, false), (2, false), (3, false)], [[1]]⟩
def K108_1 : C := .seq (.pl <| .e 3 0 <|
 .x 1 (.mv (.c (.bool true))) .done) (.ret)
@[simp] def W108_1 := C.w K108_1.eq_1
def K108_2 : C := .pl <| .e 3 2 <|
 .m 3 2 <|
 .x 4 (.bin .add (.v 3) (.c (.int .i64 1))) <|
 .m 2 4 .done
@[simp] def W108_2 := C.w K108_2.eq_1
def K108_3 : C := .seq (.pl <| .e 3 0 <|
 .x 1 (.mv (.c (.bool false))) .done) (.ret)
@[simp] def W108_3 := C.w K108_3.eq_1
def K108_4 : C := .cond 3 (.v 14) K108_3 (.skip)
@[simp] def W108_4 := C.w K108_4.eq_1
def K108_5 : C := .seq (.block 1 (.seq (.pl <| .e 3 12 <|
 .m 3 0 <|
 .m 4 2 <|
 .x 5 (.ia 1 (.v 3) (.v 4)) <|
 .l 6 5 <|
 .x 7 (.bin .lss (.v 6) (.c (.int .i64 0))) <|
 .m 8 7 <|
 .n 8 (.px (some 9) (.mv (.v 0))) <|
 .n 8 (.px (some 10) (.mv (.v 2))) <|
 .n 8 (.px (some 11) (.ia 1 (.v 9) (.v 10))) <|
 .n 8 (.ld (some 12) (.v 11) none) <|
 .n 8 (.px (some 13) (.bin .gtr (.v 12) (.c (.int .i64 7)))) <|
 .x 14 (.pick (.v 8) (.c (.bool true)) (.v 13)) .done) K108_4)) K108_2
@[simp] def W108_5 := C.w K108_5.eq_1
def K108_6 : C := .cond 3 (.v 6) (.skip) (.exit 0)
@[simp] def W108_6 := C.w K108_6.eq_1
def K108_7 : C := .seq (.seq (.pl <| .e 3 4 <|
 .m 3 2 <|
 .m 4 0 <|
 .x 5 (.lenV (.v 4)) <|
 .x 6 (.bin .lss (.v 3) (.v 5)) .done) K108_6) K108_5
@[simp] def W108_7 := C.w K108_7.eq_1
def K108_8 : C := .block 0 (.loop 3 [1] K108_7)
@[simp] def W108_8 := C.w K108_8.eq_1
def K108_9 : C := .seq (.seq (.pl <| .e 3 0 <|
 .x 2 (.mv (.c (.int .i64 0))) .done) K108_8) K108_1
@[simp] def W108_9 := C.w K108_9.eq_1
def B_spec_l6Letters : C := .seq (.pl <| .e 3 0 <|
 .x 1 (.mv (.c (.bool false))) .done) K108_9
@[simp] def WB_spec_l6Letters := C.w B_spec_l6Letters.eq_1
def R_spec_l6Letters : FIR := ⟨B_spec_l6Letters, 3, [(1, none)]⟩
theorem IR_spec_l6Letters : cfun Try.prog H_spec_l6Letters Try.f108 = some R_spec_l6Letters := by kernel_rfl
theorem EN_spec_l6Letters : ENT Try.prog B_spec_l6Letters [(1, none)] 1 3 fn_spec_l6Letters := fun hargs hw => enter Try.func108 rfl IR_spec_l6Letters hargs hw
end Go.Proofs.Ytglnelcmcimljaa

namespace Go.Proofs.Ytglnelcmcimljaa
open Go
end Go.Proofs.Ytglnelcmcimljaa

namespace Go.Proofs.Ytglnelcmcimljaa
open Go
end Go.Proofs.Ytglnelcmcimljaa

namespace Go.Proofs.Ytglnelcmcimljaa
open Go
def okR (f : Aut → Aut) (h : Heap) (a : Aut) (u : Value) (h' : Heap) : Prop := ∃ v, u = .tuple #[v, .bool (decide a.Ok)] ∧ HS h [ow v (if a.Ok then f a else Aut.empty)] h'
theorem okR.no {f : Aut → Aut} {h h' : Heap} {a : Aut} (hn : ¬ a.Ok) (H : HS h [] h') : okR f h a (.tuple #[.agg #[.slice none 0 0, .slice none 0 0, .slice none 0 0], .bool false]) h' :=
  ⟨_, by rw [decide_eq_false hn], by rw [if_neg hn]; exact empty_ow H⟩
theorem okR.yes {f : Aut → Aut} {h h' : Heap} {a : Aut} {v : Value} (hn : a.Ok) (H : HS h [ow v (f a)] h') : okR f h a (.tuple #[v, .bool true]) h' :=
  ⟨_, by rw [decide_eq_true hn], by rw [if_pos hn]; exact H⟩
end Go.Proofs.Ytglnelcmcimljaa

namespace Go.Proofs.Ytglnelcmcimljaa
open Go
end Go.Proofs.Ytglnelcmcimljaa

namespace Go.Proofs.Ytglnelcmcimljaa
open Go
theorem c_IndexFunc_int {h : Heap} {a fv : Value} {x : List Int} (Ra : Rep h a x) {f : FuncId} {c1 c2 : List Value} (hf : fnOf fv = some (f, c1, c2)) (p : Int → Bool)
    (hp : ∀ h1, h.le h1 → ∀ (i : Nat) (hi : i < x.length) (u : Value), Rep h1 u x[i] → CallE Try.prog f (c1 ++ u :: c2) h1 (fun v h' => h1.le h' ∧ v = .bool (p x[i]))) :
    CallE Try.prog fn_slices_IndexFunc_S_int_int [a, fv] h (fun v h' => h.le h' ∧ v = .int .i64 (match x.findIdx? p with | some i => (i : Int) | none => -1)) := by
  refine CallE.gen fun k hk => EN_slices_IndexFunc_S_int_int rfl ?_
  have hL := Ra.lt
  simp -implicitDefEqProofs (disch:=first|omega|(simp only[LnZ];omega))[wrap64, Ra.len]
  refine wp_count x.length (fun i e h' => e = [some a, some fv, none, none, some (.int .i64 x.length), some (.int .i64 i)] ∧ h.le h' ∧ ∀ (j : Nat) (hj : j < x.length), j < i → p x[j] = false) ⟨rfl, Heap.le.refl h, fun j _ hj => absurd hj (Nat.not_lt_zero j)⟩ ?_
  rintro J i _ h1 hJ hi ⟨rfl, hl, hn⟩
  simp -implicitDefEqProofs (disch:=first|omega|(simp only[LnZ];omega))[wrap64]
  refine IteW.mk (fun hlt => ?_) (fun hge => ?_)
  · have hlx : i < x.length := by omega
    obtain ⟨u, hu, Ru⟩ := (Ra.le hl).ld hlx
    change hload _ (some (elp 1 a i)) none = some u at hu
    simp -implicitDefEqProofs (disch:=first|omega|(simp only[LnZ];omega))[wrap64, (Ra.le hl).X (n := 1) rfl, hu, hf]
    refine (hp h1 hl i hlx u Ru).go ?_
    rintro _ h2 ⟨hl2, rfl⟩
    simp -implicitDefEqProofs (disch:=first|omega|(simp only[LnZ];omega))[wrap64]
    refine IteW.mk (fun hq => ?_) (fun hq => ?_)
    · simp -implicitDefEqProofs (disch:=first|omega|(simp only[LnZ];omega))[wrap64]
      refine RetK.keep (hk _ _ ⟨hl.trans hl2, ?_⟩)
      have h3 : x.findIdx? p = some i := by
        rw [List.findIdx?_eq_some_iff_getElem]
        exact ⟨hlx, hq, fun j hj => by rw [hn j (by omega) hj]; simp⟩
      rw [h3]
    · simp -implicitDefEqProofs (disch:=first|omega|(simp only[LnZ];omega))[wrap64]
      refine hJ _ _ hlx ⟨rfl, hl.trans hl2, fun j hj hji => ?_⟩
      by_cases hji2 : j = i
      · subst hji2; simpa using hq
      · exact hn j hj (by omega)
  · simp -implicitDefEqProofs (disch:=first|omega|(simp only[LnZ];omega))[wrap64]
    refine RetK.keep (hk _ _ ⟨hl, ?_⟩)
    have h3 : x.findIdx? p = none := by
      rw [List.findIdx?_eq_none_iff]
      intro y hy
      obtain ⟨j, hj, rfl⟩ := List.mem_iff_getElem.1 hy
      exact hn j hj (by omega)
    rw [h3]
theorem c_ContainsFunc_int {h : Heap} {a fv : Value} {x : List Int} (Ra : Rep h a x) {f : FuncId} {c1 c2 : List Value} (hf : fnOf fv = some (f, c1, c2)) (p : Int → Bool)
    (hp : ∀ h1, h.le h1 → ∀ (i : Nat) (hi : i < x.length) (u : Value), Rep h1 u x[i] → CallE Try.prog f (c1 ++ u :: c2) h1 (fun v h' => h1.le h' ∧ v = .bool (p x[i]))) :
    CallE Try.prog fn_slices_ContainsFunc_S_int_int [a, fv] h (fun v h' => h.le h' ∧ v = .bool (x.any p)) := by
  refine CallE.gen fun k hk => EN_slices_ContainsFunc_S_int_int rfl ?_
  simp -implicitDefEqProofs (disch:=first|omega|(simp only[LnZ];omega))[wrap64]
  refine (c_IndexFunc_int Ra hf p hp).go ?_
  rintro _ h1 ⟨hl, rfl⟩
  simp -implicitDefEqProofs (disch:=first|omega|(simp only[LnZ];omega))[wrap64]
  refine RetK.keep (hk _ _ ⟨hl, ?_⟩)
  congr 1
  rw [← List.findIdx?_isSome]
  cases x.findIdx? p <;> simp
end Go.Proofs.Ytglnelcmcimljaa

namespace Go.Proofs.Ytglnelcmcimljaa
open Go
def H_spec_l7On : Hint := ⟨[(0, false), (1, false), (2, true), (4, false)], []⟩
def K139_1 : C := .seq (.pl <| .e 4 7 <|
 .m 4 1 <|
 .a 5 2 <|
 .g 6 5 2 1 <|
 .x 7 (.bin .and (.v 4) (.v 6)) <|
 .a 8 2 <|
 .g 9 8 2 2 <|
 .x 10 (.bin .eql (.v 7) (.v 9)) <|
 .m 3 10 .done) (.ret)
@[simp] def W139_1 := C.w K139_1.eq_1
def B_spec_l7On : C := .seq (.pl <| .e 4 0 <|
 .o (.pnew 2 (.v 0) []) <|
 .x 3 (.mv (.c (.bool false))) .done) K139_1
@[simp] def WB_spec_l7On := C.w B_spec_l7On.eq_1
def R_spec_l7On : FIR := ⟨B_spec_l7On, 4, [(3, none)]⟩
theorem IR_spec_l7On : cfun Try.prog H_spec_l7On Try.f139 = some R_spec_l7On := by kernel_rfl
theorem EN_spec_l7On : ENT Try.prog B_spec_l7On [(3, none)] 2 4 fn_spec_l7On := fun hargs hw => enter Try.func139 rfl IR_spec_l7On hargs hw
end Go.Proofs.Ytglnelcmcimljaa

namespace Go.Proofs.Ytglnelcmcimljaa
open Go
theorem c_takes {h : Heap} {v : Value} {t : Tr} (Rt : Rep h v t) {n : Int} : CallE Try.prog fn_impl_Transition_takes [v, .int .i64 n] h (fun u h' => h' = h ∧ u = .bool (t.on n)) := by
  rw [(Rep_Tr.1 Rt).1]
  refine CallE.gen fun k hk => EN_impl_Transition_takes rfl ?_
  simp -implicitDefEqProofs (disch:=first|omega|(simp only[LnZ];omega))[wrap64, Tr.v]
  exact RetK.keep (hk _ _ ⟨rfl, rfl⟩)
theorem c_l7On {h : Heap} {v : Value} {t : Tr} (Rt : Rep h v t) {n : Int} : CallE Try.prog fn_spec_l7On [v, .int .i64 n] h (fun u h' => h' = h ∧ u = .bool (t.on n)) := by
  rw [(Rep_Tr.1 Rt).1]
  refine CallE.gen fun k hk => EN_spec_l7On rfl ?_
  simp -implicitDefEqProofs (disch:=first|omega|(simp only[LnZ];omega))[wrap64, Tr.v]
  exact RetK.keep (hk _ _ ⟨rfl, rfl⟩)
end Go.Proofs.Ytglnelcmcimljaa

namespace Go.Proofs.Ytglnelcmcimljaa
open Go
theorem tru_set2 {B : List Bool} {i : Nat} (hi : i < B.length) {b : Bool} {x : Nat} : tru (B.set i b) x ↔ if x = i then b = true else tru B x := by
  simp only [tru, List.getD_eq_getElem?_getD, List.getElem?_set]
  by_cases e : i = x
  · subst e; simp [hi]
  · simp [e, Ne.symm e]
theorem c_begin {h : Heap} {v l : Value} {a : Aut} {L : List Bool} (Ra : Rep h v a) (Rl : Rep h l L) (ha : a.Ok) (hLl : L.length = a.acc.length) (hL : ∀ q, tru L q ↔ q < a.acc.length ∧ a.Live q) :
    CallE Try.prog fn_impl_Automaton_begin [v, l] h (fun u h' => ∃ B : List Bool, HS h [ow u B] h' ∧ B.length = a.acc.length ∧ ∀ q, tru B q ↔ a.beg q) := by
  obtain ⟨v1, v2, v3, rfl, R1, R2, R3⟩ := Rep_Aut.1 Ra
  have hn := ha.n
  have hil := ha.il
  refine CallE.gen fun k hk => EN_impl_Automaton_begin rfl ?_
  simp -implicitDefEqProofs (disch:=first|omega|(simp only[LnZ];omega))[wrap64, Rl.len]
  refine HS.init.mks (α := Bool) (z := false) rfl rfl own_false (Nat.le_refl _) (by omega) (by omega) fun b h1 H => ?_
  simp -implicitDefEqProofs (disch:=first|omega|(simp only[LnZ];omega))[wrap64, (R1.on H).len]
  refine wp_count a.init.length (fun i e h' => e = [none, some l, none, none, some b, none, some v1, some (.int .i64 a.init.length), some (.int .i64 i)] ∧ ∃ B : List Bool, HS h [ow b B] h' ∧ B.length = a.acc.length ∧ ∀ q : Nat, tru B q ↔ (q : Int) ∈ a.init.take i ∧ a.Live q) ⟨by simp, _, H, by simp [hLl], fun q => by simp [tru_replicate]⟩ ?_
  clear H
  rintro J i _ h2 hJ hi ⟨rfl, B, H, hBl, hB⟩
  simp -implicitDefEqProofs (disch:=first|omega|(simp only[LnZ];omega))[wrap64]
  refine IteW.mk (fun hlt => ?_) (fun hge => ?_)
  · have hix : i < a.init.length := by omega
    have hx := ha.im hix
    obtain ⟨q, hq⟩ : ∃ q : Nat, a.init[i] = q := ⟨a.init[i].toNat, by omega⟩
    have hqn : q < a.acc.length := by omega
    simp -implicitDefEqProofs (disch:=first|omega|(simp only[LnZ];omega))[wrap64, (R1.on H).I, hq, (Rl.on H).B, H.rep.B]
    refine H.storeF (L[q]'(by omega)) (i := q) (by omega) rfl rfl trivial rfl fun h3 H => ?_
    simp -implicitDefEqProofs (disch:=first|omega|(simp only[LnZ];omega))[wrap64]
    refine hJ _ _ hix ⟨rfl, _, H, by simpa using hBl, fun x => ?_⟩
    rw [tru_set2 (by omega), take_mem_succ hix, hq]
    have hLq := hL q
    rw [tru_get (by omega)] at hLq
    split
    · rename_i e
      subst e
      rw [hLq]
      simp [hqn]
    · rename_i e
      rw [hB]
      have e2 : ¬ ((x : Int) = q) := by omega
      simp [e2]
  simp -implicitDefEqProofs (disch:=first|omega|(simp only[LnZ];omega))[wrap64]
  rw [List.take_of_length_le (by omega)] at hB
  exact RetK.keep (hk _ _ ⟨B, H, hBl, hB⟩)
theorem c_after {h : Heap} {v l s : Value} {a : Aut} {L S : List Bool} {letter : Int} (Ra : Rep h v a) (Rl : Rep h l L) (Rs : Rep h s S) (ha : a.Ok) (hLl : L.length = a.acc.length) (hSl : S.length = a.acc.length) (hL : ∀ q, tru L q ↔ q < a.acc.length ∧ a.Live q) :
    CallE Try.prog fn_impl_Automaton_after [v, l, s, .int .i64 letter] h (fun u h' => ∃ B : List Bool, HS h [ow u B] h' ∧ B.length = a.acc.length ∧ ∀ q, tru B q ↔ a.aft (tru S) letter q) := by
  obtain ⟨v1, v2, v3, rfl, R1, R2, R3⟩ := Rep_Aut.1 Ra
  have hn := ha.n
  have he := ha.e
  refine CallE.gen fun k hk => EN_impl_Automaton_after rfl ?_
  simp -implicitDefEqProofs (disch:=first|omega|(simp only[LnZ];omega))[wrap64, Rl.len]
  refine HS.init.mks (α := Bool) (z := false) rfl rfl own_false (Nat.le_refl _) (by omega) (by omega) fun b h1 H => ?_
  simp -implicitDefEqProofs (disch:=first|omega|(simp only[LnZ];omega))[wrap64, (R3.on H).len]
  refine wp_count a.edges.length (fun i e h' => e = [none, some l, some s, some (.int .i64 letter), none, none, some b, none, some v3, some (.int .i64 a.edges.length), some (.int .i64 i)] ∧ ∃ B : List Bool, HS h [ow b B] h' ∧ B.length = a.acc.length ∧ ∀ q : Nat, tru B q ↔ a.Live q ∧ ∃ e ∈ a.edges.take i, tru S e.frm.toNat ∧ e.to = q ∧ e.on letter = true) ⟨by simp, _, H, by simp [hLl], fun q => by simp [tru_replicate]⟩ ?_
  clear H
  rintro J i _ h2 hJ hi ⟨rfl, B, H, hBl, hB⟩
  simp -implicitDefEqProofs (disch:=first|omega|(simp only[LnZ];omega))[wrap64]
  refine IteW.mk (fun hlt => ?_) (fun hge => ?_)
  · have hix : i < a.edges.length := by omega
    have hx := ha.t hix
    have hv := R3.okTr hix
    unfold Tr.Ok at hx
    obtain ⟨f, hf⟩ : ∃ f : Nat, a.edges[i].frm = f := ⟨a.edges[i].frm.toNat, by omega⟩
    obtain ⟨t, ht⟩ : ∃ t : Nat, a.edges[i].to = t := ⟨a.edges[i].to.toNat, by omega⟩
    have hLt := hL t
    rw [tru_get (by omega)] at hLt
    have hSf := tru_get (B := S) (i := f) (by omega)
    have hstep : ∀ B' : List Bool, (∀ q : Nat, tru B' q ↔ tru B q ∨ (q = t ∧ a.Live q ∧ tru S f ∧ a.edges[i].on letter = true)) → ∀ q : Nat, tru B' q ↔ a.Live q ∧ ∃ e ∈ a.edges.take (i + 1), tru S e.frm.toNat ∧ e.to = q ∧ e.on letter = true := by
      intro B' hB' q
      rw [hB', hB]
      constructor
      · rintro (⟨h1, e, h2, h3⟩ | ⟨rfl, h1, h2, h3⟩)
        · exact ⟨h1, e, (take_mem_succ hix).2 (.inl h2), h3⟩
        · exact ⟨h1, _, (take_mem_succ hix).2 (.inr rfl), by rw [hf]; simpa using h2, ht, h3⟩
      · rintro ⟨h1, e, h2, h3, h4, h5⟩
        rcases (take_mem_succ hix).1 h2 with h2 | rfl
        · exact .inl ⟨h1, e, h2, h3, h4, h5⟩
        · rw [hf] at h3
          exact .inr ⟨by omega, h1, by simpa using h3, h5⟩
    have hkeep : ¬ (a.Live t ∧ tru S f ∧ a.edges[i].on letter = true) → ∀ h3, HS h [ow b B] h3 → J [none, some l, some s, some (.int .i64 letter), none, none, some b, none, some v3, some (.int .i64 a.edges.length), some (.int .i64 ((i + 1 : Nat) : Int))] h3 :=
      fun hno h3 H => hJ _ _ hix ⟨by simp, B, H, hBl, hstep B fun q => ⟨.inl, fun hh => hh.elim id fun ⟨e, h1, h2⟩ => absurd (e ▸ ⟨h1, h2⟩) hno⟩⟩
    by_cases e1 : S[f]'(by omega) = true
    case neg =>
      simp -implicitDefEqProofs (disch:=first|omega|(simp only[LnZ];omega))[wrap64, (R3.on H).xTr, Tr.v, setC, hf, (Rs.on H).B, e1]
      exact hkeep (fun hh => e1 (hSf.1 hh.2.1)) _ H
    by_cases e2 : L[t]'(by omega) = true
    case neg =>
      simp -implicitDefEqProofs (disch:=first|omega|(simp only[LnZ];omega))[wrap64, (R3.on H).xTr, Tr.v, setC, hf, ht, (Rs.on H).B, (Rl.on H).B, e1, e2]
      exact hkeep (fun hh => e2 (hLt.2 ⟨by omega, hh.1⟩)) _ H
    simp -implicitDefEqProofs (disch:=first|omega|(simp only[LnZ];omega))[wrap64, (R3.on H).xTr, Tr.v, setC, hf, ht, (Rs.on H).B, (Rl.on H).B, e1, e2]
    refine (c_takes (t := a.edges[i]) (Rep_Tr.2 ⟨by simp [Tr.v, hf, ht], hv⟩)).go ?_
    rintro _ _ ⟨rfl, rfl⟩
    by_cases e3 : a.edges[i].on letter = true
    case neg =>
      simp -implicitDefEqProofs (disch:=first|omega|(simp only[LnZ];omega))[wrap64, e3]
      exact hkeep (fun hh => e3 hh.2.2) _ H
    simp -implicitDefEqProofs (disch:=first|omega|(simp only[LnZ];omega))[wrap64, e3, H.rep.B]
    refine H.storeF true (i := t) (by omega) rfl rfl trivial rfl fun h3 H => ?_
    simp -implicitDefEqProofs (disch:=first|omega|(simp only[LnZ];omega))[wrap64]
    refine hJ _ _ hix ⟨by simp, _, H, by simpa using hBl, hstep _ fun q => ?_⟩
    rw [tru_set (by omega)]
    constructor
    · rintro (h1 | rfl)
      · exact .inl h1
      · exact .inr ⟨rfl, (hLt.1 e2).2, hSf.2 e1, e3⟩
    · rintro (h1 | h1)
      · exact .inl h1
      · exact .inr h1.1
  simp -implicitDefEqProofs (disch:=first|omega|(simp only[LnZ];omega))[wrap64]
  rw [List.take_of_length_le (by omega)] at hB
  exact RetK.keep (hk _ _ ⟨B, H, hBl, hB⟩)
theorem c_members {h : Heap} {s : Value} {S : List Bool} (Rs : Rep h s S) (hl : S.length ≤ 1048576) : CallE Try.prog fn_impl_members [s] h (fun u h' => HS h [ow u (memL (fun q => S.getD q false) S.length)] h') := by
  refine CallE.gen fun k hk => EN_impl_members rfl ?_
  simp -implicitDefEqProofs (disch:=first|omega|(simp only[LnZ];omega))[wrap64, Rs.len]
  have H := (HS.init (h := h)).nil_ow (α := Int)
  refine wp_count S.length (fun i e h' => ∃ o, e = [none, none, some o, none, none, some s, some (.int .i64 S.length), some (.int .i64 i)] ∧ HS h [ow o (memL (fun q => S.getD q false) i)] h') ⟨.slice none 0 0, by simp, by simpa [memL] using H⟩ ?_
  clear H
  rintro J i _ h2 hJ hi ⟨o, rfl, H⟩
  simp -implicitDefEqProofs (disch:=first|omega|(simp only[LnZ];omega))[wrap64]
  refine IteW.mk (fun hlt => ?_) (fun hge => ?_)
  · have hix : i < S.length := by omega
    have hml := memL_length (K := fun q => S.getD q false) (i := i)
    have hgd : S.getD i false = S[i] := by simp [hix]
    cases hb : S[i] with
    | true =>
      simp -implicitDefEqProofs (disch:=first|omega|(simp only[LnZ];omega))[wrap64, (Rs.on H).B, hb]
      refine H.app1 (i : Int) rfl rfl rfl ⟨by omega, by omega⟩ rfl rfl (by omega) (by omega) fun o' h3 H => ?_
      simp -implicitDefEqProofs (disch:=first|omega|(simp only[LnZ];omega))[wrap64]
      refine hJ _ _ hix ⟨o', rfl, ?_⟩
      rw [memL_succ, hgd, hb]; exact H
    | false =>
      simp -implicitDefEqProofs (disch:=first|omega|(simp only[LnZ];omega))[wrap64, (Rs.on H).B, hb]
      refine hJ _ _ hix ⟨o, rfl, ?_⟩
      rw [memL_succ, hgd, hb]; simpa using H
  have hii : i = S.length := by omega
  subst hii
  simp -implicitDefEqProofs (disch:=first|omega|(simp only[LnZ];omega))[wrap64]
  refine (c_Clip_int H).go ?_
  intro o' h3 H
  simp -implicitDefEqProofs (disch:=first|omega|(simp only[LnZ];omega))[wrap64]
  exact RetK.keep (hk _ _ H)
theorem c_letters_1 {h : Heap} {n : Int} : CallE Try.prog fn_impl_letters_1 [.int .i64 n] h (fun u h' => h' = h ∧ u = .bool (!decide (0 ≤ n ∧ n ≤ 7))) := by
  refine CallE.gen fun k hk => EN_impl_letters_1 rfl ?_
  simp -implicitDefEqProofs (disch:=first|omega|(simp only[LnZ];omega))[wrap64]
  refine c_in.go ?_
  rintro _ _ ⟨rfl, rfl⟩
  simp -implicitDefEqProofs (disch:=first|omega|(simp only[LnZ];omega))[wrap64]
  exact RetK.keep (hk _ _ ⟨rfl, by simp⟩)
theorem c_letters {h : Heap} {w : Value} {W : List Int} (Rw : Rep h w W) : CallE Try.prog fn_impl_letters [w] h (fun u h' => h.le h' ∧ u = .bool (decide (∀ x ∈ W, 0 ≤ x ∧ x ≤ 7))) := by
  refine CallE.gen fun k hk => EN_impl_letters rfl ?_
  simp -implicitDefEqProofs (disch:=first|omega|(simp only[LnZ];omega))[wrap64]
  refine (c_ContainsFunc_int Rw (c1 := []) (c2 := []) (f := fn_impl_letters_1) rfl (fun n => !decide (0 ≤ n ∧ n ≤ 7)) ?_).go ?_
  · intro h3 hl j hj u Ru
    obtain ⟨rfl, _⟩ := Rep_int.1 Ru
    exact (c_letters_1 (n := W[j])).to fun _ _ ⟨h4, h5⟩ => ⟨h4 ▸ Heap.le.refl _, h5⟩
  · rintro _ h3 ⟨hl, rfl⟩
    simp -implicitDefEqProofs (disch:=first|omega|(simp only[LnZ];omega))[wrap64]
    refine RetK.keep (hk _ _ ⟨hl, ?_⟩)
    congr 1
    rw [Bool.eq_iff_iff]
    simp
theorem c_wordOk {h : Heap} {w : Value} {W : List Int} (Rw : Rep h w W) : CallE Try.prog fn_impl_wordOk [w] h (fun u h' => h.le h' ∧ u = .bool (decide (Wok W))) := by
  have hL := Rw.lt
  refine CallE.gen fun k hk => EN_impl_wordOk rfl ?_
  simp -implicitDefEqProofs (disch:=first|omega|(simp only[LnZ];omega))[wrap64, Rw.len]
  by_cases h1 : (W.length : Int) ≤ 200
  · simp -implicitDefEqProofs (disch:=first|omega|(simp only[LnZ];omega))[wrap64, h1]
    refine (c_letters Rw).go ?_
    rintro _ h2 ⟨hl, rfl⟩
    simp -implicitDefEqProofs (disch:=first|omega|(simp only[LnZ];omega))[wrap64]
    refine RetK.keep (hk _ _ ⟨hl, ?_⟩)
    congr 1
    rw [Bool.eq_iff_iff]
    have : W.length ≤ 200 := by omega
    simp [Wok, this]
  · simp -implicitDefEqProofs (disch:=first|omega|(simp only[LnZ];omega))[wrap64, h1]
    refine RetK.keep (hk _ _ ⟨Heap.le.refl _, ?_⟩)
    congr 1
    rw [eq_comm, decide_eq_false_iff_not]
    intro hh
    have := hh.1
    omega
theorem c_prefix {h : Heap} {v w : Value} {a : Aut} {W : List Int} (Ra : Rep h v a) (Rw : Rep h w W) (ha : a.Ok) : CallE Try.prog fn_impl_Automaton_prefix [v, w] h (fun u h' => HS h [ow u (a.states W)] h') := by
  have hn := ha.n
  have hwl := Rw.lt
  have Fa := Ra.aAut
  refine CallE.gen fun k hk => EN_impl_Automaton_prefix rfl ?_
  simp -implicitDefEqProofs (disch:=first|omega|(simp only[LnZ];omega))[wrap64, Fa]
  refine (c_live Ra ha).go ?_
  rintro l h1 ⟨L, H, hLl, hL⟩
  simp -implicitDefEqProofs (disch:=first|omega|(simp only[LnZ];omega))[wrap64, Fa]
  refine (c_begin (Ra.on H) H.rep ha hLl hL).go ?_
  rintro b h2 ⟨B, H2, hBl, hB⟩
  have H := H2.app H
  simp -implicitDefEqProofs (disch:=first|omega|(simp only[LnZ];omega))[wrap64, Fa, (Rw.on H).len]
  refine wp_count W.length (fun i e h' => ∃ b, e = [none, none, some v, none, some l, some b, none, some w, some (.int .i64 W.length), some (.int .i64 i)] ∧ ∃ B : List Bool, HS h [ow b B, ow l L] h' ∧ B.length = a.acc.length ∧ ∀ q : Nat, tru B q ↔ a.behind (W.take i) q) ⟨b, by simp, B, H, hBl, hB⟩ ?_
  clear H hB hBl
  rintro J i _ h3 hJ hi ⟨b, rfl, B, H, hBl, hB⟩
  simp -implicitDefEqProofs (disch:=first|omega|(simp only[LnZ];omega))[wrap64]
  refine IteW.mk (fun hlt => ?_) (fun hge => ?_)
  · have hix : i < W.length := by omega
    simp -implicitDefEqProofs (disch:=first|omega|(simp only[LnZ];omega))[wrap64, Fa, (Rw.on H).I]
    refine (c_after (Ra.on H) H.sw1.rep H.rep ha hLl hBl hL).go ?_
    rintro b' h4 ⟨B', H4, hBl', hB'⟩
    have H := (H4.app H).sw1.drop
    simp -implicitDefEqProofs (disch:=first|omega|(simp only[LnZ];omega))[wrap64, Fa]
    refine hJ _ _ hix ⟨b', rfl, B', H, hBl', fun q => ?_⟩
    rw [hB', Aut.behind, foldl_take hix, funext fun q => propext (hB q)]
    exact Iff.rfl
  simp -implicitDefEqProofs (disch:=first|omega|(simp only[LnZ];omega))[wrap64]
  rw [List.take_of_length_le (by omega)] at hB
  refine (c_members H.rep (by omega)).go ?_
  intro o h4 H4
  have H := (H4.app H).only
  simp -implicitDefEqProofs (disch:=first|omega|(simp only[LnZ];omega))[wrap64]
  have he : memL (fun q => B.getD q false) B.length = a.states W := by
    refine Aut.states_eq (by rw [hBl]; exact memL_incr (Nat.le_refl _)) fun q => ?_
    rw [memL_mem, ← hB, ← hBl]
    constructor
    · rintro ⟨q', e, h5, h6⟩
      obtain rfl : q = q' := by omega
      exact ⟨h5, h6⟩
    · rintro ⟨h5, h6⟩; exact ⟨q, rfl, h5, h6⟩
  rw [he] at H
  exact RetK.keep (hk _ _ H)
end Go.Proofs.Ytglnelcmcimljaa

namespace Go.Proofs.Ytglnelcmcimljaa
open Go
section
variable {P : Program} {k : Env → Heap → Prop} {e : Env} {g h : Heap} {Γ : List HP} {v : Value} {α : Type}
end
end Go.Proofs.Ytglnelcmcimljaa

namespace Go.Proofs.Ytglnelcmcimljaa
open Go
def Las.Ok (l : Las) : Prop := ((∀ x ∈ l.stem, 0 ≤ x ∧ x ≤ 7) ∧ ∀ x ∈ l.loop, 0 ≤ x ∧ x ≤ 7) ∧ l.stem.length ≤ 80 ∧ 1 ≤ l.loop.length ∧ l.loop.length ≤ 80
instance instDecLasOk (l : Las) : Decidable l.Ok := by unfold Las.Ok; infer_instance
def Las.size (l : Las) : Nat := l.stem.length + l.loop.length
def Las.all (l : Las) : List Int := l.stem ++ l.loop
def Las.nx (l : Las) (i : Nat) : Nat := if i + 1 = l.size then l.stem.length else i + 1
def Las.pos (l : Las) : Nat → Nat
  | 0 => 0
  | t + 1 => l.nx (l.pos t)
def Las.word (l : Las) (t : Nat) : Int := l.all.getD (l.pos t) 0
theorem Las.nx_lt {l : Las} (h : 1 ≤ l.loop.length) {i : Nat} (hi : i < l.size) : l.nx i < l.size := by
  unfold Las.nx Las.size at *
  split <;> omega
theorem Las.pos_lt {l : Las} (h : 1 ≤ l.loop.length) : ∀ t, l.pos t < l.size
  | 0 => by unfold Las.pos Las.size; omega
  | t + 1 => Las.nx_lt h (Las.pos_lt h t)
def StE (E : List Tr) (w : Nat → Int) (t p q : Nat) : Prop := ∃ e ∈ E, e.frm = p ∧ e.to = q ∧ e.on (w t) = true
inductive FR (E : List Tr) (w : Nat → Int) : Nat → Nat → Nat → Nat → Prop
  | refl (t p : Nat) : FR E w t p t p
  | step {t p q u r : Nat} (h : StE E w t p q) (k : FR E w (t + 1) q u r) : FR E w t p u r
section
variable {E : List Tr} {w : Nat → Int} {A : List Bool} {t p u q v r : Nat}
theorem FR.trans (h : FR E w t p u q) (k : FR E w u q v r) : FR E w t p v r := by
  induction h with
  | refl => exact k
  | step h _ ih => exact .step h (ih k)
theorem FR.le (h : FR E w t p u q) : t ≤ u := by
  induction h with
  | refl => exact Nat.le_refl _
  | step h _ ih => omega
theorem FR.one (h : StE E w t p q) : FR E w t p (t + 1) q := .step h (.refl _ _)
end
def Goes (A : List Bool) (E : List Tr) (w : Nat → Int) (C : Nat → Nat → Prop) : Prop := ∀ t p, C t p → ∃ u q, t < u ∧ FR E w t p u q ∧ tru A q ∧ C u q
def Run (A : List Bool) (E : List Tr) (w : Nat → Int) (t p : Nat) : Prop := ∃ C, C t p ∧ Goes A E w C
def Aut.Lang (a : Aut) (w : Nat → Int) : Prop := ∃ s : Nat, (s : Int) ∈ a.init ∧ Run a.acc a.edges w 0 s
theorem Run.before {A : List Bool} {E : List Tr} {w : Nat → Int} {t p u q : Nat} (h : FR E w t p u q) (k : Run A E w u q) : Run A E w t p := by
  obtain ⟨C, hC, hG⟩ := k
  refine ⟨fun t' p' => (t' = t ∧ p' = p) ∨ C t' p', .inl ⟨rfl, rfl⟩, ?_⟩
  rintro t' p' (⟨rfl, rfl⟩ | h1)
  · obtain ⟨v, r, h2, h3, h4, h5⟩ := hG u q hC
    have := h.le
    exact ⟨v, r, by omega, h.trans h3, h4, .inr h5⟩
  · obtain ⟨v, r, h2, h3, h4, h5⟩ := hG t' p' h1
    exact ⟨v, r, h2, h3, h4, .inr h5⟩
theorem Run.sim {A A' : List Bool} {E E' : List Tr} {w : Nat → Int} (M : Nat → Nat → Prop)
    (hs : ∀ t p q p', M p p' → StE E w t p q → Run A E w (t + 1) q → ∃ q', StE E' w t p' q' ∧ M q q') (ha : ∀ p p', M p p' → tru A p → tru A' p') {t p p' : Nat} (h : Run A E w t p) (hm : M p p') : Run A' E' w t p' := by
  have fr : ∀ {t p u r : Nat}, FR E w t p u r → Run A E w u r → ∀ p', M p p' → ∃ r', FR E' w t p' u r' ∧ M r r' := by
    intro t p u r h
    induction h with
    | refl => intro _ p' hm; exact ⟨p', .refl _ _, hm⟩
    | step h k ih =>
      intro hr p' hm
      obtain ⟨q', h1, h2⟩ := hs _ _ _ _ hm h (hr.before k)
      obtain ⟨r', h3, h4⟩ := ih hr q' h2
      exact ⟨r', .step h1 h3, h4⟩
  obtain ⟨C, hC, hG⟩ := h
  refine ⟨fun t p' => ∃ p, C t p ∧ M p p', ⟨p, hC, hm⟩, ?_⟩
  rintro t p' ⟨p, hC, hm⟩
  obtain ⟨u, q, h2, h3, h4, h5⟩ := hG t p hC
  obtain ⟨q', h6, h7⟩ := fr h3 ⟨C, h5, hG⟩ p' hm
  exact ⟨u, q', h2, h6, ha _ _ h7 h4, q, h5, h7⟩
theorem fin_cyc {T : Nat → Nat → Prop} (tr : ∀ x y z, T x y → T y z → T x z) (N : Nat) : ∀ (m : Nat) (D : Nat → Prop), (((List.range N).filter fun x => @decide (D x) (Classical.propDecidable _)).length ≤ m) → (∀ x, D x → x < N) → (∃ x, D x) → (∀ x, D x → ∃ y, D y ∧ T x y) → ∃ x, D x ∧ T x x := by
  intro m
  induction m with
  | zero =>
    rintro D hm hN ⟨x, hx⟩ _
    exfalso
    have : x ∈ (List.range N).filter fun x => @decide (D x) (Classical.propDecidable _) := by
      rw [List.mem_filter]
      exact ⟨List.mem_range.2 (hN x hx), by simpa using hx⟩
    have := List.length_pos_of_mem this
    omega
  | succ m ih =>
    rintro D hm hN ⟨x, hx⟩ hT
    by_cases hxx : T x x
    · exact ⟨x, hx, hxx⟩
    obtain ⟨y, hy, hxy⟩ := hT x hx
    obtain ⟨z, ⟨hz, _⟩, hzz⟩ := ih (fun y => D y ∧ T x y) (by
      have := filter_lt_of (p := fun y => @decide (D y ∧ T x y) (Classical.propDecidable _)) (q := fun y => @decide (D y) (Classical.propDecidable _)) (fun y hy => by
        simp only [decide_eq_true_eq] at hy ⊢
        exact hy.1) (l := List.range N) ⟨x, List.mem_range.2 (hN x hx), by simp [hxx], by simpa using hx⟩
      omega) (fun y hy => hN y hy.1) ⟨y, hy, hxy⟩ (fun z hz => by
        obtain ⟨v, h1, h2⟩ := hT z hz.1
        exact ⟨v, ⟨h1, tr _ _ _ hz.2 h2⟩, h2⟩)
    exact ⟨z, hz, hzz⟩
def Rch1 (E : Nat → Nat → Prop) (x y : Nat) : Prop := ∃ z, E x z ∧ Rch E z y
theorem Rch1.trans {E : Nat → Nat → Prop} {x y z : Nat} (h : Rch1 E x y) (k : Rch1 E y z) : Rch1 E x z := by
  obtain ⟨u, h1, h2⟩ := h
  obtain ⟨v, h3, h4⟩ := k
  exact ⟨u, h1, h2.trans (.step h3 h4)⟩
theorem Rch1.rch {E : Nat → Nat → Prop} {x y : Nat} (h : Rch1 E x y) : Rch E x y := by
  obtain ⟨u, h1, h2⟩ := h
  exact .step h1 h2
theorem fin_rch {E : Nat → Nat → Prop} {N : Nat} {D : Nat → Prop} (hN : ∀ x, D x → x < N) (h0 : ∃ x, D x) (hT : ∀ x, D x → ∃ y, D y ∧ Rch1 E x y) : ∃ x, D x ∧ Cyc E x :=
  fin_cyc (T := Rch1 E) (fun _ _ _ h k => Rch1.trans h k) N _ D (Nat.le_refl _) hN h0 hT
def Aut.PE (a : Aut) (l : Las) (x y : Nat) : Prop := ∃ e ∈ a.edges, ∃ i, i < l.size ∧ x = i * a.acc.length + e.frm.toNat ∧ y = l.nx i * a.acc.length + e.to.toNat ∧ e.on (l.all.getD i 0) = true
section
variable {a : Aut} {l : Las}
theorem Aut.Ok.tr (ha : a.Ok) {e : Tr} (he : e ∈ a.edges) : ∃ f g : Nat, e.frm = f ∧ e.to = g ∧ f < a.acc.length ∧ g < a.acc.length := by
  have := ha.2.2.2 e he
  unfold Tr.Ok at this
  exact ⟨e.frm.toNat, e.to.toNat, by omega, by omega, by omega, by omega⟩
theorem Aut.Ok.st (ha : a.Ok) {w : Nat → Int} {t p q : Nat} (h : StE a.edges w t p q) : p < a.acc.length ∧ q < a.acc.length := by
  obtain ⟨e, he, h1, h2, _⟩ := h
  obtain ⟨f, g, h3, h4, h5, h6⟩ := ha.tr he
  exact ⟨by omega, by omega⟩
theorem Aut.Ok.ini (ha : a.Ok) {s : Nat} (hs : (s : Int) ∈ a.init) : s < a.acc.length := by
  have := incr_mem ha.i _ hs
  omega
theorem PE.of (hl : 1 ≤ l.loop.length) {t p q : Nat} (h : StE a.edges l.word t p q) : a.PE l (l.pos t * a.acc.length + p) (l.pos (t + 1) * a.acc.length + q) := by
  obtain ⟨e, he, h1, h2, h3⟩ := h
  exact ⟨e, he, l.pos t, Las.pos_lt hl t, by rw [h1]; rfl, by rw [h2]; rfl, h3⟩
theorem PE.rch (hl : 1 ≤ l.loop.length) {t p u q : Nat} (h : FR a.edges l.word t p u q) : Rch (a.PE l) (l.pos t * a.acc.length + p) (l.pos u * a.acc.length + q) := by
  induction h with
  | refl => exact .refl _
  | step h _ ih => exact .step (PE.of hl h) ih
theorem PE.rch1 (hl : 1 ≤ l.loop.length) {t p u q : Nat} (h : FR a.edges l.word t p u q) (htu : t < u) : Rch1 (a.PE l) (l.pos t * a.acc.length + p) (l.pos u * a.acc.length + q) := by
  cases h with
  | refl => omega
  | step h k => exact ⟨_, PE.of hl h, PE.rch hl k⟩
theorem FR.lt (ha : a.Ok) {w : Nat → Int} {t p u q : Nat} (h : FR a.edges w t p u q) (hp : p < a.acc.length) : q < a.acc.length := by
  induction h with
  | refl => exact hp
  | step h _ ih => exact ih (ha.st h).2
end
theorem Run.live {a : Aut} (ha : a.Ok) {w : Nat → Int} {t p : Nat} (hp : p < a.acc.length) (h : Run a.acc a.edges w t p) : a.Live p := by
  have rch : ∀ {t p u q : Nat}, FR a.edges w t p u q → Rch a.E p q := by
    intro t p u q h
    induction h with
    | refl => exact .refl _
    | step h _ ih =>
      obtain ⟨e, he, h1, h2, _⟩ := h
      exact .step ⟨e, he, h1, h2⟩ ih
  have rch1 : ∀ {t p u q : Nat}, FR a.edges w t p u q → t < u → Rch1 a.E p q := by
    intro t p u q h hlt
    cases h with
    | refl => omega
    | step h k =>
      obtain ⟨e, he, h1, h2, _⟩ := h
      exact ⟨_, ⟨e, he, h1, h2⟩, rch k⟩
  obtain ⟨C, hC, hG⟩ := h
  obtain ⟨x, ⟨t, g1, g2, g3, g4⟩, hx⟩ := fin_rch (E := a.E) (N := a.acc.length) (D := fun x => ∃ t, C t x ∧ x < a.acc.length ∧ tru a.acc x ∧ Rch a.E p x)
    (by rintro x ⟨t, g1, g2, _⟩; exact g2)
    (by
      obtain ⟨u, q, h1, h2, h3, h4⟩ := hG t p hC
      exact ⟨q, u, h4, h2.lt ha hp, h3, rch h2⟩)
    (by
      rintro x ⟨t, g1, g2, g3, g4⟩
      obtain ⟨u, q, h1, h2, h3, h4⟩ := hG t x g1
      exact ⟨q, ⟨u, h4, h2.lt ha g2, h3, g4.trans (rch h2)⟩, rch1 h2 h1⟩)
  exact ⟨x, g4, hx, g3⟩
end Go.Proofs.Ytglnelcmcimljaa

namespace Go.Proofs.Ytglnelcmcimljaa
open Go
structure GI (N B : Nat) (E : Nat → Nat → Prop) (G : List (List Int)) : Prop where
  len : G.length = N
  mem : ∀ x (hx : x < G.length) z, z ∈ G[x] ↔ ∃ y : Nat, z = y ∧ E x y
  row : ∀ x (hx : x < G.length), G[x].length ≤ B
theorem GI.zero {N : Nat} : GI N 0 (fun _ _ => False) (List.replicate N []) := ⟨by simp, by simp, by simp⟩
theorem GI.add {N B : Nat} {E : Nat → Nat → Prop} {G : List (List Int)} (h : GI N B E G) {f t : Nat} (hf : f < G.length) : GI N (B + 1) (fun x y => E x y ∨ (x = f ∧ y = t)) (G.set f (G[f] ++ [(t : Int)])) := by
  refine ⟨by simp [h.len], fun x hx z => ?_, fun x hx => ?_⟩
  · simp only [List.length_set] at hx
    rw [List.getElem_set]
    split
    · rename_i e
      subst e
      rw [List.mem_append, h.mem f hf z, List.mem_singleton]
      constructor
      · rintro (⟨y, h1, h2⟩ | h1)
        · exact ⟨y, h1, .inl h2⟩
        · exact ⟨t, h1, .inr ⟨rfl, rfl⟩⟩
      · rintro ⟨y, h1, h2 | ⟨_, h2⟩⟩
        · exact .inl ⟨y, h1, h2⟩
        · subst h2; exact .inr h1
    · rename_i e
      rw [h.mem x hx z]
      constructor
      · rintro ⟨y, h1, h2⟩; exact ⟨y, h1, .inl h2⟩
      · rintro ⟨y, h1, h2 | ⟨h2, _⟩⟩
        · exact ⟨y, h1, h2⟩
        · exact absurd h2.symm e
  · simp only [List.length_set] at hx
    rw [List.getElem_set]
    have h1 := h.row f hf
    have h2 := h.row x hx
    split
    · simp; omega
    · omega
theorem GI.congr {N B B' : Nat} {E E' : Nat → Nat → Prop} {G : List (List Int)} (h : GI N B E G) (hB : B ≤ B') (he : ∀ x y, E x y ↔ E' x y) : GI N B' E' G :=
  ⟨h.len, fun x hx z => by rw [h.mem x hx z]; exact ⟨fun ⟨y, h1, h2⟩ => ⟨y, h1, (he x y).1 h2⟩, fun ⟨y, h1, h2⟩ => ⟨y, h1, (he x y).2 h2⟩⟩, fun x hx => Nat.le_trans (h.row x hx) hB⟩
end Go.Proofs.Ytglnelcmcimljaa

namespace Go.Proofs.Ytglnelcmcimljaa
open Go
end Go.Proofs.Ytglnelcmcimljaa

namespace Go.Proofs.Ytglnelcmcimljaa
open Go
theorem Great.refl {a : Aut} {R : Rl} (h : Great a R) {i : Nat} (hi : i < a.acc.length) : R i i = true := by
  refine h.upper (fun x y => decide (x = y)) ⟨?_, ?_⟩ i i hi hi (by simp)
  · intro x y _ _ hxy hx
    simp only [decide_eq_true_eq] at hxy
    subst hxy; exact hx
  · intro x y _ _ hxy l _ e he hx ho
    simp only [decide_eq_true_eq] at hxy
    subst hxy
    exact ⟨e, he, hx, ho, by simp⟩
theorem Great.trans {a : Aut} (ha : a.Ok) {R : Rl} (h : Great a R) {i j k : Nat} (hi : i < a.acc.length) (hj : j < a.acc.length) (hk : k < a.acc.length) (h1 : R i j = true) (h2 : R j k = true) : R i k = true := by
  refine h.upper (fun x z => @decide (∃ y, y < a.acc.length ∧ R x y = true ∧ R y z = true) (Classical.propDecidable _)) ⟨?_, ?_⟩ i k hi hk (by simpa using ⟨j, hj, h1, h2⟩)
  · intro x z hx hz hxz h3
    simp only [decide_eq_true_eq] at hxz
    obtain ⟨y, hy, h4, h5⟩ := hxz
    exact h.simu.1 y z hy hz h5 (h.simu.1 x y hx hy h4 h3)
  · intro x z hx hz hxz l hl e he h6 ho
    simp only [decide_eq_true_eq] at hxz
    obtain ⟨y, hy, h4, h5⟩ := hxz
    obtain ⟨f, hf, g1, g2, g3⟩ := h.simu.2 x y hx hy h4 l hl e he h6 ho
    obtain ⟨f', hf', k1, k2, k3⟩ := h.simu.2 y z hy hz h5 l hl f hf g1 g2
    obtain ⟨_, q, _, h8, _, h10⟩ := ha.tr hf
    refine ⟨f', hf', k1, k2, ?_⟩
    simp only [decide_eq_true_eq]
    exact ⟨f.to.toNat, by rw [h8]; simpa using h10, g3, k3⟩
def Letters (w : Nat → Int) : Prop := ∀ t, 0 ≤ w t ∧ w t ≤ 7
theorem Simu.run {a : Aut} (ha : a.Ok) {R : Rl} (hR : Simu a R) {w : Nat → Int} (hw : Letters w) {t i j : Nat} (hi : i < a.acc.length) (hj : j < a.acc.length) (h : R i j = true) (k : Run a.acc a.edges w t i) : Run a.acc a.edges w t j := by
  refine Run.sim (fun x y => x < a.acc.length ∧ y < a.acc.length ∧ R x y = true) ?_ ?_ k ⟨hi, hj, h⟩
  · rintro t p q p' ⟨h1, h2, h3⟩ ⟨e, he, h4, h5, h6⟩ _
    have h7 := hw t
    obtain ⟨n, hn⟩ : ∃ n : Nat, w t = n := ⟨(w t).toNat, by omega⟩
    rw [hn] at h6 h7
    obtain ⟨f, hf, g1, g2, g3⟩ := hR.2 p p' h1 h2 h3 n (by omega) e he h4 h6
    obtain ⟨x, y, k1, k2, k3, k4⟩ := ha.tr he
    obtain ⟨x', y', k1', k2', k3', k4'⟩ := ha.tr hf
    refine ⟨y', ⟨f, hf, g1, k2', by rw [hn]; exact g2⟩, by omega, k4', ?_⟩
    rw [h5, k2'] at g3
    simpa using g3
  · rintro p p' ⟨h1, h2, h3⟩ h4
    exact hR.1 p p' h1 h2 h3 h4
section
variable {a b : Aut}
end
theorem kidx_inj {K : Nat → Bool} {p q : Nat} (hp : K p = true) (hq : K q = true) (h : kidx K p = kidx K q) : p = q := by
  have lt : ∀ {p q : Nat}, K p = true → p < q → kidx K p < kidx K q := by
    intro p q hp hlt
    have h1 := kidx_succ (K := K) (q := p)
    rw [hp, if_pos rfl] at h1
    have h2 := kidx_mono (K := K) (show p + 1 ≤ q by omega)
    omega
  by_cases h1 : p < q
  · have := lt hp h1; omega
  by_cases h2 : q < p
  · have := lt hq h2; omega
  omega
theorem kept_at {K : Nat → Bool} {A : List Bool} : ∀ {n p : Nat}, p < n → K p = true → (((List.range n).filter K).map fun q => A.getD q false)[kidx K p]? = some (A.getD p false)
  | 0, p, h, _ => absurd h (Nat.not_lt_zero p)
  | n + 1, p, h, hK => by
    rw [List.range_succ, List.filter_append, List.map_append]
    by_cases hp : p = n
    · subst hp
      rw [List.getElem?_append_right (by simp [kidx])]
      simp [kidx, hK]
    · have h1 := kept_at (A := A) (show p < n by omega) hK
      rw [List.getElem?_append_left]
      · exact h1
      · obtain ⟨h2, _⟩ := List.getElem?_eq_some_iff.1 h1
        exact h2
section
variable {a : Aut} {K : Nat → Bool}
theorem kidx_pos {n p : Nat} (hp : p < n) (hK : K p = true) : kidx K n ≠ 0 := by
  have h1 := kidx_succ (K := K) (q := p)
  rw [hK, if_pos rfl] at h1
  have h2 := kidx_mono (K := K) (show p + 1 ≤ n by omega)
  omega
theorem keep_ini {s : Nat} (hs : s < a.acc.length) (hK : K s = true) (h : (s : Int) ∈ a.init) : ((kidx K s : Nat) : Int) ∈ (a.keep K).init := by
  rw [Aut.keep, if_neg (kidx_pos hs hK)]
  exact List.mem_map.2 ⟨s, List.mem_filter.2 ⟨h, by simpa using hK⟩, by simp [kout]⟩
theorem keep_ini' (ha : a.Ok) {x : Nat} (h : (x : Int) ∈ (a.keep K).init) : ∃ s : Nat, (s : Int) ∈ a.init ∧ K s = true ∧ x = kidx K s := by
  unfold Aut.keep at h
  split at h
  · simp at h
  · obtain ⟨i, hi, he⟩ := List.mem_map.1 h
    obtain ⟨h1, h2⟩ := List.mem_filter.1 hi
    have h3 := incr_mem ha.i _ h1
    exact ⟨i.toNat, by rw [Int.toNat_of_nonneg (by omega)]; exact h1, h2, by simp only [kout] at he; omega⟩
theorem keep_st {w : Nat → Int} {t p q : Nat} (hp : K p = true) (hq : K q = true) (hpn : p < a.acc.length) (h : StE a.edges w t p q) : StE (a.keep K).edges w t (kidx K p) (kidx K q) := by
  obtain ⟨e, he, h1, h2, h3⟩ := h
  rw [Aut.keep, if_neg (kidx_pos hpn hp)]
  exact ⟨_, List.mem_map.2 ⟨e, List.mem_filter.2 ⟨he, by simp [h1, h2, hp, hq]⟩, rfl⟩, by simp [Tr.ren, kout, h1], by simp [Tr.ren, kout, h2], h3⟩
theorem keep_st' (ha : a.Ok) {w : Nat → Int} {t p y : Nat} (hp : K p = true) (h : StE (a.keep K).edges w t (kidx K p) y) : ∃ q, K q = true ∧ q < a.acc.length ∧ y = kidx K q ∧ StE a.edges w t p q := by
  obtain ⟨e, he, h1, h2, h3⟩ := h
  unfold Aut.keep at he
  split at he
  · simp at he
  · obtain ⟨f, hf, rfl⟩ := List.mem_map.1 he
    obtain ⟨g1, g2⟩ := List.mem_filter.1 hf
    obtain ⟨x, z, k1, k2, k3, k4⟩ := ha.tr g1
    simp only [Tr.ren, kout, k1, k2, Int.toNat_natCast, Bool.and_eq_true] at h1 h2 g2
    have := kidx_inj g2.1 hp (by omega)
    subst this
    exact ⟨z, g2.2, k4, by omega, f, g1, k1, k2, h3⟩
theorem keep_tru {p : Nat} (hp : p < a.acc.length) (hK : K p = true) : tru (a.keep K).acc (kidx K p) ↔ tru a.acc p := by
  rw [Aut.keep, if_neg (kidx_pos hp hK)]
  unfold tru
  rw [List.getD_eq_getElem?_getD, kept_at hp hK]
  rfl
theorem trim_lang (ha : a.Ok) {w : Nat → Int} : a.trim.Lang w ↔ a.Lang w := by
  constructor
  · rintro ⟨x, hx, h⟩
    obtain ⟨s, h1, h2, rfl⟩ := keep_ini' ha hx
    refine ⟨s, h1, Run.sim (fun x p => a.tkeep p = true ∧ p < a.acc.length ∧ x = kidx a.tkeep p) ?_ ?_ h ⟨h2, ha.ini h1, rfl⟩⟩
    · rintro t x y p ⟨g1, g2, rfl⟩ g3 _
      obtain ⟨q, k1, k2, k3, k4⟩ := keep_st' ha g1 g3
      exact ⟨q, k4, k1, k2, k3⟩
    · rintro x p ⟨g1, g2, rfl⟩ g3
      exact (keep_tru g2 g1).1 g3
  · rintro ⟨s, hs, h⟩
    have hs' := ha.ini hs
    have hK : a.tkeep s = true := Aut.tkeep_iff.2 ⟨⟨s, hs, .refl _⟩, Run.live ha hs' h⟩
    refine ⟨_, keep_ini hs' hK hs, Run.sim (fun p x => a.tkeep p = true ∧ p < a.acc.length ∧ x = kidx a.tkeep p) ?_ ?_ h ⟨hK, hs', rfl⟩⟩
    · rintro t p q x ⟨g1, g2, rfl⟩ g3 g4
      have hq := (ha.st g3).2
      have hKq : a.tkeep q = true := by
        obtain ⟨⟨s', h1, h2⟩, _⟩ := Aut.tkeep_iff.1 g1
        obtain ⟨e, he, k1, k2, _⟩ := g3
        exact Aut.tkeep_iff.2 ⟨⟨s', h1, h2.snoc ⟨e, he, k1, k2⟩⟩, Run.live ha hq g4⟩
      exact ⟨_, keep_st g1 hKq g2 g3, hKq, hq, rfl⟩
    · rintro p x ⟨g1, g2, rfl⟩ g3
      exact (keep_tru g2 g1).2 g3
end
end Go.Proofs.Ytglnelcmcimljaa

namespace Go.Proofs.Ytglnelcmcimljaa
open Go
end Go.Proofs.Ytglnelcmcimljaa

namespace Go.Proofs.Ytglnelcmcimljaa
open Go
end Go.Proofs.Ytglnelcmcimljaa

namespace Go.Proofs.Ytglnelcmcimljaa
open Go
end Go.Proofs.Ytglnelcmcimljaa

namespace Go.Proofs.Ytglnelcmcimljaa
open Go
def unitR (h : Heap) (a b : Aut) (u : Value) (h' : Heap) : Prop := ∃ v, u = .tuple #[v, .bool (decide (a.Ok ∧ b.Ok ∧ (a.unite b).Ok))] ∧ HS h [ow v (if a.Ok ∧ b.Ok ∧ (a.unite b).Ok then a.unite b else Aut.empty)] h'
theorem unitR.no {h h' : Heap} {a b : Aut} (hn : ¬ (a.Ok ∧ b.Ok ∧ (a.unite b).Ok)) (H : HS h [] h') : unitR h a b (.tuple #[.agg #[.slice none 0 0, .slice none 0 0, .slice none 0 0], .bool false]) h' :=
  ⟨_, by rw [decide_eq_false hn], by rw [if_neg hn]; exact empty_ow H⟩
theorem unitR.yes {h h' : Heap} {a b : Aut} {v : Value} (hn : a.Ok ∧ b.Ok ∧ (a.unite b).Ok) (H : HS h [ow v (a.unite b)] h') : unitR h a b (.tuple #[v, .bool true]) h' :=
  ⟨_, by rw [decide_eq_true hn], by rw [if_pos hn]; exact H⟩
end Go.Proofs.Ytglnelcmcimljaa

namespace Go.Proofs.Ytglnelcmcimljaa
open Go
def inclR (R : Rl) (a b : Aut) : Bool := a.init.all fun i => b.init.any fun j => R i.toNat (j.toNat + a.acc.length)
def InclA (a b : Aut) (r : Bool) : Prop := (¬ (a.Ok ∧ b.Ok ∧ (a.unite b).Ok) ∧ r = false) ∨ ((a.Ok ∧ b.Ok ∧ (a.unite b).Ok) ∧ ∃ R, Great (a.unite b) R ∧ r = inclR R a b)
theorem InclA.eq {a b : Aut} {r s : Bool} (h : InclA a b r) (h' : InclA a b s) : r = s := by
  rcases h with ⟨h1, rfl⟩ | ⟨h1, R, hR, rfl⟩
  · rcases h' with ⟨_, rfl⟩ | ⟨h2, _⟩
    · rfl
    · exact absurd h2 h1
  · rcases h' with ⟨h2, _⟩ | ⟨_, S, hS, rfl⟩
    · exact absurd h1 h2
    · obtain ⟨ha, hb, hc⟩ := h1
      have hl : (a.unite b).acc.length = a.acc.length + b.acc.length := by simp [Aut.unite]
      have : ∀ i ∈ a.init, ∀ j ∈ b.init, R i.toNat (j.toNat + a.acc.length) = S i.toNat (j.toNat + a.acc.length) := by
        intro i hi j hj
        have h1 := incr_mem ha.i i hi
        have h2 := incr_mem hb.i j hj
        exact hR.eq hS (by omega) (by omega)
      unfold inclR
      rw [Bool.eq_iff_iff, List.all_eq_true, List.all_eq_true]
      constructor <;> intro h i hi <;> have h3 := h i hi <;> rw [List.any_eq_true] at h3 ⊢ <;> obtain ⟨j, hj, h4⟩ := h3 <;> exact ⟨j, hj, by first | rw [this i hi j hj] at h4; exact h4 | rw [← this i hi j hj] at h4; exact h4⟩
end Go.Proofs.Ytglnelcmcimljaa

namespace Go.Proofs.Ytglnelcmcimljaa
open Go
def cls (e : Nat → Nat → Bool) (n x : Nat) : Nat := (grpS e n).1.getD x 0
theorem gnm_cls {e : Nat → Nat → Bool} {n x : Nat} : gnm e n (x : Int) = (cls e n x : Int) := by simp [gnm, cls]
def Fresh (e : Nat → Nat → Bool) (r : Nat) : Prop := ∀ k, k < r → e r k = false
section
variable {e : Nat → Nat → Bool}
theorem grpS_mono {i n : Nat} (h : i ≤ n) : (grpS e i).2 ≤ (grpS e n).2 := by
  induction n with
  | zero => obtain rfl : i = 0 := by omega
            exact Nat.le_refl _
  | succ n ih =>
    by_cases hi : i = n + 1
    · subst hi; exact Nat.le_refl _
    · have := ih (by omega)
      cases hf : (List.range n).find? (fun k => e n k) with
      | some k => rw [grpS_old hf]; exact this
      | none => rw [grpS_new hf]; simp only; omega
theorem cls_new {n r : Nat} (hr : r < n) (hf : Fresh e r) : cls e n r = (grpS e r).2 := by
  have hn : (List.range r).find? (fun k => e r k) = none := find_none hf
  unfold cls
  rw [grpS_get (i := r + 1) (by omega) (by omega), grpS_new hn, List.getD_eq_getElem?_getD, List.getElem?_append_right (by rw [grpS_len]; exact Nat.le_refl _), grpS_len]
  simp
theorem cls_old {n q k : Nat} (hq : q < n) (hf : (List.range q).find? (fun k => e q k) = some k) : cls e n q = cls e n k := by
  have hk := find_lt hf
  unfold cls
  rw [grpS_get (i := q + 1) (n := n) (q := q) (by omega) (by omega), grpS_old hf, List.getD_eq_getElem?_getD, List.getElem?_append_right (by rw [grpS_len]; exact Nat.le_refl _), grpS_len,
    grpS_get (i := q) (n := n) (q := k) hk (by omega)]
  simp
theorem cls_lt {n x : Nat} (hx : x < n) : cls e n x < (grpS e n).2 := by
  have := gnm_lt (e := e) (n := n) (x := x) (by omega) (by omega)
  rw [gnm_cls] at this
  omega
theorem find_some {p : Nat → Bool} {i k : Nat} (h : (List.range i).find? p = some k) : p k = true := by
  have := List.find?_some h
  exact this
theorem find_fresh {r : Nat} (h : (List.range r).find? (fun k => e r k) = none) : Fresh e r := by
  intro k hk
  rw [List.find?_eq_none] at h
  have := h k (List.mem_range.2 hk)
  simpa using this
theorem cls_rep {n : Nat} (htr : ∀ x y z, x < n → y < n → z < n → e x y = true → e y z = true → e x z = true) : ∀ m q, q ≤ m → q < n → ∃ r, r < n ∧ (r = q ∨ e q r = true) ∧ cls e n r = cls e n q ∧ Fresh e r
  | m, q, hm, hq => by
    cases hf : (List.range q).find? (fun k => e q k) with
    | none => exact ⟨q, hq, .inl rfl, rfl, find_fresh hf⟩
    | some k =>
      have hk := find_lt hf
      have hek := find_some hf
      cases m with
      | zero => omega
      | succ m =>
        obtain ⟨r, h1, h2, h3, h4⟩ := cls_rep htr m k (by omega) (by omega)
        refine ⟨r, h1, .inr ?_, by rw [h3, cls_old hq hf], h4⟩
        rcases h2 with rfl | h2
        · exact hek
        · exact htr _ _ _ hq (by omega) h1 hek h2
theorem fresh_inj {n r s : Nat} (hr : r < n) (hs : s < n) (fr : Fresh e r) (fs : Fresh e s) (h : cls e n r = cls e n s) : r = s := by
  have lt : ∀ {r s : Nat}, r < n → s < n → Fresh e r → Fresh e s → r < s → cls e n r < cls e n s := by
    intro r s hr hs fr fs hlt
    rw [cls_new hs fs, cls_new hr fr]
    have h1 := grpS_new (e := e) (i := r) (find_none fr)
    have h2 := grpS_mono (e := e) (show r + 1 ≤ s by omega)
    rw [h1] at h2
    simp only at h2
    omega
  by_cases h1 : r < s
  · have := lt hr hs fr fs h1; omega
  by_cases h2 : s < r
  · have := lt hs hr fs fr h2; omega
  omega
theorem cls_same {n p q : Nat} (hsy : ∀ x y, x < n → y < n → e x y = true → e y x = true) (htr : ∀ x y z, x < n → y < n → z < n → e x y = true → e y z = true → e x z = true) (hp : p < n) (hq : q < n) :
    cls e n p = cls e n q ↔ p = q ∨ e p q = true := by
  obtain ⟨r, h1, h2, h3, h4⟩ := cls_rep htr p p (Nat.le_refl _) hp
  obtain ⟨s, g1, g2, g3, g4⟩ := cls_rep htr q q (Nat.le_refl _) hq
  constructor
  · intro h
    have hrs := fresh_inj h1 g1 h4 g4 (by rw [h3, g3, h])
    subst hrs
    rcases h2 with rfl | h2
    · rcases g2 with rfl | g2
      · exact .inl rfl
      · exact .inr (hsy _ _ hq hp g2)
    · rcases g2 with rfl | g2
      · exact .inr h2
      · exact .inr (htr _ _ _ hp h1 hq h2 (hsy _ _ hq h1 g2))
  · rintro (rfl | h)
    · rfl
    · have hrs : r = s := by
        have hers : r = s ∨ e r s = true := by
          rcases h2 with rfl | h2
          · rcases g2 with rfl | g2
            · exact .inr h
            · exact .inr (htr _ _ _ hp hq g1 h g2)
          · have h5 := htr _ _ _ h1 hp hq (hsy _ _ hp h1 h2) h
            rcases g2 with rfl | g2
            · exact .inr h5
            · exact .inr (htr _ _ _ h1 hq g1 h5 g2)
        rcases hers with h5 | h5
        · exact h5
        by_cases h6 : r < s
        · have := g4 r h6
          rw [hsy _ _ h1 g1 h5] at this
          simp at this
        by_cases h7 : s < r
        · have := h4 s h7
          rw [h5] at this
          simp at this
        omega
      rw [← h3, ← g3, hrs]
theorem accG_at {a : Aut} : ∀ {n r : Nat}, r < n → Fresh e r → (accG a e n).getD (grpS e r).2 false = a.acc.getD r false
  | 0, r, h, _ => absurd h (Nat.not_lt_zero r)
  | n + 1, r, h, hf => by
    have hl := accG_len (a := a) (e := e) n
    by_cases hr : r = n
    · subst hr
      unfold accG
      rw [find_none hf]
      simp only
      rw [List.getD_eq_getElem?_getD, List.getElem?_append_right (by omega), hl]
      simp
    · have ih := accG_at (a := a) (show r < n by omega) hf
      unfold accG
      split
      · exact ih
      · have h1 := grpS_new (e := e) (i := r) (find_none hf)
        have h2 := grpS_mono (e := e) (show r + 1 ≤ n by omega)
        rw [h1] at h2
        simp only at h2
        rw [List.getD_eq_getElem?_getD, List.getElem?_append_left (by omega), ← List.getD_eq_getElem?_getD]
        exact ih
end
section
variable {a : Aut} {R : Rl}
theorem eqv_iff {x y : Nat} : eqv R x y = true ↔ R x y = true ∧ R y x = true := by simp [eqv]
theorem eqv_sy {n : Nat} : ∀ x y, x < n → y < n → eqv R x y = true → eqv R y x = true := fun x y _ _ h => eqv_iff.2 (eqv_iff.1 h).symm
theorem eqv_tr (ha : a.Ok) (hR : Great a R) : ∀ x y z, x < a.acc.length → y < a.acc.length → z < a.acc.length → eqv R x y = true → eqv R y z = true → eqv R x z = true := fun x y z hx hy hz h k => by
  rw [eqv_iff] at *
  exact ⟨hR.trans ha hx hy hz h.1 k.1, hR.trans ha hz hy hx k.2 h.2⟩
theorem cls_R (ha : a.Ok) (hR : Great a R) {p q : Nat} (hp : p < a.acc.length) (hq : q < a.acc.length) (h : cls (eqv R) a.acc.length p = cls (eqv R) a.acc.length q) : R p q = true := by
  rcases (cls_same eqv_sy (eqv_tr ha hR) hp hq).1 h with rfl | h
  · exact hR.refl hp
  · exact (eqv_iff.1 h).1
theorem mrg_st {w : Nat → Int} {t p q : Nat} (h : StE a.edges w t p q) : StE (a.mergeE (eqv R)).edges w t (cls (eqv R) a.acc.length p) (cls (eqv R) a.acc.length q) := by
  obtain ⟨f, hf, h1, h2, h3⟩ := h
  exact ⟨_, ded_mem.2 (List.mem_map_of_mem hf), by simp only [Tr.ren, h1, gnm_cls], by simp only [Tr.ren, h2, gnm_cls], h3⟩
theorem mrg_st' (ha : a.Ok) {w : Nat → Int} {t x y : Nat} (h : StE (a.mergeE (eqv R)).edges w t x y) : ∃ p q, StE a.edges w t p q ∧ x = cls (eqv R) a.acc.length p ∧ y = cls (eqv R) a.acc.length q := by
  obtain ⟨f, hf, h1, h2, h3⟩ := h
  obtain ⟨g, hg, rfl⟩ := List.mem_map.1 (ded_mem.1 hf)
  obtain ⟨u, v, k1, k2, k3, k4⟩ := ha.tr hg
  simp only [Tr.ren, k1, k2, gnm_cls] at h1 h2
  exact ⟨u, v, ⟨g, hg, k1, k2, h3⟩, by omega, by omega⟩
theorem mrg_tru (ha : a.Ok) (hR : Great a R) {p : Nat} (hp : p < a.acc.length) : tru (a.mergeE (eqv R)).acc (cls (eqv R) a.acc.length p) ↔ tru a.acc p := by
  obtain ⟨r, h1, h2, h3, h4⟩ := cls_rep (eqv_tr ha hR) p p (Nat.le_refl _) hp
  have h5 := accG_at (a := a) h1 h4
  rw [← cls_new h1 h4, h3] at h5
  have e1 := cls_R ha hR hp h1 h3.symm
  have e2 := cls_R ha hR h1 hp h3
  show (accG a (eqv R) a.acc.length).getD _ false = true ↔ _
  rw [h5]
  exact ⟨fun h => hR.simu.1 r p h1 hp e2 h, fun h => hR.simu.1 p r hp h1 e1 h⟩
theorem mrg_ini (ha : a.Ok) {s : Nat} (h : (s : Int) ∈ a.init) : ((cls (eqv R) a.acc.length s : Nat) : Int) ∈ (a.mergeE (eqv R)).init := by
  refine memL_mem.2 ⟨_, rfl, cls_lt (ha.ini h), ?_⟩
  rw [List.any_eq_true]
  exact ⟨_, h, by rw [gnm_cls]; simp⟩
theorem mrg_ini' (ha : a.Ok) {x : Nat} (h : (x : Int) ∈ (a.mergeE (eqv R)).init) : ∃ s : Nat, (s : Int) ∈ a.init ∧ x = cls (eqv R) a.acc.length s := by
  obtain ⟨q, h1, h2, h3⟩ := memL_mem.1 h
  rw [List.any_eq_true] at h3
  obtain ⟨i, hi, h4⟩ := h3
  have h5 := incr_mem ha.i i hi
  obtain ⟨s, rfl⟩ : ∃ s : Nat, i = s := ⟨i.toNat, by omega⟩
  rw [gnm_cls, decide_eq_true_eq] at h4
  exact ⟨s, hi, by omega⟩
theorem mergeE_lang (ha : a.Ok) (hR : Great a R) {w : Nat → Int} (hw : Letters w) : (a.mergeE (eqv R)).Lang w ↔ a.Lang w := by
  constructor
  · rintro ⟨x, hx, h⟩
    obtain ⟨s, h1, rfl⟩ := mrg_ini' ha hx
    have hs := ha.ini h1
    refine ⟨s, h1, Run.sim (fun x p => p < a.acc.length ∧ ∃ y, y < a.acc.length ∧ x = cls (eqv R) a.acc.length y ∧ R y p = true) ?_ ?_ h ⟨hs, s, hs, rfl, hR.refl hs⟩⟩
    · rintro t x x' p ⟨g1, y, g2, rfl, g3⟩ g4 _
      obtain ⟨u, v, ⟨e, he, k1, k2, k3⟩, k4, rfl⟩ := mrg_st' ha g4
      obtain ⟨u', v', m1, m2, m3, m4⟩ := ha.tr he
      obtain rfl : u' = u := by omega
      obtain rfl : v' = v := by omega
      have h5 := hR.trans ha m3 g2 g1 (cls_R ha hR m3 g2 k4.symm) g3
      have h6 := hw t
      obtain ⟨n, hn⟩ : ∃ n : Nat, w t = n := ⟨(w t).toNat, by omega⟩
      rw [hn] at k3
      obtain ⟨f, hf, n1, n2, n3⟩ := hR.simu.2 _ p m3 g1 h5 n (by omega) e he k1 k3
      obtain ⟨c, d, o1, o2, o3, o4⟩ := ha.tr hf
      rw [k2, o2, Int.toNat_natCast, Int.toNat_natCast] at n3
      exact ⟨d, ⟨f, hf, n1, o2, by rw [hn]; exact n2⟩, o4, _, m4, rfl, n3⟩
    · rintro x p ⟨g1, y, g2, rfl, g3⟩ g4
      exact hR.simu.1 y p g2 g1 g3 ((mrg_tru ha hR g2).1 g4)
  · rintro ⟨s, hs, h⟩
    refine ⟨_, mrg_ini ha hs, Run.sim (fun p x => p < a.acc.length ∧ x = cls (eqv R) a.acc.length p) ?_ ?_ h ⟨ha.ini hs, rfl⟩⟩
    · rintro t p q x ⟨g1, rfl⟩ g2 _
      exact ⟨_, mrg_st g2, (ha.st g2).2, rfl⟩
    · rintro p x ⟨g1, rfl⟩ g2
      exact (mrg_tru ha hR g1).2 g2
end
theorem Great.ex {a : Aut} (ha : a.Ok) : ∃ R, Great a R := by
  refine ⟨fun i j => @decide (∃ S, Simu a S ∧ S i j = true) (Classical.propDecidable _), ⟨?_, ?_⟩, ?_⟩
  · intro i j hi hj h h1
    simp only [decide_eq_true_eq] at h
    obtain ⟨S, hS, h2⟩ := h
    exact hS.1 i j hi hj h2 h1
  · intro i j hi hj h
    simp only [decide_eq_true_eq] at h
    obtain ⟨S, hS, h2⟩ := h
    refine (hS.2 i j hi hj h2).mono ha fun x y _ _ hxy => ?_
    simp only [decide_eq_true_eq]
    exact ⟨S, hS, hxy⟩
  · intro S hS i j _ _ h
    simp only [decide_eq_true_eq]
    exact ⟨S, hS, h⟩
theorem mrg_lang {a : Aut} (ha : a.Ok) {w : Nat → Int} (hw : Letters w) : a.mrg.Lang w ↔ a.Lang w := by
  obtain ⟨R, hR⟩ := Great.ex ha
  rw [← Aut.mrg_eq hR]
  exact mergeE_lang ha hR hw
theorem rnd_lang {a : Aut} (ha : a.Ok) {w : Nat → Int} (hw : Letters w) : a.rnd.Lang w ↔ a.Lang w := (mrg_lang (Aut.trim_ok ha) hw).trans (trim_lang ha)
theorem SmpR.all {a r : Aut} (h : SmpR a r) : a.Ok → (∀ {w}, Letters w → (r.Lang w ↔ a.Lang w)) ∧ r.acc.length ≤ a.acc.length ∧ r.rnd = r := by
  induction h with
  | stop h => intro ha; exact ⟨fun _ => Iff.rfl, Nat.le_refl _, h⟩
  | more h _ ih =>
    intro ha
    obtain ⟨h1, h2, h3⟩ := ih (Aut.rnd_ok ha)
    have h4 := (Aut.mrg_len (Aut.trim_ok ha)).1
    have h5 := (Aut.trim_len ha).1
    exact ⟨fun hw => (h1 hw).trans (rnd_lang ha hw), Nat.le_trans h2 (Nat.le_trans h4 h5), h3⟩
section
variable {a b : Aut}
end
end Go.Proofs.Ytglnelcmcimljaa

namespace Go.Proofs.Ytglnelcmcimljaa
open Go
end Go.Proofs.Ytglnelcmcimljaa

namespace Go.Proofs.Ytglnelcmcimljaa
open Go
end Go.Proofs.Ytglnelcmcimljaa

namespace Go.Proofs.Ytglnelcmcimljaa
open Go
end Go.Proofs.Ytglnelcmcimljaa

namespace Go.Proofs.Ytglnelcmcimljaa
open Go Go.Shelf
end Go.Proofs.Ytglnelcmcimljaa

namespace Go.Proofs.Ytglnelcmcimljaa
open Go
theorem encI (l : List Int) : encL l = l.map (Value.int .i64) := by
  induction l with
  | nil => rfl
  | cons x l ih => rw [encL_cons, ih]; rfl
open Go.Sort in
theorem row_put {g g' : Heap} {Γ : List HP} {b off cap : Nat} {cells : List Value} {el : TypeId} {l d : List Int} {m n : Nat} {os : Array Obj} {w : World} (d1 : g' b = none) (H : HS g Γ g') (h1 : l.length ≤ cap ∧ l.length < 4611686018427387904) (h2 : off + cap ≤ cells.length)
    (hw : (g'.add (Heap.one b (.cells cells.toArray el (0, 0)))).sub w) (hd : d.length = l.length) (hm : m ≤ d.length) (hok : ∀ x ∈ d.take m, Flat.ok x) :
    ∃ h', HS g (ow (.slice (some ⟨b, off, none⟩) m cap) (d.take m) :: Γ) h' ∧ h'.sub (grow (putRow (Value.int .i64) (Sort.ahead w n) b off d.toArray) os) ∧ Frm (g'.add (Heap.one b (.cells cells.toArray el (0, 0)))) w h' (grow (putRow (Value.int .i64) (Sort.ahead w n) b off d.toArray) os) := by
  have hb : w.heap[b]? = some (.cells cells.toArray el (0, 0)) := hw b _ (by simp [Heap.add, Heap.one, d1])
  have hbs : b < w.heap.size := (Array.getElem?_eq_some_iff.1 hb).1
  have hold : ∀ x, x < w.heap.size → (grow (putRow (Value.int .i64) (Sort.ahead w n) b off d.toArray) os).heap[x]? = if x = b then some (.cells (putCells (Value.int .i64) off d.toArray cells.toArray) el (0, 0)) else w.heap[x]? := by
    intro x hx
    rw [heap_grow_old _ _ (by simpa [putRow, mapBlock, Sort.ahead] using hx)]
    simp only [putRow, mapBlock, Sort.ahead, Array.getElem?_modify]
    by_cases e : b = x
    · subst e; simp [hb, onCells]
    · simp [e, Ne.symm e]
  have hpt : (putCells (Value.int .i64) off d.toArray cells.toArray).toList.length = cells.length := by simp [putCells]
  refine ⟨g'.add (Heap.one b (.cells (putCells (Value.int .i64) off d.toArray cells.toArray).toList.toArray el (0, 0))), ⟨g', _, rfl, Dj_one.2 d1, ?_, H⟩, ?_, ?_⟩
  · have hlm : (d.take m).length = m := by simp; omega
    refine Own_list.2 (.inr ⟨b, off, cap, _, el, Heap.nil, by rw [hlm], ⟨by omega, by omega⟩, by rw [hpt]; show off + cap * 1 ≤ _; omega, by simp, rfl, ?_⟩)
    refine ownL_congr (ownL_enc hok) ?_
    rw [encI, hlm]
    show List.take (m * 1) _ = List.take (m * 1) _
    rw [List.take_of_length_le (l := List.map (Value.int .i64) (d.take m)) (by simp; omega)]
    apply List.ext_getElem?
    intro j
    by_cases hj : j < m
    · have hjd : j < d.length := by omega
      have hjc : off + j < cells.length := by omega
      have key : (putCells (Value.int .i64) off d.toArray cells.toArray).toList[off + j]? = some (.int .i64 d[j]) := by
        rw [Array.getElem?_toList, putCells, Array.getElem?_mapIdx]
        simp [hjc, hjd]
      rw [Nat.mul_one, List.getElem?_take_of_lt hj, List.getElem?_drop, key, List.getElem?_map, List.getElem?_take_of_lt hj, List.getElem?_eq_getElem hjd]
      rfl
    · have e1 : (List.map (Value.int .i64) (List.take m d))[j]? = none := List.getElem?_eq_none (by simp; omega)
      have e2 : (List.take (m * 1) (List.drop off (putCells (Value.int .i64) off d.toArray cells.toArray).toList))[j]? = none := List.getElem?_eq_none (by simp; omega)
      rw [e1, e2]
  · intro x o hx
    by_cases e : x = b
    · subst e
      rw [hold x hbs, if_pos rfl]
      simp only [Heap.add, Heap.one, d1, if_true] at hx
      simpa using hx
    · have hx2 : g' x = some o := by
        simp only [Heap.add, Heap.one, if_neg e] at hx
        cases hg : g' x with
        | none => rw [hg] at hx; simp at hx
        | some o' => rw [hg] at hx; simpa using hx
      have hwx : w.heap[x]? = some o := hw x o (by simp [Heap.add, Heap.one, e, hx2])
      have hxs : x < w.heap.size := (Array.getElem?_eq_some_iff.1 hwx).1
      rw [hold x hxs, if_neg e]; exact hwx
  · refine ⟨rfl, rfl, rfl, by simp [grow, putRow, mapBlock, Sort.ahead], fun x hx hn => ?_, fun x hx hn => ?_⟩
    · have e : x ≠ b := by
        intro e
        subst e
        simp [Heap.add, Heap.one, d1] at hn
      rw [hold x hx, if_neg e]
    · have e : x ≠ b := by
        intro e
        subst e
        simp [Heap.add, Heap.one, d1] at hn
      simp only [Heap.add, Heap.one, if_neg e] at hn ⊢
      exact hn
end Go.Proofs.Ytglnelcmcimljaa

namespace Go.Proofs.Ytglnelcmcimljaa
open Go
def zl (l : List Nat) : List Int := l.map fun (x : Nat) => (x : Int)
@[simp] theorem zl_len {l : List Nat} : (zl l).length = l.length := by simp [zl]
end Go.Proofs.Ytglnelcmcimljaa

namespace Go.Proofs.Ytglnelcmcimljaa
open Go
def H_spec_l10Sorted : Hint := ⟨[(0, false), (1, false), (4, false), (5, false), (6, false), (7, false)], [[2]]⟩
def K121_1 : C := .seq (.pl <| .e 6 1 <|
 .m 6 3 <|
 .m 2 6 .done) (.ret)
@[simp] def W121_1 := C.w K121_1.eq_1
def K121_2 : Pl := .m 3 9 .done
@[simp] def W121_2 := Pl.w K121_2.eq_1
def K121_3 : C := .pl <| .e 6 4 <|
 .m 6 3 <|
 .m 7 1 <|
 .o (.psl 8 [.int .i64 0] [(0, 1, .v 7)]) <|
 .c 9 (.app 8 1 [.int .i64 0] (.o (.v 6)) (.p 1 8)) K121_2
@[simp] def W121_3 := C.w K121_3.eq_1
def K121_4 : C := .cond 6 (.v 7) K121_3 (.skip)
@[simp] def W121_4 := C.w K121_4.eq_1
def K121_5 : C := .seq (.seq (.pl <| .e 6 2 <|
 .m 6 4 <|
 .x 7 (.un .not (.v 6)) .done) K121_4) K121_1
@[simp] def W121_5 := C.w K121_5.eq_1
def K121_6 : C := .pl <| .e 6 2 <|
 .m 6 5 <|
 .x 7 (.bin .add (.v 6) (.c (.int .i64 1))) <|
 .m 5 7 .done
@[simp] def W121_6 := C.w K121_6.eq_1
def K121_7 : Pl := .m 3 12 .done
@[simp] def W121_7 := Pl.w K121_7.eq_1
def K121_8 : C := .pl <| .e 6 7 <|
 .m 6 3 <|
 .m 7 0 <|
 .m 8 5 <|
 .x 9 (.ia 1 (.v 7) (.v 8)) <|
 .l 10 9 <|
 .o (.psl 11 [.int .i64 0] [(0, 1, .v 10)]) <|
 .c 12 (.app 8 1 [.int .i64 0] (.o (.v 6)) (.p 1 11)) K121_7
@[simp] def W121_8 := C.w K121_8.eq_1
def K121_9 : C := .pl <| .e 6 0 <|
 .x 4 (.mv (.c (.bool true))) .done
@[simp] def W121_9 := C.w K121_9.eq_1
def K121_10 : Pl := .m 3 9 .done
@[simp] def W121_10 := Pl.w K121_10.eq_1
def K121_11 : C := .seq (.pl <| .e 6 4 <|
 .m 6 3 <|
 .m 7 1 <|
 .o (.psl 8 [.int .i64 0] [(0, 1, .v 7)]) <|
 .c 9 (.app 8 1 [.int .i64 0] (.o (.v 6)) (.p 1 8)) K121_10) K121_9
@[simp] def W121_11 := C.w K121_11.eq_1
def K121_12 : C := .cond 6 (.v 15) K121_11 (.skip)
@[simp] def W121_12 := C.w K121_12.eq_1
def K121_13 : C := .seq (.seq (.pl <| .e 6 10 <|
 .m 6 0 <|
 .m 7 5 <|
 .x 8 (.ia 1 (.v 6) (.v 7)) <|
 .l 9 8 <|
 .m 10 1 <|
 .x 11 (.bin .gtr (.v 9) (.v 10)) <|
 .m 12 11 <|
 .y 12 (.px (some 13) (.mv (.v 4))) <|
 .y 12 (.px (some 14) (.un .not (.v 13))) <|
 .x 15 (.pick (.v 12) (.v 14) (.c (.bool false))) .done) K121_12) K121_8
@[simp] def W121_13 := C.w K121_13.eq_1
def K121_14 : C := .seq (.pl <| .e 6 1 <|
 .m 6 0 <|
 .m 2 6 .done) (.ret)
@[simp] def W121_14 := C.w K121_14.eq_1
def K121_15 : C := .cond 6 (.v 11) K121_14 (.skip)
@[simp] def W121_15 := C.w K121_15.eq_1
def K121_16 : C := .seq (.block 1 (.seq (.seq (.pl <| .e 6 6 <|
 .m 6 0 <|
 .m 7 5 <|
 .x 8 (.ia 1 (.v 6) (.v 7)) <|
 .l 9 8 <|
 .m 10 1 <|
 .x 11 (.bin .eql (.v 9) (.v 10)) .done) K121_15) K121_13)) K121_6
@[simp] def W121_16 := C.w K121_16.eq_1
def K121_17 : C := .cond 6 (.v 9) (.skip) (.exit 0)
@[simp] def W121_17 := C.w K121_17.eq_1
def K121_18 : C := .seq (.seq (.pl <| .e 6 4 <|
 .m 6 5 <|
 .m 7 0 <|
 .x 8 (.lenV (.v 7)) <|
 .x 9 (.bin .lss (.v 6) (.v 8)) .done) K121_17) K121_16
@[simp] def W121_18 := C.w K121_18.eq_1
def K121_19 : C := .block 0 (.loop 6 [2] K121_18)
@[simp] def W121_19 := C.w K121_19.eq_1
def K121_20 : C := .seq (.seq (.pl <| .e 6 0 <|
 .x 5 (.mv (.c (.int .i64 0))) .done) K121_19) K121_5
@[simp] def W121_20 := C.w K121_20.eq_1
def K121_21 : C := .seq (.pl <| .e 6 0 <|
 .x 4 (.mv (.c (.bool false))) .done) K121_20
@[simp] def W121_21 := C.w K121_21.eq_1
def K121_22 : Pl := .m 3 6 .done
@[simp] def W121_22 := Pl.w K121_22.eq_1
def K121_23 : C := .seq (.pl <| .e 6 1 <|
 .c 6 (.bls 1 0 [.int .i64 0] []) K121_22) K121_21
@[simp] def W121_23 := C.w K121_23.eq_1
def B_spec_l10Sorted : C := .seq (.pl <| .e 6 0 <|
 .x 2 (.mv (.c (.slice none 0 0))) .done) K121_23
@[simp] def WB_spec_l10Sorted := C.w B_spec_l10Sorted.eq_1
def R_spec_l10Sorted : FIR := ⟨B_spec_l10Sorted, 6, [(2, none)]⟩
theorem IR_spec_l10Sorted : cfun Try.prog H_spec_l10Sorted Try.f121 = some R_spec_l10Sorted := by kernel_rfl
theorem EN_spec_l10Sorted : ENT Try.prog B_spec_l10Sorted [(2, none)] 2 6 fn_spec_l10Sorted := fun hargs hw => enter Try.func121 rfl IR_spec_l10Sorted hargs hw
end Go.Proofs.Ytglnelcmcimljaa

namespace Go.Proofs.Ytglnelcmcimljaa
open Go
theorem c_l10Sorted {g h : Heap} {Γ : List HP} {v : Value} {l : List Int} {n y : Int} (H : HS g (ow v l :: Γ) h) (hl : incr n (-1) l) (hy : -1 < y ∧ y < n) (hn : n ≤ 1048576) : CallE Try.prog fn_spec_l10Sorted [v, .int .i64 y] h (fun u h' => ∃ l', HS g (ow u l' :: Γ) h' ∧ incr n (-1) l' ∧ ∀ x, x ∈ l' ↔ x ∈ l ∨ x = y) := by
  have hll := incr_len hl (by omega)
  have hp := (incr_iff.1 hl).1
  refine CallE.gen fun k hk => EN_spec_l10Sorted rfl ?_
  simp -implicitDefEqProofs (disch:=first|omega|(simp only[LnZ];omega))[wrap64]
  refine H.bls0 Int fun o h1 H => ?_
  simp -implicitDefEqProofs (disch:=first|omega|(simp only[LnZ];omega))[wrap64]
  refine wp_count l.length (fun i e h' => ∃ o dn, e = [some v, some (.int .i64 y), none, some o, some (.bool dn), some (.int .i64 i)] ∧ ∃ O : List Int, HS g (ow o O :: ow v l :: Γ) h' ∧ InsI l y i dn O) ⟨o, false, by simp, [], H, InsI.zero⟩ ?_
  clear H
  rintro J i _ h2 hJ hi ⟨o, dn, rfl, O, H, hI⟩
  have hol := hI.len
  simp -implicitDefEqProofs (disch:=first|omega|(simp only[LnZ];omega))[wrap64, H.sw1.rep.len]
  refine IteW.mk (fun hlt => ?_) (fun hge => ?_)
  · have hix : i < l.length := by omega
    have hxb := H.sw1.rep.okI hix
    by_cases h1 : l[i] = y
    · simp -implicitDefEqProofs (disch:=first|omega|(simp only[LnZ];omega))[wrap64, H.sw1.rep.I, h1]
      refine RetK.keep (hk _ _ ⟨l, H.drop, hl, fun x => ⟨.inl, fun hh => hh.elim id fun e => ?_⟩⟩)
      rw [e, ← h1]; exact List.getElem_mem hix
    by_cases h2 : y < l[i]
    · cases dn with
      | false =>
        simp -implicitDefEqProofs (disch:=first|omega|(simp only[LnZ];omega))[wrap64, H.sw1.rep.I, h1, h2]
        refine H.app1 y rfl rfl rfl ⟨by omega, by omega⟩ rfl rfl (by omega) (by omega) fun o1 h3 H => ?_
        simp -implicitDefEqProofs (disch:=first|omega|(simp only[LnZ];omega))[wrap64, H.sw1.rep.I]
        refine H.app1 l[i] rfl rfl rfl hxb rfl rfl (by simp; omega) (by simp; omega) fun o2 h4 H => ?_
        simp -implicitDefEqProofs (disch:=first|omega|(simp only[LnZ];omega))[wrap64]
        exact hJ _ _ hix ⟨o2, true, rfl, _, H, hI.big hp hix h2⟩
      | true =>
        simp -implicitDefEqProofs (disch:=first|omega|(simp only[LnZ];omega))[wrap64, H.sw1.rep.I, h1, h2]
        refine H.app1 l[i] rfl rfl rfl hxb rfl rfl (by omega) (by omega) fun o2 h4 H => ?_
        simp -implicitDefEqProofs (disch:=first|omega|(simp only[LnZ];omega))[wrap64]
        exact hJ _ _ hix ⟨o2, true, rfl, _, H, hI.more hix h1⟩
    · simp -implicitDefEqProofs (disch:=first|omega|(simp only[LnZ];omega))[wrap64, H.sw1.rep.I, h1, h2]
      refine H.app1 l[i] rfl rfl rfl hxb rfl rfl (by omega) (by omega) fun o2 h4 H => ?_
      simp -implicitDefEqProofs (disch:=first|omega|(simp only[LnZ];omega))[wrap64]
      refine hJ _ _ hix ⟨o2, dn, rfl, _, H, ?_⟩
      cases dn with
      | false => exact hI.small hix (by omega)
      | true => exact hI.more hix h1
  · obtain ⟨r1, r2⟩ := hI.result hl hy (by omega)
    cases dn with
    | false =>
      simp -implicitDefEqProofs (disch:=first|omega|(simp only[LnZ];omega))[wrap64]
      refine H.app1 y rfl rfl rfl ⟨by omega, by omega⟩ rfl rfl (by omega) (by omega) fun o1 h3 H => ?_
      simp -implicitDefEqProofs (disch:=first|omega|(simp only[LnZ];omega))[wrap64]
      exact RetK.keep (hk _ _ ⟨_, H.sw1.drop, r1, r2⟩)
    | true =>
      simp -implicitDefEqProofs (disch:=first|omega|(simp only[LnZ];omega))[wrap64]
      exact RetK.keep (hk _ _ ⟨_, H.sw1.drop, r1, r2⟩)
def R2 {α : Type} [Ty α] (b : Bool) (y : α) (h : Heap) (u : Value) (h' : Heap) : Prop := ∃ v, u = .tuple #[v, .bool b] ∧ HS h [ow v y] h'
end Go.Proofs.Ytglnelcmcimljaa

namespace Go.Proofs.Ytglnelcmcimljaa
open Go
end Go.Proofs.Ytglnelcmcimljaa

namespace Go.Proofs.Ytglnelcmcimljaa
open Go
end Go.Proofs.Ytglnelcmcimljaa

namespace Go.Proofs.Ytglnelcmcimljaa
open Go
end Go.Proofs.Ytglnelcmcimljaa

namespace Go.Proofs.Ytglnelcmcimljaa
open Go
def SimR (a : Aut) (M : List (List Bool)) : Prop := (¬ a.Ok ∧ M = []) ∨ (a.Ok ∧ M.length = a.acc.length ∧ (∀ r ∈ M, r.length = a.acc.length) ∧ Great a (matR M))
theorem SimR.fn {a : Aut} {M M' : List (List Bool)} (h : SimR a M) (h' : SimR a M') : M = M' := by
  rcases h with ⟨h1, rfl⟩ | ⟨h1, h2, h3, h4⟩
  · rcases h' with ⟨_, rfl⟩ | ⟨h5, _⟩
    · rfl
    · exact absurd h5 h1
  · rcases h' with ⟨h5, _⟩ | ⟨h5, h6, h7, h8⟩
    · exact absurd h1 h5
    refine List.ext_getElem (by omega) fun i hi hi' => ?_
    have g1 := h3 _ (List.getElem_mem hi)
    have g2 := h7 _ (List.getElem_mem hi')
    refine List.ext_getElem (by omega) fun j hj hj' => ?_
    rw [← matR_get hi hj, ← matR_get hi' hj']
    exact h4.eq h8 (by omega) (by omega)
theorem c_LiveStates {h : Heap} {v : Value} {a : Aut} (Ra : Rep h v a) (ha : a.Ok) : CallE Try.prog fn_impl_LiveStates [v] h (fun u h' => ∃ L : List Bool, HS h [ow u L] h' ∧ L.length = a.acc.length ∧ ∀ q, tru L q ↔ q < a.acc.length ∧ a.Live q) := by
  have FA := Ra.aAut
  refine CallE.gen fun k hk => EN_impl_LiveStates rfl ?_
  simp -implicitDefEqProofs (disch:=first|omega|(simp only[LnZ];omega))[wrap64, FA]
  refine (c_AutomatonValid Ra).go ?_
  rintro _ h1 ⟨l1, rfl⟩
  simp -implicitDefEqProofs (disch:=first|omega|(simp only[LnZ];omega))[wrap64, ha, FA]
  refine (c_live (Ra.le l1) ha).go ?_
  rintro u h2 ⟨L, H, h3, h4⟩
  simp -implicitDefEqProofs (disch:=first|omega|(simp only[LnZ];omega))[wrap64]
  exact RetK.keep (hk _ _ ⟨L, H.app (show HS h [] h1 from l1), h3, h4⟩)
end Go.Proofs.Ytglnelcmcimljaa

namespace Go.Proofs.Ytglnelcmcimljaa
open Go
namespace Bf
abbrev SP := List Int × List Int
def s1 (a : Int) (p : SP) (to : Int) : SP := if p.1.getD to.toNat 0 = -2 then (p.1.set to.toNat a, p.2 ++ [to]) else p
def sF (l : List Int) (a : Int) (p : SP) : SP := l.foldl (s1 a) p
def s0 (N : Nat) (S : List Int) : SP := (S.foldl (fun f s => f.set s.toNat (-1)) (List.replicate N (-2)), S)
def sN (next : List (List Int)) (S : List Int) : Nat → SP
  | 0 => s0 next.length S
  | n + 1 => if n < (sN next S n).2.length then sF (next.getD ((sN next S n).2.getD n 0).toNat []) ((sN next S n).2.getD n 0) (sN next S n) else sN next S n
theorem set_getD {l : List Int} {k j : Nat} {a : Int} (hk : k < l.length) : (l.set k a).getD j 0 = if k = j then a else l.getD j 0 := by
  rw [List.getD_eq_getElem?_getD, List.getElem?_set]
  split
  · rename_i e; subst e; simp [hk]
  · rw [List.getD_eq_getElem?_getD]
theorem set_count {l : List Int} : ∀ {k : Nat} (hk : k < l.length) {a b : Int}, l[k] = a → a ≠ b → (l.set k b).count a + 1 = l.count a := by
  induction l with
  | nil => intro k hk; exact absurd hk (Nat.not_lt_zero k)
  | cons x l ih =>
    intro k hk a b h1 h2
    cases k with
    | zero =>
      simp only [List.getElem_cons_zero] at h1
      subst h1
      simp only [List.set_cons_zero, List.count_cons_self]
      rw [List.count_cons_of_ne (Ne.symm h2)]
    | succ k =>
      simp only [List.getElem_cons_succ] at h1
      have := ih (k := k) (by simpa using hk) h1 h2
      simp only [List.set_cons_succ, List.count_cons]
      omega
structure Le (p p' : SP) : Prop where
  keep : ∀ j : Nat, p.1.getD j 0 ≠ -2 → p'.1.getD j 0 = p.1.getD j 0
  pre : ∃ t, p'.2 = p.2 ++ t
theorem Le.refl {p : SP} : Le p p := ⟨fun _ _ => rfl, ⟨[], by simp⟩⟩
theorem Le.trans {p q r : SP} (h : Le p q) (h' : Le q r) : Le p r := by
  refine ⟨fun j hj => ?_, ?_⟩
  · have e := h.keep j hj
    rw [h'.keep j (by rw [e]; exact hj), e]
  · obtain ⟨t, e⟩ := h.pre
    obtain ⟨t', e'⟩ := h'.pre
    exact ⟨t ++ t', by rw [e', e, List.append_assoc]⟩
theorem Le.len {p q : SP} (h : Le p q) : p.2.length ≤ q.2.length := by
  obtain ⟨t, e⟩ := h.pre
  rw [e]; simp
theorem Le.at {p q : SP} (h : Le p q) {i : Nat} (hi : i < p.2.length) : q.2.getD i 0 = p.2.getD i 0 := by
  obtain ⟨t, e⟩ := h.pre
  rw [e, List.getD_eq_getElem?_getD, List.getD_eq_getElem?_getD, List.getElem?_append_left hi]
structure SI (N : Nat) (S : List Int) (Ed : Int → Int → Prop) (p : SP) : Prop where
  fl : p.1.length = N
  pre : ∃ t, p.2 = S ++ t
  inq : ∀ x ∈ p.2, 0 ≤ x ∧ x < N ∧ p.1.getD x.toNat 0 ≠ -2
  vis : ∀ j : Nat, j < N → p.1.getD j 0 ≠ -2 → (j : Int) ∈ p.2
  st : ∀ s ∈ S, p.1.getD s.toNat 0 = -1
  val : ∀ j : Nat, j < N → p.1.getD j 0 = -2 ∨ p.1.getD j 0 = -1 ∨ 0 ≤ p.1.getD j 0 ∧ p.1.getD j 0 < N
  par : ∀ q : Nat, S.length ≤ q → q < p.2.length → ∃ r : Nat, r < q ∧ p.1.getD (p.2.getD q 0).toNat 0 = p.2.getD r 0 ∧ Ed (p.2.getD r 0) (p.2.getD q 0)
  cnt : p.2.length + p.1.count (-2) = N
section
variable {N : Nat} {S : List Int} {Ed : Int → Int → Prop} {p : SP}
theorem SI.le (h : SI N S Ed p) : p.2.length ≤ N := by have := h.cnt; omega
theorem SI.at (h : SI N S Ed p) {i : Nat} (hi : i < p.2.length) : 0 ≤ p.2.getD i 0 ∧ p.2.getD i 0 < N ∧ p.1.getD (p.2.getD i 0).toNat 0 ≠ -2 := by
  have e : p.2.getD i 0 = p.2[i] := by simp [hi]
  rw [e]
  exact h.inq _ (List.getElem_mem hi)
theorem SI.start {n : Nat} (hS : incr n (-1) S) : SI n S Ed (s0 n S) := by
  have key : ∀ (T : List Int), (∀ x ∈ T, 0 ≤ x ∧ x < (n : Int)) → T.Pairwise (· < ·) → ∀ f : List Int, f.length = n → (∀ x ∈ T, f.getD x.toNat 0 = -2) →
      (T.foldl (fun f s => f.set s.toNat (-1)) f).length = n ∧ (∀ j : Nat, (T.foldl (fun f s => f.set s.toNat (-1)) f).getD j 0 = if (j : Int) ∈ T then -1 else f.getD j 0) ∧ T.length + (T.foldl (fun f s => f.set s.toNat (-1)) f).count (-2) = f.count (-2) := by
    intro T
    induction T with
    | nil => intro _ _ f hf _; exact ⟨hf, fun j => by simp, by simp⟩
    | cons x T ih =>
      intro h1 h2 f hf h3
      obtain ⟨h4, h5⟩ := List.pairwise_cons.1 h2
      have hx := h1 x (by simp)
      obtain ⟨k, rfl⟩ : ∃ k : Nat, x = k := ⟨x.toNat, by omega⟩
      have hk : k < f.length := by omega
      have hfk := h3 k (by simp)
      rw [Int.toNat_natCast] at hfk
      have hge : f[k] = -2 := by rw [← hfk]; simp [hk]
      obtain ⟨g1, g2, g3⟩ := ih (fun y hy => h1 y (by simp [hy])) h5 (f.set k (-1)) (by simpa using hf) (fun y hy => by
        have := h4 y hy
        rw [set_getD hk, if_neg (by omega)]
        exact h3 y (by simp [hy]))
      have hc := set_count hk hge (b := (-1 : Int)) (by decide)
      refine ⟨g1, fun j => ?_, ?_⟩
      · show (T.foldl _ (f.set ((k : Int)).toNat (-1))).getD j 0 = _
        rw [Int.toNat_natCast, g2 j, set_getD hk]
        by_cases e1 : (j : Int) ∈ T
        · simp [e1]
        · by_cases e2 : k = j
          · subst e2; simp
          · rw [if_neg e1, if_neg e2, if_neg]
            intro hm
            rcases List.mem_cons.1 hm with hm | hm
            · omega
            · exact e1 hm
      · show (T.length + 1) + (T.foldl _ (f.set ((k : Int)).toNat (-1))).count (-2) = _
        rw [Int.toNat_natCast]
        omega
  have hb : ∀ x ∈ S, 0 ≤ x ∧ x < (n : Int) := fun x hx => by have := incr_mem hS x hx; omega
  have hp := (incr_iff.1 hS).1
  obtain ⟨g1, g2, g3⟩ := key S hb hp (List.replicate n (-2)) (by simp) (fun x hx => by
    have := hb x hx
    simp [show x.toNat < n by omega])
  have hrep : ∀ j, j < n → (List.replicate n (-2 : Int)).getD j 0 = -2 := fun j hj => by simp [hj]
  refine ⟨g1, ⟨[], by simp [s0]⟩, ?_, ?_, ?_, ?_, ?_, ?_⟩
  · intro x hx
    have h1 := hb x hx
    refine ⟨h1.1, h1.2, ?_⟩
    show (S.foldl (fun f s => f.set s.toNat (-1)) (List.replicate n (-2))).getD x.toNat 0 ≠ -2
    rw [g2, if_pos (by rw [Int.toNat_of_nonneg h1.1]; exact hx)]
    decide
  · intro j hj h1
    show (j : Int) ∈ S
    have h2 : (S.foldl (fun f s => f.set s.toNat (-1)) (List.replicate n (-2))).getD j 0 ≠ -2 := h1
    rw [g2] at h2
    by_cases e : (j : Int) ∈ S
    · exact e
    · rw [if_neg e, hrep j hj] at h2
      exact absurd rfl h2
  · intro s hs
    have h1 := hb s hs
    show (S.foldl (fun f s => f.set s.toNat (-1)) (List.replicate n (-2))).getD s.toNat 0 = -1
    rw [g2, if_pos (by rw [Int.toNat_of_nonneg h1.1]; exact hs)]
  · intro j hj
    show (S.foldl (fun f s => f.set s.toNat (-1)) (List.replicate n (-2))).getD j 0 = -2 ∨ (S.foldl (fun f s => f.set s.toNat (-1)) (List.replicate n (-2))).getD j 0 = -1 ∨ _
    rw [g2, hrep j hj]
    by_cases e : (j : Int) ∈ S
    · simp [e]
    · simp [e]
  · intro q h1 h2
    have h3 : q < S.length := h2
    omega
  · show S.length + (S.foldl (fun f s => f.set s.toNat (-1)) (List.replicate n (-2))).count (-2) = n
    rw [g3, List.count_replicate_self]
theorem SI.step (h : SI N S Ed p) {i : Nat} (hi : i < p.2.length) {to : Int} (h0 : 0 ≤ to) (h1 : to < N) (he : Ed (p.2.getD i 0) to) : SI N S Ed (s1 (p.2.getD i 0) p to) ∧ Le p (s1 (p.2.getD i 0) p to) ∧ (s1 (p.2.getD i 0) p to).1.getD to.toNat 0 ≠ -2 := by
  obtain ⟨a, ha⟩ : ∃ a, a = p.2.getD i 0 := ⟨_, rfl⟩
  have hat := h.at hi
  rw [← ha] at hat he ⊢
  unfold s1
  split
  case isFalse e => exact ⟨h, Le.refl, e⟩
  rename_i e
  obtain ⟨k, rfl⟩ : ∃ k : Nat, to = k := ⟨to.toNat, (Int.toNat_of_nonneg h0).symm⟩
  simp only [Int.toNat_natCast] at e ⊢
  have hkN : k < p.1.length := by rw [h.fl]; omega
  have hkq : (k : Int) ∉ p.2 := fun hm => by
    have := (h.inq _ hm).2.2
    rw [Int.toNat_natCast] at this
    exact this e
  have hge : p.1[k] = -2 := by rw [← e]; simp [hkN]
  obtain ⟨tp, hpre⟩ := h.pre
  refine ⟨⟨by simp [h.fl], ⟨tp ++ [(k : Int)], by rw [hpre, List.append_assoc]⟩, ?_, ?_, ?_, ?_, ?_, ?_⟩, ⟨fun j hj => ?_, ⟨_, rfl⟩⟩, ?_⟩
  · intro x hx
    simp only [List.mem_append, List.mem_singleton] at hx
    simp only [set_getD hkN]
    rcases hx with hx | rfl
    · have := h.inq x hx
      refine ⟨this.1, this.2.1, ?_⟩
      split
      · omega
      · exact this.2.2
    · refine ⟨by omega, by omega, ?_⟩
      simp; omega
  · intro j hj h2
    simp only [set_getD hkN] at h2
    simp only [List.mem_append, List.mem_singleton]
    split at h2
    · rename_i e2; right; omega
    · exact .inl (h.vis j hj h2)
  · intro s hs
    simp only [set_getD hkN]
    rw [if_neg]
    · exact h.st s hs
    · intro e2
      refine hkq ?_
      rw [hpre]
      have := (h.inq s (by rw [hpre]; simp [hs])).1
      have e3 : (k : Int) = s := by omega
      rw [e3]; simp [hs]
  · intro j hj
    simp only [set_getD hkN]
    split
    · right; right; omega
    · exact h.val j hj
  · intro q h2 h3
    simp only [List.length_append, List.length_singleton] at h3
    by_cases hq : q < p.2.length
    · obtain ⟨r, hr, e2, e5⟩ := h.par q h2 hq
      have e3 : (p.2 ++ [(k : Int)]).getD q 0 = p.2.getD q 0 := by rw [List.getD_eq_getElem?_getD, List.getElem?_append_left hq, List.getD_eq_getElem?_getD]
      have e4 : (p.2 ++ [(k : Int)]).getD r 0 = p.2.getD r 0 := by rw [List.getD_eq_getElem?_getD, List.getElem?_append_left (by omega), List.getD_eq_getElem?_getD]
      refine ⟨r, hr, ?_⟩
      simp only [e3, e4, set_getD hkN]
      have := h.at hq
      rw [if_neg (fun e5 => hkq (by
        have e6 : p.2.getD q 0 = p.2[q] := by simp [hq]
        have e7 : (k : Int) = p.2[q] := by rw [← e6]; omega
        rw [e7]; exact List.getElem_mem hq))]
      exact ⟨e2, e5⟩
    · have hq2 : q = p.2.length := by omega
      subst hq2
      refine ⟨i, hi, ?_⟩
      have e3 : (p.2 ++ [(k : Int)]).getD p.2.length 0 = k := by simp
      have e4 : (p.2 ++ [(k : Int)]).getD i 0 = a := by rw [List.getD_eq_getElem?_getD, List.getElem?_append_left hi, ← List.getD_eq_getElem?_getD, ha]
      simp only [e3, e4, set_getD hkN, Int.toNat_natCast, if_pos]
      exact ⟨trivial, he⟩
  · have h2 := h.cnt
    have h3 := set_count hkN hge (b := a) (by omega)
    simp only [List.length_append, List.length_singleton]
    omega
  · simp only [set_getD hkN]
    rw [if_neg]
    rintro rfl
    exact hj e
  · simp only [set_getD hkN, if_pos]
    omega
end
structure NOk (next : List (List Int)) : Prop where
  ent : ∀ l ∈ next, ∀ x ∈ l, 0 ≤ x ∧ x < next.length
def Ed (next : List (List Int)) (x y : Int) : Prop := 0 ≤ x ∧ x < next.length ∧ y ∈ next.getD x.toNat []
section
variable {next : List (List Int)} {S : List Int}
theorem row_mem {k : Nat} (hk : k < next.length) : next.getD k [] ∈ next := by
  rw [List.getD_eq_getElem?_getD, List.getElem?_eq_getElem hk]
  exact List.getElem_mem hk
theorem NOk.row (hn : NOk next) {p : SP} (h : SI next.length S (Ed next) p) {i : Nat} (hi : i < p.2.length) : ∀ x ∈ next.getD (p.2.getD i 0).toNat [], 0 ≤ x ∧ x < next.length ∧ Ed next (p.2.getD i 0) x := by
  intro x hx
  have hat := h.at hi
  have h1 := hn.ent _ (row_mem (k := (p.2.getD i 0).toNat) (by omega)) x hx
  exact ⟨h1.1, h1.2, hat.1, hat.2.1, hx⟩
def fin (next : List (List Int)) (S : List Int) : SP := sN next S next.length
end
inductive Chn (f : List Int) : Int → List Int → Prop where
  | z : Chn f (-1) []
  | s {a : Int} {l : List Int} : 0 ≤ a → a < f.length → Chn f (f.getD a.toNat 0) l → Chn f a (l ++ [a])
theorem Chn.neg {f : List Int} {l : List Int} (h : Chn f (-1) l) : l = [] := by
  generalize hx : (-1 : Int) = x at h
  cases h with
  | z => rfl
  | s h0 _ _ => omega
theorem Chn.un {f : List Int} {a : Int} {l : List Int} (h : Chn f a l) (h0 : 0 ≤ a) : ∃ l', l = l' ++ [a] ∧ a < f.length ∧ Chn f (f.getD a.toNat 0) l' := by
  cases h with
  | z => omega
  | s h1 h2 h3 => exact ⟨_, rfl, h2, h3⟩
theorem Chn.ge {f : List Int} {a : Int} {l : List Int} (h : Chn f a l) : -1 ≤ a := by
  cases h with
  | z => decide
  | s h1 _ _ => omega
theorem Chn.le {p p' : SP} (hb : Le p p') (hl : p.1.length = p'.1.length) {a : Int} {l : List Int} (h : Chn p.1 a l) : Chn p'.1 a l := by
  induction h with
  | z => exact .z
  | s h1 h2 h3 ih =>
    refine .s h1 (by omega) ?_
    have := h3.ge
    rw [hb.keep _ (by omega)]
    exact ih
theorem Chn.all {f : List Int} {a : Int} {l : List Int} (h : Chn f a l) : ∀ x ∈ l, 0 ≤ x ∧ x < f.length := by
  induction h with
  | z => simp
  | s h1 h2 h3 ih =>
    intro x hx
    simp only [List.mem_append, List.mem_singleton] at hx
    rcases hx with hx | rfl
    · exact ih x hx
    · exact ⟨h1, h2⟩
inductive Pth (S : List Int) (Ed : Int → Int → Prop) : Int → List Int → Prop
  | one {s : Int} (h : s ∈ S) : Pth S Ed s [s]
  | snoc {x y : Int} {l : List Int} (h : Pth S Ed x l) (e : Ed x y) : Pth S Ed y (l ++ [y])
noncomputable def path (next : List (List Int)) (S : List Int) (a : Int) : List Int := open Classical in if h : ∃ l, Chn (fin next S).1 a l then h.choose else []
end Bf
end Go.Proofs.Ytglnelcmcimljaa

namespace Go.Proofs.Ytglnelcmcimljaa
open Go
section
variable {l : Las}
end
inductive LP (E : List Tr) : Nat → List Int → Nat → Prop
  | nil (p : Nat) : LP E p [] p
  | cons {p q r : Nat} {x : Int} {xs : List Int} (h : ∃ e ∈ E, e.frm = p ∧ e.to = q ∧ e.on x = true) (k : LP E q xs r) : LP E p (x :: xs) r
section
variable {E : List Tr}
theorem LP.append {p q r : Nat} {xs ys : List Int} (h : LP E p xs q) (k : LP E q ys r) : LP E p (xs ++ ys) r := by
  induction h with
  | nil => exact k
  | cons h _ ih => exact .cons h (ih k)
theorem LP.fr {w : Nat → Int} {p q : Nat} {xs : List Int} (h : LP E p xs q) : ∀ {t : Nat}, (∀ i (hi : i < xs.length), w (t + i) = xs[i]) → FR E w t p (t + xs.length) q := by
  induction h with
  | nil => intro t _; exact .refl _ _
  | cons h k ih =>
    rename_i x xs
    intro t hw
    have h1 := ih (t := t + 1) (fun i hi => by
      have := hw (i + 1) (by simpa using hi)
      rw [show t + (i + 1) = t + 1 + i by omega] at this
      simpa using this)
    obtain ⟨e, he, h2, h3, h4⟩ := h
    have h5 := hw 0 (by simp)
    simp only [Nat.add_zero, List.getElem_cons_zero] at h5
    rw [List.length_cons, show t + (xs.length + 1) = t + 1 + xs.length by omega]
    exact .step ⟨e, he, h2, h3, by rw [h5]; exact h4⟩ h1
end
namespace Bf
def row (a : Aut) (q : Int) (k : Nat) : List Int := ((a.edges.take k).filter fun e => decide (e.frm = q)).map Tr.to
def NX (a : Aut) (k : Nat) : List (List Int) := (List.range a.acc.length).map fun (q : Nat) => row a q k
def nx (a : Aut) : List (List Int) := NX a a.edges.length
section
variable {a : Aut}
end
def ev (a : Aut) (p q : Int) : Int := match a.edges.find? (fun e => decide (e.frm = p ∧ e.to = q)) with
  | some e => e.value
  | none => 0
def vals (a : Aut) : List Int → List Int
  | p :: q :: l => ev a p q :: vals a (q :: l)
  | _ => []
end Bf
end Go.Proofs.Ytglnelcmcimljaa

namespace Go.Proofs.Ytglnelcmcimljaa
open Go
namespace Bf
end Bf
end Go.Proofs.Ytglnelcmcimljaa

namespace Go.Proofs.Ytglnelcmcimljaa
open Go
namespace Bf
section
variable {S : List Int} {D : Int → Int → Prop}
theorem Pth.last {x : Int} {l : List Int} (h : Pth S D x l) : ∃ l0, l = l0 ++ [x] := by
  cases h with
  | one h => exact ⟨[], rfl⟩
  | snoc h e => exact ⟨_, rfl⟩
theorem Pth.head {x : Int} {l : List Int} (h : Pth S D x l) : ∃ s ∈ S, ∃ t, l = s :: t := by
  induction h with
  | one h => exact ⟨_, h, [], rfl⟩
  | snoc h e ih =>
    obtain ⟨s, hs, t, rfl⟩ := ih
    exact ⟨s, hs, t ++ [_], rfl⟩
def Joined (D : Int → Int → Prop) : List Int → Prop
  | x :: y :: l => D x y ∧ Joined D (y :: l)
  | _ => True
theorem Joined.snoc {x y : Int} : ∀ {l : List Int}, Joined D (l ++ [x]) → D x y → Joined D (l ++ [x] ++ [y])
  | [], _, h => ⟨h, trivial⟩
  | [z], h, h' => ⟨h.1, h', trivial⟩
  | z :: z2 :: l, h, h' => ⟨h.1, Joined.snoc (l := z2 :: l) h.2 h'⟩
theorem Pth.joined {x : Int} {l : List Int} (h : Pth S D x l) : Joined D l := by
  induction h with
  | one h => trivial
  | snoc h e ih =>
    obtain ⟨l0, rfl⟩ := h.last
    exact ih.snoc e
theorem Joined.at {D : Int → Int → Prop} : ∀ {l : List Int}, Joined D l → ∀ (i : Nat) (hi : i + 1 < l.length), D l[i] l[i + 1]
  | [], _, i, hi => absurd hi (by simp)
  | [x], _, i, hi => absurd hi (by simp)
  | x :: y :: l, h, 0, _ => h.1
  | x :: y :: l, h, i + 1, hi => Joined.at (l := y :: l) h.2 i (by simpa using hi)
end
noncomputable def hitL (G : List (List Int)) (S : List Int) (g : Int → Bool) : List Int := match (fin G S).2.find? g with
  | some t => path G S t
  | none => []
def back (G : List (List Int)) (t : Int) : Int → Bool := fun m => decide (m ≠ t) && decide (t ∈ G.getD m.toNat [])
noncomputable def arn (G : List (List Int)) (t : Int) : List Int := if t ∈ G.getD t.toNat [] then [t] else hitL G [t] (back G t)
theorem Rch.last {E : Nat → Nat → Prop} {x y z : Nat} (h : E x y) (k : Rch E y z) : ∃ m, Rch E x m ∧ E m z := by
  induction k generalizing x with
  | refl => exact ⟨x, .refl _, h⟩
  | step e _ ih =>
    obtain ⟨m, h1, h2⟩ := ih e
    exact ⟨m, .step h h1, h2⟩
noncomputable def gA (a : Aut) : Int → Bool := fun t => a.acc.getD t.toNat false && @decide (Cyc a.E t.toNat) (Classical.propDecidable _)
noncomputable def fw (a : Aut) : Option Las := match (fin (nx a) a.init).2.find? (gA a) with
  | some t => some ⟨vals a (path (nx a) a.init t), vals a (arn (nx a) t ++ [t])⟩
  | none => none
section
variable {a : Aut}
end
end Bf
end Go.Proofs.Ytglnelcmcimljaa

namespace Go.Proofs.Ytglnelcmcimljaa
open Go
end Go.Proofs.Ytglnelcmcimljaa

namespace Go.Proofs.Ytglnelcmcimljaa
open Go
end Go.Proofs.Ytglnelcmcimljaa

namespace Go.Proofs.Ytglnelcmcimljaa
open Go
end Go.Proofs.Ytglnelcmcimljaa

namespace Go.Proofs.Ytglnelcmcimljaa
open Go
theorem c_l6Letters {h : Heap} {w : Value} {W : List Int} (Rw : Rep h w W) : CallE Try.prog fn_spec_l6Letters [w] h (fun u h' => h' = h ∧ u = .bool (decide (∀ x ∈ W, 0 ≤ x ∧ x ≤ 7))) := by
  have hL := Rw.lt
  refine CallE.gen fun k hk => EN_spec_l6Letters rfl ?_
  simp -implicitDefEqProofs (disch:=first|omega|(simp only[LnZ];omega))[wrap64]
  refine wp_count W.length (fun i e h' => e = [some w, none, some (.int .i64 i)] ∧ h' = h ∧ ∀ (j : Nat) (hj : j < W.length), j < i → 0 ≤ W[j] ∧ W[j] ≤ 7) ⟨rfl, rfl, fun j _ hj => absurd hj (Nat.not_lt_zero j)⟩ ?_
  rintro J i _ h1 hJ hi ⟨rfl, rfl, hn⟩
  simp -implicitDefEqProofs (disch:=first|omega|(simp only[LnZ];omega))[wrap64, Rw.len]
  refine IteW.mk (fun hlt => ?_) (fun hge => ?_)
  · have hlx : i < W.length := by omega
    have hno : ¬ (0 ≤ W[i] ∧ W[i] ≤ 7) → k (.bool false) h1 := fun hx => hk _ _ ⟨rfl, by congr 1; rw [eq_comm, decide_eq_false_iff_not]; exact fun hh => hx (hh _ (List.getElem_mem hlx))⟩
    by_cases h1 : W[i] < 0
    · simp -implicitDefEqProofs (disch:=first|omega|(simp only[LnZ];omega))[wrap64, Rw.I, h1]
      exact RetK.keep (hno (by omega))
    by_cases h2 : 7 < W[i]
    · simp -implicitDefEqProofs (disch:=first|omega|(simp only[LnZ];omega))[wrap64, Rw.I, h1, h2]
      exact RetK.keep (hno (by omega))
    simp -implicitDefEqProofs (disch:=first|omega|(simp only[LnZ];omega))[wrap64, Rw.I, h1, h2]
    refine hJ _ _ hlx ⟨rfl, rfl, fun j hj hji => ?_⟩
    by_cases hji2 : j = i
    · subst hji2; omega
    · exact hn j hj (by omega)
  · simp -implicitDefEqProofs (disch:=first|omega|(simp only[LnZ];omega))[wrap64]
    refine RetK.keep (hk _ _ ⟨rfl, ?_⟩)
    congr 1
    rw [eq_comm, decide_eq_true_iff]
    intro x hx
    obtain ⟨j, hj, rfl⟩ := List.mem_iff_getElem.1 hx
    exact hn j hj (by omega)
theorem c_l12Word {h : Heap} {w : Value} {W : List Int} (Rw : Rep h w W) : CallE Try.prog fn_spec_l12Word [w] h (fun u h' => h' = h ∧ u = .bool (decide (Wok W))) := by
  have hL := Rw.lt
  refine CallE.gen fun k hk => EN_spec_l12Word rfl ?_
  simp -implicitDefEqProofs (disch:=first|omega|(simp only[LnZ];omega))[wrap64]
  refine (c_l6Letters Rw).go ?_
  rintro _ _ ⟨rfl, rfl⟩
  by_cases h1 : ∀ x ∈ W, 0 ≤ x ∧ x ≤ 7
  · rw [decide_eq_true h1]
    simp -implicitDefEqProofs (disch:=first|omega|(simp only[LnZ];omega))[wrap64, Rw.len]
    refine RetK.keep (hk _ _ ⟨rfl, ?_⟩)
    congr 1
    rw [Bool.eq_iff_iff, decide_eq_true_iff, decide_eq_true_iff]
    exact ⟨fun h => ⟨by omega, h1⟩, fun h => by have := h.1; omega⟩
  · rw [decide_eq_false h1]
    simp -implicitDefEqProofs (disch:=first|omega|(simp only[LnZ];omega))[wrap64]
    refine RetK.keep (hk _ _ ⟨rfl, ?_⟩)
    congr 1
    rw [eq_comm, decide_eq_false_iff_not]
    exact fun hh => h1 hh.2
theorem c_l12Only {h : Heap} {s l : Value} {S : List Int} {L : List Bool} (Rs : Rep h s S) (Rl : Rep h l L) (hS : ∀ x ∈ S, 0 ≤ x ∧ x < L.length) (hSl : S.length ≤ 1048576) : CallE Try.prog fn_spec_l12Only [s, l] h (fun u h' => HS h [ow u (S.filter fun x => L.getD x.toNat false)] h') := by
  have hll := Rl.lt
  refine CallE.gen fun k hk => EN_spec_l12Only rfl ?_
  simp -implicitDefEqProofs (disch:=first|omega|(simp only[LnZ];omega))[wrap64]
  refine HS.init.bls0 Int fun o h1 H => ?_
  simp -implicitDefEqProofs (disch:=first|omega|(simp only[LnZ];omega))[wrap64]
  refine wp_count S.length (fun i e h' => ∃ o, e = [some s, some l, none, some o, some (.int .i64 i)] ∧ HS h [ow o ((S.take i).filter fun x => L.getD x.toNat false)] h') ⟨o, by simp, by simpa using H⟩ ?_
  clear H
  rintro J i _ h2 hJ hi ⟨o, rfl, H⟩
  have hfl := List.length_filter_le (fun x : Int => L.getD x.toNat false) (S.take i)
  simp only [List.length_take] at hfl
  simp -implicitDefEqProofs (disch:=first|omega|(simp only[LnZ];omega))[wrap64, (Rs.on H).len]
  refine IteW.mk (fun hlt => ?_) (fun hge => ?_)
  · have hix : i < S.length := by omega
    have hx := hS _ (List.getElem_mem hix)
    obtain ⟨q, hq⟩ : ∃ q : Nat, S[i] = q := ⟨S[i].toNat, by omega⟩
    have hqn : q < L.length := by omega
    have hgd : L.getD q false = L[q] := by simp [hqn]
    have hfm : (S.take (i + 1)).filter (fun x => L.getD x.toNat false) = (S.take i).filter (fun x => L.getD x.toNat false) ++ if L[q] then [(q : Int)] else [] := by
      rw [List.take_add_one, List.getElem?_eq_getElem hix, List.filter_append]
      congr 1
      simp only [Option.toList_some, List.filter_cons, List.filter_nil, hq, Int.toNat_natCast, hgd]
    cases hb : L[q] with
    | true =>
      simp -implicitDefEqProofs (disch:=first|omega|(simp only[LnZ];omega))[wrap64, (Rs.on H).I, hq, (Rl.on H).B, hb]
      refine H.app1 (q : Int) rfl rfl rfl ⟨by omega, by omega⟩ rfl rfl (by omega) (by omega) fun o' h3 H => ?_
      simp -implicitDefEqProofs (disch:=first|omega|(simp only[LnZ];omega))[wrap64]
      refine hJ _ _ hix ⟨o', rfl, ?_⟩
      rw [hfm, hb]; exact H
    | false =>
      simp -implicitDefEqProofs (disch:=first|omega|(simp only[LnZ];omega))[wrap64, (Rs.on H).I, hq, (Rl.on H).B, hb]
      refine hJ _ _ hix ⟨o, rfl, ?_⟩
      rw [hfm, hb]; simpa using H
  simp -implicitDefEqProofs (disch:=first|omega|(simp only[LnZ];omega))[wrap64]
  rw [List.take_of_length_le (by omega)] at H
  exact RetK.keep (hk _ _ H)
theorem c_l12Step {h : Heap} {v s : Value} {a : Aut} {S : List Int} {letter : Int} (Ra : Rep h v a) (Rs : Rep h s S) (ha : a.Ok) : CallE Try.prog fn_spec_l12Step [v, s, .int .i64 letter] h (fun u h' => ∃ T, HS h [ow u T] h' ∧ incr a.acc.length (-1) T ∧ ∀ x, x ∈ T ↔ ∃ e ∈ a.edges, e.frm ∈ S ∧ e.on letter = true ∧ e.to = x) := by
  obtain ⟨v1, v2, v3, rfl, R1, R2, R3⟩ := Rep_Aut.1 Ra
  have hn := ha.n
  have he := ha.e
  refine CallE.gen fun k hk => EN_spec_l12Step rfl ?_
  simp -implicitDefEqProofs (disch:=first|omega|(simp only[LnZ];omega))[wrap64]
  refine HS.init.bls0 Int fun o h1 H => ?_
  simp -implicitDefEqProofs (disch:=first|omega|(simp only[LnZ];omega))[wrap64]
  refine wp_count a.edges.length (fun i e h' => ∃ o, e = [none, some s, some (.int .i64 letter), some (.agg #[v1, v2, v3]), none, some o, some (.int .i64 i)] ∧ ∃ T : List Int, HS h [ow o T] h' ∧ incr a.acc.length (-1) T ∧ ∀ x, x ∈ T ↔ ∃ e ∈ a.edges.take i, e.frm ∈ S ∧ e.on letter = true ∧ e.to = x) ⟨o, by simp, [], H, trivial, by simp⟩ ?_
  clear H
  rintro J i _ h2 hJ hi ⟨o, rfl, T, H, hT, hTm⟩
  simp -implicitDefEqProofs (disch:=first|omega|(simp only[LnZ];omega))[wrap64, (R3.on H).len]
  refine IteW.mk (fun hlt => ?_) (fun hge => ?_)
  · have hix : i < a.edges.length := by omega
    have hx := ha.t hix
    have hv := R3.okTr hix
    unfold Tr.Ok at hx
    have hstep : ∀ T' : List Int, (∀ x, x ∈ T' ↔ x ∈ T ∨ (a.edges[i].frm ∈ S ∧ a.edges[i].on letter = true ∧ a.edges[i].to = x)) → ∀ x, x ∈ T' ↔ ∃ e ∈ a.edges.take (i + 1), e.frm ∈ S ∧ e.on letter = true ∧ e.to = x := by
      intro T' hT' x
      rw [hT', hTm]
      constructor
      · rintro (⟨e, h1, h2⟩ | h1)
        · exact ⟨e, (take_mem_succ hix).2 (.inl h1), h2⟩
        · exact ⟨_, (take_mem_succ hix).2 (.inr rfl), h1⟩
      · rintro ⟨e, h1, h2⟩
        rcases (take_mem_succ hix).1 h1 with h1 | rfl
        · exact .inl ⟨e, h1, h2⟩
        · exact .inr h2
    simp -implicitDefEqProofs (disch:=first|omega|(simp only[LnZ];omega))[wrap64, (R3.on H).xTr, (R3.on H).fTr, Tr.v]
    refine (c_l4In (Rs.on H)).go ?_
    rintro _ _ ⟨rfl, rfl⟩
    by_cases h1 : a.edges[i].frm ∈ S
    case neg =>
      simp -implicitDefEqProofs (disch:=first|omega|(simp only[LnZ];omega))[wrap64, h1]
      exact hJ _ _ hix ⟨o, by simp, T, H, hT, hstep T fun x => ⟨.inl, fun hh => hh.elim id fun hh => absurd hh.1 h1⟩⟩
    simp -implicitDefEqProofs (disch:=first|omega|(simp only[LnZ];omega))[wrap64, h1, (R3.on H).xTr, Tr.v]
    refine (c_l7On (t := a.edges[i]) (Rep_Tr.2 ⟨by simp [Tr.v], hv⟩)).go ?_
    rintro _ _ ⟨rfl, rfl⟩
    by_cases h3 : a.edges[i].on letter = true
    case neg =>
      simp -implicitDefEqProofs (disch:=first|omega|(simp only[LnZ];omega))[wrap64, h3]
      exact hJ _ _ hix ⟨o, by simp, T, H, hT, hstep T fun x => ⟨.inl, fun hh => hh.elim id fun hh => absurd hh.2.1 h3⟩⟩
    simp -implicitDefEqProofs (disch:=first|omega|(simp only[LnZ];omega))[wrap64, h3, (R3.on H).xTr, (R3.on H).fTr, Tr.v]
    refine (c_l10Sorted H hT (by omega) (by omega)).go ?_
    rintro o' h4 ⟨T', H, hT', hTm'⟩
    simp -implicitDefEqProofs (disch:=first|omega|(simp only[LnZ];omega))[wrap64]
    refine hJ _ _ hix ⟨o', by simp, T', H, hT', hstep T' fun x => ?_⟩
    rw [hTm']
    constructor
    · rintro (h5 | h5)
      · exact .inl h5
      · exact .inr ⟨h1, h3, h5.symm⟩
    · rintro (h5 | h5)
      · exact .inl h5
      · exact .inr h5.2.2.symm
  simp -implicitDefEqProofs (disch:=first|omega|(simp only[LnZ];omega))[wrap64]
  rw [List.take_of_length_le (by omega)] at hTm
  exact RetK.keep (hk _ _ ⟨T, H, hT, hTm⟩)
theorem c_l12States {h : Heap} {v w : Value} {a : Aut} {W : List Int} (Ra : Rep h v a) (Rw : Rep h w W) (ha : a.Ok) : CallE Try.prog fn_spec_l12States [v, w] h (fun u h' => HS h [ow u (a.states W)] h') := by
  obtain ⟨v1, v2, v3, rfl, R1, R2, R3⟩ := Rep_Aut.1 Ra
  have hn := ha.n
  have hil := ha.il
  have hwl := Rw.lt
  have hfil : ∀ {L : List Bool} {S : List Int}, L.length = a.acc.length → (∀ q, tru L q ↔ q < a.acc.length ∧ a.Live q) → incr a.acc.length (-1) S → incr a.acc.length (-1) (S.filter fun x => L.getD x.toNat false) ∧ ∀ q : Nat, (q : Int) ∈ (S.filter fun x => L.getD x.toNat false) ↔ (q : Int) ∈ S ∧ a.Live q := by
    intro L S hLl hL hS
    refine ⟨incr_filter hS, fun q => ?_⟩
    rw [List.mem_filter]
    have := hL q
    simp only [tru] at this
    simp only [Int.toNat_natCast]
    rw [this]
    constructor
    · rintro ⟨h1, h2⟩; exact ⟨h1, h2.2⟩
    · rintro ⟨h1, h2⟩
      have := incr_mem hS _ h1
      exact ⟨h1, by omega, h2⟩
  refine CallE.gen fun k hk => EN_spec_l12States rfl ?_
  simp -implicitDefEqProofs (disch:=first|omega|(simp only[LnZ];omega))[wrap64]
  refine (c_spec_LiveStates Ra ha).go ?_
  rintro l h1 ⟨L, H, hLl, hL⟩
  simp -implicitDefEqProofs (disch:=first|omega|(simp only[LnZ];omega))[wrap64]
  refine (c_l12Only (R1.on H) H.rep (fun x hx => by have := incr_mem ha.i x hx; omega) (by omega)).go ?_
  intro s h2 H2
  have H := H2.app H
  obtain ⟨f1, f2⟩ := hfil hLl hL ha.i
  simp -implicitDefEqProofs (disch:=first|omega|(simp only[LnZ];omega))[wrap64]
  refine wp_count W.length (fun i e h' => ∃ s, e = [none, some w, some (.agg #[v1, v2, v3]), none, some l, some s, some (.int .i64 i)] ∧ ∃ S : List Int, HS h [ow s S, ow l L] h' ∧ incr a.acc.length (-1) S ∧ ∀ q : Nat, (q : Int) ∈ S ↔ a.behind (W.take i) q) ⟨s, by simp, _, H, f1, f2⟩ ?_
  clear H f1 f2
  rintro J i _ h3 hJ hi ⟨s, rfl, S, H, hS, hSm⟩
  have hSl := incr_len hS (by omega)
  simp -implicitDefEqProofs (disch:=first|omega|(simp only[LnZ];omega))[wrap64, (Rw.on H).len]
  refine IteW.mk (fun hlt => ?_) (fun hge => ?_)
  · have hix : i < W.length := by omega
    simp -implicitDefEqProofs (disch:=first|omega|(simp only[LnZ];omega))[wrap64, (Rw.on H).I]
    refine (c_l12Step (Ra.on H) H.rep ha).go ?_
    rintro t h4 ⟨T, H4, hT, hTm⟩
    have H := H4.app H
    have hTl := incr_len hT (by omega)
    simp -implicitDefEqProofs (disch:=first|omega|(simp only[LnZ];omega))[wrap64]
    refine (c_l12Only H.rep H.sw2.rep (fun x hx => by have := incr_mem hT x hx; omega) (by omega)).go ?_
    intro s' h5 H5
    have H := ((H5.app H).sw1.drop).sw1.drop
    obtain ⟨f1, f2⟩ := hfil hLl hL hT
    simp -implicitDefEqProofs (disch:=first|omega|(simp only[LnZ];omega))[wrap64]
    refine hJ _ _ hix ⟨s', by simp, _, H, f1, fun q => ?_⟩
    rw [f2, hTm, Aut.behind, foldl_take hix]
    constructor
    · rintro ⟨⟨e, h6, h7, h8, h9⟩, h10⟩
      have hx := ha.2.2.2 e h6
      unfold Tr.Ok at hx
      refine ⟨h10, e, h6, ?_, h9, h8⟩
      show a.behind (W.take i) _
      rw [← hSm, Int.toNat_of_nonneg hx.1]
      exact h7
    · rintro ⟨h10, e, h6, h7, h9, h8⟩
      have hx := ha.2.2.2 e h6
      unfold Tr.Ok at hx
      have h7 : a.behind (W.take i) _ := h7
      rw [← hSm, Int.toNat_of_nonneg hx.1] at h7
      exact ⟨⟨e, h6, h7, h8, h9⟩, h10⟩
  simp -implicitDefEqProofs (disch:=first|omega|(simp only[LnZ];omega))[wrap64]
  rw [List.take_of_length_le (by omega)] at hSm
  refine H.appPL (α := Int) (l2 := S) rfl rfl H.rep rfl rfl (by omega) fun o h4 H => ?_
  simp -implicitDefEqProofs (disch:=first|omega|(simp only[LnZ];omega))[wrap64]
  have he : S = a.states W := by
    refine Aut.states_eq hS fun q => ?_
    rw [hSm]
    constructor
    · intro h5
      have := incr_mem hS q ((hSm q).2 h5)
      exact ⟨by omega, h5⟩
    · exact fun h5 => h5.2
  rw [he] at H
  exact RetK.keep (hk _ _ H.only)
noncomputable def preV (a : Aut) (w : List Int) : List Int := if a.Ok ∧ Wok w then a.states w else []
theorem c_PrefixStates {h : Heap} {v w : Value} {a : Aut} {W : List Int} (Ra : Rep h v a) (Rw : Rep h w W) : CallE Try.prog fn_impl_PrefixStates [v, w] h (R2 (decide (a.Ok ∧ Wok W)) (preV a W) h) := by
  have Fa := Ra.aAut
  refine CallE.gen fun k hk => EN_impl_PrefixStates rfl ?_
  have hno : ¬ (a.Ok ∧ Wok W) → ∀ h', h.le h' → k (.tuple #[.slice none 0 0, .bool false]) h' := fun hn h' hl => hk _ _ ⟨_, by rw [decide_eq_false hn], by rw [preV, if_neg hn]; exact HS.nil_ow (Γ := []) hl⟩
  simp -implicitDefEqProofs (disch:=first|omega|(simp only[LnZ];omega))[wrap64, Fa]
  refine (c_AutomatonValid Ra).go ?_
  rintro _ h1 ⟨l1, rfl⟩
  by_cases ha : a.Ok
  case neg =>
    simp -implicitDefEqProofs (disch:=first|omega|(simp only[LnZ];omega))[wrap64, ha]
    exact RetK.keep (hno (fun hh => ha hh.1) _ l1)
  simp -implicitDefEqProofs (disch:=first|omega|(simp only[LnZ];omega))[wrap64, ha]
  refine (c_wordOk (Rw.le l1)).go ?_
  rintro _ h2 ⟨l2, rfl⟩
  have l2 := l1.trans l2
  by_cases hw : Wok W
  case neg =>
    simp -implicitDefEqProofs (disch:=first|omega|(simp only[LnZ];omega))[wrap64, hw]
    exact RetK.keep (hno (fun hh => hw hh.2) _ l2)
  simp -implicitDefEqProofs (disch:=first|omega|(simp only[LnZ];omega))[wrap64, hw, Fa]
  refine (c_prefix (Ra.le l2) (Rw.le l2) ha).go ?_
  intro u h3 H
  simp -implicitDefEqProofs (disch:=first|omega|(simp only[LnZ];omega))[wrap64]
  exact RetK.keep (hk _ _ ⟨_, by rw [decide_eq_true ⟨ha, hw⟩], by rw [preV, if_pos ⟨ha, hw⟩]; exact HS.app (Γ := []) H l2⟩)
theorem c_spec_PrefixStates {h : Heap} {v w : Value} {a : Aut} {W : List Int} (Ra : Rep h v a) (Rw : Rep h w W) : CallE Try.prog fn_spec_PrefixStates [v, w] h (R2 (decide (a.Ok ∧ Wok W)) (preV a W) h) := by
  have Fa := Ra.aAut
  refine CallE.gen fun k hk => EN_spec_PrefixStates rfl ?_
  simp -implicitDefEqProofs (disch:=first|omega|(simp only[LnZ];omega))[wrap64, Fa]
  refine (c_spec_AutomatonValid Ra).go ?_
  rintro _ _ ⟨rfl, rfl⟩
  by_cases ha : a.Ok
  case neg =>
    have hn : ¬ (a.Ok ∧ Wok W) := fun hh => ha hh.1
    simp -implicitDefEqProofs (disch:=first|omega|(simp only[LnZ];omega))[wrap64, ha]
    refine HS.init.bls0 Int fun o h1 H => ?_
    simp -implicitDefEqProofs (disch:=first|omega|(simp only[LnZ];omega))[wrap64]
    exact RetK.keep (hk _ _ ⟨_, by rw [decide_eq_false hn], by rw [preV, if_neg hn]; exact H⟩)
  simp -implicitDefEqProofs (disch:=first|omega|(simp only[LnZ];omega))[wrap64, ha]
  refine (c_l12Word Rw).go ?_
  rintro _ _ ⟨rfl, rfl⟩
  by_cases hw : Wok W
  case neg =>
    have hn : ¬ (a.Ok ∧ Wok W) := fun hh => hw hh.2
    simp -implicitDefEqProofs (disch:=first|omega|(simp only[LnZ];omega))[wrap64, hw]
    refine HS.init.bls0 Int fun o h1 H => ?_
    simp -implicitDefEqProofs (disch:=first|omega|(simp only[LnZ];omega))[wrap64]
    exact RetK.keep (hk _ _ ⟨_, by rw [decide_eq_false hn], by rw [preV, if_neg hn]; exact H⟩)
  simp -implicitDefEqProofs (disch:=first|omega|(simp only[LnZ];omega))[wrap64, hw, Fa]
  refine (c_l12States Ra Rw ha).go ?_
  intro u h3 H
  simp -implicitDefEqProofs (disch:=first|omega|(simp only[LnZ];omega))[wrap64]
  exact RetK.keep (hk _ _ ⟨_, by rw [decide_eq_true ⟨ha, hw⟩], by rw [preV, if_pos ⟨ha, hw⟩]; exact H⟩)
end Go.Proofs.Ytglnelcmcimljaa

namespace Go.Proofs.Ytglnelcmcimljaa
open Go
end Go.Proofs.Ytglnelcmcimljaa

namespace Go.Proofs.Ytglnelcmcimljaa
open Go
noncomputable def stA (a : Aut) (w : List Int) : Aut := ⟨a.states w, a.acc, a.edges⟩
noncomputable def ext (a : Aut) (w : List Int) : Option Las :=
  if a.Ok ∧ Wok w ∧ a.states w ≠ [] then
    match Bf.fw (stA a w) with
    | some l => if (⟨w ++ l.stem, l.loop⟩ : Las).Ok then some ⟨w ++ l.stem, l.loop⟩ else none
    | none => none
  else none
end Go.Proofs.Ytglnelcmcimljaa

namespace Go.Proofs.Ytglnelcmcimljaa
open Go
theorem states_mem {a : Aut} {W : List Int} {x : Int} : x ∈ a.states W ↔ ∃ q : Nat, x = q ∧ q < a.acc.length ∧ a.behind W q := by
  unfold Aut.states
  rw [memL_mem]
  simp
end Go.Proofs.Ytglnelcmcimljaa

namespace Go.Proofs.Ytglnelcmcimljaa
open Go
end Go.Proofs.Ytglnelcmcimljaa

namespace Go.Proofs.Ytglnelcmcimljaa
open Go
theorem any_take {α : Type} {p : α → Bool} {l : List α} {i : Nat} (hi : i < l.length) : (l.take (i + 1)).any p = ((l.take i).any p || p l[i]) := by
  rw [List.take_add_one, List.getElem?_eq_getElem hi, List.any_append]
  simp
theorem Tr.Ok.nats {n : Int} {t : Tr} (h : t.Ok n) : ∃ c v : Nat, t.care = c ∧ t.value = v ∧ c < 8 ∧ v < 8 ∧ v &&& c = v ∧ ∀ L : Nat, L < 8 → t.on L = decide (((L &&& c : Nat) : Int) = t.value) := by
  unfold Tr.Ok at h
  obtain ⟨c, hc⟩ : ∃ c : Nat, t.care = c := ⟨t.care.toNat, by omega⟩
  have h7 := h.2.2.2.2.2.2.2
  have h6 := h.2.2.2.2.2.2.1
  obtain ⟨v, hv⟩ : ∃ v : Nat, t.value = v := ⟨t.value.toNat, by omega⟩
  have hb : t.value < 9223372036854775808 := by
    rw [← h7]
    unfold andI
    generalize (BitVec.ofInt IntKind.i64.bits t.value &&& BitVec.ofInt IntKind.i64.bits t.care).toNat = m
    have : IntKind.i64.wrap (m : Int) = if (m : Int) % 18446744073709551616 ≥ 9223372036854775808 then (m : Int) % 18446744073709551616 - 18446744073709551616 else (m : Int) % 18446744073709551616 := by
      simp [IntKind.wrap, IntKind.signed, IntKind.bits]
    rw [this]
    split <;> omega
  rw [hv, hc, i64_and (by omega) (by omega)] at h7
  have h8 : v &&& c = v := by omega
  have h9 := Nat.and_le_right (n := v) (m := c)
  refine ⟨c, v, hc, hv, by omega, by omega, h8, fun L hL => ?_⟩
  rw [Tr.on, hc, i64_and (by omega) (by omega)]
end Go.Proofs.Ytglnelcmcimljaa

namespace Go.Proofs.Ytglnelcmcimljaa
open Go
theorem step_mem {a : Aut} {W : List Int} {x : Int} {s : Nat} (ha : a.Ok) (hs : s < a.acc.length) : (s : Int) ∈ a.states (W ++ [x]) ↔ a.Live s ∧ ∃ e ∈ a.edges, e.to = s ∧ e.frm ∈ a.states W ∧ e.on x = true := by
  rw [states_mem]
  have hb : ∀ q, a.behind (W ++ [x]) q ↔ a.aft (a.behind W) x q := fun q => by simp [Aut.behind]
  constructor
  · rintro ⟨q, hq, h1, h2⟩
    obtain rfl : s = q := by omega
    obtain ⟨h3, e, h4, h5, h6, h7⟩ := (hb s).1 h2
    obtain ⟨f, g, k1, k2, k3, k4⟩ := ha.tr h4
    rw [k1, Int.toNat_natCast] at h5
    exact ⟨h3, e, h4, h6, states_mem.2 ⟨f, k1, k3, h5⟩, h7⟩
  · rintro ⟨h1, e, h2, h3, h4, h5⟩
    obtain ⟨f, h6, h7, h8⟩ := states_mem.1 h4
    exact ⟨s, rfl, hs, (hb s).2 ⟨h1, e, h2, by rw [h6, Int.toNat_natCast]; exact h8, h3, h5⟩⟩
set_option maxHeartbeats 2000000 in
theorem c_FnPrefixStep {h : Heap} {v w : Value} {l m : List (BitVec 8)} (R : Rep h v l) (RM : Rep h w m) : CallE Try.prog fn_laws_FnPrefixStep [v, w] h (fun u h' => h.le h' ∧ u = .bool true) := by
  refine CallE.gen fun k hk => EN_laws_FnPrefixStep rfl ?_
  by_cases a1 : (1048576 : Int) < l.length
  · simp -implicitDefEqProofs (disch:=first|omega|(simp only[LnZ];omega))[wrap64, R.len, a1]
    exact RetK.keep (hk _ _ ⟨Heap.le.refl _, rfl⟩)
  by_cases a2 : (1048576 : Int) < m.length
  · simp -implicitDefEqProofs (disch:=first|omega|(simp only[LnZ];omega))[wrap64, R.len, RM.len, a1, a2]
    exact RetK.keep (hk _ _ ⟨Heap.le.refl _, rfl⟩)
  simp -implicitDefEqProofs (disch:=first|omega|(simp only[LnZ];omega))[wrap64, R.len, RM.len, a1, a2]
  refine (c_DrawPrefixStates R).go ?_
  rintro _ h1 ⟨u1, u2, a, W, rfl, l1, Ra, RW, hz, hWl⟩
  have FA := Ra.aAut
  simp -implicitDefEqProofs (disch:=first|omega|(simp only[LnZ];omega))[wrap64, FA, setC]
  refine (c_PrefixStates Ra RW).go ?_
  rintro _ h2 ⟨v1, rfl, H1⟩
  obtain ⟨B, hB⟩ : ∃ B, B = decide (a.Ok ∧ Wok W) := ⟨_, rfl⟩
  rw [← hB]
  have l2 := H1.base
  have R1 := H1.rep
  simp -implicitDefEqProofs (disch:=first|omega|(simp only[LnZ];omega))[wrap64, FA]
  refine (c_spec_PrefixStates (Ra.le l2) (RW.le l2)).go ?_
  rintro _ h3 ⟨v2, rfl, H2⟩
  rw [← hB]
  have l3 := H2.base
  have R2' := H2.rep
  have lb := l1.trans (l2.trans l3)
  have R1 := R1.le l3
  have Ra3 := Ra.le (l2.trans l3)
  have RW3 := RW.le (l2.trans l3)
  have RM3 := RM.le lb
  clear H1 H2
  obtain ⟨x, hx⟩ : ∃ x, x = m.length % 8 := ⟨_, rfl⟩
  have hx1 : (m.length : Int).tmod 8 = (x : Int) := by rw [hx]; first | exact (Int.ofNat_tmod _ 8).symm | simp
  have hx2 : (m.length : Int) % 8 = (x : Int) := by rw [hx]; simp
  have hx8 : x < 8 := by omega
  simp -implicitDefEqProofs (disch:=first|omega|(simp only[LnZ];omega))[wrap64, RM3.len, hx1, hx2, FA]
  refine HS.init.appPL (α := Int) (l2 := W) rfl rfl RW3 rfl rfl (by omega) fun o h4 H => ?_
  simp -implicitDefEqProofs (disch:=first|omega|(simp only[LnZ];omega))[wrap64]
  refine H.app1 (x : Int) rfl rfl rfl ⟨by omega, by omega⟩ rfl rfl (by omega) (by omega) fun o2 h5 H => ?_
  have l5 := H.base
  have RX := H.rep
  clear H
  have lb5 := lb.trans l5
  simp -implicitDefEqProofs (disch:=first|omega|(simp only[LnZ];omega))[wrap64, FA]
  refine (c_PrefixStates (Ra3.le l5) RX).go ?_
  rintro _ h6 ⟨v6, rfl, H⟩
  obtain ⟨C, hC⟩ : ∃ C, C = decide (a.Ok ∧ Wok (W ++ [(x : Int)])) := ⟨_, rfl⟩
  rw [← hC]
  have l6 := H.base
  have R6 := H.rep
  clear H
  have lb6 := lb5.trans l6
  have R16 := R1.le (l5.trans l6)
  have R26 := R2'.le (l5.trans l6)
  by_cases q1 : a.Ok ∧ Wok W
  case neg =>
    have hBf : B = false := by rw [hB]; exact decide_eq_false q1
    subst hBf
    simp -implicitDefEqProofs (disch:=first|omega|(simp only[LnZ];omega))[wrap64]
    refine (c_wpInts R16 R26).go ?_
    rintro _ _ ⟨rfl, rfl⟩
    simp -implicitDefEqProofs (disch:=first|omega|(simp only[LnZ];omega))[wrap64]
    refine (c_wpInts R16 R26).go ?_
    rintro _ _ ⟨rfl, rfl⟩
    simp -implicitDefEqProofs (disch:=first|omega|(simp only[LnZ];omega))[wrap64]
    exact RetK.keep (hk _ _ ⟨lb6, rfl⟩)
  have hBt : B = true := by rw [hB]; exact decide_eq_true q1
  subst hBt
  clear hB
  obtain ⟨ha, hW⟩ := q1
  simp -implicitDefEqProofs (disch:=first|omega|(simp only[LnZ];omega))[wrap64]
  refine (c_wpInts R16 R26).go ?_
  rintro _ _ ⟨rfl, rfl⟩
  by_cases q2 : a.Ok ∧ Wok (W ++ [(x : Int)])
  case neg =>
    have hCf : C = false := by rw [hC]; exact decide_eq_false q2
    subst hCf
    simp -implicitDefEqProofs (disch:=first|omega|(simp only[LnZ];omega))[wrap64]
    refine (c_wpInts R16 R26).go ?_
    rintro _ _ ⟨rfl, rfl⟩
    simp -implicitDefEqProofs (disch:=first|omega|(simp only[LnZ];omega))[wrap64]
    exact RetK.keep (hk _ _ ⟨lb6, rfl⟩)
  have hCt : C = true := by rw [hC]; exact decide_eq_true q2
  subst hCt
  clear hC
  have hpv : preV a W = a.states W := if_pos ⟨ha, hW⟩
  have hpx : preV a (W ++ [(x : Int)]) = a.states (W ++ [(x : Int)]) := if_pos q2
  rw [hpv] at R16
  rw [hpx] at R6
  simp -implicitDefEqProofs (disch:=first|omega|(simp only[LnZ];omega))[wrap64, FA]
  refine (c_LiveStates (Ra3.le (l5.trans l6)) ha).go ?_
  rintro vl h7 ⟨L, H, hLl, hL⟩
  have RL := H.rep
  have l7 := H.base
  clear H
  have lb7 := lb6.trans l7
  have RS := R16.le l7
  have RT := R6.le l7
  have Ra7 := Ra3.le (l5.trans (l6.trans l7))
  obtain ⟨w1, w2, w3, rfl, Q1, Q2, Q3⟩ := Rep_Aut.1 Ra7
  have hql := Q3.lt
  have hrl := RL.lt
  have hsm := fun s (hs : s < a.acc.length) => step_mem (W := W) (x := (x : Int)) ha hs
  have hst : ∀ y ∈ a.states W, 0 ≤ y := fun y hy => by
    obtain ⟨q, rfl, _⟩ := states_mem.1 hy
    omega
  generalize hS : a.states W = S at *
  generalize hT : a.states (W ++ [(x : Int)]) = T at *
  simp -implicitDefEqProofs (disch:=first|omega|(simp only[LnZ];omega))[wrap64]
  refine wp_count L.length (fun s e h' => e = [none, none, none, some (.agg #[w1, w2, w3]), none, some v1, none, none, none, some (.int .i64 x), some v6, none, some vl, some (.int .i64 s), none, none, none] ∧ h' = h7) ⟨by simp, rfl⟩ ?_
  rintro J s _ h8 hJ hs ⟨rfl, rfl⟩
  simp -implicitDefEqProofs (disch:=first|omega|(simp only[LnZ];omega))[wrap64, RL.len]
  refine IteW.mk (fun hlt => ?_) (fun hge => ?_)
  · have hsL : s < L.length := by omega
    have hsn : s < a.acc.length := by omega
    obtain ⟨P, hP⟩ : ∃ P : Tr → Bool, P = fun g => decide (g.to = (s : Int)) && (decide (g.frm ∈ S) && g.on x) := ⟨_, rfl⟩
    simp -implicitDefEqProofs (disch:=first|omega|(simp only[LnZ];omega))[wrap64]
    refine wp_count a.edges.length (fun k e h' => e = [none, none, none, some (.agg #[w1, w2, w3]), none, some v1, none, none, none, some (.int .i64 x), some v6, none, some vl, some (.int .i64 s), some (.bool ((a.edges.take k).any P)), some (.int .i64 k), none] ∧ h' = h8) ⟨by simp, rfl⟩ ?_
    rintro J2 k _ h9 hJ2 hk2 ⟨rfl, rfl⟩
    simp -implicitDefEqProofs (disch:=first|omega|(simp only[LnZ];omega))[wrap64, Q3.len]
    refine IteW.mk (fun hlt2 => ?_) (fun hge2 => ?_)
    · have hkx : k < a.edges.length := by omega
      obtain ⟨c', v', hc', hv', hc8', hv8', _, hon2⟩ := (ha.t hkx).nats
      obtain ⟨f', t', hf', ht', hfn', htn'⟩ := ha.tr (List.getElem_mem hkx)
      have hst2 := any_take (p := P) hkx
      have hPk : P a.edges[k] = (decide ((t' : Int) = s) && (decide ((f' : Int) ∈ S) && decide (((x &&& c' : Nat) : Int) = v'))) := by
        rw [hP]; simp only; rw [hon2 x hx8, ht', hf', hv']
      cases b2 : (a.edges.take k).any P with
      | true =>
        rw [b2] at hst2
        simp -implicitDefEqProofs (disch:=first|omega|(simp only[LnZ];omega))[wrap64, Q3.xTr, Tr.v, setC, b2]
        exact hJ2 _ _ hkx ⟨by rw [hst2]; simp, rfl⟩
      | false =>
      rw [b2, hPk] at hst2
      by_cases c1 : t' = s
      case neg =>
        have c1i : ¬ (t' : Int) = s := by omega
        simp -implicitDefEqProofs (disch:=first|omega|(simp only[LnZ];omega))[wrap64, Q3.xTr, Tr.v, setC, b2, ht', c1, c1i]
        exact hJ2 _ _ hkx ⟨by rw [hst2, decide_eq_false c1i]; simp, rfl⟩
      have c1i : (t' : Int) = s := by omega
      simp -implicitDefEqProofs (disch:=first|omega|(simp only[LnZ];omega))[wrap64, Q3.xTr, Tr.v, setC, b2, ht', c1, hf']
      refine (c_wpHas RS).go ?_
      rintro _ _ ⟨rfl, rfl⟩
      by_cases c3 : (f' : Int) ∈ S
      case neg =>
        simp -implicitDefEqProofs (disch:=first|omega|(simp only[LnZ];omega))[wrap64, c3]
        exact hJ2 _ _ hkx ⟨by rw [hst2, decide_eq_false c3]; simp, rfl⟩
      simp -implicitDefEqProofs (disch:=first|omega|(simp only[LnZ];omega))[wrap64, c3, hc', hv', Q3.xTr, Tr.v, setC]
      refine (c_wpAnd hx8 hc8').go ?_
      rintro _ _ ⟨rfl, rfl⟩
      by_cases c2 : x &&& c' = v'
      case neg =>
        have c2i : ¬ ((x &&& c' : Nat) : Int) = v' := by omega
        simp -implicitDefEqProofs (disch:=first|omega|(simp only[LnZ];omega))[wrap64, c2, c2i]
        exact hJ2 _ _ hkx ⟨by rw [hst2, decide_eq_false c2i]; simp, rfl⟩
      simp -implicitDefEqProofs (disch:=first|omega|(simp only[LnZ];omega))[wrap64, c2]
      exact hJ2 _ _ hkx ⟨by rw [hst2]; simp [c1, c2, c3], rfl⟩
    · obtain rfl : k = a.edges.length := by omega
      rw [List.take_length]
      have hmem : (s : Int) ∈ T ↔ (a.edges.any P = true ∧ L[s] = true) := by
        rw [hsm s hsn]
        have hLs := hL s
        rw [tru_get (by omega)] at hLs
        rw [List.any_eq_true, hLs]
        constructor
        · rintro ⟨g1, e, g2, g3, g4, g5⟩
          exact ⟨⟨e, g2, by rw [hP]; simp [g3, g4, g5]⟩, hsn, g1⟩
        · rintro ⟨⟨e, g2, g3⟩, _, g1⟩
          rw [hP] at g3
          simp only [Bool.and_eq_true, decide_eq_true_eq] at g3
          exact ⟨g1, e, g2, g3.1, g3.2.1, g3.2.2⟩
      simp -implicitDefEqProofs (disch:=first|omega|(simp only[LnZ];omega))[wrap64]
      refine (c_wpHas RT).go ?_
      rintro _ _ ⟨rfl, rfl⟩
      generalize a.edges.any P = b1 at hmem ⊢
      cases b1 with
      | false =>
        have hno : ¬ (s : Int) ∈ T := fun hh => by have := (hmem.1 hh).1; simp at this
        simp -implicitDefEqProofs (disch:=first|omega|(simp only[LnZ];omega))[wrap64, hno]
        exact hJ _ _ hsL ⟨by simp, rfl⟩
      | true =>
        cases b2 : L[s] with
        | false =>
          have hno : ¬ (s : Int) ∈ T := fun hh => by have := (hmem.1 hh).2; rw [b2] at this; simp at this
          simp -implicitDefEqProofs (disch:=first|omega|(simp only[LnZ];omega))[wrap64, hno, RL.B, b2]
          exact hJ _ _ hsL ⟨by simp, rfl⟩
        | true =>
          have hyes : (s : Int) ∈ T := hmem.2 ⟨rfl, b2⟩
          simp -implicitDefEqProofs (disch:=first|omega|(simp only[LnZ];omega))[wrap64, hyes, RL.B, b2]
          exact hJ _ _ hsL ⟨by simp, rfl⟩
  · simp -implicitDefEqProofs (disch:=first|omega|(simp only[LnZ];omega))[wrap64]
    exact RetK.keep (hk _ _ ⟨lb7, rfl⟩)
end Go.Proofs.Ytglnelcmcimljaa
