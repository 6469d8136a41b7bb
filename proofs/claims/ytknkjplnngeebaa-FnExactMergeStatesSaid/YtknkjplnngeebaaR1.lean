/-
  The live states behind a word, by the program and by the reference.
-/
import Derived.Test.YtknkjplnngeebaaQ9
import Derived.Test.YtknkjplnngeebaaL5
import Derived.Test.YtknkjplnngeebaaP21
import Derived.Test.YtknkjplnngeebaaP31
namespace Go.Proofs.Ytknkjplnngeebaa
open Go
set_option linter.all false
set_option linter.unusedVariables false
set_option linter.unusedSimpArgs false
set_option linter.defProp false
set_option maxRecDepth 1000000

theorem tru_set2 {B : List Bool} {i : Nat} (hi : i < B.length) {b : Bool} {x : Nat} : tru (B.set i b) x ↔ if x = i then b = true else tru B x := by
  simp only [tru, List.getD_eq_getElem?_getD, List.getElem?_set]
  by_cases e : i = x
  · subst e; simp [hi]
  · simp [e, Ne.symm e]

theorem c_begin {h : Heap} {v l : Value} {a : Aut} {L : List Bool} (Ra : Rep h v a) (Rl : Rep h l L) (ha : a.Ok) (hLl : L.length = a.acc.length) (hL : ∀ q, tru L q ↔ q < a.acc.length ∧ a.Live q) :
    CallE Try.prog fn_impl_Automaton_begin [v, l] h (fun u h' => ∃ B : List Bool, HS h [ow u B] h' ∧ B.length = a.acc.length ∧ ∀ q, tru B q ↔ a.beg q) := by
  obtain ⟨v1, v2, v3, rfl, R1, R2, R3⟩ := Rep_Aut.1 Ra
  have hn := ha.n
  have hil := ha.il
  refine CallE.gen fun k hk => EN_impl_Automaton_begin rfl ?_
  simp -implicitDefEqProofs (disch := first | omega | (simp only [List.length_set, List.length_replicate, List.length_append, List.length_map, List.length_take, List.length_cons, List.length_nil]; omega)) [wrap64, Rl.len]
  refine HS.init.mks (α := Bool) (z := false) rfl rfl own_false (Nat.le_refl _) (by omega) (by omega) fun b h1 H => ?_
  simp -implicitDefEqProofs (disch := first | omega | (simp only [List.length_set, List.length_replicate, List.length_append, List.length_map, List.length_take, List.length_cons, List.length_nil]; omega)) [wrap64, (R1.on H).len]
  refine wp_count a.init.length (fun i e h' => e = [none, some l, none, none, some b, none, some v1, some (.int .i64 a.init.length), some (.int .i64 i)] ∧ ∃ B : List Bool, HS h [ow b B] h' ∧ B.length = a.acc.length ∧ ∀ q : Nat, tru B q ↔ (q : Int) ∈ a.init.take i ∧ a.Live q) ⟨by simp, _, H, by simp [hLl], fun q => by simp [tru_replicate]⟩ ?_
  clear H
  rintro J i _ h2 hJ hi ⟨rfl, B, H, hBl, hB⟩
  simp -implicitDefEqProofs (disch := first | omega | (simp only [List.length_set, List.length_replicate, List.length_append, List.length_map, List.length_take, List.length_cons, List.length_nil]; omega)) [wrap64]
  refine IteW.mk (fun hlt => ?_) (fun hge => ?_)
  · have hix : i < a.init.length := by omega
    have hx := ha.im hix
    obtain ⟨q, hq⟩ : ∃ q : Nat, a.init[i] = q := ⟨a.init[i].toNat, by omega⟩
    have hqn : q < a.acc.length := by omega
    simp -implicitDefEqProofs (disch := first | omega | (simp only [List.length_set, List.length_replicate, List.length_append, List.length_map, List.length_take, List.length_cons, List.length_nil]; omega)) [wrap64, (R1.on H).I, hq, (Rl.on H).B, H.rep.B]
    refine H.storeF (L[q]'(by omega)) (i := q) (by omega) rfl rfl trivial rfl fun h3 H => ?_
    simp -implicitDefEqProofs (disch := first | omega | (simp only [List.length_set, List.length_replicate, List.length_append, List.length_map, List.length_take, List.length_cons, List.length_nil]; omega)) [wrap64]
    refine hJ _ _ hix ⟨rfl, _, H, by simpa using hBl, fun x => ?_⟩
    rw [tru_set2 (by omega), take_mem_succ hix, hq]
    have hLq := hL q
    rw [tru_get (by omega)] at hLq
    split
    · rename_i e
      subst e
      rw [hLq]
      simp [hqn]
    · rename_i e
      rw [hB]
      have e2 : ¬ ((x : Int) = q) := by omega
      simp [e2]
  simp -implicitDefEqProofs (disch := first | omega | (simp only [List.length_set, List.length_replicate, List.length_append, List.length_map, List.length_take, List.length_cons, List.length_nil]; omega)) [wrap64]
  rw [List.take_of_length_le (by omega)] at hB
  exact RetK.keep (hk _ _ ⟨B, H, hBl, hB⟩)

theorem c_after {h : Heap} {v l s : Value} {a : Aut} {L S : List Bool} {letter : Int} (Ra : Rep h v a) (Rl : Rep h l L) (Rs : Rep h s S) (ha : a.Ok) (hLl : L.length = a.acc.length) (hSl : S.length = a.acc.length) (hL : ∀ q, tru L q ↔ q < a.acc.length ∧ a.Live q) :
    CallE Try.prog fn_impl_Automaton_after [v, l, s, .int .i64 letter] h (fun u h' => ∃ B : List Bool, HS h [ow u B] h' ∧ B.length = a.acc.length ∧ ∀ q, tru B q ↔ a.aft (tru S) letter q) := by
  obtain ⟨v1, v2, v3, rfl, R1, R2, R3⟩ := Rep_Aut.1 Ra
  have hn := ha.n
  have he := ha.e
  refine CallE.gen fun k hk => EN_impl_Automaton_after rfl ?_
  simp -implicitDefEqProofs (disch := first | omega | (simp only [List.length_set, List.length_replicate, List.length_append, List.length_map, List.length_take, List.length_cons, List.length_nil]; omega)) [wrap64, Rl.len]
  refine HS.init.mks (α := Bool) (z := false) rfl rfl own_false (Nat.le_refl _) (by omega) (by omega) fun b h1 H => ?_
  simp -implicitDefEqProofs (disch := first | omega | (simp only [List.length_set, List.length_replicate, List.length_append, List.length_map, List.length_take, List.length_cons, List.length_nil]; omega)) [wrap64, (R3.on H).len]
  refine wp_count a.edges.length (fun i e h' => e = [none, some l, some s, some (.int .i64 letter), none, none, some b, none, some v3, some (.int .i64 a.edges.length), some (.int .i64 i)] ∧ ∃ B : List Bool, HS h [ow b B] h' ∧ B.length = a.acc.length ∧ ∀ q : Nat, tru B q ↔ a.Live q ∧ ∃ e ∈ a.edges.take i, tru S e.frm.toNat ∧ e.to = q ∧ e.on letter = true) ⟨by simp, _, H, by simp [hLl], fun q => by simp [tru_replicate]⟩ ?_
  clear H
  rintro J i _ h2 hJ hi ⟨rfl, B, H, hBl, hB⟩
  simp -implicitDefEqProofs (disch := first | omega | (simp only [List.length_set, List.length_replicate, List.length_append, List.length_map, List.length_take, List.length_cons, List.length_nil]; omega)) [wrap64]
  refine IteW.mk (fun hlt => ?_) (fun hge => ?_)
  · have hix : i < a.edges.length := by omega
    have hx := ha.t hix
    have hv := R3.okTr hix
    unfold Tr.Ok at hx
    obtain ⟨f, hf⟩ : ∃ f : Nat, a.edges[i].frm = f := ⟨a.edges[i].frm.toNat, by omega⟩
    obtain ⟨t, ht⟩ : ∃ t : Nat, a.edges[i].to = t := ⟨a.edges[i].to.toNat, by omega⟩
    have hLt := hL t
    rw [tru_get (by omega)] at hLt
    have hSf := tru_get (B := S) (i := f) (by omega)
    have hstep : ∀ B' : List Bool, (∀ q : Nat, tru B' q ↔ tru B q ∨ (q = t ∧ a.Live q ∧ tru S f ∧ a.edges[i].on letter = true)) → ∀ q : Nat, tru B' q ↔ a.Live q ∧ ∃ e ∈ a.edges.take (i + 1), tru S e.frm.toNat ∧ e.to = q ∧ e.on letter = true := by
      intro B' hB' q
      rw [hB', hB]
      constructor
      · rintro (⟨h1, e, h2, h3⟩ | ⟨rfl, h1, h2, h3⟩)
        · exact ⟨h1, e, (take_mem_succ hix).2 (.inl h2), h3⟩
        · exact ⟨h1, _, (take_mem_succ hix).2 (.inr rfl), by rw [hf]; simpa using h2, ht, h3⟩
      · rintro ⟨h1, e, h2, h3, h4, h5⟩
        rcases (take_mem_succ hix).1 h2 with h2 | rfl
        · exact .inl ⟨h1, e, h2, h3, h4, h5⟩
        · rw [hf] at h3
          exact .inr ⟨by omega, h1, by simpa using h3, h5⟩
    have hkeep : ¬ (a.Live t ∧ tru S f ∧ a.edges[i].on letter = true) → ∀ h3, HS h [ow b B] h3 → J [none, some l, some s, some (.int .i64 letter), none, none, some b, none, some v3, some (.int .i64 a.edges.length), some (.int .i64 ((i + 1 : Nat) : Int))] h3 :=
      fun hno h3 H => hJ _ _ hix ⟨by simp, B, H, hBl, hstep B fun q => ⟨.inl, fun hh => hh.elim id fun ⟨e, h1, h2⟩ => absurd (e ▸ ⟨h1, h2⟩) hno⟩⟩
    by_cases e1 : S[f]'(by omega) = true
    case neg =>
      simp -implicitDefEqProofs (disch := first | omega | (simp only [List.length_set, List.length_replicate, List.length_append, List.length_map, List.length_take, List.length_cons, List.length_nil]; omega)) [wrap64, (R3.on H).xTr, Tr.v, setC, hf, (Rs.on H).B, e1]
      exact hkeep (fun hh => e1 (hSf.1 hh.2.1)) _ H
    by_cases e2 : L[t]'(by omega) = true
    case neg =>
      simp -implicitDefEqProofs (disch := first | omega | (simp only [List.length_set, List.length_replicate, List.length_append, List.length_map, List.length_take, List.length_cons, List.length_nil]; omega)) [wrap64, (R3.on H).xTr, Tr.v, setC, hf, ht, (Rs.on H).B, (Rl.on H).B, e1, e2]
      exact hkeep (fun hh => e2 (hLt.2 ⟨by omega, hh.1⟩)) _ H
    simp -implicitDefEqProofs (disch := first | omega | (simp only [List.length_set, List.length_replicate, List.length_append, List.length_map, List.length_take, List.length_cons, List.length_nil]; omega)) [wrap64, (R3.on H).xTr, Tr.v, setC, hf, ht, (Rs.on H).B, (Rl.on H).B, e1, e2]
    refine (c_takes (t := a.edges[i]) (Rep_Tr.2 ⟨by simp [Tr.v, hf, ht], hv⟩)).go ?_
    rintro _ _ ⟨rfl, rfl⟩
    by_cases e3 : a.edges[i].on letter = true
    case neg =>
      simp -implicitDefEqProofs (disch := first | omega | (simp only [List.length_set, List.length_replicate, List.length_append, List.length_map, List.length_take, List.length_cons, List.length_nil]; omega)) [wrap64, e3]
      exact hkeep (fun hh => e3 hh.2.2) _ H
    simp -implicitDefEqProofs (disch := first | omega | (simp only [List.length_set, List.length_replicate, List.length_append, List.length_map, List.length_take, List.length_cons, List.length_nil]; omega)) [wrap64, e3, H.rep.B]
    refine H.storeF true (i := t) (by omega) rfl rfl trivial rfl fun h3 H => ?_
    simp -implicitDefEqProofs (disch := first | omega | (simp only [List.length_set, List.length_replicate, List.length_append, List.length_map, List.length_take, List.length_cons, List.length_nil]; omega)) [wrap64]
    refine hJ _ _ hix ⟨by simp, _, H, by simpa using hBl, hstep _ fun q => ?_⟩
    rw [tru_set (by omega)]
    constructor
    · rintro (h1 | rfl)
      · exact .inl h1
      · exact .inr ⟨rfl, (hLt.1 e2).2, hSf.2 e1, e3⟩
    · rintro (h1 | h1)
      · exact .inl h1
      · exact .inr h1.1
  simp -implicitDefEqProofs (disch := first | omega | (simp only [List.length_set, List.length_replicate, List.length_append, List.length_map, List.length_take, List.length_cons, List.length_nil]; omega)) [wrap64]
  rw [List.take_of_length_le (by omega)] at hB
  exact RetK.keep (hk _ _ ⟨B, H, hBl, hB⟩)

theorem c_members {h : Heap} {s : Value} {S : List Bool} (Rs : Rep h s S) (hl : S.length ≤ 1048576) : CallE Try.prog fn_impl_members [s] h (fun u h' => HS h [ow u (memL (fun q => S.getD q false) S.length)] h') := by
  refine CallE.gen fun k hk => EN_impl_members rfl ?_
  simp -implicitDefEqProofs (disch := first | omega | (simp only [List.length_set, List.length_replicate, List.length_append, List.length_map, List.length_take, List.length_cons, List.length_nil]; omega)) [wrap64, Rs.len]
  have H := (HS.init (h := h)).nil_ow (α := Int)
  refine wp_count S.length (fun i e h' => ∃ o, e = [none, none, some o, none, none, some s, some (.int .i64 S.length), some (.int .i64 i)] ∧ HS h [ow o (memL (fun q => S.getD q false) i)] h') ⟨.slice none 0 0, by simp, by simpa [memL] using H⟩ ?_
  clear H
  rintro J i _ h2 hJ hi ⟨o, rfl, H⟩
  simp -implicitDefEqProofs (disch := first | omega | (simp only [List.length_set, List.length_replicate, List.length_append, List.length_map, List.length_take, List.length_cons, List.length_nil]; omega)) [wrap64]
  refine IteW.mk (fun hlt => ?_) (fun hge => ?_)
  · have hix : i < S.length := by omega
    have hml := memL_length (K := fun q => S.getD q false) (i := i)
    have hgd : S.getD i false = S[i] := by simp [hix]
    cases hb : S[i] with
    | true =>
      simp -implicitDefEqProofs (disch := first | omega | (simp only [List.length_set, List.length_replicate, List.length_append, List.length_map, List.length_take, List.length_cons, List.length_nil]; omega)) [wrap64, (Rs.on H).B, hb]
      refine H.app1 (i : Int) rfl rfl rfl ⟨by omega, by omega⟩ rfl rfl (by omega) (by omega) fun o' h3 H => ?_
      simp -implicitDefEqProofs (disch := first | omega | (simp only [List.length_set, List.length_replicate, List.length_append, List.length_map, List.length_take, List.length_cons, List.length_nil]; omega)) [wrap64]
      refine hJ _ _ hix ⟨o', rfl, ?_⟩
      rw [memL_succ, hgd, hb]; exact H
    | false =>
      simp -implicitDefEqProofs (disch := first | omega | (simp only [List.length_set, List.length_replicate, List.length_append, List.length_map, List.length_take, List.length_cons, List.length_nil]; omega)) [wrap64, (Rs.on H).B, hb]
      refine hJ _ _ hix ⟨o, rfl, ?_⟩
      rw [memL_succ, hgd, hb]; simpa using H
  have hii : i = S.length := by omega
  subst hii
  simp -implicitDefEqProofs (disch := first | omega | (simp only [List.length_set, List.length_replicate, List.length_append, List.length_map, List.length_take, List.length_cons, List.length_nil]; omega)) [wrap64]
  refine (c_Clip_int H).go ?_
  intro o' h3 H
  simp -implicitDefEqProofs (disch := first | omega | (simp only [List.length_set, List.length_replicate, List.length_append, List.length_map, List.length_take, List.length_cons, List.length_nil]; omega)) [wrap64]
  exact RetK.keep (hk _ _ H)

theorem c_letters_1 {h : Heap} {n : Int} : CallE Try.prog fn_impl_letters_1 [.int .i64 n] h (fun u h' => h' = h ∧ u = .bool (!decide (0 ≤ n ∧ n ≤ 7))) := by
  refine CallE.gen fun k hk => EN_impl_letters_1 rfl ?_
  simp -implicitDefEqProofs (disch := first | omega | (simp only [List.length_set, List.length_replicate, List.length_append, List.length_map, List.length_take, List.length_cons, List.length_nil]; omega)) [wrap64]
  refine c_in.go ?_
  rintro _ _ ⟨rfl, rfl⟩
  simp -implicitDefEqProofs (disch := first | omega | (simp only [List.length_set, List.length_replicate, List.length_append, List.length_map, List.length_take, List.length_cons, List.length_nil]; omega)) [wrap64]
  exact RetK.keep (hk _ _ ⟨rfl, by simp⟩)
theorem c_letters {h : Heap} {w : Value} {W : List Int} (Rw : Rep h w W) : CallE Try.prog fn_impl_letters [w] h (fun u h' => h.le h' ∧ u = .bool (decide (∀ x ∈ W, 0 ≤ x ∧ x ≤ 7))) := by
  refine CallE.gen fun k hk => EN_impl_letters rfl ?_
  simp -implicitDefEqProofs (disch := first | omega | (simp only [List.length_set, List.length_replicate, List.length_append, List.length_map, List.length_take, List.length_cons, List.length_nil]; omega)) [wrap64]
  refine (c_ContainsFunc_int Rw (c1 := []) (c2 := []) (f := fn_impl_letters_1) rfl (fun n => !decide (0 ≤ n ∧ n ≤ 7)) ?_).go ?_
  · intro h3 hl j hj u Ru
    obtain ⟨rfl, _⟩ := Rep_int.1 Ru
    exact (c_letters_1 (n := W[j])).to fun _ _ ⟨h4, h5⟩ => ⟨h4 ▸ Heap.le.refl _, h5⟩
  · rintro _ h3 ⟨hl, rfl⟩
    simp -implicitDefEqProofs (disch := first | omega | (simp only [List.length_set, List.length_replicate, List.length_append, List.length_map, List.length_take, List.length_cons, List.length_nil]; omega)) [wrap64]
    refine RetK.keep (hk _ _ ⟨hl, ?_⟩)
    congr 1
    rw [Bool.eq_iff_iff]
    simp
theorem c_wordOk {h : Heap} {w : Value} {W : List Int} (Rw : Rep h w W) : CallE Try.prog fn_impl_wordOk [w] h (fun u h' => h.le h' ∧ u = .bool (decide (Wok W))) := by
  have hL := Rw.lt
  refine CallE.gen fun k hk => EN_impl_wordOk rfl ?_
  simp -implicitDefEqProofs (disch := first | omega | (simp only [List.length_set, List.length_replicate, List.length_append, List.length_map, List.length_take, List.length_cons, List.length_nil]; omega)) [wrap64, Rw.len]
  by_cases h1 : (W.length : Int) ≤ 200
  · simp -implicitDefEqProofs (disch := first | omega | (simp only [List.length_set, List.length_replicate, List.length_append, List.length_map, List.length_take, List.length_cons, List.length_nil]; omega)) [wrap64, h1]
    refine (c_letters Rw).go ?_
    rintro _ h2 ⟨hl, rfl⟩
    simp -implicitDefEqProofs (disch := first | omega | (simp only [List.length_set, List.length_replicate, List.length_append, List.length_map, List.length_take, List.length_cons, List.length_nil]; omega)) [wrap64]
    refine RetK.keep (hk _ _ ⟨hl, ?_⟩)
    congr 1
    rw [Bool.eq_iff_iff]
    have : W.length ≤ 200 := by omega
    simp [Wok, this]
  · simp -implicitDefEqProofs (disch := first | omega | (simp only [List.length_set, List.length_replicate, List.length_append, List.length_map, List.length_take, List.length_cons, List.length_nil]; omega)) [wrap64, h1]
    refine RetK.keep (hk _ _ ⟨Heap.le.refl _, ?_⟩)
    congr 1
    rw [eq_comm, decide_eq_false_iff_not]
    intro hh
    have := hh.1
    omega

theorem c_prefix {h : Heap} {v w : Value} {a : Aut} {W : List Int} (Ra : Rep h v a) (Rw : Rep h w W) (ha : a.Ok) : CallE Try.prog fn_impl_Automaton_prefix [v, w] h (fun u h' => HS h [ow u (a.states W)] h') := by
  have hn := ha.n
  have hwl := Rw.lt
  have Fa := Ra.aAut
  refine CallE.gen fun k hk => EN_impl_Automaton_prefix rfl ?_
  simp -implicitDefEqProofs (disch := first | omega | (simp only [List.length_set, List.length_replicate, List.length_append, List.length_map, List.length_take, List.length_cons, List.length_nil]; omega)) [wrap64, Fa]
  refine (c_live Ra ha).go ?_
  rintro l h1 ⟨L, H, hLl, hL⟩
  simp -implicitDefEqProofs (disch := first | omega | (simp only [List.length_set, List.length_replicate, List.length_append, List.length_map, List.length_take, List.length_cons, List.length_nil]; omega)) [wrap64, Fa]
  refine (c_begin (Ra.on H) H.rep ha hLl hL).go ?_
  rintro b h2 ⟨B, H2, hBl, hB⟩
  have H := H2.app H
  simp -implicitDefEqProofs (disch := first | omega | (simp only [List.length_set, List.length_replicate, List.length_append, List.length_map, List.length_take, List.length_cons, List.length_nil]; omega)) [wrap64, Fa, (Rw.on H).len]
  refine wp_count W.length (fun i e h' => ∃ b, e = [none, none, some v, none, some l, some b, none, some w, some (.int .i64 W.length), some (.int .i64 i)] ∧ ∃ B : List Bool, HS h [ow b B, ow l L] h' ∧ B.length = a.acc.length ∧ ∀ q : Nat, tru B q ↔ a.behind (W.take i) q) ⟨b, by simp, B, H, hBl, hB⟩ ?_
  clear H hB hBl
  rintro J i _ h3 hJ hi ⟨b, rfl, B, H, hBl, hB⟩
  simp -implicitDefEqProofs (disch := first | omega | (simp only [List.length_set, List.length_replicate, List.length_append, List.length_map, List.length_take, List.length_cons, List.length_nil]; omega)) [wrap64]
  refine IteW.mk (fun hlt => ?_) (fun hge => ?_)
  · have hix : i < W.length := by omega
    simp -implicitDefEqProofs (disch := first | omega | (simp only [List.length_set, List.length_replicate, List.length_append, List.length_map, List.length_take, List.length_cons, List.length_nil]; omega)) [wrap64, Fa, (Rw.on H).I]
    refine (c_after (Ra.on H) H.sw1.rep H.rep ha hLl hBl hL).go ?_
    rintro b' h4 ⟨B', H4, hBl', hB'⟩
    have H := (H4.app H).sw1.drop
    simp -implicitDefEqProofs (disch := first | omega | (simp only [List.length_set, List.length_replicate, List.length_append, List.length_map, List.length_take, List.length_cons, List.length_nil]; omega)) [wrap64, Fa]
    refine hJ _ _ hix ⟨b', rfl, B', H, hBl', fun q => ?_⟩
    rw [hB', Aut.behind, foldl_take hix, funext fun q => propext (hB q)]
    exact Iff.rfl
  simp -implicitDefEqProofs (disch := first | omega | (simp only [List.length_set, List.length_replicate, List.length_append, List.length_map, List.length_take, List.length_cons, List.length_nil]; omega)) [wrap64]
  rw [List.take_of_length_le (by omega)] at hB
  refine (c_members H.rep (by omega)).go ?_
  intro o h4 H4
  have H := (H4.app H).only
  simp -implicitDefEqProofs (disch := first | omega | (simp only [List.length_set, List.length_replicate, List.length_append, List.length_map, List.length_take, List.length_cons, List.length_nil]; omega)) [wrap64]
  have he : memL (fun q => B.getD q false) B.length = a.states W := by
    refine Aut.states_eq (by rw [hBl]; exact memL_incr (Nat.le_refl _)) fun q => ?_
    rw [memL_mem, ← hB, ← hBl]
    constructor
    · rintro ⟨q', e, h5, h6⟩
      obtain rfl : q = q' := by omega
      exact ⟨h5, h6⟩
    · rintro ⟨h5, h6⟩; exact ⟨q, rfl, h5, h6⟩
  rw [he] at H
  exact RetK.keep (hk _ _ H)
end Go.Proofs.Ytknkjplnngeebaa
