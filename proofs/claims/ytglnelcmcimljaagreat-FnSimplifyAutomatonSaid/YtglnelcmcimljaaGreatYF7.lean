/-
  Texts of this proof, one behind the other.
-/
import Derived.Shelf.Sort.Plain
import Derived.Shelf.Slices.CompactI
import Derived.Shelf.Slices.In.SortNone
import Derived.Test.YtglnelcmcimljaaGreatRows
import Derived.Lib.SlicesCompact
import Derived.Sort.Grow
import Derived.Sort.Row
import Derived.Test.YtglnelcmcimljaaGreatYF6
set_option linter.all false
set_option linter.unusedVariables false
set_option linter.unusedSimpArgs false
set_option linter.defProp false
set_option maxRecDepth 1000000
namespace Go.Proofs.YtglnelcmcimljaaGreat
open Go
def cntP (Q : List Int) (i : Nat) (p : Int) : Nat := ((List.range i).filter fun y => decide (gd Q y = p)).length
theorem cntP_succ {Q : List Int} {i : Nat} {p : Int} : cntP Q (i + 1) p = cntP Q i p + if gd Q i = p then 1 else 0 := by
  simp only [cntP, List.range_succ, List.filter_append, List.length_append, List.filter_cons, List.filter_nil]
  by_cases h : gd Q i = p <;> simp [h]
theorem cntP_le {Q : List Int} {i : Nat} {p : Int} : cntP Q i p ≤ i := by
  have := List.length_filter_le (fun y => decide (gd Q y = p)) (List.range i)
  simpa [cntP] using this
theorem c_cyclic {h : Heap} {w : Value} {G : List (List Int)} {E : Nat → Nat → Prop} (Rw : Rep h w G) (hG : Adj E G) (hnl : G.length ≤ 1048576) :
    CallE Tryz.prog fn_impl_cyclic [w] h (fun u h' => ∃ C : List Bool, HS h [ow u C] h' ∧ C.length = G.length ∧ ∀ x, x < G.length → (tru C x ↔ Cyc E x)) := by
  refine CallE.gen fun k hk => EN_impl_cyclic rfl ?_
  simp -implicitDefEqProofs (disch:=first|omega|(simp only[LnZ];omega))[wrap64]
  refine (c_components Rw hG hnl).go ?_
  rintro p h1 ⟨Q, H, hQl, hQb, hQ⟩
  simp -implicitDefEqProofs (disch:=first|omega|(simp only[LnZ];omega))[wrap64, (Rw.on H).len]
  refine H.mks (α := Int) (z := 0) rfl rfl (own_zero (by decide) (by decide)) (Nat.le_refl _) (by omega) (by omega) fun z h2 H => ?_
  simp -implicitDefEqProofs (disch:=first|omega|(simp only[LnZ];omega))[wrap64, H.sw1.rep.len]
  refine wp_count G.length (fun i e h' => e = [some w, none, some p, some z, none, none, none, some p, some (.int .i64 G.length), some (.int .i64 i), none, none] ∧ ∃ Z : List Int, HS h [ow z Z, ow p Q] h' ∧ Z.length = G.length ∧ ∀ x, x < G.length → gd Z x = cntP Q i x) ⟨by simp [hQl], _, H, by simp, fun x hx => by rw [gd_get (by simpa using hx)]; simp [cntP]⟩ ?_
  clear H
  rintro J i _ h3 hJ hi ⟨rfl, Z, H, hZl, hZ⟩
  simp -implicitDefEqProofs (disch:=first|omega|(simp only[LnZ];omega))[wrap64]
  refine IteW.mk (fun hlt => ?_) (fun hge => ?_)
  · have hin : i < G.length := by omega
    have hq := hQb i hin
    obtain ⟨q, hqi⟩ : ∃ q : Nat, Q[i]'(by omega) = q := ⟨(Q[i]'(by omega)).toNat, by rw [← gd_get]; omega⟩
    have hqn : q < G.length := by rw [gd_get (by omega), hqi] at hq; omega
    have hzq : Z[q]'(by omega) = cntP Q i q := by rw [← gd_get, hZ q hqn]
    have hcl := cntP_le (Q := Q) (i := i) (p := q)
    simp -implicitDefEqProofs (disch:=first|omega|(simp only[LnZ];omega))[wrap64, H.sw1.rep.I, hqi, H.rep.I, hzq]
    refine H.storeF ((cntP Q i q : Int) + 1) (i := q) (by omega) rfl rfl ⟨by omega, by omega⟩ rfl fun h4 H => ?_
    simp -implicitDefEqProofs (disch:=first|omega|(simp only[LnZ];omega))[wrap64]
    refine hJ _ _ hin ⟨rfl, _, H, by simpa using hZl, fun x hx => ?_⟩
    rw [gd_set (by omega), cntP_succ, gd_get (by omega), hqi]
    by_cases e : x = q
    · subst e; simp
    · rw [fput_ne e, hZ x hx, if_neg (by omega)]; simp
  have hin : i = G.length := by omega
  subst hin
  simp -implicitDefEqProofs (disch:=first|omega|(simp only[LnZ];omega))[wrap64, (Rw.on H).len]
  refine H.mks (α := Bool) (z := false) rfl rfl own_false (Nat.le_refl _) (by omega) (by omega) fun c h4 H => ?_
  simp -implicitDefEqProofs (disch:=first|omega|(simp only[LnZ];omega))[wrap64, (Rw.on H).len]
  refine wp_count G.length (fun i e h' => e = [some w, none, some p, some z, none, some c, none, none, none, none, some (.int .i64 G.length), some (.int .i64 i)] ∧ ∃ C : List Bool, HS h [ow c C, ow z Z, ow p Q] h' ∧ C.length = G.length ∧ ∀ x, x < i → (tru C x ↔ Cyc E x)) ⟨by simp, _, H, by simp, fun x hx => absurd hx (Nat.not_lt_zero x)⟩ ?_
  clear H hJ
  rintro J i _ h5 hJ hi ⟨rfl, C, H, hCl, hC⟩
  simp -implicitDefEqProofs (disch:=first|omega|(simp only[LnZ];omega))[wrap64]
  refine IteW.mk (fun hlt2 => ?_) (fun hge2 => ?_)
  · have hin : i < G.length := by omega
    have hq := hQb i hin
    obtain ⟨q, hqi⟩ : ∃ q : Nat, Q[i]'(by omega) = q := ⟨(Q[i]'(by omega)).toNat, by rw [← gd_get]; omega⟩
    have hqn : q < G.length := by rw [gd_get (by omega), hqi] at hq; omega
    have hzq : Z[q]'(by omega) = cntP Q G.length q := by rw [← gd_get, hZ q hqn]
    have hpc := part_cycle hQ hG.lt hin
    have hcnt : ((List.range G.length).filter fun y => decide (gd Q y = gd Q i)).length = cntP Q G.length q := by
      rw [gd_get (by omega), hqi]; rfl
    rw [hcnt] at hpc
    have hstep : ∀ b : Bool, (b = true ↔ Cyc E i) → ∀ x, x < i + 1 → (tru (C.set i b) x ↔ Cyc E x) := by
      intro b hb x hx
      have h1 : tru (C.set i b) x ↔ if x = i then b = true else tru C x := by
        simp only [tru, List.getD_eq_getElem?_getD, List.getElem?_set]
        by_cases e : i = x
        · subst e; simp [show i < C.length by omega]
        · simp [e, Ne.symm e]
      rw [h1]
      split
      · rename_i e; subst e; exact hb
      · exact hC x (by omega)
    by_cases h1 : (1 : Int) < cntP Q G.length q
    · simp -implicitDefEqProofs (disch:=first|omega|(simp only[LnZ];omega))[wrap64, H.sw2.rep.I, hqi, H.sw1.rep.I, hzq, h1, H.rep.B]
      refine H.storeF true (i := i) (by omega) rfl rfl trivial rfl fun h6 H => ?_
      simp -implicitDefEqProofs (disch:=first|omega|(simp only[LnZ];omega))[wrap64]
      exact hJ _ _ hin ⟨rfl, _, H, by simpa using hCl, hstep true (by rw [hpc]; simp; omega)⟩
    · obtain ⟨u, hu0, Ru⟩ := Rw.ldL hin
      simp -implicitDefEqProofs (disch:=first|omega|(simp only[LnZ];omega))[wrap64, H.sw2.rep.I, hqi, H.sw1.rep.I, hzq, h1, H.rep.B, (Rw.on H).X (n := 1) rfl, hload_le H.base hu0]
      refine (c_Contains_int (Ru.on H)).go ?_
      rintro _ _ ⟨rfl, rfl⟩
      simp -implicitDefEqProofs (disch:=first|omega|(simp only[LnZ];omega))[wrap64, H.rep.B]
      refine H.storeF (decide ((i : Int) ∈ G[i])) (i := i) (by omega) rfl rfl trivial rfl fun h6 H => ?_
      simp -implicitDefEqProofs (disch:=first|omega|(simp only[LnZ];omega))[wrap64]
      refine hJ _ _ hin ⟨rfl, _, H, by simpa using hCl, hstep _ ?_⟩
      rw [hpc, decide_eq_true_iff, hG.mem i hin]
      constructor
      · rintro ⟨y, h2, h3⟩
        obtain rfl : i = y := by omega
        exact .inr h3
      · rintro (h2 | h2)
        · omega
        · exact ⟨i, rfl, h2⟩
  have hin : i = G.length := by omega
  subst hin
  simp -implicitDefEqProofs (disch:=first|omega|(simp only[LnZ];omega))[wrap64]
  exact RetK.keep (hk _ _ ⟨C, H.only, hCl, hC⟩)
theorem c_live {h : Heap} {v : Value} {a : Aut} (Ra : Rep h v a) (ha : a.Ok) : CallE Tryz.prog fn_impl_Automaton_live [v] h (fun u h' => ∃ L : List Bool, HS h [ow u L] h' ∧ L.length = a.acc.length ∧ ∀ q, tru L q ↔ q < a.acc.length ∧ a.Live q) := by
  obtain ⟨v1, v2, v3, rfl, R1, R2, R3⟩ := Rep_Aut.1 Ra
  have hn := ha.n
  refine CallE.gen fun k hk => EN_impl_Automaton_live rfl ?_
  simp -implicitDefEqProofs (disch:=first|omega|(simp only[LnZ];omega))[wrap64]
  refine (c_next Ra ha).go ?_
  rintro w h1 ⟨G, H, hG, hGl⟩
  simp -implicitDefEqProofs (disch:=first|omega|(simp only[LnZ];omega))[wrap64]
  refine (c_cyclic H.rep hG (by omega)).go ?_
  rintro c h2 ⟨C, H2, hCl, hC⟩
  have H := H2.app H
  simp -implicitDefEqProofs (disch:=first|omega|(simp only[LnZ];omega))[wrap64, H.sw1.rep.len]
  refine H.mks (α := Bool) (z := false) rfl rfl own_false (Nat.le_refl _) (by omega) (by omega) fun o h3 H => ?_
  simp -implicitDefEqProofs (disch:=first|omega|(simp only[LnZ];omega))[wrap64, H.sw2.rep.len]
  refine wp_count G.length (fun i e h' => e = [none, some (.agg #[v1, v2, v3]), none, some w, some c, some o, none, none, none, some (.int .i64 G.length), some (.int .i64 i), none, none, none] ∧ ∃ L : List Bool, HS h [ow o L, ow c C, ow w G] h' ∧ L.length = G.length ∧ ∀ q, tru L q ↔ q < i ∧ a.Live q) ⟨by simp, _, H, by simp, fun q => by simp [tru_replicate]⟩ ?_
  clear H
  rintro J i _ h4 hJ hi ⟨rfl, L, H, hLl, hL⟩
  simp -implicitDefEqProofs (disch:=first|omega|(simp only[LnZ];omega))[wrap64]
  refine IteW.mk (fun hlt => ?_) (fun hge => ?_)
  · have hin : i < G.length := by omega
    simp -implicitDefEqProofs (disch:=first|omega|(simp only[LnZ];omega))[wrap64]
    refine H.bls (α := Int) [(i : Int)] (by rfl) rfl (ok_one (by omega)) (by decide) fun s h4 H => ?_
    simp -implicitDefEqProofs (disch:=first|omega|(simp only[LnZ];omega))[wrap64]
    have hS1 : ∀ z ∈ [(i : Int)], 0 ≤ z ∧ z < (G.length : Int) := by
      intro z hz
      have hxi : z = i := by simpa using hz
      omega
    refine (c_reachable (S := [(i : Int)]) H.sw3.rep H.rep hG hS1 (by simp) (by omega)).go ?_
    rintro r h5 ⟨B, H5, hBl, hB⟩
    have H := H5.app H.drop
    simp -implicitDefEqProofs (disch:=first|omega|(simp only[LnZ];omega))[wrap64, H.rep.len]
    refine wp_count G.length (fun k e h' => e = [none, some (.agg #[v1, v2, v3]), none, some w, some c, some o, some (.int .i64 i), none, none, some (.int .i64 G.length), some (.int .i64 i), some r, some (.int .i64 G.length), some (.int .i64 k)] ∧ ∃ (L' : List Bool), HS h [ow r B, ow o L', ow c C, ow w G] h' ∧ L'.length = G.length ∧ (∀ q, q ≠ i → (tru L' q ↔ q < i ∧ a.Live q)) ∧ (tru L' i ↔ ∃ t, t < k ∧ tru B t ∧ tru C t ∧ tru a.acc t)) ⟨by simp [hBl], L, H, hLl, fun q _ => hL q, by rw [hL]; simp⟩ ?_
    rintro J2 k _ h6 hJ2 hk2 ⟨rfl, L', H, hLl', hL1, hL2⟩
    simp -implicitDefEqProofs (disch:=first|omega|(simp only[LnZ];omega))[wrap64]
    refine IteW.mk (fun hlt2 => ?_) (fun hge2 => ?_)
    · have hkn : k < G.length := by omega
      have H := H.sw1
      have hold : tru L' i ↔ L'[i]'(by omega) = true := tru_get (by omega)
      have hstep : ∀ b : Bool, (b = true ↔ tru L' i ∨ (tru B k ∧ tru C k ∧ tru a.acc k)) → (∀ q, q ≠ i → (tru (L'.set i b) q ↔ q < i ∧ a.Live q)) ∧ (tru (L'.set i b) i ↔ ∃ t, t < k + 1 ∧ tru B t ∧ tru C t ∧ tru a.acc t) := by
        intro b hb
        have h1 : ∀ x, tru (L'.set i b) x ↔ if x = i then b = true else tru L' x := by
          intro x
          simp only [tru, List.getD_eq_getElem?_getD, List.getElem?_set]
          by_cases e : i = x
          · subst e; simp [show i < L'.length by omega]
          · simp [e, Ne.symm e]
        refine ⟨fun q hq => by rw [h1, if_neg hq]; exact hL1 q hq, ?_⟩
        rw [h1, if_pos rfl, hb, hL2]
        constructor
        · rintro (⟨t, h2, h3⟩ | h3)
          · exact ⟨t, by omega, h3⟩
          · exact ⟨k, by omega, h3⟩
        · rintro ⟨t, h2, h3⟩
          by_cases e : t = k
          · subst e; exact .inr h3
          · exact .inl ⟨t, by omega, h3⟩
      have hgB := tru_get (B := B) (i := k) (by omega)
      have hgC := tru_get (B := C) (i := k) (by omega)
      have hgA := tru_get (B := a.acc) (i := k) (by omega)
      have hfin : ∀ b : Bool, (b = true ↔ tru L' i ∨ (tru B k ∧ tru C k ∧ tru a.acc k)) → ∀ h8, HS h [ow o (L'.set i b), ow r B, ow c C, ow w G] h8 → J2 [none, some (.agg #[v1, v2, v3]), none, some w, some c, some o, some (.int .i64 i), none, none, some (.int .i64 G.length), some (.int .i64 i), some r, some (.int .i64 G.length), some (.int .i64 ((k + 1 : Nat) : Int))] h8 :=
        fun b hb h8 H => hJ2 _ _ hkn ⟨rfl, _, H.sw1, by simpa using hLl', hstep b hb⟩
      by_cases e0 : L'[i]'(by omega) = true
      · simp -implicitDefEqProofs (disch:=first|omega|(simp only[LnZ];omega))[wrap64, H.sw1.rep.B, H.rep.B, e0]
        refine H.storeF true (i := i) (by omega) rfl rfl trivial rfl fun h7 H => ?_
        simp -implicitDefEqProofs (disch:=first|omega|(simp only[LnZ];omega))[wrap64]
        exact hfin true (by simp [hold, e0]) _ H
      by_cases e1 : B[k]'(by omega) = true
      case neg =>
        simp -implicitDefEqProofs (disch:=first|omega|(simp only[LnZ];omega))[wrap64, H.sw1.rep.B, H.rep.B, e0, e1]
        refine H.storeF false (i := i) (by omega) rfl rfl trivial rfl fun h7 H => ?_
        simp -implicitDefEqProofs (disch:=first|omega|(simp only[LnZ];omega))[wrap64]
        exact hfin false (by simp [hold, e0, hgB, e1]) _ H
      by_cases e2 : C[k]'(by omega) = true
      case neg =>
        simp -implicitDefEqProofs (disch:=first|omega|(simp only[LnZ];omega))[wrap64, H.sw1.rep.B, H.sw2.rep.B, H.rep.B, e0, e1, e2]
        refine H.storeF false (i := i) (by omega) rfl rfl trivial rfl fun h7 H => ?_
        simp -implicitDefEqProofs (disch:=first|omega|(simp only[LnZ];omega))[wrap64]
        exact hfin false (by simp [hold, e0, hgC, e2]) _ H
      by_cases e3 : a.acc[k]'(by omega) = true
      · simp -implicitDefEqProofs (disch:=first|omega|(simp only[LnZ];omega))[wrap64, H.sw1.rep.B, H.sw2.rep.B, H.rep.B, (R2.on H).B, e0, e1, e2, e3]
        refine H.storeF true (i := i) (by omega) rfl rfl trivial rfl fun h7 H => ?_
        simp -implicitDefEqProofs (disch:=first|omega|(simp only[LnZ];omega))[wrap64]
        exact hfin true (by simp [hgB, hgC, hgA, e1, e2, e3]) _ H
      · simp -implicitDefEqProofs (disch:=first|omega|(simp only[LnZ];omega))[wrap64, H.sw1.rep.B, H.sw2.rep.B, H.rep.B, (R2.on H).B, e0, e1, e2, e3]
        refine H.storeF false (i := i) (by omega) rfl rfl trivial rfl fun h7 H => ?_
        simp -implicitDefEqProofs (disch:=first|omega|(simp only[LnZ];omega))[wrap64]
        exact hfin false (by simp [hold, e0, hgA, e3]) _ H
    · simp -implicitDefEqProofs (disch:=first|omega|(simp only[LnZ];omega))[wrap64]
      refine hJ _ _ hin ⟨rfl, L', H.drop, hLl', fun q => ?_⟩
      by_cases e : q = i
      · subst e
        rw [hL2]
        constructor
        · rintro ⟨t, h1, h2, h3, h4⟩
          obtain ⟨z, h5, h6⟩ := (hB t).1 h2
          obtain rfl : z = q := by simpa [Int.ofNat_inj] using h5
          exact ⟨by omega, t, h6, (hC t (by rw [← hBl]; exact tru_lt h2)).1 h3, h4⟩
        · rintro ⟨_, t, h1, h2, h3⟩
          have htn : t < G.length := by rw [hGl]; exact tru_lt h3
          exact ⟨t, by omega, (hB t).2 ⟨q, by simp, h1⟩, (hC t htn).2 h2, h3⟩
      · rw [hL1 q e]
        constructor
        · rintro ⟨h1, h2⟩; exact ⟨by omega, h2⟩
        · rintro ⟨h1, h2⟩; exact ⟨by omega, h2⟩
  have hin : i = G.length := by omega
  subst hin
  simp -implicitDefEqProofs (disch:=first|omega|(simp only[LnZ];omega))[wrap64]
  exact RetK.keep (hk _ _ ⟨L, H.only, by omega, by rw [← hGl]; exact hL⟩)
end Go.Proofs.YtglnelcmcimljaaGreat

namespace Go.Proofs.YtglnelcmcimljaaGreat
open Go
theorem filter_map_take {α β : Type} {p : α → Bool} {f : α → β} {l : List α} {i : Nat} (hi : i < l.length) : ((l.take (i + 1)).filter p).map f = ((l.take i).filter p).map f ++ (if p l[i] then [f l[i]] else []) := by
  rw [List.take_add_one, List.getElem?_eq_getElem hi, List.filter_append, List.map_append]
  congr 1
  simp only [Option.toList_some, List.filter_cons, List.filter_nil]
  split <;> simp
def accK (a : Aut) (K : Nat → Bool) (i : Nat) : List Bool := ((List.range i).filter K).map fun q => a.acc.getD q false
theorem accK_succ {a : Aut} {K : Nat → Bool} {i : Nat} (hi : i < a.acc.length) : accK a K (i + 1) = accK a K i ++ if K i then [a.acc[i]] else [] := by
  simp only [accK, List.range_succ, List.filter_append, List.map_append, List.filter_cons, List.filter_nil]
  congr 1
  split <;> simp [hi]
theorem accK_len {a : Aut} {K : Nat → Bool} {i : Nat} : (accK a K i).length = kidx K i := by simp [accK, kidx]
theorem Aut.keep_pos {a : Aut} {K : Nat → Bool} (h : kidx K a.acc.length ≠ 0) : a.keep K = ⟨(a.init.filter fun q => K q.toNat).map (kout K), accK a K a.acc.length, (a.edges.filter fun e => K e.frm.toNat && K e.to.toNat).map (Tr.ren (kout K))⟩ := by
  unfold Aut.keep; rw [if_neg h]; rfl
theorem Aut.keep_zero {a : Aut} {K : Nat → Bool} (h : kidx K a.acc.length = 0) : a.keep K = ⟨[], [false], []⟩ := by
  unfold Aut.keep; rw [if_pos h]
def knum (K : Nat → Bool) (q : Nat) : Int := if K q then (kidx K q : Int) else -1
set_option maxHeartbeats 4000000 in
theorem c_trim {h : Heap} {v : Value} {a : Aut} (Ra : Rep h v a) (ha : a.Ok) : CallE Tryz.prog fn_impl_Automaton_trim [v] h (fun u h' => HS h [ow u a.trim] h') := by
  obtain ⟨v1, v2, v3, rfl, R1, R2, R3⟩ := Rep_Aut.1 Ra
  have hn := ha.n
  have he := ha.e
  have hil := ha.il
  refine CallE.gen fun k hk => EN_impl_Automaton_trim rfl ?_
  simp -implicitDefEqProofs (disch:=first|omega|(simp only[LnZ];omega))[wrap64]
  refine (c_next Ra ha).go ?_
  rintro w h1 ⟨G, H, hG, hGl⟩
  simp -implicitDefEqProofs (disch:=first|omega|(simp only[LnZ];omega))[wrap64]
  have hS : ∀ z ∈ a.init, 0 ≤ z ∧ z < (G.length : Int) := by
    intro z hz
    have := incr_mem ha.i z hz
    omega
  refine (c_reachable H.rep (R1.on H) hG hS (by omega) (by omega)).go ?_
  rintro m h2 ⟨M, H2, hMl, hM⟩
  have H := (H2.app H).only
  simp -implicitDefEqProofs (disch:=first|omega|(simp only[LnZ];omega))[wrap64]
  refine (c_live (Ra.on H) ha).go ?_
  rintro l h3 ⟨L, H3, hLl, hL⟩
  have H := H3.app H
  obtain ⟨K, hK⟩ : ∃ K : Nat → Bool, K = fun q => M.getD q false && L.getD q false := ⟨_, rfl⟩
  have hKq : ∀ q (hq : q < a.acc.length), K q = (M[q]'(by omega) && L[q]'(by omega)) := by
    intro q hq
    rw [hK]
    simp [show q < M.length by omega, show q < L.length by omega]
  have hKt : a.keep K = a.trim := by
    refine Aut.trim_eq ha fun q hq => ?_
    rw [hK]
    simp only [Bool.and_eq_true]
    have h1 := hM q
    have h2 := hL q
    simp only [tru] at h1 h2
    rw [h1, h2]
    simp [Aut.Reach, hq]
  simp -implicitDefEqProofs (disch:=first|omega|(simp only[LnZ];omega))[wrap64, H.sw1.rep.len]
  refine H.mks (α := Int) (z := 0) rfl rfl (own_zero (by decide) (by decide)) (Nat.le_refl _) (by omega) (by omega) fun z h4 H => ?_
  have H := H.nil_ow (α := Bool)
  simp -implicitDefEqProofs (disch:=first|omega|(simp only[LnZ];omega))[wrap64, H.sw3.rep.len]
  refine wp_count a.acc.length (fun i e h' => ∃ o2, e = [none, some (.agg #[v1, v2, v3]), some (.agg #[.slice none 0 0, .slice none 0 0, .slice none 0 0]), some m, some l, some z, some (.agg #[.slice none 0 0, o2, .slice none 0 0]), none, none, none, some (.int .i64 a.acc.length), some (.int .i64 i), none, none, none, none, none, none] ∧
    ∃ Z : List Int, HS h [ow o2 (accK a K i), ow z Z, ow l L, ow m M] h' ∧ Z.length = a.acc.length ∧ ∀ q, q < i → gd Z q = knum K q) ⟨_, by simp [hMl, hGl], _, H, by simp [hMl, hGl], fun q hq => absurd hq (Nat.not_lt_zero q)⟩ ?_
  clear H
  rintro J i _ h5 hJ hi ⟨o2, rfl, Z, H, hZl, hZ⟩
  simp -implicitDefEqProofs (disch:=first|omega|(simp only[LnZ];omega))[wrap64]
  refine IteW.mk (fun hlt => ?_) (fun hge => ?_)
  · have hin : i < a.acc.length := by omega
    have hkl := kidx_le (K := K) (q := i)
    have hal := accK_len (a := a) (K := K) (i := i)
    have hks := hKq i hin
    have H := H.sw1
    simp -implicitDefEqProofs (disch:=first|omega|(simp only[LnZ];omega))[wrap64, H.rep.I]
    refine H.storeF (-1) (i := i) (by omega) rfl rfl ⟨by decide, by decide⟩ rfl fun h6 H => ?_
    have hZ1 : ∀ x, x < i → gd (Z.set i (-1)) x = knum K x := fun x hx => by rw [gd_set (by omega), fput_ne (by omega)]; exact hZ x hx
    cases hkb : K i with
    | false =>
      have hfin : ∀ h7, HS h [ow z (Z.set i (-1)), ow o2 (accK a K i), ow l L, ow m M] h7 → J [none, some (.agg #[v1, v2, v3]), some (.agg #[.slice none 0 0, .slice none 0 0, .slice none 0 0]), some m, some l, some z, some (.agg #[.slice none 0 0, o2, .slice none 0 0]), none, none, none, some (.int .i64 a.acc.length), some (.int .i64 ((i + 1 : Nat) : Int)), none, none, none, none, none, none] h7 := by
        intro h7 H
        refine hJ _ _ hin ⟨o2, by simp, _, by rw [accK_succ hin, hkb]; simpa using H.sw1, by simpa using hZl, fun x hx => ?_⟩
        by_cases e : x = i
        · subst e; rw [gd_set (by omega), fput_self]; simp [knum, hkb]
        · exact hZ1 x (by omega)
      rw [hkb] at hks
      cases hm1 : (M[i]'(by omega)) with
      | false =>
        simp -implicitDefEqProofs (disch:=first|omega|(simp only[LnZ];omega))[wrap64, H.sw3.rep.B, hm1]
        exact hfin _ H
      | true =>
        have hl1 : (L[i]'(by omega)) = false := by rw [hm1] at hks; simpa using hks.symm
        simp -implicitDefEqProofs (disch:=first|omega|(simp only[LnZ];omega))[wrap64, H.sw3.rep.B, hm1, H.sw2.rep.B, hl1]
        exact hfin _ H
    | true =>
      rw [hkb] at hks
      have hml : (M[i]'(by omega)) = true ∧ (L[i]'(by omega)) = true := by simpa using hks.symm
      simp -implicitDefEqProofs (disch:=first|omega|(simp only[LnZ];omega))[wrap64, H.sw3.rep.B, hml.1, H.sw2.rep.B, hml.2, H.rep.I, H.sw1.rep.len]
      refine H.storeF (kidx K i : Int) (i := i) (by simpa using (by omega : i < Z.length)) rfl (by simp [hal, O.get, valC, Flat.enc]) ⟨by omega, by omega⟩ rfl fun h7 H => ?_
      have H := H.sw1
      simp -implicitDefEqProofs (disch:=first|omega|(simp only[LnZ];omega))[wrap64, (R2.on H).B]
      refine H.app1 a.acc[i] rfl rfl rfl trivial rfl rfl (by omega) (by omega) fun o3 h8 H => ?_
      simp -implicitDefEqProofs (disch:=first|omega|(simp only[LnZ];omega))[wrap64, H.rep.cells, H.rep.one, setC]
      refine hJ _ _ hin ⟨o3, rfl, _, by rw [accK_succ hin, hkb]; exact H, by simpa using hZl, fun x hx => ?_⟩
      by_cases e : x = i
      · subst e; rw [gd_set (by simp; omega), fput_self]; simp [knum, hkb]
      · rw [gd_set (by simp; omega), fput_ne e]; exact hZ1 x (by omega)
  have hin : i = a.acc.length := by omega
  subst hin
  have hal := accK_len (a := a) (K := K) (i := a.acc.length)
  have hkl := kidx_le (K := K) (q := a.acc.length)
  by_cases h0 : kidx K a.acc.length = 0
  · simp -implicitDefEqProofs (disch:=first|omega|(simp only[LnZ];omega))[wrap64, H.rep.len, hal, h0]
    refine H.mks (α := Bool) (z := false) rfl rfl own_false (Nat.le_refl _) (by decide) (by decide) fun r h6 H => ?_
    have H : HS h [ow r [false]] h6 := H.only
    simp -implicitDefEqProofs (disch:=first|omega|(simp only[LnZ];omega))[wrap64, H.rep.cells, H.rep.one, setC]
    have H := HS.mkAut (a := ⟨[], [false], []⟩) ((H.nil_ow (α := Tr)).sw1.nil_ow (α := Int))
    rw [← hKt, Aut.keep_zero h0] at hk
    exact RetK.keep (hk _ _ H)
  have h0' : ¬ ((accK a K a.acc.length).length = 0) := by omega
  have hZr : ∀ q (hq : q < a.acc.length), Z[q]'(by omega) = knum K q := fun q hq => by rw [← gd_get]; exact hZ q hq
  simp -implicitDefEqProofs (disch:=first|omega|(simp only[LnZ];omega))[wrap64, H.rep.len, hal, h0, R1.len]
  have H := H.sw2.drop.sw2.drop
  have H := H.nil_ow (α := Int)
  refine wp_count a.init.length (fun i e h' => ∃ o1, e = [none, some (.agg #[v1, v2, v3]), some (.agg #[.slice none 0 0, .slice none 0 0, .slice none 0 0]), none, none, some z, some (.agg #[o1, o2, .slice none 0 0]), none, none, none, none, none, some v1, some (.int .i64 a.init.length), some (.int .i64 i), none, none, none] ∧
    HS h [ow o1 (((a.init.take i).filter fun q => K q.toNat).map (kout K)), ow o2 (accK a K a.acc.length), ow z Z] h') ⟨.slice none 0 0, by simp, by simpa using H⟩ ?_
  clear H hJ
  rintro J i _ h6 hJ hi ⟨o1, rfl, H⟩
  have hl1 := List.length_filter_le (fun q : Int => K q.toNat) (a.init.take i)
  simp only [List.length_take] at hl1
  simp -implicitDefEqProofs (disch:=first|omega|(simp only[LnZ];omega))[wrap64]
  refine IteW.mk (fun hlt2 => ?_) (fun hge2 => ?_)
  · have hix : i < a.init.length := by omega
    have hx := ha.im hix
    obtain ⟨q, hq⟩ : ∃ q : Nat, a.init[i] = q := ⟨a.init[i].toNat, by omega⟩
    have hqn : q < a.acc.length := by omega
    have hzq := hZr q hqn
    have hfm := filter_map_take (p := fun q : Int => K q.toNat) (f := kout K) hix
    have hkq := kidx_le (K := K) (q := q)
    cases hkb : K q with
    | true =>
      have hzq2 : Z[q]'(by omega) = (kidx K q : Int) := by rw [hzq]; simp [knum, hkb]
      simp -implicitDefEqProofs (disch:=first|omega|(simp only[LnZ];omega))[wrap64, (R1.on H).I, hq, H.sw2.rep.I, hzq2]
      refine H.app1 (kidx K q : Int) rfl rfl rfl ⟨by omega, by omega⟩ rfl rfl (by simp; omega) (by simp; omega) fun o1' h7 H => ?_
      simp -implicitDefEqProofs (disch:=first|omega|(simp only[LnZ];omega))[wrap64, H.rep.cells, H.rep.one, setC]
      refine hJ _ _ hix ⟨o1', rfl, ?_⟩
      rw [hfm, hq]
      simpa [hkb, kout] using H
    | false =>
      have hzq2 : Z[q]'(by omega) = -1 := by rw [hzq]; simp [knum, hkb]
      simp -implicitDefEqProofs (disch:=first|omega|(simp only[LnZ];omega))[wrap64, (R1.on H).I, hq, H.sw2.rep.I, hzq2]
      refine hJ _ _ hix ⟨o1, rfl, ?_⟩
      rw [hfm, hq]
      simpa [hkb] using H
  have hii : i = a.init.length := by omega
  subst hii
  rw [List.take_length] at H
  have H := H.nil_ow (α := Tr)
  simp -implicitDefEqProofs (disch:=first|omega|(simp only[LnZ];omega))[wrap64, (R3.on H).len]
  refine wp_count a.edges.length (fun i e h' => ∃ o3, e = [none, none, some (.agg #[.slice none 0 0, .slice none 0 0, .slice none 0 0]), none, none, some z, some (.agg #[o1, o2, o3]), none, none, none, none, none, none, none, none, some v3, some (.int .i64 a.edges.length), some (.int .i64 i)] ∧
    HS h [ow o3 (((a.edges.take i).filter fun e => K e.frm.toNat && K e.to.toNat).map (Tr.ren (kout K))), ow o1 ((a.init.filter fun q => K q.toNat).map (kout K)), ow o2 (accK a K a.acc.length), ow z Z] h') ⟨.slice none 0 0, by simp, by simpa using H⟩ ?_
  clear H hJ
  rintro J i _ h7 hJ hi ⟨o3, rfl, H⟩
  have hl2 := List.length_filter_le (fun e : Tr => K e.frm.toNat && K e.to.toNat) (a.edges.take i)
  simp only [List.length_take] at hl2
  simp -implicitDefEqProofs (disch:=first|omega|(simp only[LnZ];omega))[wrap64]
  refine IteW.mk (fun hlt3 => ?_) (fun hge3 => ?_)
  · have hix : i < a.edges.length := by omega
    have hx := ha.t hix
    have hv := R3.okTr hix
    unfold Tr.Ok at hx
    obtain ⟨f, hf⟩ : ∃ f : Nat, a.edges[i].frm = f := ⟨a.edges[i].frm.toNat, by omega⟩
    obtain ⟨t, ht⟩ : ∃ t : Nat, a.edges[i].to = t := ⟨a.edges[i].to.toNat, by omega⟩
    have hfn : f < a.acc.length := by omega
    have htn : t < a.acc.length := by omega
    have hzf := hZr f hfn
    have hzt := hZr t htn
    have hfm := filter_map_take (p := fun e : Tr => K e.frm.toNat && K e.to.toNat) (f := Tr.ren (kout K)) hix
    have hkf := kidx_le (K := K) (q := f)
    have hkt := kidx_le (K := K) (q := t)
    cases hkb : K f with
    | false =>
      have hzf2 : Z[f]'(by omega) = -1 := by rw [hzf]; simp [knum, hkb]
      simp -implicitDefEqProofs (disch:=first|omega|(simp only[LnZ];omega))[wrap64, (R3.on H).xTr, Tr.v, setC, hf, H.sw3.rep.I, hzf2]
      refine hJ _ _ hix ⟨o3, rfl, ?_⟩
      rw [hfm, hf]
      simpa [hkb] using H
    | true =>
      have hzf2 : Z[f]'(by omega) = (kidx K f : Int) := by rw [hzf]; simp [knum, hkb]
      cases hkb2 : K t with
      | false =>
        have hzt2 : Z[t]'(by omega) = -1 := by rw [hzt]; simp [knum, hkb2]
        simp -implicitDefEqProofs (disch:=first|omega|(simp only[LnZ];omega))[wrap64, (R3.on H).xTr, Tr.v, setC, hf, ht, H.sw3.rep.I, hzf2, hzt2]
        refine hJ _ _ hix ⟨o3, rfl, ?_⟩
        rw [hfm, hf, ht]
        simpa [hkb2] using H
      | true =>
        have hzt2 : Z[t]'(by omega) = (kidx K t : Int) := by rw [hzt]; simp [knum, hkb2]
        simp -implicitDefEqProofs (disch:=first|omega|(simp only[LnZ];omega))[wrap64, (R3.on H).xTr, Tr.v, setC, hf, ht, H.sw3.rep.I, hzf2, hzt2]
        refine H.app1 (⟨(kidx K f : Int), a.edges[i].care, a.edges[i].value, (kidx K t : Int)⟩ : Tr) rfl rfl rfl (Tr.ok_iff.2 ⟨⟨by dsimp only; omega, by dsimp only; omega⟩, hv.care, hv.value, ⟨by dsimp only; omega, by dsimp only; omega⟩⟩) rfl rfl (by simp; omega) (by simp; omega) fun o3' h8 H => ?_
        simp -implicitDefEqProofs (disch:=first|omega|(simp only[LnZ];omega))[wrap64, H.rep.cells, H.rep.one, setC]
        refine hJ _ _ hix ⟨o3', rfl, ?_⟩
        rw [hfm, hf, ht]
        have hren : Tr.ren (kout K) a.edges[i] = ⟨(kidx K f : Int), a.edges[i].care, a.edges[i].value, (kidx K t : Int)⟩ := by
          simp [Tr.ren, kout, hf, ht]
        simpa [hkb, hkb2, hren] using H
  have hii : i = a.edges.length := by omega
  subst hii
  rw [List.take_length] at H
  have H := HS.mkAut (a := a.keep K) (by rw [Aut.keep_pos h0]; exact H.sw2.sw2)
  have hok := Aut.keep_ok ha K
  have e1 := hok.n
  have e2 := hok.il
  have e3 := hok.e
  simp -implicitDefEqProofs (disch:=first|omega|(simp only[LnZ];omega))[wrap64]
  refine (c_copyOf H.rep (by omega) (by omega) (by omega)).go ?_
  intro v' h9 H6
  have H := (H6.app H).only
  obtain ⟨z1, z2, z3, rfl, S1, S2, S3⟩ := Rep_Aut.1 H.rep
  simp -implicitDefEqProofs (disch:=first|omega|(simp only[LnZ];omega))[wrap64, S1.one, S2.one, S3.one]
  rw [hKt] at H
  exact RetK.keep (hk _ _ H)
end Go.Proofs.YtglnelcmcimljaaGreat

namespace Go.Proofs.YtglnelcmcimljaaGreat
open Go
set_option maxHeartbeats 4000000 in
theorem c_l13Keep {h : Heap} {v w : Value} {a : Aut} {B : List Bool} (Ra : Rep h v a) (Rw : Rep h w B) (ha : a.Ok) (hB : B.length = a.acc.length) : CallE Tryz.prog fn_spec_l13Keep [v, w] h (fun u h' => HS h [ow u (a.keep fun q => B.getD q false)] h') := by
  obtain ⟨v1, v2, v3, rfl, R1, R2, R3⟩ := Rep_Aut.1 Ra
  have hn := ha.n
  have he := ha.e
  have hil := ha.il
  obtain ⟨K, hK⟩ : ∃ K : Nat → Bool, K = fun q => B.getD q false := ⟨_, rfl⟩
  rw [← hK]
  have hKq : ∀ q (hq : q < a.acc.length), K q = B[q]'(by omega) := by
    intro q hq
    rw [hK]
    simp [show q < B.length by omega]
  refine CallE.gen fun k hk => EN_spec_l13Keep rfl ?_
  simp -implicitDefEqProofs (disch:=first|omega|(simp only[LnZ];omega))[wrap64]
  refine HS.init.bls0 Int fun z h1 H => ?_
  have H := H.nil_ow (α := Bool)
  simp -implicitDefEqProofs (disch:=first|omega|(simp only[LnZ];omega))[wrap64]
  refine wp_count a.acc.length (fun i e h' => ∃ o2 z, e = [none, some w, some (.agg #[v1, v2, v3]), some (.agg #[.slice none 0 0, .slice none 0 0, .slice none 0 0]), some (.agg #[.slice none 0 0, o2, .slice none 0 0]), some z, some (.int .i64 i), none, none, none] ∧
    ∃ Z : List Int, HS h [ow o2 (accK a K i), ow z Z] h' ∧ Z.length = i ∧ ∀ q, q < i → gd Z q = kidx K q) ⟨.slice none 0 0, z, by simp, [], H, rfl, fun q hq => absurd hq (Nat.not_lt_zero q)⟩ ?_
  clear H
  rintro J i _ h5 hJ hi ⟨o2, z, rfl, Z, H, hZl, hZ⟩
  simp -implicitDefEqProofs (disch:=first|omega|(simp only[LnZ];omega))[wrap64, (Rw.on H).len]
  refine IteW.mk (fun hlt => ?_) (fun hge => ?_)
  · have hin : i < a.acc.length := by omega
    have hkl := kidx_le (K := K) (q := i)
    have hal := accK_len (a := a) (K := K) (i := i)
    have hks := hKq i hin
    have H := H.sw1
    simp -implicitDefEqProofs (disch:=first|omega|(simp only[LnZ];omega))[wrap64, H.sw1.rep.len]
    refine H.app1 (kidx K i : Int) rfl (by rfl) (by simp [hal, O.get, Flat.enc, setC]) ⟨by omega, by omega⟩ rfl rfl (by omega) (by omega) fun z' h6 H => ?_
    have hZ1 : ∀ x, x < i + 1 → gd (Z ++ [(kidx K i : Int)]) x = kidx K x := by
      intro x hx
      by_cases e : x = i
      · subst e; simp [gd, ← hZl]
      · have := hZ x (by omega)
        rw [← this]
        simp only [gd, List.getD_eq_getElem?_getD]
        rw [List.getElem?_append_left (by omega)]
    have H := H.sw1
    cases hkb : K i with
    | false =>
      rw [hkb] at hks
      simp -implicitDefEqProofs (disch:=first|omega|(simp only[LnZ];omega))[wrap64, (Rw.on H).B, ← hks]
      refine hJ _ _ hin ⟨o2, z', by simp, _, by rw [accK_succ hin, hkb]; simpa using H, by simp [hZl], hZ1⟩
    | true =>
      rw [hkb] at hks
      simp -implicitDefEqProofs (disch:=first|omega|(simp only[LnZ];omega))[wrap64, (Rw.on H).B, ← hks, (R2.on H).B]
      refine H.app1 a.acc[i] rfl rfl rfl trivial rfl rfl (by omega) (by omega) fun o3 h8 H => ?_
      simp -implicitDefEqProofs (disch:=first|omega|(simp only[LnZ];omega))[wrap64, H.rep.cells, H.rep.one, setC]
      exact hJ _ _ hin ⟨o3, z', rfl, _, by rw [accK_succ hin, hkb]; exact H, by simp [hZl], hZ1⟩
  have hin : i = a.acc.length := by omega
  subst hin
  have hal := accK_len (a := a) (K := K) (i := a.acc.length)
  have hkl := kidx_le (K := K) (q := a.acc.length)
  have hZr : ∀ q (hq : q < a.acc.length), Z[q]'(by omega) = kidx K q := fun q hq => by rw [← gd_get]; exact hZ q hq
  have H := H.nil_ow (α := Int)
  simp -implicitDefEqProofs (disch:=first|omega|(simp only[LnZ];omega))[wrap64]
  refine wp_count a.init.length (fun i e h' => ∃ o1, e = [none, some w, some (.agg #[v1, v2, v3]), some (.agg #[.slice none 0 0, .slice none 0 0, .slice none 0 0]), some (.agg #[o1, o2, .slice none 0 0]), some z, none, some (.int .i64 i), none, none] ∧
    HS h [ow o1 (((a.init.take i).filter fun q => K q.toNat).map (kout K)), ow o2 (accK a K a.acc.length), ow z Z] h') ⟨.slice none 0 0, by simp, by simpa using H⟩ ?_
  clear H hJ
  rintro J i _ h6 hJ hi ⟨o1, rfl, H⟩
  have hl1 := List.length_filter_le (fun q : Int => K q.toNat) (a.init.take i)
  simp only [List.length_take] at hl1
  simp -implicitDefEqProofs (disch:=first|omega|(simp only[LnZ];omega))[wrap64, (R1.on H).len]
  refine IteW.mk (fun hlt2 => ?_) (fun hge2 => ?_)
  · have hix : i < a.init.length := by omega
    have hx := ha.im hix
    obtain ⟨q, hq⟩ : ∃ q : Nat, a.init[i] = q := ⟨a.init[i].toNat, by omega⟩
    have hqn : q < a.acc.length := by omega
    have hzq := hZr q hqn
    have hks := hKq q hqn
    have hfm := filter_map_take (p := fun q : Int => K q.toNat) (f := kout K) hix
    have hkq := kidx_le (K := K) (q := q)
    cases hkb : K q with
    | true =>
      rw [hkb] at hks
      simp -implicitDefEqProofs (disch:=first|omega|(simp only[LnZ];omega))[wrap64, (R1.on H).I, hq, (Rw.on H).B, ← hks, H.sw2.rep.I, hzq]
      refine H.app1 (kidx K q : Int) rfl rfl rfl ⟨by omega, by omega⟩ rfl rfl (by simp; omega) (by simp; omega) fun o1' h7 H => ?_
      simp -implicitDefEqProofs (disch:=first|omega|(simp only[LnZ];omega))[wrap64, H.rep.cells, H.rep.one, setC]
      refine hJ _ _ hix ⟨o1', rfl, ?_⟩
      rw [hfm, hq]
      simpa [hkb, kout] using H
    | false =>
      rw [hkb] at hks
      simp -implicitDefEqProofs (disch:=first|omega|(simp only[LnZ];omega))[wrap64, (R1.on H).I, hq, (Rw.on H).B, ← hks]
      refine hJ _ _ hix ⟨o1, rfl, ?_⟩
      rw [hfm, hq]
      simpa [hkb] using H
  have hii : i = a.init.length := by omega
  subst hii
  rw [List.take_length] at H
  have H := H.nil_ow (α := Tr)
  simp -implicitDefEqProofs (disch:=first|omega|(simp only[LnZ];omega))[wrap64]
  refine wp_count a.edges.length (fun i e h' => ∃ o3, e = [none, some w, some (.agg #[v1, v2, v3]), some (.agg #[.slice none 0 0, .slice none 0 0, .slice none 0 0]), some (.agg #[o1, o2, o3]), some z, none, none, some (.int .i64 i), none] ∧
    HS h [ow o3 (((a.edges.take i).filter fun e => K e.frm.toNat && K e.to.toNat).map (Tr.ren (kout K))), ow o1 ((a.init.filter fun q => K q.toNat).map (kout K)), ow o2 (accK a K a.acc.length), ow z Z] h') ⟨.slice none 0 0, by simp, by simpa using H⟩ ?_
  clear H hJ
  rintro J i _ h7 hJ hi ⟨o3, rfl, H⟩
  have hl2 := List.length_filter_le (fun e : Tr => K e.frm.toNat && K e.to.toNat) (a.edges.take i)
  simp only [List.length_take] at hl2
  simp -implicitDefEqProofs (disch:=first|omega|(simp only[LnZ];omega))[wrap64, (R3.on H).len]
  refine IteW.mk (fun hlt3 => ?_) (fun hge3 => ?_)
  · have hix : i < a.edges.length := by omega
    have hx := ha.t hix
    have hv := R3.okTr hix
    unfold Tr.Ok at hx
    obtain ⟨f, hf⟩ : ∃ f : Nat, a.edges[i].frm = f := ⟨a.edges[i].frm.toNat, by omega⟩
    obtain ⟨t, ht⟩ : ∃ t : Nat, a.edges[i].to = t := ⟨a.edges[i].to.toNat, by omega⟩
    have hfn : f < a.acc.length := by omega
    have htn : t < a.acc.length := by omega
    have hzf := hZr f hfn
    have hzt := hZr t htn
    have hksf := hKq f hfn
    have hkst := hKq t htn
    have hfm := filter_map_take (p := fun e : Tr => K e.frm.toNat && K e.to.toNat) (f := Tr.ren (kout K)) hix
    have hkf := kidx_le (K := K) (q := f)
    have hkt := kidx_le (K := K) (q := t)
    cases hkb : K f with
    | false =>
      rw [hkb] at hksf
      simp -implicitDefEqProofs (disch:=first|omega|(simp only[LnZ];omega))[wrap64, (R3.on H).xTr, Tr.v, setC, hf, (Rw.on H).B, ← hksf]
      refine hJ _ _ hix ⟨o3, by simp, ?_⟩
      rw [hfm, hf]
      simpa [hkb] using H
    | true =>
      rw [hkb] at hksf
      cases hkb2 : K t with
      | false =>
        rw [hkb2] at hkst
        simp -implicitDefEqProofs (disch:=first|omega|(simp only[LnZ];omega))[wrap64, (R3.on H).xTr, Tr.v, setC, hf, ht, (Rw.on H).B, ← hksf, ← hkst]
        refine hJ _ _ hix ⟨o3, by simp, ?_⟩
        rw [hfm, hf, ht]
        simpa [hkb2] using H
      | true =>
        rw [hkb2] at hkst
        simp -implicitDefEqProofs (disch:=first|omega|(simp only[LnZ];omega))[wrap64, (R3.on H).xTr, Tr.v, setC, hf, ht, (Rw.on H).B, ← hksf, ← hkst, H.sw3.rep.I, hzf, hzt]
        refine H.app1 (⟨(kidx K f : Int), a.edges[i].care, a.edges[i].value, (kidx K t : Int)⟩ : Tr) rfl rfl rfl (Tr.ok_iff.2 ⟨⟨by dsimp only; omega, by dsimp only; omega⟩, hv.care, hv.value, ⟨by dsimp only; omega, by dsimp only; omega⟩⟩) rfl rfl (by simp; omega) (by simp; omega) fun o3' h8 H => ?_
        simp -implicitDefEqProofs (disch:=first|omega|(simp only[LnZ];omega))[wrap64, H.rep.cells, H.rep.one, setC]
        refine hJ _ _ hix ⟨o3', by simp, ?_⟩
        rw [hfm, hf, ht]
        have hren : Tr.ren (kout K) a.edges[i] = ⟨(kidx K f : Int), a.edges[i].care, a.edges[i].value, (kidx K t : Int)⟩ := by
          simp [Tr.ren, kout, hf, ht]
        simpa [hkb, hkb2, hren] using H
  have hii : i = a.edges.length := by omega
  subst hii
  rw [List.take_length] at H
  by_cases h0 : kidx K a.acc.length = 0
  · have hno : ∀ q, q < a.acc.length → K q = false := by
      intro q hq
      cases hkb : K q with
      | false => rfl
      | true =>
        have h1 := kidx_succ (K := K) (q := q)
        rw [if_pos hkb] at h1
        have := kidx_mono (K := K) (show q + 1 ≤ a.acc.length by omega)
        omega
    have f1 : (a.init.filter fun q => K q.toNat) = [] := by
      rw [List.filter_eq_nil_iff]
      intro q hq
      have := incr_mem ha.i q hq
      rw [hno _ (by omega)]; simp
    have f2 : (a.edges.filter fun e => K e.frm.toNat && K e.to.toNat) = [] := by
      rw [List.filter_eq_nil_iff]
      intro e he
      have := ha.2.2.2 e he
      unfold Tr.Ok at this
      rw [hno _ (by omega)]; simp
    rw [f1, f2] at H
    have H1 := H.sw2
    simp -implicitDefEqProofs (disch:=first|omega|(simp only[LnZ];omega))[wrap64, H1.rep.len, hal, h0]
    refine H.bls (α := Bool) [false] (by rfl) rfl (fun _ _ => trivial) (by decide) fun r h8 H => ?_
    have q1 := H.sw2.rep.one
    have q2 := H.sw1.rep.one
    simp -implicitDefEqProofs (disch:=first|omega|(simp only[LnZ];omega))[wrap64, H.rep.cells, H.rep.one, setC, q1, q2, H.sw2.rep.cells, H.sw1.rep.cells]
    have H := HS.mkAut (a := ⟨[], [false], []⟩) H.sw2
    rw [Aut.keep_zero h0] at hk
    exact RetK.keep (hk _ _ H.only)
  · have H1 := H.sw2
    simp -implicitDefEqProofs (disch:=first|omega|(simp only[LnZ];omega))[wrap64, H1.rep.len, hal, h0, H.rep.one, H.sw1.rep.one, H.sw2.rep.one]
    have H := HS.mkAut (a := a.keep K) (by rw [Aut.keep_pos h0]; exact H.sw2.sw2)
    exact RetK.keep (hk _ _ H.only)
set_option maxHeartbeats 4000000 in
theorem c_l13Trim {h : Heap} {v : Value} {a : Aut} (Ra : Rep h v a) (ha : a.Ok) : CallE Tryz.prog fn_spec_l13Trim [v] h (fun u h' => HS h [ow u a.trim] h') := by
  obtain ⟨v1, v2, v3, rfl, R1, R2, R3⟩ := Rep_Aut.1 Ra
  have hn := ha.n
  refine CallE.gen fun k hk => EN_spec_l13Trim rfl ?_
  simp -implicitDefEqProofs (disch:=first|omega|(simp only[LnZ];omega))[wrap64]
  refine (c_spec_LiveStates Ra ha).go ?_
  rintro l h1 ⟨L, H, hLl, hL⟩
  simp -implicitDefEqProofs (disch:=first|omega|(simp only[LnZ];omega))[wrap64]
  refine (c_l7Next (Ra.on H) ha).go ?_
  rintro w h2 ⟨G, H2, hG, hGl, hrow⟩
  have H := H2.app H
  simp -implicitDefEqProofs (disch:=first|omega|(simp only[LnZ];omega))[wrap64]
  have hS : ∀ z ∈ a.init, 0 ≤ z ∧ z < (G.length : Int) := by
    intro z hz
    have := incr_mem ha.i z hz
    omega
  refine (c_l7Reach H.rep (R1.on H) hG hS (by omega)).go ?_
  rintro qv h3 ⟨Q, H3, hQl, hQn, hQ⟩
  have H := (H3.app H).sw1.drop
  simp -implicitDefEqProofs (disch:=first|omega|(simp only[LnZ];omega))[wrap64, H.sw1.rep.len]
  refine H.mks (α := Bool) (z := false) rfl rfl own_false (Nat.le_refl _) (by omega) (by omega) fun b h4 H => ?_
  simp -implicitDefEqProofs (disch:=first|omega|(simp only[LnZ];omega))[wrap64]
  refine wp_count Q.length (fun i e h' => e = [none, some (.agg #[v1, v2, v3]), some (.agg #[.slice none 0 0, .slice none 0 0, .slice none 0 0]), some l, some qv, some b, some (.int .i64 i)] ∧
    ∃ B : List Bool, HS h [ow b B, ow qv Q, ow l L] h' ∧ B.length = a.acc.length ∧ ∀ x, tru B x ↔ (x : Int) ∈ Q.take i ∧ tru L x) ⟨by simp, _, H, by simp [hLl], fun x => by simp [tru_replicate]⟩ ?_
  clear H
  rintro J i _ h5 hJ hi ⟨rfl, B, H, hBl, hB⟩
  simp -implicitDefEqProofs (disch:=first|omega|(simp only[LnZ];omega))[wrap64, H.sw1.rep.len]
  refine IteW.mk (fun hlt => ?_) (fun hge => ?_)
  · have hix : i < Q.length := by omega
    obtain ⟨hz0, hz1⟩ := hQn _ (List.getElem_mem hix)
    obtain ⟨z, hz⟩ : ∃ z : Nat, Q[i] = z := ⟨Q[i].toNat, by omega⟩
    have hzn : z < a.acc.length := by omega
    simp -implicitDefEqProofs (disch:=first|omega|(simp only[LnZ];omega))[wrap64, H.sw1.rep.I, hz, H.sw2.rep.B, H.rep.B]
    refine H.storeF (L[z]'(by omega)) (i := z) (by omega) rfl rfl trivial rfl fun h6 H => ?_
    simp -implicitDefEqProofs (disch:=first|omega|(simp only[LnZ];omega))[wrap64]
    refine hJ _ _ hix ⟨rfl, _, H, by simpa using hBl, fun x => ?_⟩
    have h1 : tru (B.set z (L[z]'(by omega))) x ↔ if x = z then L[z]'(by omega) = true else tru B x := by
      simp only [tru, List.getD_eq_getElem?_getD, List.getElem?_set]
      by_cases e : z = x
      · subst e; simp [show z < B.length by omega]
      · simp [e, Ne.symm e]
    rw [h1, take_mem_succ hix, hz]
    split
    · rename_i e
      subst e
      rw [tru_get (by omega)]
      simp
    · rename_i e
      rw [hB]
      constructor
      · rintro ⟨h2, h3⟩; exact ⟨.inl h2, h3⟩
      · rintro ⟨h2 | h2, h3⟩
        · exact ⟨h2, h3⟩
        · exact absurd (by omega) e
  have hii : i = Q.length := by omega
  subst hii
  rw [List.take_length] at hB
  have hKt : (a.keep fun q => B.getD q false) = a.trim := by
    refine Aut.trim_eq ha fun q hq => ?_
    have h1 := hB q
    have h2 := hL q
    simp only [tru] at h1 h2
    rw [h1, h2, hQ]
    simp [Aut.Reach, hq]
  simp -implicitDefEqProofs (disch:=first|omega|(simp only[LnZ];omega))[wrap64]
  refine (c_l13Keep (Ra.on H) H.rep ha hBl).go ?_
  intro u h6 H6
  have H := (H6.app H).only
  obtain ⟨z1, z2, z3, rfl, S1, S2, S3⟩ := Rep_Aut.1 H.rep
  simp -implicitDefEqProofs (disch:=first|omega|(simp only[LnZ];omega))[wrap64, S1.one, S2.one, S3.one]
  rw [hKt] at H
  exact RetK.keep (hk _ _ H)
def okR (f : Aut → Aut) (h : Heap) (a : Aut) (u : Value) (h' : Heap) : Prop := ∃ v, u = .tuple #[v, .bool (decide a.Ok)] ∧ HS h [ow v (if a.Ok then f a else Aut.empty)] h'
theorem okR.no {f : Aut → Aut} {h h' : Heap} {a : Aut} (hn : ¬ a.Ok) (H : HS h [] h') : okR f h a (.tuple #[.agg #[.slice none 0 0, .slice none 0 0, .slice none 0 0], .bool false]) h' :=
  ⟨_, by rw [decide_eq_false hn], by rw [if_neg hn]; exact empty_ow H⟩
theorem okR.yes {f : Aut → Aut} {h h' : Heap} {a : Aut} {v : Value} (hn : a.Ok) (H : HS h [ow v (f a)] h') : okR f h a (.tuple #[v, .bool true]) h' :=
  ⟨_, by rw [decide_eq_true hn], by rw [if_pos hn]; exact H⟩
end Go.Proofs.YtglnelcmcimljaaGreat

namespace Go.Proofs.YtglnelcmcimljaaGreat
open Go
end Go.Proofs.YtglnelcmcimljaaGreat

namespace Go.Proofs.YtglnelcmcimljaaGreat
open Go
theorem c_IndexFunc_int {h : Heap} {a fv : Value} {x : List Int} (Ra : Rep h a x) {f : FuncId} {c1 c2 : List Value} (hf : fnOf fv = some (f, c1, c2)) (p : Int → Bool)
    (hp : ∀ h1, h.le h1 → ∀ (i : Nat) (hi : i < x.length) (u : Value), Rep h1 u x[i] → CallE Tryz.prog f (c1 ++ u :: c2) h1 (fun v h' => h1.le h' ∧ v = .bool (p x[i]))) :
    CallE Tryz.prog fn_slices_IndexFunc_S_int_int [a, fv] h (fun v h' => h.le h' ∧ v = .int .i64 (match x.findIdx? p with | some i => (i : Int) | none => -1)) := by
  refine CallE.gen fun k hk => EN_slices_IndexFunc_S_int_int rfl ?_
  have hL := Ra.lt
  simp -implicitDefEqProofs (disch:=first|omega|(simp only[LnZ];omega))[wrap64, Ra.len]
  refine wp_count x.length (fun i e h' => e = [some a, some fv, none, none, some (.int .i64 x.length), some (.int .i64 i)] ∧ h.le h' ∧ ∀ (j : Nat) (hj : j < x.length), j < i → p x[j] = false) ⟨rfl, Heap.le.refl h, fun j _ hj => absurd hj (Nat.not_lt_zero j)⟩ ?_
  rintro J i _ h1 hJ hi ⟨rfl, hl, hn⟩
  simp -implicitDefEqProofs (disch:=first|omega|(simp only[LnZ];omega))[wrap64]
  refine IteW.mk (fun hlt => ?_) (fun hge => ?_)
  · have hlx : i < x.length := by omega
    obtain ⟨u, hu, Ru⟩ := (Ra.le hl).ld hlx
    change hload _ (some (elp 1 a i)) none = some u at hu
    simp -implicitDefEqProofs (disch:=first|omega|(simp only[LnZ];omega))[wrap64, (Ra.le hl).X (n := 1) rfl, hu, hf]
    refine (hp h1 hl i hlx u Ru).go ?_
    rintro _ h2 ⟨hl2, rfl⟩
    simp -implicitDefEqProofs (disch:=first|omega|(simp only[LnZ];omega))[wrap64]
    refine IteW.mk (fun hq => ?_) (fun hq => ?_)
    · simp -implicitDefEqProofs (disch:=first|omega|(simp only[LnZ];omega))[wrap64]
      refine RetK.keep (hk _ _ ⟨hl.trans hl2, ?_⟩)
      have h3 : x.findIdx? p = some i := by
        rw [List.findIdx?_eq_some_iff_getElem]
        exact ⟨hlx, hq, fun j hj => by rw [hn j (by omega) hj]; simp⟩
      rw [h3]
    · simp -implicitDefEqProofs (disch:=first|omega|(simp only[LnZ];omega))[wrap64]
      refine hJ _ _ hlx ⟨rfl, hl.trans hl2, fun j hj hji => ?_⟩
      by_cases hji2 : j = i
      · subst hji2; simpa using hq
      · exact hn j hj (by omega)
  · simp -implicitDefEqProofs (disch:=first|omega|(simp only[LnZ];omega))[wrap64]
    refine RetK.keep (hk _ _ ⟨hl, ?_⟩)
    have h3 : x.findIdx? p = none := by
      rw [List.findIdx?_eq_none_iff]
      intro y hy
      obtain ⟨j, hj, rfl⟩ := List.mem_iff_getElem.1 hy
      exact hn j hj (by omega)
    rw [h3]
theorem c_ContainsFunc_int {h : Heap} {a fv : Value} {x : List Int} (Ra : Rep h a x) {f : FuncId} {c1 c2 : List Value} (hf : fnOf fv = some (f, c1, c2)) (p : Int → Bool)
    (hp : ∀ h1, h.le h1 → ∀ (i : Nat) (hi : i < x.length) (u : Value), Rep h1 u x[i] → CallE Tryz.prog f (c1 ++ u :: c2) h1 (fun v h' => h1.le h' ∧ v = .bool (p x[i]))) :
    CallE Tryz.prog fn_slices_ContainsFunc_S_int_int [a, fv] h (fun v h' => h.le h' ∧ v = .bool (x.any p)) := by
  refine CallE.gen fun k hk => EN_slices_ContainsFunc_S_int_int rfl ?_
  simp -implicitDefEqProofs (disch:=first|omega|(simp only[LnZ];omega))[wrap64]
  refine (c_IndexFunc_int Ra hf p hp).go ?_
  rintro _ h1 ⟨hl, rfl⟩
  simp -implicitDefEqProofs (disch:=first|omega|(simp only[LnZ];omega))[wrap64]
  refine RetK.keep (hk _ _ ⟨hl, ?_⟩)
  congr 1
  rw [← List.findIdx?_isSome]
  cases x.findIdx? p <;> simp
end Go.Proofs.YtglnelcmcimljaaGreat

namespace Go.Proofs.YtglnelcmcimljaaGreat
open Go
theorem c_takes {h : Heap} {v : Value} {t : Tr} (Rt : Rep h v t) {n : Int} : CallE Tryz.prog fn_impl_Transition_takes [v, .int .i64 n] h (fun u h' => h' = h ∧ u = .bool (t.on n)) := by
  rw [(Rep_Tr.1 Rt).1]
  refine CallE.gen fun k hk => EN_impl_Transition_takes rfl ?_
  simp -implicitDefEqProofs (disch:=first|omega|(simp only[LnZ];omega))[wrap64, Tr.v]
  exact RetK.keep (hk _ _ ⟨rfl, rfl⟩)
theorem c_l7On {h : Heap} {v : Value} {t : Tr} (Rt : Rep h v t) {n : Int} : CallE Tryz.prog fn_spec_l7On [v, .int .i64 n] h (fun u h' => h' = h ∧ u = .bool (t.on n)) := by
  rw [(Rep_Tr.1 Rt).1]
  refine CallE.gen fun k hk => EN_spec_l7On rfl ?_
  simp -implicitDefEqProofs (disch:=first|omega|(simp only[LnZ];omega))[wrap64, Tr.v]
  exact RetK.keep (hk _ _ ⟨rfl, rfl⟩)
end Go.Proofs.YtglnelcmcimljaaGreat

namespace Go.Proofs.YtglnelcmcimljaaGreat
open Go
theorem c_letters_1 {h : Heap} {n : Int} : CallE Tryz.prog fn_impl_letters_1 [.int .i64 n] h (fun u h' => h' = h ∧ u = .bool (!decide (0 ≤ n ∧ n ≤ 7))) := by
  refine CallE.gen fun k hk => EN_impl_letters_1 rfl ?_
  simp -implicitDefEqProofs (disch:=first|omega|(simp only[LnZ];omega))[wrap64]
  refine c_in.go ?_
  rintro _ _ ⟨rfl, rfl⟩
  simp -implicitDefEqProofs (disch:=first|omega|(simp only[LnZ];omega))[wrap64]
  exact RetK.keep (hk _ _ ⟨rfl, by simp⟩)
theorem c_letters {h : Heap} {w : Value} {W : List Int} (Rw : Rep h w W) : CallE Tryz.prog fn_impl_letters [w] h (fun u h' => h.le h' ∧ u = .bool (decide (∀ x ∈ W, 0 ≤ x ∧ x ≤ 7))) := by
  refine CallE.gen fun k hk => EN_impl_letters rfl ?_
  simp -implicitDefEqProofs (disch:=first|omega|(simp only[LnZ];omega))[wrap64]
  refine (c_ContainsFunc_int Rw (c1 := []) (c2 := []) (f := fn_impl_letters_1) rfl (fun n => !decide (0 ≤ n ∧ n ≤ 7)) ?_).go ?_
  · intro h3 hl j hj u Ru
    obtain ⟨rfl, _⟩ := Rep_int.1 Ru
    exact (c_letters_1 (n := W[j])).to fun _ _ ⟨h4, h5⟩ => ⟨h4 ▸ Heap.le.refl _, h5⟩
  · rintro _ h3 ⟨hl, rfl⟩
    simp -implicitDefEqProofs (disch:=first|omega|(simp only[LnZ];omega))[wrap64]
    refine RetK.keep (hk _ _ ⟨hl, ?_⟩)
    congr 1
    rw [Bool.eq_iff_iff]
    simp
end Go.Proofs.YtglnelcmcimljaaGreat

namespace Go.Proofs.YtglnelcmcimljaaGreat
open Go
section
variable {P : Program} {k : Env → Heap → Prop} {e : Env} {g h : Heap} {Γ : List HP} {v : Value} {α : Type}
theorem HS.appZ [Ty α] [Flat α] {l : List α} (H : HS g (ow v l :: Γ) h) {z : α} {n : Nat} {bytes esz : Nat} {zero zero' : List Value} {a x : O} {dst : Nat} {kd : IntKind} (ha : a.get e = some v) (hx : x.get e = some (.int kd (n : Int))) (hzz : zero' = Flat.enc z) (hok : Flat.ok z) (hsz : esz = Ty.sz α) (hz : zero.length = Ty.sz α)
    (hb : (l.length + n) * bytes ≤ 140737488355328) (hn : l.length + n < 2 ^ 62)
    (K : ∀ v' h', HS g (ow v' (l ++ List.replicate n z) :: Γ) h' → k (eset e dst (some v')) h') : (A.ex (some dst) (.app bytes esz zero (.o a) (.z x bytes zero'))).wp P k e h := by
  obtain ⟨g', r, rfl, d, O, H⟩ := H
  subst hsz hzz
  have hall : ∀ x ∈ List.replicate n z, Flat.ok x := fun x hx => by rw [List.eq_of_mem_replicate hx]; exact hok
  have henc : ∀ m, reps m (Flat.enc z) = encL (List.replicate m z) := fun m => by
    simp [reps, encL]
  have hle : n * bytes ≤ (l.length + n) * bytes := Nat.mul_le_mul_right _ (by omega)
  refine a_app (rs := Heap.nil) (l2 := List.replicate n z) O ha ?_ (encL_len hall) (ownL_enc hall) d Dj_nil (by simp) rfl hz (by simpa using hb) (by simpa using hn) fun v' r' d' O' => K _ _ ⟨g', r', rfl, d', O', H⟩
  simp only [AO.src, hx]
  rw [if_pos ⟨by omega, by omega, by simp; omega, flat_len hok⟩]
  simp [henc]
theorem bls_two [Ty α] {u1 u2 : Value} {y1 y2 : α} (R1 : Rep h u1 y1) (R2 : Rep h u2 y2) {esz : Nat} {zero : List Value} {parts : List (Nat × Nat × O)} {dst : Nat} (hf : fillP e (reps 2 zero) parts = some (u1.cells.toList ++ u2.cells.toList))
    (K : ∀ v' h', h.le h' → Rep h' v' [y1, y2] → k (eset e dst (some v')) h') : (A.ex (some dst) (.bls esz 2 zero parts)).wp P k e h := by
  obtain ⟨c1, rfl, r1⟩ := R1
  obtain ⟨c2, rfl, r2⟩ := R2
  rw [rep_cells r1, rep_cells r2] at hf
  have l1 := Ty.len r1
  have l2 := Ty.len r2
  refine ⟨_, hf, fun b el hb => Fgt.keep ?_⟩
  rw [set_new hb]
  have hd : Dj h (Heap.one b (.cells (c1 ++ c2).toArray el (0, 0))) := Dj_one.2 hb
  have hbb : (h.add (Heap.one b (.cells (c1 ++ c2).toArray el (0, 0)))) b = some (.cells (c1 ++ c2).toArray el (0, 0)) := by simp [Heap.add, Heap.one, hb]
  refine K _ _ (le_add hd) (Rep_list.2 ⟨some ⟨b, 0, none⟩, 2, rfl, ⟨Nat.le_refl _, by simp⟩, trivial, fun i hi => ?_⟩)
  refine ⟨b, 0, ((c1 ++ c2).drop (0 + i * Ty.sz α)).take (Ty.sz α), rfl, ?_, ?_⟩
  · rw [hcells_mk hbb (by simp at hi ⊢; rcases (by omega : i = 0 ∨ i = 1) with rfl | rfl <;> simp <;> omega)]
  · simp only [List.length_cons, List.length_nil] at hi
    rcases (by omega : i = 0 ∨ i = 1) with rfl | rfl
    · have e1 : ((c1 ++ c2).drop (0 + 0 * Ty.sz α)).take (Ty.sz α) = c1 := by simp [← l1]
      rw [e1]
      exact Ty.mono (le_add hd) r1
    · have e1 : ((c1 ++ c2).drop (0 + 1 * Ty.sz α)).take (Ty.sz α) = c2 := by
        rw [show 0 + 1 * Ty.sz α = c1.length by omega, List.drop_left, List.take_of_length_le (by omega)]
      rw [e1]
      exact Ty.mono (le_add hd) r2
end
end Go.Proofs.YtglnelcmcimljaaGreat

namespace Go.Proofs.YtglnelcmcimljaaGreat
open Go
def Las.Ok (l : Las) : Prop := ((∀ x ∈ l.stem, 0 ≤ x ∧ x ≤ 7) ∧ ∀ x ∈ l.loop, 0 ≤ x ∧ x ≤ 7) ∧ l.stem.length ≤ 80 ∧ 1 ≤ l.loop.length ∧ l.loop.length ≤ 80
instance instDecLasOk (l : Las) : Decidable l.Ok := by unfold Las.Ok; infer_instance
def Las.size (l : Las) : Nat := l.stem.length + l.loop.length
def Las.all (l : Las) : List Int := l.stem ++ l.loop
def Las.nx (l : Las) (i : Nat) : Nat := if i + 1 = l.size then l.stem.length else i + 1
def Las.pos (l : Las) : Nat → Nat
  | 0 => 0
  | t + 1 => l.nx (l.pos t)
def Las.word (l : Las) (t : Nat) : Int := l.all.getD (l.pos t) 0
theorem Las.nx_lt {l : Las} (h : 1 ≤ l.loop.length) {i : Nat} (hi : i < l.size) : l.nx i < l.size := by
  unfold Las.nx Las.size at *
  split <;> omega
theorem Las.pos_lt {l : Las} (h : 1 ≤ l.loop.length) : ∀ t, l.pos t < l.size
  | 0 => by unfold Las.pos Las.size; omega
  | t + 1 => Las.nx_lt h (Las.pos_lt h t)
theorem Las.all_len {l : Las} : l.all.length = l.size := by simp [Las.all, Las.size]
theorem Las.word_ok {l : Las} (h : l.Ok) (t : Nat) : 0 ≤ l.word t ∧ l.word t ≤ 7 := by
  have h1 := Las.pos_lt h.2.2.1 t
  unfold Las.word
  rw [List.getD_eq_getElem?_getD, List.getElem?_eq_getElem (by rw [Las.all_len]; exact h1)]
  have hm : l.all[l.pos t]'(by rw [Las.all_len]; exact h1) ∈ l.all := List.getElem_mem _
  simp only [Option.getD_some]
  unfold Las.all at hm
  rcases List.mem_append.1 hm with hm | hm
  · exact h.1.1 _ hm
  · exact h.1.2 _ hm
def StE (E : List Tr) (w : Nat → Int) (t p q : Nat) : Prop := ∃ e ∈ E, e.frm = p ∧ e.to = q ∧ e.on (w t) = true
inductive FR (E : List Tr) (w : Nat → Int) : Nat → Nat → Nat → Nat → Prop
  | refl (t p : Nat) : FR E w t p t p
  | step {t p q u r : Nat} (h : StE E w t p q) (k : FR E w (t + 1) q u r) : FR E w t p u r
section
variable {E : List Tr} {w : Nat → Int} {A : List Bool} {t p u q v r : Nat}
theorem FR.trans (h : FR E w t p u q) (k : FR E w u q v r) : FR E w t p v r := by
  induction h with
  | refl => exact k
  | step h _ ih => exact .step h (ih k)
theorem FR.le (h : FR E w t p u q) : t ≤ u := by
  induction h with
  | refl => exact Nat.le_refl _
  | step h _ ih => omega
theorem FR.one (h : StE E w t p q) : FR E w t p (t + 1) q := .step h (.refl _ _)
end
def Goes (A : List Bool) (E : List Tr) (w : Nat → Int) (C : Nat → Nat → Prop) : Prop := ∀ t p, C t p → ∃ u q, t < u ∧ FR E w t p u q ∧ tru A q ∧ C u q
def Run (A : List Bool) (E : List Tr) (w : Nat → Int) (t p : Nat) : Prop := ∃ C, C t p ∧ Goes A E w C
def Aut.Lang (a : Aut) (w : Nat → Int) : Prop := ∃ s : Nat, (s : Int) ∈ a.init ∧ Run a.acc a.edges w 0 s
theorem Run.before {A : List Bool} {E : List Tr} {w : Nat → Int} {t p u q : Nat} (h : FR E w t p u q) (k : Run A E w u q) : Run A E w t p := by
  obtain ⟨C, hC, hG⟩ := k
  refine ⟨fun t' p' => (t' = t ∧ p' = p) ∨ C t' p', .inl ⟨rfl, rfl⟩, ?_⟩
  rintro t' p' (⟨rfl, rfl⟩ | h1)
  · obtain ⟨v, r, h2, h3, h4, h5⟩ := hG u q hC
    have := h.le
    exact ⟨v, r, by omega, h.trans h3, h4, .inr h5⟩
  · obtain ⟨v, r, h2, h3, h4, h5⟩ := hG t' p' h1
    exact ⟨v, r, h2, h3, h4, .inr h5⟩
theorem Run.sim {A A' : List Bool} {E E' : List Tr} {w : Nat → Int} (M : Nat → Nat → Prop)
    (hs : ∀ t p q p', M p p' → StE E w t p q → Run A E w (t + 1) q → ∃ q', StE E' w t p' q' ∧ M q q') (ha : ∀ p p', M p p' → tru A p → tru A' p') {t p p' : Nat} (h : Run A E w t p) (hm : M p p') : Run A' E' w t p' := by
  have fr : ∀ {t p u r : Nat}, FR E w t p u r → Run A E w u r → ∀ p', M p p' → ∃ r', FR E' w t p' u r' ∧ M r r' := by
    intro t p u r h
    induction h with
    | refl => intro _ p' hm; exact ⟨p', .refl _ _, hm⟩
    | step h k ih =>
      intro hr p' hm
      obtain ⟨q', h1, h2⟩ := hs _ _ _ _ hm h (hr.before k)
      obtain ⟨r', h3, h4⟩ := ih hr q' h2
      exact ⟨r', .step h1 h3, h4⟩
  obtain ⟨C, hC, hG⟩ := h
  refine ⟨fun t p' => ∃ p, C t p ∧ M p p', ⟨p, hC, hm⟩, ?_⟩
  rintro t p' ⟨p, hC, hm⟩
  obtain ⟨u, q, h2, h3, h4, h5⟩ := hG t p hC
  obtain ⟨q', h6, h7⟩ := fr h3 ⟨C, h5, hG⟩ p' hm
  exact ⟨u, q', h2, h6, ha _ _ h7 h4, q, h5, h7⟩
theorem fin_cyc {T : Nat → Nat → Prop} (tr : ∀ x y z, T x y → T y z → T x z) (N : Nat) : ∀ (m : Nat) (D : Nat → Prop), (((List.range N).filter fun x => @decide (D x) (Classical.propDecidable _)).length ≤ m) → (∀ x, D x → x < N) → (∃ x, D x) → (∀ x, D x → ∃ y, D y ∧ T x y) → ∃ x, D x ∧ T x x := by
  intro m
  induction m with
  | zero =>
    rintro D hm hN ⟨x, hx⟩ _
    exfalso
    have : x ∈ (List.range N).filter fun x => @decide (D x) (Classical.propDecidable _) := by
      rw [List.mem_filter]
      exact ⟨List.mem_range.2 (hN x hx), by simpa using hx⟩
    have := List.length_pos_of_mem this
    omega
  | succ m ih =>
    rintro D hm hN ⟨x, hx⟩ hT
    by_cases hxx : T x x
    · exact ⟨x, hx, hxx⟩
    obtain ⟨y, hy, hxy⟩ := hT x hx
    obtain ⟨z, ⟨hz, _⟩, hzz⟩ := ih (fun y => D y ∧ T x y) (by
      have := filter_lt_of (p := fun y => @decide (D y ∧ T x y) (Classical.propDecidable _)) (q := fun y => @decide (D y) (Classical.propDecidable _)) (fun y hy => by
        simp only [decide_eq_true_eq] at hy ⊢
        exact hy.1) (l := List.range N) ⟨x, List.mem_range.2 (hN x hx), by simp [hxx], by simpa using hx⟩
      omega) (fun y hy => hN y hy.1) ⟨y, hy, hxy⟩ (fun z hz => by
        obtain ⟨v, h1, h2⟩ := hT z hz.1
        exact ⟨v, ⟨h1, tr _ _ _ hz.2 h2⟩, h2⟩)
    exact ⟨z, hz, hzz⟩
def Rch1 (E : Nat → Nat → Prop) (x y : Nat) : Prop := ∃ z, E x z ∧ Rch E z y
theorem Rch1.trans {E : Nat → Nat → Prop} {x y z : Nat} (h : Rch1 E x y) (k : Rch1 E y z) : Rch1 E x z := by
  obtain ⟨u, h1, h2⟩ := h
  obtain ⟨v, h3, h4⟩ := k
  exact ⟨u, h1, h2.trans (.step h3 h4)⟩
theorem Rch1.rch {E : Nat → Nat → Prop} {x y : Nat} (h : Rch1 E x y) : Rch E x y := by
  obtain ⟨u, h1, h2⟩ := h
  exact .step h1 h2
theorem fin_rch {E : Nat → Nat → Prop} {N : Nat} {D : Nat → Prop} (hN : ∀ x, D x → x < N) (h0 : ∃ x, D x) (hT : ∀ x, D x → ∃ y, D y ∧ Rch1 E x y) : ∃ x, D x ∧ Cyc E x :=
  fin_cyc (T := Rch1 E) (fun _ _ _ h k => Rch1.trans h k) N _ D (Nat.le_refl _) hN h0 hT
theorem at_div {i n f : Nat} (h : f < n) : (i * n + f) / n = i := by
  rw [Nat.mul_comm, Nat.mul_add_div (by omega), Nat.div_eq_of_lt h, Nat.add_zero]
theorem at_mod {i n f : Nat} (h : f < n) : (i * n + f) % n = f := by
  rw [Nat.mul_comm, Nat.mul_add_mod, Nat.mod_eq_of_lt h]
theorem at_inj {i j n f g : Nat} (hf : f < n) (hg : g < n) (h : i * n + f = j * n + g) : i = j ∧ f = g := by
  have h1 := at_div (i := i) hf
  have h2 := at_div (i := j) hg
  have h3 := at_mod (i := i) hf
  have h4 := at_mod (i := j) hg
  rw [h] at h1 h3
  exact ⟨by rw [← h1, h2], by rw [← h3, h4]⟩
theorem at_lt {i n f s : Nat} (hf : f < n) (hi : i < s) : i * n + f < s * n := by
  have : (i + 1) * n ≤ s * n := Nat.mul_le_mul_right n hi
  rw [Nat.add_mul] at this
  omega
def Aut.PE (a : Aut) (l : Las) (x y : Nat) : Prop := ∃ e ∈ a.edges, ∃ i, i < l.size ∧ x = i * a.acc.length + e.frm.toNat ∧ y = l.nx i * a.acc.length + e.to.toNat ∧ e.on (l.all.getD i 0) = true
def Aut.Acc (a : Aut) (l : Las) : Prop := ∃ s : Nat, (s : Int) ∈ a.init ∧ ∃ x, Rch (a.PE l) s x ∧ Cyc (a.PE l) x ∧ tru a.acc (x % a.acc.length)
section
variable {a : Aut} {l : Las}
theorem Aut.Ok.tr (ha : a.Ok) {e : Tr} (he : e ∈ a.edges) : ∃ f g : Nat, e.frm = f ∧ e.to = g ∧ f < a.acc.length ∧ g < a.acc.length := by
  have := ha.2.2.2 e he
  unfold Tr.Ok at this
  exact ⟨e.frm.toNat, e.to.toNat, by omega, by omega, by omega, by omega⟩
theorem Aut.Ok.st (ha : a.Ok) {w : Nat → Int} {t p q : Nat} (h : StE a.edges w t p q) : p < a.acc.length ∧ q < a.acc.length := by
  obtain ⟨e, he, h1, h2, _⟩ := h
  obtain ⟨f, g, h3, h4, h5, h6⟩ := ha.tr he
  exact ⟨by omega, by omega⟩
theorem Aut.Ok.ini (ha : a.Ok) {s : Nat} (hs : (s : Int) ∈ a.init) : s < a.acc.length := by
  have := incr_mem ha.i _ hs
  omega
theorem PE.lift (ha : a.Ok) (hl : 1 ≤ l.loop.length) {x y : Nat} (h : Rch (a.PE l) x y) : ∀ t p, p < a.acc.length → x = l.pos t * a.acc.length + p → ∃ u q, t ≤ u ∧ q < a.acc.length ∧ y = l.pos u * a.acc.length + q ∧ FR a.edges l.word t p u q := by
  induction h with
  | refl => intro t p hp hx; exact ⟨t, p, Nat.le_refl _, hp, hx, .refl _ _⟩
  | step h _ ih =>
    intro t p hp hx
    obtain ⟨e, he, i, hi, h1, h2, h3⟩ := h
    obtain ⟨f, g, h4, h5, h6, h7⟩ := ha.tr he
    rw [h4, Int.toNat_natCast] at h1
    rw [h5, Int.toNat_natCast] at h2
    obtain ⟨rfl, rfl⟩ := at_inj h6 hp (h1.symm.trans hx)
    obtain ⟨u, q, h8, h9, h10, h11⟩ := ih (t + 1) g h7 h2
    exact ⟨u, q, by omega, h9, h10, .step ⟨e, he, h4, h5, h3⟩ h11⟩
theorem PE.lift1 (ha : a.Ok) (hl : 1 ≤ l.loop.length) {x y : Nat} (h : Rch1 (a.PE l) x y) (t p : Nat) (hp : p < a.acc.length) (hx : x = l.pos t * a.acc.length + p) : ∃ u q, t < u ∧ q < a.acc.length ∧ y = l.pos u * a.acc.length + q ∧ FR a.edges l.word t p u q := by
  obtain ⟨z, ⟨e, he, i, hi, h1, h2, h3⟩, hr⟩ := h
  obtain ⟨f, g, h4, h5, h6, h7⟩ := ha.tr he
  rw [h4, Int.toNat_natCast] at h1
  rw [h5, Int.toNat_natCast] at h2
  obtain ⟨rfl, rfl⟩ := at_inj h6 hp (h1.symm.trans hx)
  obtain ⟨u, q, h8, h9, h10, h11⟩ := PE.lift ha hl hr (t + 1) g h7 h2
  exact ⟨u, q, by omega, h9, h10, .step ⟨e, he, h4, h5, h3⟩ h11⟩
theorem PE.of (hl : 1 ≤ l.loop.length) {t p q : Nat} (h : StE a.edges l.word t p q) : a.PE l (l.pos t * a.acc.length + p) (l.pos (t + 1) * a.acc.length + q) := by
  obtain ⟨e, he, h1, h2, h3⟩ := h
  exact ⟨e, he, l.pos t, Las.pos_lt hl t, by rw [h1]; rfl, by rw [h2]; rfl, h3⟩
theorem PE.rch (hl : 1 ≤ l.loop.length) {t p u q : Nat} (h : FR a.edges l.word t p u q) : Rch (a.PE l) (l.pos t * a.acc.length + p) (l.pos u * a.acc.length + q) := by
  induction h with
  | refl => exact .refl _
  | step h _ ih => exact .step (PE.of hl h) ih
theorem PE.rch1 (hl : 1 ≤ l.loop.length) {t p u q : Nat} (h : FR a.edges l.word t p u q) (htu : t < u) : Rch1 (a.PE l) (l.pos t * a.acc.length + p) (l.pos u * a.acc.length + q) := by
  cases h with
  | refl => omega
  | step h k => exact ⟨_, PE.of hl h, PE.rch hl k⟩
theorem FR.lt (ha : a.Ok) {w : Nat → Int} {t p u q : Nat} (h : FR a.edges w t p u q) (hp : p < a.acc.length) : q < a.acc.length := by
  induction h with
  | refl => exact hp
  | step h _ ih => exact ih (ha.st h).2
theorem Aut.acc_iff (ha : a.Ok) (hl : 1 ≤ l.loop.length) : a.Acc l ↔ a.Lang l.word := by
  constructor
  · rintro ⟨s, hs, x, h1, h2, h3⟩
    have hs' := ha.ini hs
    obtain ⟨u, q, _, h4, h5, h6⟩ := PE.lift ha hl h1 0 s hs' (by simp [Las.pos])
    refine ⟨s, hs, Run.before h6 ⟨fun t p => p < a.acc.length ∧ x = l.pos t * a.acc.length + p, ⟨h4, h5⟩, ?_⟩⟩
    rintro t p ⟨g1, g2⟩
    obtain ⟨v, r, g3, g4, g5, g6⟩ := PE.lift1 ha hl (x := x) (y := x) h2 t p g1 g2
    refine ⟨v, r, g3, g6, ?_, g4, g5⟩
    rw [g5, at_mod g4] at h3
    exact h3
  · rintro ⟨s, hs, C, hC, hG⟩
    have hs' := ha.ini hs
    obtain ⟨x, ⟨t, p, g1, g2, g3, rfl, g4⟩, hx⟩ := fin_rch (E := a.PE l) (N := l.size * a.acc.length) (D := fun x => ∃ t p, C t p ∧ p < a.acc.length ∧ tru a.acc p ∧ x = l.pos t * a.acc.length + p ∧ Rch (a.PE l) s x)
      (by rintro x ⟨t, p, g1, g2, g3, rfl, g4⟩; exact at_lt g2 (Las.pos_lt hl t))
      (by
        obtain ⟨u, q, h1, h2, h3, h4⟩ := hG 0 s hC
        have h5 := PE.rch (l := l) hl h2
        rw [show l.pos 0 * a.acc.length + s = s by simp [Las.pos]] at h5
        exact ⟨_, u, q, h4, h2.lt ha hs', h3, rfl, h5⟩)
      (by
        rintro x ⟨t, p, g1, g2, g3, rfl, g4⟩
        obtain ⟨u, q, h1, h2, h3, h4⟩ := hG t p g1
        have h5 := PE.rch1 (l := l) hl h2 h1
        exact ⟨_, ⟨u, q, h4, h2.lt ha g2, h3, rfl, g4.trans h5.rch⟩, h5⟩)
    exact ⟨s, hs, _, g4, hx, by rw [at_mod g2]; exact g3⟩
end
theorem Run.live {a : Aut} (ha : a.Ok) {w : Nat → Int} {t p : Nat} (hp : p < a.acc.length) (h : Run a.acc a.edges w t p) : a.Live p := by
  have rch : ∀ {t p u q : Nat}, FR a.edges w t p u q → Rch a.E p q := by
    intro t p u q h
    induction h with
    | refl => exact .refl _
    | step h _ ih =>
      obtain ⟨e, he, h1, h2, _⟩ := h
      exact .step ⟨e, he, h1, h2⟩ ih
  have rch1 : ∀ {t p u q : Nat}, FR a.edges w t p u q → t < u → Rch1 a.E p q := by
    intro t p u q h hlt
    cases h with
    | refl => omega
    | step h k =>
      obtain ⟨e, he, h1, h2, _⟩ := h
      exact ⟨_, ⟨e, he, h1, h2⟩, rch k⟩
  obtain ⟨C, hC, hG⟩ := h
  obtain ⟨x, ⟨t, g1, g2, g3, g4⟩, hx⟩ := fin_rch (E := a.E) (N := a.acc.length) (D := fun x => ∃ t, C t x ∧ x < a.acc.length ∧ tru a.acc x ∧ Rch a.E p x)
    (by rintro x ⟨t, g1, g2, _⟩; exact g2)
    (by
      obtain ⟨u, q, h1, h2, h3, h4⟩ := hG t p hC
      exact ⟨q, u, h4, h2.lt ha hp, h3, rch h2⟩)
    (by
      rintro x ⟨t, g1, g2, g3, g4⟩
      obtain ⟨u, q, h1, h2, h3, h4⟩ := hG t x g1
      exact ⟨q, ⟨u, h4, h2.lt ha g2, h3, g4.trans (rch h2)⟩, rch1 h2 h1⟩)
  exact ⟨x, g4, hx, g3⟩
end Go.Proofs.YtglnelcmcimljaaGreat

namespace Go.Proofs.YtglnelcmcimljaaGreat
open Go
theorem c_Grow_int {h : Heap} {m : Int} (hm : 0 ≤ m) (hn : m ≤ 1048576) : CallE Tryz.prog fn_slices_Grow_S_int_int [.slice none 0 0, .int .i64 m] h (fun u h' => HS h [ow u ([] : List Int)] h') := by
  obtain ⟨n, rfl⟩ : ∃ n : Nat, m = n := ⟨m.toNat, (Int.toNat_of_nonneg hm).symm⟩
  have H : HS h [ow (.slice none 0 0) ([] : List Int)] h := HS.init.nil_ow
  refine CallE.gen fun k hk => EN_slices_Grow_S_int_int rfl ?_
  have hng : ¬ ((n : Int) < 0) := by omega
  have hcap : capVV (.slice none 0 0) = some (.int .i64 0) := rfl
  have hln : lenVV (.slice none 0 0) = some (.int .i64 0) := rfl
  have hsl : sliceVV 1 (.slice none 0 0) none (some (some (.int .i64 0))) none = some (.slice none 0 0) := rfl
  by_cases h0 : (0 : Int) < n
  · have h0' : 0 < n := by omega
    simp -implicitDefEqProofs (disch:=first|omega|(simp only[LnZ];omega))[wrap64, h0, h0', hng, hcap, hln, hsl]
    refine HS.appZ (bytes := 8) (α := Int) (z := 0) (n := n) H rfl rfl rfl ⟨by decide, by decide⟩ rfl rfl (by simp; omega) (by simp; omega) fun v' h1 H => ?_
    obtain ⟨v2, hv2, H⟩ := H.cut (n := 0) (esz := 1) (k := .i64) (by simp)
    simp only [List.take_zero] at H
    have hv2' : sliceVV 1 v' none (some (some (.int .i64 0))) none = some v2 := hv2
    simp -implicitDefEqProofs (disch:=first|omega|(simp only[LnZ];omega))[wrap64, hln, hv2']
    exact RetK.keep (hk _ _ H)
  · have h0' : ¬ 0 < n := by omega
    simp -implicitDefEqProofs (disch:=first|omega|(simp only[LnZ];omega))[wrap64, h0, h0', hng, hcap, hln, hsl]
    exact RetK.keep (hk _ _ H)
theorem c_Concat_int {h : Heap} {v : Value} {x y : List Int} (R : Rep h v [x, y]) (hx : x.length ≤ 65536) (hy : y.length ≤ 65536) : CallE Tryz.prog fn_slices_Concat_S_int_int [v] h (fun u h' => HS h [ow u (x ++ y)] h') := by
  have hL : ([x, y] : List (List Int)).length = 2 := rfl
  obtain ⟨u0, hu0, R0⟩ := R.ldL (i := 0) (by simp)
  obtain ⟨u1, hu1, R1⟩ := R.ldL (i := 1) (by simp)
  simp only [List.getElem_cons_zero, List.getElem_cons_succ] at R0 R1
  have hX := R.X (n := 1) rfl
  have hn1 : ¬ (x.length : Int) < 0 := by omega
  have hn2 : ¬ (x.length : Int) + y.length < 0 := by omega
  refine CallE.gen fun k hk => EN_slices_Concat_S_int_int rfl ?_
  simp -implicitDefEqProofs (disch:=first|omega|(simp only[LnZ];omega))[wrap64, R.len]
  refine wp_count 2 (fun i e h' => e = [some v, none, some (.int .i64 (if i = 0 then 0 else if i = 1 then x.length else x.length + y.length)), none, none, none, some v, some (.int .i64 2), some (.int .i64 i), none, none, none] ∧ h' = h) ⟨by simp, rfl⟩ ?_
  rintro J i _ h1 hJ hi ⟨rfl, rfl⟩
  simp -implicitDefEqProofs (disch:=first|omega|(simp only[LnZ];omega))[wrap64]
  refine IteW.mk (fun hlt => ?_) (fun hge => ?_)
  · obtain rfl | rfl : i = 0 ∨ i = 1 := by omega
    · simp -implicitDefEqProofs (disch:=first|omega|(simp only[LnZ];omega))[wrap64, hX, hu0, R0.len, hn1]
      exact hJ _ _ (by omega) ⟨by simp, rfl⟩
    · simp -implicitDefEqProofs (disch:=first|omega|(simp only[LnZ];omega))[wrap64, hX, hu1, R1.len, hn1, hn2]
      exact hJ _ _ (by omega) ⟨by simp, rfl⟩
  obtain rfl : i = 2 := by omega
  simp -implicitDefEqProofs (disch:=first|omega|(simp only[LnZ];omega))[wrap64]
  refine (c_Grow_int (m := (x.length : Int) + y.length) (by omega) (by omega)).go ?_
  intro o h2 H
  simp -implicitDefEqProofs (disch:=first|omega|(simp only[LnZ];omega))[wrap64, (R.on H).len]
  refine wp_count 2 (fun i e h' => ∃ o, e = [none, none, none, none, some o, none, none, none, none, some v, some (.int .i64 2), some (.int .i64 i)] ∧ HS h1 [ow o (if i = 0 then [] else if i = 1 then x else x ++ y)] h') ⟨o, by simp, by simpa using H⟩ ?_
  clear H
  rintro J2 i _ h3 hJ2 hi ⟨o, rfl, H⟩
  simp -implicitDefEqProofs (disch:=first|omega|(simp only[LnZ];omega))[wrap64]
  refine IteW.mk (fun hlt2 => ?_) (fun hge2 => ?_)
  · obtain rfl | rfl : i = 0 ∨ i = 1 := by omega
    · simp only [if_true] at H
      simp -implicitDefEqProofs (disch:=first|omega|(simp only[LnZ];omega))[wrap64, hX, hload_le H.base hu0]
      refine HS.appL (bytes := 8) (l2 := x) H rfl rfl (R0.on H) rfl rfl (by simp; omega) (by simp; omega) fun o' h4 H => ?_
      simp -implicitDefEqProofs (disch:=first|omega|(simp only[LnZ];omega))[wrap64]
      exact hJ2 _ _ (by omega) ⟨o', by simp, by simpa using H⟩
    · simp only [Nat.one_ne_zero, if_true, if_false] at H
      simp -implicitDefEqProofs (disch:=first|omega|(simp only[LnZ];omega))[wrap64, hX, hload_le H.base hu1]
      refine HS.appL (bytes := 8) (l2 := y) H rfl rfl (R1.on H) rfl rfl (by omega) (by omega) fun o' h4 H => ?_
      simp -implicitDefEqProofs (disch:=first|omega|(simp only[LnZ];omega))[wrap64]
      exact hJ2 _ _ (by omega) ⟨o', by simp, by simpa using H⟩
  obtain rfl : i = 2 := by omega
  simp -implicitDefEqProofs (disch:=first|omega|(simp only[LnZ];omega))[wrap64]
  exact RetK.keep (hk _ _ (by simpa using H))
theorem c_all {h : Heap} {v : Value} {l : Las} (R : Rep h v l) (hs : l.stem.length ≤ 65536) (hl : l.loop.length ≤ 65536) : CallE Tryz.prog fn_impl_Lasso_all [v] h (fun u h' => HS h [ow u l.all] h') := by
  obtain ⟨v1, v2, rfl, R1, R2⟩ := Rep_Las.1 R
  refine CallE.gen fun k hk => EN_impl_Lasso_all rfl ?_
  simp -implicitDefEqProofs (disch:=first|omega|(simp only[LnZ];omega))[wrap64]
  refine bls_two R1 R2 (by simp [fillP, R1.cells, R2.cells, R1.one, R2.one, reps, setC]) fun w h1 l1 RW => ?_
  simp -implicitDefEqProofs (disch:=first|omega|(simp only[LnZ];omega))[wrap64]
  refine (c_Concat_int RW hs hl).go ?_
  intro u h2 H
  simp -implicitDefEqProofs (disch:=first|omega|(simp only[LnZ];omega))[wrap64]
  exact RetK.keep (hk _ _ (H.app (show HS h [] h1 from l1)))
theorem c_nextL {h : Heap} {v : Value} {l : Las} (R : Rep h v l) (hs : l.stem.length ≤ 65536) (hl : l.loop.length ≤ 65536) {i : Nat} (hi : i < l.size) : CallE Tryz.prog fn_impl_Lasso_next [v, .int .i64 i] h (fun u h' => h' = h ∧ u = .int .i64 (l.nx i : Nat)) := by
  obtain ⟨v1, v2, rfl, R1, R2⟩ := Rep_Las.1 R
  have hsz : l.size = l.stem.length + l.loop.length := rfl
  refine CallE.gen fun k hk => EN_impl_Lasso_next rfl ?_
  unfold Las.nx at hk
  by_cases e : i + 1 = l.size
  · rw [if_pos e] at hk
    have e' : (i : Int) + 1 = (l.stem.length : Int) + l.loop.length := by omega
    simp -implicitDefEqProofs (disch:=first|omega|(simp only[LnZ];omega))[wrap64, R1.len, R2.len, e']
    exact RetK.keep (hk _ _ ⟨rfl, rfl⟩)
  · rw [if_neg e] at hk
    have e' : ¬ (i : Int) + 1 = (l.stem.length : Int) + l.loop.length := by omega
    simp -implicitDefEqProofs (disch:=first|omega|(simp only[LnZ];omega))[wrap64, R1.len, R2.len, e']
    exact RetK.keep (hk _ _ ⟨rfl, by simp⟩)
theorem c_LassoValid {h : Heap} {v : Value} {l : Las} (R : Rep h v l) : CallE Tryz.prog fn_impl_LassoValid [v] h (fun u h' => h.le h' ∧ u = .bool (decide l.Ok)) := by
  obtain ⟨v1, v2, rfl, R1, R2⟩ := Rep_Las.1 R
  have hL1 := R1.lt
  have hL2 := R2.lt
  refine CallE.gen fun k hk => EN_impl_LassoValid rfl ?_
  simp -implicitDefEqProofs (disch:=first|omega|(simp only[LnZ];omega))[wrap64]
  refine (c_letters R1).go ?_
  rintro _ h1 ⟨l1, rfl⟩
  by_cases q1 : ∀ x ∈ l.stem, 0 ≤ x ∧ x ≤ 7
  case neg =>
    have d1 : decide (∀ x ∈ l.stem, 0 ≤ x ∧ x ≤ 7) = false := decide_eq_false q1
    simp -implicitDefEqProofs (disch:=first|omega|(simp only[LnZ];omega))[wrap64, d1]
    exact RetK.keep (hk _ _ ⟨l1, by rw [decide_eq_false (fun hh : l.Ok => q1 hh.1.1)]⟩)
  have d1 : decide (∀ x ∈ l.stem, 0 ≤ x ∧ x ≤ 7) = true := decide_eq_true q1
  simp -implicitDefEqProofs (disch:=first|omega|(simp only[LnZ];omega))[wrap64, d1]
  refine (c_letters (R2.le l1)).go ?_
  rintro _ h2 ⟨l2, rfl⟩
  by_cases q2 : ∀ x ∈ l.loop, 0 ≤ x ∧ x ≤ 7
  case neg =>
    have d2 : decide (∀ x ∈ l.loop, 0 ≤ x ∧ x ≤ 7) = false := decide_eq_false q2
    simp -implicitDefEqProofs (disch:=first|omega|(simp only[LnZ];omega))[wrap64, d2]
    exact RetK.keep (hk _ _ ⟨l1.trans l2, by rw [decide_eq_false (fun hh : l.Ok => q2 hh.1.2)]⟩)
  have d2 : decide (∀ x ∈ l.loop, 0 ≤ x ∧ x ≤ 7) = true := decide_eq_true q2
  by_cases q3 : (l.stem.length : Int) ≤ 80
  case neg =>
    simp -implicitDefEqProofs (disch:=first|omega|(simp only[LnZ];omega))[wrap64, d2, R1.len, q3]
    exact RetK.keep (hk _ _ ⟨l1.trans l2, by rw [decide_eq_false (fun hh : l.Ok => q3 (by have := hh.2.1; omega))]⟩)
  simp -implicitDefEqProofs (disch:=first|omega|(simp only[LnZ];omega))[wrap64, d2, R1.len, q3, R2.len]
  refine c_in.go ?_
  rintro _ h2 ⟨rfl, rfl⟩
  simp -implicitDefEqProofs (disch:=first|omega|(simp only[LnZ];omega))[wrap64]
  refine RetK.keep (hk _ _ ⟨l1.trans l2, ?_⟩)
  congr 1
  rw [← Bool.decide_and]
  refine decide_eq_decide.2 ⟨fun hh => ⟨⟨q1, q2⟩, by omega, by omega, by omega⟩, fun hh => ⟨by have := hh.2.2.1; omega, by have := hh.2.2.2; omega⟩⟩
structure GI (N B : Nat) (E : Nat → Nat → Prop) (G : List (List Int)) : Prop where
  len : G.length = N
  mem : ∀ x (hx : x < G.length) z, z ∈ G[x] ↔ ∃ y : Nat, z = y ∧ E x y
  row : ∀ x (hx : x < G.length), G[x].length ≤ B
theorem GI.zero {N : Nat} : GI N 0 (fun _ _ => False) (List.replicate N []) := ⟨by simp, by simp, by simp⟩
theorem GI.add {N B : Nat} {E : Nat → Nat → Prop} {G : List (List Int)} (h : GI N B E G) {f t : Nat} (hf : f < G.length) : GI N (B + 1) (fun x y => E x y ∨ (x = f ∧ y = t)) (G.set f (G[f] ++ [(t : Int)])) := by
  refine ⟨by simp [h.len], fun x hx z => ?_, fun x hx => ?_⟩
  · simp only [List.length_set] at hx
    rw [List.getElem_set]
    split
    · rename_i e
      subst e
      rw [List.mem_append, h.mem f hf z, List.mem_singleton]
      constructor
      · rintro (⟨y, h1, h2⟩ | h1)
        · exact ⟨y, h1, .inl h2⟩
        · exact ⟨t, h1, .inr ⟨rfl, rfl⟩⟩
      · rintro ⟨y, h1, h2 | ⟨_, h2⟩⟩
        · exact .inl ⟨y, h1, h2⟩
        · subst h2; exact .inr h1
    · rename_i e
      rw [h.mem x hx z]
      constructor
      · rintro ⟨y, h1, h2⟩; exact ⟨y, h1, .inl h2⟩
      · rintro ⟨y, h1, h2 | ⟨h2, _⟩⟩
        · exact ⟨y, h1, h2⟩
        · exact absurd h2.symm e
  · simp only [List.length_set] at hx
    rw [List.getElem_set]
    have h1 := h.row f hf
    have h2 := h.row x hx
    split
    · simp; omega
    · omega
theorem GI.congr {N B B' : Nat} {E E' : Nat → Nat → Prop} {G : List (List Int)} (h : GI N B E G) (hB : B ≤ B') (he : ∀ x y, E x y ↔ E' x y) : GI N B' E' G :=
  ⟨h.len, fun x hx z => by rw [h.mem x hx z]; exact ⟨fun ⟨y, h1, h2⟩ => ⟨y, h1, (he x y).1 h2⟩, fun ⟨y, h1, h2⟩ => ⟨y, h1, (he x y).2 h2⟩⟩, fun x hx => Nat.le_trans (h.row x hx) hB⟩
def Aut.PK (a : Aut) (l : Las) (i k : Nat) (x y : Nat) : Prop := ∃ (m : Nat) (hm : m < a.edges.length) (j : Nat), j < l.size ∧ (j < i ∨ (j = i ∧ m < k)) ∧ x = j * a.acc.length + a.edges[m].frm.toNat ∧ y = l.nx j * a.acc.length + a.edges[m].to.toNat ∧ a.edges[m].on (l.all.getD j 0) = true
theorem PK_all {a : Aut} {l : Las} {x y : Nat} {i : Nat} (hi : l.size ≤ i) : a.PK l i 0 x y ↔ a.PE l x y := by
  constructor
  · rintro ⟨m, hm, j, h1, _, h3⟩
    exact ⟨_, List.getElem_mem hm, j, h1, h3⟩
  · rintro ⟨e, he, j, h1, h2⟩
    obtain ⟨m, hm, rfl⟩ := List.mem_iff_getElem.1 he
    exact ⟨m, hm, j, h1, .inl (by omega), h2⟩
theorem PK_next {a : Aut} {l : Las} {x y : Nat} {i k : Nat} (hk : a.edges.length ≤ k) : a.PK l i k x y ↔ a.PK l (i + 1) 0 x y := by
  constructor
  · rintro ⟨m, hm, j, h1, h2, h3⟩
    exact ⟨m, hm, j, h1, .inl (by omega), h3⟩
  · rintro ⟨m, hm, j, h1, h2, h3⟩
    exact ⟨m, hm, j, h1, by omega, h3⟩
theorem PK_step {a : Aut} {l : Las} {x y : Nat} {i k : Nat} (hi : i < l.size) (hk : k < a.edges.length) : a.PK l i (k + 1) x y ↔ a.PK l i k x y ∨ (a.edges[k].on (l.all.getD i 0) = true ∧ x = i * a.acc.length + a.edges[k].frm.toNat ∧ y = l.nx i * a.acc.length + a.edges[k].to.toNat) := by
  constructor
  · rintro ⟨m, hm, j, h1, h2, h3, h4, h5⟩
    by_cases e : j = i ∧ m = k
    · obtain ⟨rfl, rfl⟩ := e
      exact .inr ⟨h5, h3, h4⟩
    · exact .inl ⟨m, hm, j, h1, by omega, h3, h4, h5⟩
  · rintro (⟨m, hm, j, h1, h2, h3⟩ | ⟨h1, h2, h3⟩)
    · exact ⟨m, hm, j, h1, by omega, h3⟩
    · exact ⟨k, hk, i, hi, .inr ⟨rfl, by omega⟩, h2, h3, h1⟩
theorem Aut.PE_lt {a : Aut} {l : Las} (ha : a.Ok) (hl : 1 ≤ l.loop.length) {x y : Nat} (h : a.PE l x y) : x < l.size * a.acc.length ∧ y < l.size * a.acc.length := by
  obtain ⟨e, he, i, hi, h1, h2, h3⟩ := h
  obtain ⟨f, g, h4, h5, h6, h7⟩ := ha.tr he
  rw [h4, Int.toNat_natCast] at h1
  rw [h5, Int.toNat_natCast] at h2
  subst h1 h2
  exact ⟨at_lt h6 hi, at_lt h7 (Las.nx_lt hl hi)⟩
end Go.Proofs.YtglnelcmcimljaaGreat

namespace Go.Proofs.YtglnelcmcimljaaGreat
open Go
set_option maxHeartbeats 1000000 in
theorem c_accepts {h : Heap} {v w : Value} {a : Aut} {l : Las} (Ra : Rep h v a) (Rl : Rep h w l) (ha : a.Ok) (hl : l.Ok) : CallE Tryz.prog fn_impl_Automaton_accepts [v, w] h (fun u h' => h.le h' ∧ ∃ r : Bool, u = .bool r ∧ (r = true ↔ a.Acc l)) := by
  obtain ⟨v1, v2, v3, rfl, R1, R2, R3⟩ := Rep_Aut.1 Ra
  have hn := ha.n
  have he := ha.e
  have hl1 := hl.2.1
  have hl2 := hl.2.2.1
  have hl3 := hl.2.2.2
  have hsz : l.size = l.stem.length + l.loop.length := rfl
  have FL := Rl.aLas
  have hSn : l.size * a.acc.length ≤ 160 * 64 := Nat.mul_le_mul (by omega) hn.2
  refine CallE.gen fun k hk => EN_impl_Automaton_accepts rfl ?_
  simp -implicitDefEqProofs (disch:=first|omega|(simp only[LnZ];omega))[wrap64, FL, R2.len]
  refine (c_all Rl (by omega) (by omega)).go ?_
  intro wd h1 H
  have hal := Las.all_len (l := l)
  obtain ⟨N, hN⟩ : ∃ N, N = l.size * a.acc.length := ⟨_, rfl⟩
  have hmul : (l.size : Int) * a.acc.length = (N : Int) := by rw [hN]; simp
  simp -implicitDefEqProofs (disch:=first|omega|(simp only[LnZ];omega))[wrap64, (R2.on H).len, H.rep.len, hal, hmul]
  refine H.mks (α := List Int) (z := []) (n := N) (c := N) rfl rfl own_nils (Nat.le_refl _) (by omega) (by omega) fun nx h2 H => ?_
  simp -implicitDefEqProofs (disch:=first|omega|(simp only[LnZ];omega))[wrap64, H.sw1.rep.len, hal]
  refine wp_count l.size (fun i e h' => ∃ G, e = [none, none, some (.agg #[v1, v2, v3]), some w, none, none, some (.int .i64 a.acc.length), some nx, none, none, none, none, none, none, some wd, some (.int .i64 l.size), some (.int .i64 i), none, none, none, none, none, none] ∧ HS h [ow nx G, ow wd l.all] h' ∧ GI N (i * 2048) (a.PK l i 0) G) ⟨_, by simp, H, by
    have : (0 : Nat) * 2048 = 0 := by omega
    rw [this]
    exact GI.zero.congr (Nat.le_refl _) fun x y => ⟨False.elim, fun ⟨m, hm, j, _, h, _⟩ => by omega⟩⟩ ?_
  clear H
  rintro J i _ h3 hJ hi ⟨G, rfl, H, hG⟩
  simp -implicitDefEqProofs (disch:=first|omega|(simp only[LnZ];omega))[wrap64]
  refine IteW.mk (fun hlt => ?_) (fun hge => ?_)
  · have his : i < l.size := by omega
    have hial : i < l.all.length := by omega
    have hlet : l.all.getD i 0 = l.all[i] := by simp [hial]
    have hX := H.sw1.rep.I
    simp -implicitDefEqProofs (disch:=first|omega|(simp only[LnZ];omega))[wrap64, hX, (R3.on H).len]
    refine wp_count a.edges.length (fun k e h' => ∃ G, e = [none, none, some (.agg #[v1, v2, v3]), some w, none, none, some (.int .i64 a.acc.length), some nx, some (.int .i64 i), some (.int .i64 l.all[i]), none, none, none, none, some wd, some (.int .i64 l.size), some (.int .i64 i), some v3, some (.int .i64 a.edges.length), some (.int .i64 k), none, none, none] ∧ HS h [ow nx G, ow wd l.all] h' ∧ GI N (i * 2048 + k) (a.PK l i k) G) ⟨G, by simp, H, hG⟩ ?_
    clear H hG
    rintro J2 k _ h4 hJ2 hk2 ⟨G, rfl, H, hG⟩
    simp -implicitDefEqProofs (disch:=first|omega|(simp only[LnZ];omega))[wrap64]
    refine IteW.mk (fun hlt2 => ?_) (fun hge2 => ?_)
    · have hkx : k < a.edges.length := by omega
      have hx := ha.t hkx
      have hv := R3.okTr hkx
      unfold Tr.Ok at hx
      have hstep := fun x y => PK_step (a := a) (l := l) (x := x) (y := y) his hkx
      rw [hlet] at hstep
      simp -implicitDefEqProofs (disch:=first|omega|(simp only[LnZ];omega))[wrap64, (R3.on H).xTr, Tr.v, setC]
      refine (c_takes (t := a.edges[k]) (Rep_Tr.2 ⟨rfl, hv⟩)).go ?_
      rintro _ _ ⟨rfl, rfl⟩
      cases ho : a.edges[k].on l.all[i] with
      | false =>
        simp -implicitDefEqProofs (disch:=first|omega|(simp only[LnZ];omega))[wrap64, ho]
        refine hJ2 _ _ hkx ⟨G, by simp, H, hG.congr (by omega) fun x y => ?_⟩
        rw [hstep, ho]
        simp
      | true =>
        obtain ⟨f, hf⟩ : ∃ f : Nat, a.edges[k].frm = f := ⟨a.edges[k].frm.toNat, by omega⟩
        obtain ⟨t, ht⟩ : ∃ t : Nat, a.edges[k].to = t := ⟨a.edges[k].to.toNat, by omega⟩
        have hfn : f < a.acc.length := by omega
        have htn : t < a.acc.length := by omega
        have hnxl := Las.nx_lt hl2 his
        have hx1 := at_lt hfn his
        have hy1 := at_lt htn hnxl
        have e3 : (i : Int) * a.acc.length = ((i * a.acc.length : Nat) : Int) := by simp
        have e4 : ((l.nx i : Nat) : Int) * a.acc.length = ((l.nx i * a.acc.length : Nat) : Int) := by simp
        obtain ⟨X, hX1⟩ : ∃ X, X = i * a.acc.length + f := ⟨_, rfl⟩
        obtain ⟨Y, hY1⟩ : ∃ Y, Y = l.nx i * a.acc.length + t := ⟨_, rfl⟩
        obtain ⟨p, hp⟩ : ∃ p, p = i * a.acc.length := ⟨_, rfl⟩
        obtain ⟨q, hq⟩ : ∃ q, q = l.nx i * a.acc.length := ⟨_, rfl⟩
        have hXG : X < G.length := by rw [hG.len]; omega
        have hrow := hG.row X hXG
        have e5 : (p : Int) + f = X := by omega
        have e6 : (q : Int) + t = Y := by omega
        rw [← hp] at e3
        rw [← hq] at e4
        obtain ⟨u, hu, HT⟩ := H.take hXG
        change hload _ (some (elp 1 nx X)) none = some u at hu
        have RL := Rl.on HT
        have hadd : G[X] ++ [(Y : Int)] = G[X] ++ [(Y : Int)] := rfl
        simp -implicitDefEqProofs (disch:=first|omega|(simp only[LnZ];omega))[wrap64, ho, hf, ht, e3, e5, HT.sw1.holeia (n := 1) rfl, hu, RL.aLas]
        refine (c_nextL RL (by omega) (by omega) his).go ?_
        rintro _ _ ⟨rfl, rfl⟩
        simp -implicitDefEqProofs (disch:=first|omega|(simp only[LnZ];omega))[wrap64, hf, ht, e3, e5, e4, e6, HT.sw1.holeia (n := 1) rfl, hu]
        refine HT.app1 (Y : Int) rfl rfl rfl ⟨by omega, by omega⟩ rfl rfl (by omega) (by omega) fun u' h5 H => ?_
        simp -implicitDefEqProofs (disch:=first|omega|(simp only[LnZ];omega))[wrap64, H.sw1.holeia (n := 1) rfl]
        refine H.storeH rfl rfl rfl fun h6 H => ?_
        simp -implicitDefEqProofs (disch:=first|omega|(simp only[LnZ];omega))[wrap64]
        refine hJ2 _ _ hkx ⟨_, by simp, H, (hG.add hXG).congr (by omega) fun x y => ?_⟩
        rw [hstep, ho, hf, ht, Int.toNat_natCast, Int.toNat_natCast, hX1, hY1]
        simp
    · simp -implicitDefEqProofs (disch:=first|omega|(simp only[LnZ];omega))[wrap64]
      exact hJ _ _ his ⟨G, by simp, H, hG.congr (by omega) fun x y => PK_next (by omega)⟩
  have hG' : GI N (i * 2048) (a.PE l) G := hG.congr (Nat.le_refl _) fun x y => PK_all (by omega)
  have hAdj : Adj (a.PE l) G := ⟨fun x y hxy => by
    have := Aut.PE_lt ha hl2 hxy
    rw [hG'.len, hN]; exact this, hG'.mem⟩
  have hGl := hG'.len
  simp -implicitDefEqProofs (disch:=first|omega|(simp only[LnZ];omega))[wrap64]
  refine (c_cyclic H.rep hAdj (by omega)).go ?_
  rintro c h4 ⟨C, H2, hCl, hC⟩
  have H := H2.app H
  simp -implicitDefEqProofs (disch:=first|omega|(simp only[LnZ];omega))[wrap64]
  have hi1 : ∀ z ∈ a.init, 0 ≤ z ∧ z < (G.length : Int) := by
    intro z hz
    have h5 := incr_mem ha.i z hz
    have : 1 * a.acc.length ≤ l.size * a.acc.length := Nat.mul_le_mul_right _ (by omega)
    omega
  have hil := ha.il
  refine (c_reachable H.sw1.rep (R1.on H) hAdj hi1 (by omega) (by omega)).go ?_
  rintro r h5 ⟨B, H5, hBl, hB⟩
  have H := H5.app H
  have hacc : ∀ x, x < G.length → (tru B x ∧ tru C x ∧ tru a.acc (x % a.acc.length) ↔ (∃ s : Nat, (s : Int) ∈ a.init ∧ Rch (a.PE l) s x) ∧ Cyc (a.PE l) x ∧ tru a.acc (x % a.acc.length)) := fun x hx => by rw [hB, hC x hx]
  simp -implicitDefEqProofs (disch:=first|omega|(simp only[LnZ];omega))[wrap64, H.rep.len]
  refine wp_count G.length (fun k e h' => e = [none, none, some (.agg #[v1, v2, v3]), none, none, none, some (.int .i64 a.acc.length), none, none, none, none, some c, none, none, none, none, none, none, none, none, some r, some (.int .i64 G.length), some (.int .i64 k)] ∧ h' = h5 ∧ ∀ x, x < k → ¬ (tru B x ∧ tru C x ∧ tru a.acc (x % a.acc.length))) ⟨by simp [hBl], rfl, fun x hx => absurd hx (Nat.not_lt_zero x)⟩ ?_
  rintro J3 k _ h6 hJ3 hk3 ⟨rfl, rfl, hno⟩
  simp -implicitDefEqProofs (disch:=first|omega|(simp only[LnZ];omega))[wrap64]
  refine IteW.mk (fun hlt2 => ?_) (fun hge2 => ?_)
  · have hkn : k < G.length := by omega
    have hmod : k % a.acc.length < a.acc.length := Nat.mod_lt _ (by omega)
    have hmodi : (k : Int).tmod a.acc.length = ((k % a.acc.length : Nat) : Int) := by first | exact (Int.ofNat_tmod _ _).symm | exact (Int.natCast_tmod _ _).symm | simp
    have hmodi2 : (k : Int) % a.acc.length = ((k % a.acc.length : Nat) : Int) := by simp
    obtain ⟨m, hm⟩ : ∃ m, m = k % a.acc.length := ⟨_, rfl⟩
    rw [← hm] at hmod hmodi hmodi2
    have hn0 : ¬ (a.acc.length : Int) = 0 := by omega
    have hn0' : ¬ a.acc = [] := fun e => by rw [e] at hn; simp at hn
    have tB : tru B k ↔ B[k]'(by omega) = true := tru_get (by omega)
    have tC : tru C k ↔ C[k]'(by omega) = true := tru_get (by omega)
    have tA : tru a.acc (k % a.acc.length) ↔ a.acc[m] = true := by rw [← hm]; exact tru_get hmod
    have next : ¬ (tru B k ∧ tru C k ∧ tru a.acc (k % a.acc.length)) → ∀ x, x < k + 1 → ¬ (tru B x ∧ tru C x ∧ tru a.acc (x % a.acc.length)) := fun hh x hx => by
      by_cases e : x = k
      · subst e; exact hh
      · exact hno x (by omega)
    cases b1 : B[k]'(by omega) with
    | false =>
      simp -implicitDefEqProofs (disch:=first|omega|(simp only[LnZ];omega))[wrap64, H.rep.B, b1]
      exact hJ3 _ _ hkn ⟨by simp, rfl, next fun hh => by have := tB.1 hh.1; rw [b1] at this; exact absurd this (by decide)⟩
    | true =>
    cases b2 : C[k]'(by omega) with
    | false =>
      simp -implicitDefEqProofs (disch:=first|omega|(simp only[LnZ];omega))[wrap64, H.rep.B, b1, H.sw1.rep.B, b2]
      exact hJ3 _ _ hkn ⟨by simp, rfl, next fun hh => by have := tC.1 hh.2.1; rw [b2] at this; exact absurd this (by decide)⟩
    | true =>
    cases b3 : a.acc[m] with
    | false =>
      simp -implicitDefEqProofs (disch:=first|omega|(simp only[LnZ];omega))[wrap64, H.rep.B, b1, H.sw1.rep.B, b2, hmodi, hmodi2, hn0, hn0', (R2.on H).B, b3]
      exact hJ3 _ _ hkn ⟨by simp, rfl, next fun hh => by have := tA.1 hh.2.2; rw [b3] at this; exact absurd this (by decide)⟩
    | true =>
      simp -implicitDefEqProofs (disch:=first|omega|(simp only[LnZ];omega))[wrap64, H.rep.B, b1, H.sw1.rep.B, b2, hmodi, hmodi2, hn0, hn0', (R2.on H).B, b3]
      refine RetK.keep (hk _ _ ⟨H.base, true, rfl, ?_⟩)
      simp only [true_iff]
      obtain ⟨⟨s, h7, h8⟩, h9, h10⟩ := (hacc k hkn).1 ⟨tB.2 b1, tC.2 b2, tA.2 b3⟩
      exact ⟨s, h7, k, h8, h9, h10⟩
  · simp -implicitDefEqProofs (disch:=first|omega|(simp only[LnZ];omega))[wrap64]
    refine RetK.keep (hk _ _ ⟨H.base, false, rfl, ?_⟩)
    simp only [Bool.false_eq_true, false_iff]
    rintro ⟨s, h7, x, h8, h9, h10⟩
    have hxl : x < G.length := by
      obtain ⟨y, h11, _⟩ := h9
      exact (hAdj.lt x y h11).1
    exact hno x (by omega) ((hacc x hxl).2 ⟨⟨s, h7, h8⟩, h9, h10⟩)
noncomputable def Aut.accB (a : Aut) (l : Las) : Bool := @decide (a.Ok ∧ l.Ok ∧ a.Acc l) (Classical.propDecidable _)
theorem c_Accepts {h : Heap} {v w : Value} {a : Aut} {l : Las} (Ra : Rep h v a) (Rl : Rep h w l) : CallE Tryz.prog fn_impl_Accepts [v, w] h (fun u h' => h.le h' ∧ u = .tuple #[.bool (a.accB l), .bool (decide (a.Ok ∧ l.Ok))]) := by
  have FA := Ra.aAut
  have FL := Rl.aLas
  refine CallE.gen fun k hk => EN_impl_Accepts rfl ?_
  simp -implicitDefEqProofs (disch:=first|omega|(simp only[LnZ];omega))[wrap64, FA, FL]
  refine (c_AutomatonValid Ra).go ?_
  rintro _ h1 ⟨l1, rfl⟩
  by_cases ha : a.Ok
  case neg =>
    simp -implicitDefEqProofs (disch:=first|omega|(simp only[LnZ];omega))[wrap64, ha]
    refine RetK.keep (hk _ _ ⟨l1, ?_⟩)
    rw [show a.accB l = false by simp [Aut.accB, ha], decide_eq_false (fun hh : a.Ok ∧ l.Ok => ha hh.1)]
  simp -implicitDefEqProofs (disch:=first|omega|(simp only[LnZ];omega))[wrap64, ha, FL]
  refine (c_LassoValid (Rl.le l1)).go ?_
  rintro _ h2 ⟨l2, rfl⟩
  by_cases hl : l.Ok
  case neg =>
    simp -implicitDefEqProofs (disch:=first|omega|(simp only[LnZ];omega))[wrap64, hl]
    refine RetK.keep (hk _ _ ⟨l1.trans l2, ?_⟩)
    rw [show a.accB l = false by simp [Aut.accB, hl], decide_eq_false (fun hh : a.Ok ∧ l.Ok => hl hh.2)]
  simp -implicitDefEqProofs (disch:=first|omega|(simp only[LnZ];omega))[wrap64, hl, FA, FL]
  refine (c_accepts (Ra.le (l1.trans l2)) (Rl.le (l1.trans l2)) ha hl).go ?_
  rintro _ h3 ⟨l3, r, rfl, hr⟩
  simp -implicitDefEqProofs (disch:=first|omega|(simp only[LnZ];omega))[wrap64]
  refine RetK.keep (hk _ _ ⟨l1.trans (l2.trans l3), ?_⟩)
  rw [decide_eq_true (show a.Ok ∧ l.Ok from ⟨ha, hl⟩)]
  have : a.accB l = r := by
    rw [Bool.eq_iff_iff, hr, Aut.accB]
    simp [ha, hl]
  rw [this]
theorem Aut.accB_lang {a : Aut} {l : Las} (ha : a.Ok) (hl : l.Ok) : a.accB l = true ↔ a.Lang l.word := by
  rw [← Aut.acc_iff ha hl.2.2.1, Aut.accB]
  simp [ha, hl]
end Go.Proofs.YtglnelcmcimljaaGreat

namespace Go.Proofs.YtglnelcmcimljaaGreat
open Go
theorem Great.refl {a : Aut} {R : Rl} (h : Great a R) {i : Nat} (hi : i < a.acc.length) : R i i = true := by
  refine h.upper (fun x y => decide (x = y)) ⟨?_, ?_⟩ i i hi hi (by simp)
  · intro x y _ _ hxy hx
    simp only [decide_eq_true_eq] at hxy
    subst hxy; exact hx
  · intro x y _ _ hxy l _ e he hx ho
    simp only [decide_eq_true_eq] at hxy
    subst hxy
    exact ⟨e, he, hx, ho, by simp⟩
theorem Great.trans {a : Aut} (ha : a.Ok) {R : Rl} (h : Great a R) {i j k : Nat} (hi : i < a.acc.length) (hj : j < a.acc.length) (hk : k < a.acc.length) (h1 : R i j = true) (h2 : R j k = true) : R i k = true := by
  refine h.upper (fun x z => @decide (∃ y, y < a.acc.length ∧ R x y = true ∧ R y z = true) (Classical.propDecidable _)) ⟨?_, ?_⟩ i k hi hk (by simpa using ⟨j, hj, h1, h2⟩)
  · intro x z hx hz hxz h3
    simp only [decide_eq_true_eq] at hxz
    obtain ⟨y, hy, h4, h5⟩ := hxz
    exact h.simu.1 y z hy hz h5 (h.simu.1 x y hx hy h4 h3)
  · intro x z hx hz hxz l hl e he h6 ho
    simp only [decide_eq_true_eq] at hxz
    obtain ⟨y, hy, h4, h5⟩ := hxz
    obtain ⟨f, hf, g1, g2, g3⟩ := h.simu.2 x y hx hy h4 l hl e he h6 ho
    obtain ⟨f', hf', k1, k2, k3⟩ := h.simu.2 y z hy hz h5 l hl f hf g1 g2
    obtain ⟨_, q, _, h8, _, h10⟩ := ha.tr hf
    refine ⟨f', hf', k1, k2, ?_⟩
    simp only [decide_eq_true_eq]
    exact ⟨f.to.toNat, by rw [h8]; simpa using h10, g3, k3⟩
def Letters (w : Nat → Int) : Prop := ∀ t, 0 ≤ w t ∧ w t ≤ 7
theorem Simu.run {a : Aut} (ha : a.Ok) {R : Rl} (hR : Simu a R) {w : Nat → Int} (hw : Letters w) {t i j : Nat} (hi : i < a.acc.length) (hj : j < a.acc.length) (h : R i j = true) (k : Run a.acc a.edges w t i) : Run a.acc a.edges w t j := by
  refine Run.sim (fun x y => x < a.acc.length ∧ y < a.acc.length ∧ R x y = true) ?_ ?_ k ⟨hi, hj, h⟩
  · rintro t p q p' ⟨h1, h2, h3⟩ ⟨e, he, h4, h5, h6⟩ _
    have h7 := hw t
    obtain ⟨n, hn⟩ : ∃ n : Nat, w t = n := ⟨(w t).toNat, by omega⟩
    rw [hn] at h6 h7
    obtain ⟨f, hf, g1, g2, g3⟩ := hR.2 p p' h1 h2 h3 n (by omega) e he h4 h6
    obtain ⟨x, y, k1, k2, k3, k4⟩ := ha.tr he
    obtain ⟨x', y', k1', k2', k3', k4'⟩ := ha.tr hf
    refine ⟨y', ⟨f, hf, g1, k2', by rw [hn]; exact g2⟩, by omega, k4', ?_⟩
    rw [h5, k2'] at g3
    simpa using g3
  · rintro p p' ⟨h1, h2, h3⟩ h4
    exact hR.1 p p' h1 h2 h3 h4
section
variable {a b : Aut}
end
theorem kidx_inj {K : Nat → Bool} {p q : Nat} (hp : K p = true) (hq : K q = true) (h : kidx K p = kidx K q) : p = q := by
  have lt : ∀ {p q : Nat}, K p = true → p < q → kidx K p < kidx K q := by
    intro p q hp hlt
    have h1 := kidx_succ (K := K) (q := p)
    rw [hp, if_pos rfl] at h1
    have h2 := kidx_mono (K := K) (show p + 1 ≤ q by omega)
    omega
  by_cases h1 : p < q
  · have := lt hp h1; omega
  by_cases h2 : q < p
  · have := lt hq h2; omega
  omega
theorem kept_at {K : Nat → Bool} {A : List Bool} : ∀ {n p : Nat}, p < n → K p = true → (((List.range n).filter K).map fun q => A.getD q false)[kidx K p]? = some (A.getD p false)
  | 0, p, h, _ => absurd h (Nat.not_lt_zero p)
  | n + 1, p, h, hK => by
    rw [List.range_succ, List.filter_append, List.map_append]
    by_cases hp : p = n
    · subst hp
      rw [List.getElem?_append_right (by simp [kidx])]
      simp [kidx, hK]
    · have h1 := kept_at (A := A) (show p < n by omega) hK
      rw [List.getElem?_append_left]
      · exact h1
      · obtain ⟨h2, _⟩ := List.getElem?_eq_some_iff.1 h1
        exact h2
section
variable {a : Aut} {K : Nat → Bool}
theorem kidx_pos {n p : Nat} (hp : p < n) (hK : K p = true) : kidx K n ≠ 0 := by
  have h1 := kidx_succ (K := K) (q := p)
  rw [hK, if_pos rfl] at h1
  have h2 := kidx_mono (K := K) (show p + 1 ≤ n by omega)
  omega
theorem keep_ini {s : Nat} (hs : s < a.acc.length) (hK : K s = true) (h : (s : Int) ∈ a.init) : ((kidx K s : Nat) : Int) ∈ (a.keep K).init := by
  rw [Aut.keep, if_neg (kidx_pos hs hK)]
  exact List.mem_map.2 ⟨s, List.mem_filter.2 ⟨h, by simpa using hK⟩, by simp [kout]⟩
theorem keep_ini' (ha : a.Ok) {x : Nat} (h : (x : Int) ∈ (a.keep K).init) : ∃ s : Nat, (s : Int) ∈ a.init ∧ K s = true ∧ x = kidx K s := by
  unfold Aut.keep at h
  split at h
  · simp at h
  · obtain ⟨i, hi, he⟩ := List.mem_map.1 h
    obtain ⟨h1, h2⟩ := List.mem_filter.1 hi
    have h3 := incr_mem ha.i _ h1
    exact ⟨i.toNat, by rw [Int.toNat_of_nonneg (by omega)]; exact h1, h2, by simp only [kout] at he; omega⟩
theorem keep_st {w : Nat → Int} {t p q : Nat} (hp : K p = true) (hq : K q = true) (hpn : p < a.acc.length) (h : StE a.edges w t p q) : StE (a.keep K).edges w t (kidx K p) (kidx K q) := by
  obtain ⟨e, he, h1, h2, h3⟩ := h
  rw [Aut.keep, if_neg (kidx_pos hpn hp)]
  exact ⟨_, List.mem_map.2 ⟨e, List.mem_filter.2 ⟨he, by simp [h1, h2, hp, hq]⟩, rfl⟩, by simp [Tr.ren, kout, h1], by simp [Tr.ren, kout, h2], h3⟩
theorem keep_st' (ha : a.Ok) {w : Nat → Int} {t p y : Nat} (hp : K p = true) (h : StE (a.keep K).edges w t (kidx K p) y) : ∃ q, K q = true ∧ q < a.acc.length ∧ y = kidx K q ∧ StE a.edges w t p q := by
  obtain ⟨e, he, h1, h2, h3⟩ := h
  unfold Aut.keep at he
  split at he
  · simp at he
  · obtain ⟨f, hf, rfl⟩ := List.mem_map.1 he
    obtain ⟨g1, g2⟩ := List.mem_filter.1 hf
    obtain ⟨x, z, k1, k2, k3, k4⟩ := ha.tr g1
    simp only [Tr.ren, kout, k1, k2, Int.toNat_natCast, Bool.and_eq_true] at h1 h2 g2
    have := kidx_inj g2.1 hp (by omega)
    subst this
    exact ⟨z, g2.2, k4, by omega, f, g1, k1, k2, h3⟩
theorem keep_tru {p : Nat} (hp : p < a.acc.length) (hK : K p = true) : tru (a.keep K).acc (kidx K p) ↔ tru a.acc p := by
  rw [Aut.keep, if_neg (kidx_pos hp hK)]
  unfold tru
  rw [List.getD_eq_getElem?_getD, kept_at hp hK]
  rfl
theorem trim_lang (ha : a.Ok) {w : Nat → Int} : a.trim.Lang w ↔ a.Lang w := by
  constructor
  · rintro ⟨x, hx, h⟩
    obtain ⟨s, h1, h2, rfl⟩ := keep_ini' ha hx
    refine ⟨s, h1, Run.sim (fun x p => a.tkeep p = true ∧ p < a.acc.length ∧ x = kidx a.tkeep p) ?_ ?_ h ⟨h2, ha.ini h1, rfl⟩⟩
    · rintro t x y p ⟨g1, g2, rfl⟩ g3 _
      obtain ⟨q, k1, k2, k3, k4⟩ := keep_st' ha g1 g3
      exact ⟨q, k4, k1, k2, k3⟩
    · rintro x p ⟨g1, g2, rfl⟩ g3
      exact (keep_tru g2 g1).1 g3
  · rintro ⟨s, hs, h⟩
    have hs' := ha.ini hs
    have hK : a.tkeep s = true := Aut.tkeep_iff.2 ⟨⟨s, hs, .refl _⟩, Run.live ha hs' h⟩
    refine ⟨_, keep_ini hs' hK hs, Run.sim (fun p x => a.tkeep p = true ∧ p < a.acc.length ∧ x = kidx a.tkeep p) ?_ ?_ h ⟨hK, hs', rfl⟩⟩
    · rintro t p q x ⟨g1, g2, rfl⟩ g3 g4
      have hq := (ha.st g3).2
      have hKq : a.tkeep q = true := by
        obtain ⟨⟨s', h1, h2⟩, _⟩ := Aut.tkeep_iff.1 g1
        obtain ⟨e, he, k1, k2, _⟩ := g3
        exact Aut.tkeep_iff.2 ⟨⟨s', h1, h2.snoc ⟨e, he, k1, k2⟩⟩, Run.live ha hq g4⟩
      exact ⟨_, keep_st g1 hKq g2 g3, hKq, hq, rfl⟩
    · rintro p x ⟨g1, g2, rfl⟩ g3
      exact (keep_tru g2 g1).2 g3
end
end Go.Proofs.YtglnelcmcimljaaGreat

namespace Go.Proofs.YtglnelcmcimljaaGreat
open Go
theorem c_simulates {h : Heap} {a : Aut} (ha : a.Ok) {b3 b4 b7 : Nat} {vn vb : Value} {T : List W8} {B : List (BitVec 64)} (h3 : hload h (some (.pointer (some ⟨b3, 0, none⟩))) none = some (.int .i64 a.acc.length))
    (h4 : hload h (some (.pointer (some ⟨b4, 0, none⟩))) none = some vn) (h7 : hload h (some (.pointer (some ⟨b7, 0, none⟩))) none = some vb) (Rn : Rep h vn T) (Rb : Rep h vb B)
    (hT : Tab a.edges a.acc.length T) (hB : B.length = a.acc.length) {i j : Nat} (hi : i < a.acc.length) (hj : j < a.acc.length) :
    CallE Tryz.prog fn_impl_Automaton_simulation_1 [.int .i64 j, .int .i64 i, .pointer (some ⟨b3, 0, none⟩), .pointer (some ⟨b4, 0, none⟩), .pointer (some ⟨b7, 0, none⟩)] h
      (fun u h' => h' = h ∧ ∃ r : Bool, u = .bool r ∧ (r = true ↔ Ans a (bitR B) i j)) := by
  refine CallE.gen fun k hk => EN_impl_Automaton_simulation_1 rfl ?_
  have hn := ha.n
  have hTl := hT.1
  rw [ans_iff ha] at hk
  simp -implicitDefEqProofs (disch:=first|omega|(simp only[LnZ];omega))[wrap64]
  refine wp_count 8 (fun l e h' => h' = h ∧ e = [some (.int .i64 j), some (.int .i64 i), some (.pointer (some ⟨b3, 0, none⟩)), some (.pointer (some ⟨b4, 0, none⟩)), some (.pointer (some ⟨b7, 0, none⟩)), none, none, none, some (.int .i64 l), none, none] ∧
    ∀ l' < l, ∀ t < a.acc.length, EdgeB a.edges i l' t → ∃ k < a.acc.length, EdgeB a.edges j l' k ∧ bitR B t k = true) ⟨rfl, rfl, fun l' hl' => absurd hl' (Nat.not_lt_zero l')⟩ ?_
  rintro J l _ h hJ hl ⟨rfl, rfl, hA⟩
  simp -implicitDefEqProofs (disch:=first|omega|(simp only[LnZ];omega))[wrap64]
  refine IteW.mk (fun hlt => ?_) (fun hge => ?_)
  · have hl8 : l < 8 := by omega
    simp -implicitDefEqProofs (disch:=first|omega|(simp only[LnZ];omega))[wrap64, h3]
    refine wp_count a.acc.length (fun t e h' => h' = _ ∧ e = [some (.int .i64 j), some (.int .i64 i), some (.pointer (some ⟨b3, 0, none⟩)), some (.pointer (some ⟨b4, 0, none⟩)), some (.pointer (some ⟨b7, 0, none⟩)), none, some (.int .i64 l), none, some (.int .i64 l), some (.int .i64 a.acc.length), some (.int .i64 t)] ∧
      ∀ t' < t, EdgeB a.edges i l t' → ∃ k < a.acc.length, EdgeB a.edges j l k ∧ bitR B t' k = true) ⟨rfl, rfl, fun t' ht' => absurd ht' (Nat.not_lt_zero t')⟩ ?_
    rintro J2 t _ h hJ2 ht ⟨rfl, rfl, hA2⟩
    simp -implicitDefEqProofs (disch:=first|omega|(simp only[LnZ];omega))[wrap64]
    refine IteW.mk (fun hlt2 => ?_) (fun hge2 => ?_)
    · have htn : t < a.acc.length := by omega
      have hbit := hT.2 i l t hi hl8 (by omega)
      have hgi : T.getD i W8.zero = T[i]'(by omega) := by simp [show i < T.length by omega]
      have hgj : T.getD j W8.zero = T[j]'(by omega) := by simp [show j < T.length by omega]
      rw [hgi] at hbit
      by_cases hb : ((T[i]'(by omega)).at l).getLsbD t = true
      · have hmeet := u64_meet (a := (T[j]'(by omega)).at l) (b := B[t]'(by omega))
        by_cases hm : andI .u64 ((T[j]'(by omega)).at l).toNat (B[t]'(by omega)).toNat = 0
        · simp -implicitDefEqProofs (disch:=first|omega|(simp only[LnZ];omega))[wrap64, -BitVec.getLsbD_eq_getElem, h4, Rn.W, u64_bit, hb, h7, Rb.U, hm]
          refine RetK.keep (hk _ _ ⟨rfl, false, rfl, ?_⟩)
          simp only [Bool.false_eq_true, false_iff]
          intro h
          obtain ⟨k', hk', hE, hr⟩ := h l hl8 t htn (hbit.1 hb)
          rw [bitR_get (by omega)] at hr
          have := (hT.2 j l k' hj hl8 (by omega)).2 hE
          rw [hgj] at this
          exact (hmeet.1 hm) k' (by omega) ⟨this, hr⟩
        · simp -implicitDefEqProofs (disch:=first|omega|(simp only[LnZ];omega))[wrap64, -BitVec.getLsbD_eq_getElem, h4, Rn.W, u64_bit, hb, h7, Rb.U, hm]
          refine hJ2 _ _ htn ⟨rfl, rfl, fun t' ht' hE => ?_⟩
          by_cases htt : t' = t
          · subst htt
            rw [hmeet] at hm
            simp only [Classical.not_forall, Classical.not_not] at hm
            obtain ⟨k', hk64, h1, h2⟩ := hm
            have h5 := hT.2 j l k' hj hl8 hk64
            rw [hgj] at h5
            have h6 := h5.1 h1
            obtain ⟨e, he, _, h8, _⟩ := h6
            have hq := ha.2.2.2 e he
            unfold Tr.Ok at hq
            exact ⟨k', by omega, h5.1 h1, by rw [bitR_get (by omega)]; exact h2⟩
          · exact hA2 t' (by omega) hE
      · simp -implicitDefEqProofs (disch:=first|omega|(simp only[LnZ];omega))[wrap64, -BitVec.getLsbD_eq_getElem, h4, Rn.W, u64_bit, hb]
        refine hJ2 _ _ htn ⟨rfl, rfl, fun t' ht' hE => ?_⟩
        by_cases htt : t' = t
        · subst htt; exact absurd (hbit.2 hE) hb
        · exact hA2 t' (by omega) hE
    · simp -implicitDefEqProofs (disch:=first|omega|(simp only[LnZ];omega))[wrap64]
      refine hJ _ _ hl8 ⟨rfl, rfl, fun l' hl' t' ht' hE => ?_⟩
      by_cases hll : l' = l
      · subst hll; exact hA2 t' (by omega) hE
      · exact hA l' (by omega) t' ht' hE
  · simp -implicitDefEqProofs (disch:=first|omega|(simp only[LnZ];omega))[wrap64]
    refine RetK.keep (hk _ _ ⟨rfl, true, rfl, ?_⟩)
    simp only [true_iff]
    intro l' hl' t' ht' hE
    exact hA l' (by omega) t' ht' hE
theorem cond_acc0 {a : Aut} {i j : Nat} (hi : i < a.acc.length) (hj : j < a.acc.length) : acc0 a i j = (a.acc[j] || !a.acc[i]) := by
  simp [acc0, hi, hj, Bool.or_comm]
set_option maxHeartbeats 2000000 in
theorem c_simulation {h : Heap} {v : Value} {a : Aut} (Ra : Rep h v a) (ha : a.Ok) : CallE Tryz.prog fn_impl_Automaton_simulation [v] h (fun u h' => ∃ B : List (BitVec 64), HS h [ow u B] h' ∧ B.length = a.acc.length ∧ Great a (bitR B)) := by
  obtain ⟨v1, v2, v3, rfl, R1, R2, R3⟩ := Rep_Aut.1 Ra
  refine CallE.gen fun k hk => EN_impl_Automaton_simulation rfl ?_
  have hn := ha.n
  have he := ha.e
  simp -implicitDefEqProofs (disch:=first|omega|(simp only[LnZ];omega))[wrap64, R2.len]
  refine HS.init.alloc rfl fun b3 h1 H => ?_
  simp -implicitDefEqProofs (disch:=first|omega|(simp only[LnZ];omega))[wrap64]
  refine H.bxst (u := .int .i64 a.acc.length) rfl rfl rfl rfl (by simp) fun h2 H => ?_
  simp only [setC, cells_int, List.take_zero, List.nil_append] at H
  have H : HS h [bx b3 [.int .i64 a.acc.length]] h2 := H
  simp -implicitDefEqProofs (disch:=first|omega|(simp only[LnZ];omega))[wrap64, H.bxld0]
  refine H.mks (α := W8) (z := W8.zero) rfl rfl (Flat.own_iff.2 ⟨rfl, rfl, trivial⟩) (Nat.le_refl _) (by omega) (by omega) fun vn h3 H => ?_
  simp -implicitDefEqProofs (disch:=first|omega|(simp only[LnZ];omega))[wrap64]
  refine H.alloc rfl fun b4 h4 H => ?_
  simp -implicitDefEqProofs (disch:=first|omega|(simp only[LnZ];omega))[wrap64]
  refine H.bxst (u := vn) rfl rfl (by rw [H.sw1.rep.cells]; rfl) (by rw [H.sw1.rep.cells]; simp [H.sw1.rep.one]) (by simp [H.sw1.rep.cells]) fun h5 H => ?_
  have H : HS h [bx b4 [vn], ow vn (List.replicate a.acc.length W8.zero), bx b3 [.int .i64 a.acc.length]] h5 := by
    simpa [setC, H.sw1.rep.cells] using H
  simp -implicitDefEqProofs (disch:=first|omega|(simp only[LnZ];omega))[wrap64, (R3.on H).len]
  refine wp_count a.edges.length (fun i e h' => e = [none, some (.agg #[v1, v2, v3]), none, some (.pointer (some ⟨b3, 0, none⟩)), some (.pointer (some ⟨b4, 0, none⟩)), none, none, none, none, none, none, none, none, none, some v3, some (.int .i64 a.edges.length), some (.int .i64 i), none, none, none, none, none, none, none, none, none] ∧
    ∃ T, HS h [ow vn T, bx b4 [vn], bx b3 [.int .i64 a.acc.length]] h' ∧ Tab (a.edges.take i) a.acc.length T) ⟨by simp, _, H.sw1, Tab.zero _⟩ ?_
  rintro J i _ h6 hJ hi ⟨rfl, T, H, hT⟩
  simp -implicitDefEqProofs (disch:=first|omega|(simp only[LnZ];omega))[wrap64]
  refine IteW.mk (fun hlt => ?_) (fun hge => ?_)
  · have hlx : i < a.edges.length := by omega
    have hx := ha.t hlx
    have hv := R3.okTr hlx
    unfold Tr.Ok at hx
    simp -implicitDefEqProofs (disch:=first|omega|(simp only[LnZ];omega))[wrap64, (R3.on H).xTr, Tr.v, setC]
    refine wp_count 8 (fun l e h' => e = [none, some (.agg #[v1, v2, v3]), none, some (.pointer (some ⟨b3, 0, none⟩)), some (.pointer (some ⟨b4, 0, none⟩)), some a.edges[i].v, none, none, none, none, none, none, none, none, some v3, some (.int .i64 a.edges.length), some (.int .i64 i), some (.int .i64 l), none, none, none, none, none, none, none, none] ∧
      ∃ T, HS h [ow vn T, bx b4 [vn], bx b3 [.int .i64 a.acc.length]] h' ∧ Tab2 (a.edges.take i) a.edges[i] l a.acc.length T) ⟨by simp [Tr.v], _, H, hT.start _⟩ ?_
    rintro J2 l _ h7 hJ2 hl ⟨rfl, T, H, hT⟩
    simp -implicitDefEqProofs (disch:=first|omega|(simp only[LnZ];omega))[wrap64]
    refine IteW.mk (fun hlt2 => ?_) (fun hge2 => ?_)
    · have hl8 : l < 8 := by omega
      simp -implicitDefEqProofs (disch:=first|omega|(simp only[LnZ];omega))[wrap64, Tr.v]
      refine (c_takes (t := a.edges[i]) (Rep_Tr.2 ⟨rfl, hv⟩)).go ?_
      rintro _ _ ⟨rfl, rfl⟩
      by_cases ho : a.edges[i].on l = true
      · obtain ⟨f, hf⟩ : ∃ f : Nat, a.edges[i].frm = f := ⟨a.edges[i].frm.toNat, by omega⟩
        obtain ⟨t, ht⟩ : ∃ t : Nat, a.edges[i].to = t := ⟨a.edges[i].to.toNat, by omega⟩
        have hfT : f < T.length := by rw [hT.1]; omega
        simp -implicitDefEqProofs (disch:=first|omega|(simp only[LnZ];omega))[wrap64, ho, H.sw1.bxld0, hf, ht, H.rep.W, u64_setB]
        refine H.storeFld (α := W8) (T[f].put l (setB (T[f].at l) t)) (i := f) (fo := l) hfT rfl rfl rfl rfl (by show l < 8; omega) (W8.enc_put _) trivial fun h8 H => ?_
        simp -implicitDefEqProofs (disch:=first|omega|(simp only[LnZ];omega))[wrap64]
        exact hJ2 _ _ hl8 ⟨by simp [Tr.v, hf, ht], _, H, hT.put ho hl8 hf ht (by omega) (by omega)⟩
      · simp -implicitDefEqProofs (disch:=first|omega|(simp only[LnZ];omega))[wrap64, ho]
        exact hJ2 _ _ hl8 ⟨by simp [Tr.v], _, H, hT.skip (by simpa using ho)⟩
    · simp -implicitDefEqProofs (disch:=first|omega|(simp only[LnZ];omega))[wrap64]
      have hl8 : l = 8 := by omega
      subst hl8
      exact hJ _ _ hlx ⟨rfl, _, H, hT.done hlx⟩
  rw [List.take_of_length_le (by omega)] at hT
  simp -implicitDefEqProofs (disch:=first|omega|(simp only[LnZ];omega))[wrap64, H.sw2.bxld0]
  refine H.mks (α := BitVec 64) (z := 0) rfl rfl (show Ty.own (α := BitVec 64) Heap.nil [.int .u64 0] 0 from ⟨rfl, rfl⟩) (Nat.le_refl _) (by omega) (by omega) fun vb h7 H => ?_
  simp -implicitDefEqProofs (disch:=first|omega|(simp only[LnZ];omega))[wrap64]
  refine H.alloc rfl fun b7 h8 H => ?_
  simp -implicitDefEqProofs (disch:=first|omega|(simp only[LnZ];omega))[wrap64]
  refine H.bxst (u := vb) rfl rfl (by rw [H.sw1.rep.cells]; rfl) (by rw [H.sw1.rep.cells]; simp [H.sw1.rep.one]) (by simp [H.sw1.rep.cells]) fun h9 H => ?_
  have H : HS h [ow vb (List.replicate a.acc.length (0 : BitVec 64)), bx b7 [vb], ow vn T, bx b4 [vn], bx b3 [.int .i64 a.acc.length]] h9 := by
    simpa [setC, H.sw1.rep.cells] using H.sw1
  simp -implicitDefEqProofs (disch:=first|omega|(simp only[LnZ];omega))[wrap64, H.sw1.bxld0, H.rep.len]
  refine wp_count a.acc.length (fun i e h' => e = [none, some (.agg #[v1, v2, v3]), none, some (.pointer (some ⟨b3, 0, none⟩)), some (.pointer (some ⟨b4, 0, none⟩)), none, none, some (.pointer (some ⟨b7, 0, none⟩)), none, none, none, none, none, none, none, none, none, none, some (.int .i64 a.acc.length), some (.int .i64 i), none, none, none, none, none, none] ∧
    ∃ B, HS h [ow vb B, bx b7 [vb], ow vn T, bx b4 [vn], bx b3 [.int .i64 a.acc.length]] h' ∧ B.length = a.acc.length ∧ ∀ x y, x < a.acc.length → y < a.acc.length → bitR B x y = (decide (x < i) && acc0 a x y)) ⟨by simp, _, H, by simp, fun x y hx hy => by simp [bitR, hx]⟩ ?_
  rintro J i _ h10 hJ hi ⟨rfl, B, H, hBl, hB⟩
  simp -implicitDefEqProofs (disch:=first|omega|(simp only[LnZ];omega))[wrap64]
  refine IteW.mk (fun hlt2 => ?_) (fun hge2 => ?_)
  · have hin : i < a.acc.length := by omega
    simp -implicitDefEqProofs (disch:=first|omega|(simp only[LnZ];omega))[wrap64, H.sw4.bxld0]
    refine wp_count a.acc.length (fun j e h' => e = [none, some (.agg #[v1, v2, v3]), none, some (.pointer (some ⟨b3, 0, none⟩)), some (.pointer (some ⟨b4, 0, none⟩)), none, none, some (.pointer (some ⟨b7, 0, none⟩)), some (.int .i64 i), none, none, none, none, none, none, none, none, none, some (.int .i64 a.acc.length), some (.int .i64 i), some (.int .i64 a.acc.length), some (.int .i64 j), none, none, none, none] ∧
      ∃ B, HS h [ow vb B, bx b7 [vb], ow vn T, bx b4 [vn], bx b3 [.int .i64 a.acc.length]] h' ∧ B.length = a.acc.length ∧ ∀ x y, x < a.acc.length → y < a.acc.length → bitR B x y = (decide (x < i ∨ (x = i ∧ y < j)) && acc0 a x y)) ⟨by simp, _, H, hBl, fun x y hx hy => by simp [hB x y hx hy]⟩ ?_
    rintro J2 j _ h11 hJ2 hj ⟨rfl, B, H, hBl, hB⟩
    simp -implicitDefEqProofs (disch:=first|omega|(simp only[LnZ];omega))[wrap64]
    refine IteW.mk (fun hlt3 => ?_) (fun hge3 => ?_)
    · have hjn : j < a.acc.length := by omega
      have hc := cond_acc0 hin hjn
      have hstep : ∀ B' : List (BitVec 64), (∀ x y, x < a.acc.length → y < a.acc.length → bitR B' x y = (bitR B x y || (acc0 a i j && (decide (x = i) && decide (y = j))))) → ∀ x y, x < a.acc.length → y < a.acc.length → bitR B' x y = (decide (x < i ∨ (x = i ∧ y < j + 1)) && acc0 a x y) := by
        intro B' hB' x y hx hy
        rw [hB' x y hx hy, hB x y hx hy, Bool.eq_iff_iff]
        simp only [Bool.or_eq_true, Bool.and_eq_true, decide_eq_true_eq]
        constructor
        · rintro (⟨h1, h2⟩ | ⟨h1, rfl, rfl⟩)
          · exact ⟨by omega, h2⟩
          · exact ⟨by omega, h1⟩
        · rintro ⟨h1, h2⟩
          by_cases hxy : x = i ∧ y = j
          · obtain ⟨rfl, rfl⟩ := hxy; exact .inr ⟨h2, rfl, rfl⟩
          · exact .inl ⟨by omega, h2⟩
      by_cases h1 : a.acc[j] = true
      · simp -implicitDefEqProofs (disch:=first|omega|(simp only[LnZ];omega))[wrap64, (R2.on H).B, h1, H.sw1.bxld0, H.rep.U, u64_setB]
        refine H.storeF (setB (B[i]'(by omega)) j) (i := i) (by omega) rfl rfl trivial rfl fun h12 H => ?_
        simp -implicitDefEqProofs (disch:=first|omega|(simp only[LnZ];omega))[wrap64]
        exact hJ2 _ _ hjn ⟨rfl, _, H, by simpa using hBl, hstep _ fun x y hx hy => by rw [bitR_set (by omega) (by omega), hc, h1]; simp⟩
      · by_cases h2 : a.acc[i] = true
        · simp -implicitDefEqProofs (disch:=first|omega|(simp only[LnZ];omega))[wrap64, (R2.on H).B, h1, h2]
          exact hJ2 _ _ hjn ⟨rfl, _, H, hBl, hstep _ fun x y hx hy => by rw [hc, h2]; simp [h1]⟩
        · simp -implicitDefEqProofs (disch:=first|omega|(simp only[LnZ];omega))[wrap64, (R2.on H).B, h1, h2, H.sw1.bxld0, H.rep.U, u64_setB]
          refine H.storeF (setB (B[i]'(by omega)) j) (i := i) (by omega) rfl rfl trivial rfl fun h12 H => ?_
          simp -implicitDefEqProofs (disch:=first|omega|(simp only[LnZ];omega))[wrap64]
          exact hJ2 _ _ hjn ⟨rfl, _, H, by simpa using hBl, hstep _ fun x y hx hy => by rw [bitR_set (by omega) (by omega), hc]; simp [h1, h2]⟩
    · simp -implicitDefEqProofs (disch:=first|omega|(simp only[LnZ];omega))[wrap64]
      exact hJ _ _ hin ⟨rfl, _, H, hBl, fun x y hx hy => by
        rw [hB x y hx hy]
        congr 1
        exact decide_eq_decide.2 (by omega)⟩
  have hB2 : ∀ x y, x < a.acc.length → y < a.acc.length → bitR B x y = acc0 a x y := fun x y hx hy => by rw [hB x y hx hy]; simp [show x < i by omega]
  have hA : AccR a (bitR B) := fun x y hx hy hr => acc0_acc a x y hx hy (by rw [← hB2 x y hx hy]; exact hr)
  have hU : Upper a (bitR B) := fun S hS x y hx hy hr => by rw [hB2 x y hx hy]; exact acc0_upper a S hS x y hx hy hr
  simp -implicitDefEqProofs (disch:=first|omega|(simp only[LnZ];omega))[wrap64]
  obtain ⟨fv, hfv⟩ : ∃ fv, fv = Value.func (.func fn_impl_Automaton_simulation_1) #[] #[.pointer (some ⟨b3, 0, none⟩), .pointer (some ⟨b4, 0, none⟩), .pointer (some ⟨b7, 0, none⟩)] := ⟨_, rfl⟩
  have hfn : fnOf fv = some (fn_impl_Automaton_simulation_1, [], [.pointer (some ⟨b3, 0, none⟩), .pointer (some ⟨b4, 0, none⟩), .pointer (some ⟨b7, 0, none⟩)]) := by subst hfv; rfl
  rw [← hfv]
  refine wp_while (σ := List (BitVec 64) × Bool) (fun s e h' => e = [none, none, none, some (.pointer (some ⟨b3, 0, none⟩)), none, none, none, some (.pointer (some ⟨b7, 0, none⟩)), none, none, some fv, some (.bool s.2), none, none, none, none, none, none, none, none, none, none, none, none, none, none] ∧
    HS h [ow vb s.1, bx b7 [vb], ow vn T, bx b4 [vn], bx b3 [.int .i64 a.acc.length]] h' ∧ s.1.length = a.acc.length ∧ AccR a (bitR s.1) ∧ Upper a (bitR s.1) ∧ (s.2 = false → Great a (bitR s.1)))
    (fun s => 2 * cnt2 a.acc.length (bitR s.1) + (if s.2 then 1 else 0)) (B, true) ⟨by simp, H, hBl, hA, hU, by simp⟩ ?_
  rintro J ⟨B, c⟩ _ h11 hJ ⟨rfl, H, hBl, hA, hU, hG⟩
  dsimp only at H hBl hA hU hG
  simp -implicitDefEqProofs (disch:=first|omega|(simp only[LnZ];omega))[wrap64]
  cases c with
  | false =>
    simp -implicitDefEqProofs (disch:=first|omega|(simp only[LnZ];omega))[wrap64, H.sw1.bxld0]
    exact RetK.keep (hk _ _ ⟨B, H.sw1.drop.sw1.drop.sw1.drop.sw1.drop, hBl, hG rfl⟩)
  | true =>
  simp -implicitDefEqProofs (disch:=first|omega|(simp only[LnZ];omega))[wrap64, H.sw4.bxld0]
  refine wp_count a.acc.length (fun i e h' => ∃ c', e = [none, none, none, some (.pointer (some ⟨b3, 0, none⟩)), none, none, none, some (.pointer (some ⟨b7, 0, none⟩)), none, none, some fv, some (.bool c'), none, none, none, none, none, none, none, none, none, none, some (.int .i64 a.acc.length), some (.int .i64 i), none, none] ∧
    ∃ B', HS h [ow vb B', bx b7 [vb], ow vn T, bx b4 [vn], bx b3 [.int .i64 a.acc.length]] h' ∧ B'.length = a.acc.length ∧ Pass a (bitR B) (bitR B') c' i 0) ⟨false, by simp, B, H, hBl, Pass.start hA hU⟩ ?_
  rintro J1 i _ h12 hJ1 hi ⟨c', rfl, B', H, hBl', hP⟩
  simp -implicitDefEqProofs (disch:=first|omega|(simp only[LnZ];omega))[wrap64]
  refine IteW.mk (fun hlt4 => ?_) (fun hge4 => ?_)
  · have hin : i < a.acc.length := by omega
    simp -implicitDefEqProofs (disch:=first|omega|(simp only[LnZ];omega))[wrap64, H.sw4.bxld0]
    refine wp_count a.acc.length (fun j e h' => ∃ c', e = [none, none, none, some (.pointer (some ⟨b3, 0, none⟩)), none, none, none, some (.pointer (some ⟨b7, 0, none⟩)), none, none, some fv, some (.bool c'), some (.int .i64 i), none, none, none, none, none, none, none, none, none, some (.int .i64 a.acc.length), some (.int .i64 i), some (.int .i64 a.acc.length), some (.int .i64 j)] ∧
      ∃ B', HS h [ow vb B', bx b7 [vb], ow vn T, bx b4 [vn], bx b3 [.int .i64 a.acc.length]] h' ∧ B'.length = a.acc.length ∧ Pass a (bitR B) (bitR B') c' i j) ⟨c', by simp, B', H, hBl', hP⟩ ?_
    rintro J2 j _ h13 hJ2 hj ⟨c', rfl, B', H, hBl', hP⟩
    simp -implicitDefEqProofs (disch:=first|omega|(simp only[LnZ];omega))[wrap64]
    refine IteW.mk (fun hlt5 => ?_) (fun hge5 => ?_)
    · have hjn : j < a.acc.length := by omega
      have hbg := bitR_get (B := B') (i := i) (j := j) (by omega)
      cases hb : (B'[i]'(by omega)).getLsbD j with
      | false =>
        simp -implicitDefEqProofs (disch:=first|omega|(simp only[LnZ];omega))[wrap64, -BitVec.getLsbD_eq_getElem, H.sw1.bxld0, H.rep.U, u64_bit, hb]
        exact hJ2 _ _ hjn ⟨c', rfl, B', H, hBl', hP.keep fun hr => by rw [hbg, hb] at hr; simp at hr⟩
      | true =>
        simp -implicitDefEqProofs (disch:=first|omega|(simp only[LnZ];omega))[wrap64, -BitVec.getLsbD_eq_getElem, H.sw1.bxld0, H.rep.U, u64_bit, hb, hfn]
        refine (c_simulates (i := i) (j := j) ha H.sw4.bxld0 H.sw3.bxld0 H.sw1.bxld0 H.sw2.rep H.rep hT hBl' hin hjn).go ?_
        rintro _ _ ⟨rfl, r, rfl, hr⟩
        cases r with
        | true =>
          simp -implicitDefEqProofs (disch:=first|omega|(simp only[LnZ];omega))[wrap64]
          exact hJ2 _ _ hjn ⟨c', rfl, B', H, hBl', hP.keep fun _ => hr.1 rfl⟩
        | false =>
          simp -implicitDefEqProofs (disch:=first|omega|(simp only[LnZ];omega))[wrap64, H.sw1.bxld0, H.rep.U, u64_clrB]
          refine H.storeF (clrB (B'[i]'(by omega)) j) (i := i) (by omega) rfl rfl trivial rfl fun h14 H => ?_
          simp -implicitDefEqProofs (disch:=first|omega|(simp only[LnZ];omega))[wrap64]
          refine hJ2 _ _ hjn ⟨true, rfl, _, H, by simpa using hBl', ?_⟩
          rw [bitR_clr (by omega) (by omega)]
          exact hP.rem ha hin hjn (by rw [hbg, hb]) (fun hA => by have := hr.2 hA; simp at this)
    · simp -implicitDefEqProofs (disch:=first|omega|(simp only[LnZ];omega))[wrap64]
      exact hJ1 _ _ hin ⟨c', rfl, B', H, hBl', hP.next (by omega)⟩
  · simp -implicitDefEqProofs (disch:=first|omega|(simp only[LnZ];omega))[wrap64]
    refine hJ (B', c') _ _ ?_ ⟨rfl, H, hBl', hP.acc, hP.upper, fun hc => by dsimp only at hc; subst hc; exact hP.done (by omega)⟩
    cases c' with
    | true => have := hP.less rfl; simp; omega
    | false => simp [(hP.same rfl).1]
end Go.Proofs.YtglnelcmcimljaaGreat

namespace Go.Proofs.YtglnelcmcimljaaGreat
open Go
def unitR (h : Heap) (a b : Aut) (u : Value) (h' : Heap) : Prop := ∃ v, u = .tuple #[v, .bool (decide (a.Ok ∧ b.Ok ∧ (a.unite b).Ok))] ∧ HS h [ow v (if a.Ok ∧ b.Ok ∧ (a.unite b).Ok then a.unite b else Aut.empty)] h'
theorem unitR.no {h h' : Heap} {a b : Aut} (hn : ¬ (a.Ok ∧ b.Ok ∧ (a.unite b).Ok)) (H : HS h [] h') : unitR h a b (.tuple #[.agg #[.slice none 0 0, .slice none 0 0, .slice none 0 0], .bool false]) h' :=
  ⟨_, by rw [decide_eq_false hn], by rw [if_neg hn]; exact empty_ow H⟩
theorem unitR.yes {h h' : Heap} {a b : Aut} {v : Value} (hn : a.Ok ∧ b.Ok ∧ (a.unite b).Ok) (H : HS h [ow v (a.unite b)] h') : unitR h a b (.tuple #[v, .bool true]) h' :=
  ⟨_, by rw [decide_eq_true hn], by rw [if_pos hn]; exact H⟩
end Go.Proofs.YtglnelcmcimljaaGreat

namespace Go.Proofs.YtglnelcmcimljaaGreat
open Go
def inclR (R : Rl) (a b : Aut) : Bool := a.init.all fun i => b.init.any fun j => R i.toNat (j.toNat + a.acc.length)
def InclA (a b : Aut) (r : Bool) : Prop := (¬ (a.Ok ∧ b.Ok ∧ (a.unite b).Ok) ∧ r = false) ∨ ((a.Ok ∧ b.Ok ∧ (a.unite b).Ok) ∧ ∃ R, Great (a.unite b) R ∧ r = inclR R a b)
theorem InclA.eq {a b : Aut} {r s : Bool} (h : InclA a b r) (h' : InclA a b s) : r = s := by
  rcases h with ⟨h1, rfl⟩ | ⟨h1, R, hR, rfl⟩
  · rcases h' with ⟨_, rfl⟩ | ⟨h2, _⟩
    · rfl
    · exact absurd h2 h1
  · rcases h' with ⟨h2, _⟩ | ⟨_, S, hS, rfl⟩
    · exact absurd h1 h2
    · obtain ⟨ha, hb, hc⟩ := h1
      have hl : (a.unite b).acc.length = a.acc.length + b.acc.length := by simp [Aut.unite]
      have : ∀ i ∈ a.init, ∀ j ∈ b.init, R i.toNat (j.toNat + a.acc.length) = S i.toNat (j.toNat + a.acc.length) := by
        intro i hi j hj
        have h1 := incr_mem ha.i i hi
        have h2 := incr_mem hb.i j hj
        exact hR.eq hS (by omega) (by omega)
      unfold inclR
      rw [Bool.eq_iff_iff, List.all_eq_true, List.all_eq_true]
      constructor <;> intro h i hi <;> have h3 := h i hi <;> rw [List.any_eq_true] at h3 ⊢ <;> obtain ⟨j, hj, h4⟩ := h3 <;> exact ⟨j, hj, by first | rw [this i hi j hj] at h4; exact h4 | rw [← this i hi j hj] at h4; exact h4⟩
end Go.Proofs.YtglnelcmcimljaaGreat

namespace Go.Proofs.YtglnelcmcimljaaGreat
open Go
def cls (e : Nat → Nat → Bool) (n x : Nat) : Nat := (grpS e n).1.getD x 0
theorem gnm_cls {e : Nat → Nat → Bool} {n x : Nat} : gnm e n (x : Int) = (cls e n x : Int) := by simp [gnm, cls]
def Fresh (e : Nat → Nat → Bool) (r : Nat) : Prop := ∀ k, k < r → e r k = false
section
variable {e : Nat → Nat → Bool}
theorem grpS_mono {i n : Nat} (h : i ≤ n) : (grpS e i).2 ≤ (grpS e n).2 := by
  induction n with
  | zero => obtain rfl : i = 0 := by omega
            exact Nat.le_refl _
  | succ n ih =>
    by_cases hi : i = n + 1
    · subst hi; exact Nat.le_refl _
    · have := ih (by omega)
      cases hf : (List.range n).find? (fun k => e n k) with
      | some k => rw [grpS_old hf]; exact this
      | none => rw [grpS_new hf]; simp only; omega
theorem cls_new {n r : Nat} (hr : r < n) (hf : Fresh e r) : cls e n r = (grpS e r).2 := by
  have hn : (List.range r).find? (fun k => e r k) = none := find_none hf
  unfold cls
  rw [grpS_get (i := r + 1) (by omega) (by omega), grpS_new hn, List.getD_eq_getElem?_getD, List.getElem?_append_right (by rw [grpS_len]; exact Nat.le_refl _), grpS_len]
  simp
theorem cls_old {n q k : Nat} (hq : q < n) (hf : (List.range q).find? (fun k => e q k) = some k) : cls e n q = cls e n k := by
  have hk := find_lt hf
  unfold cls
  rw [grpS_get (i := q + 1) (n := n) (q := q) (by omega) (by omega), grpS_old hf, List.getD_eq_getElem?_getD, List.getElem?_append_right (by rw [grpS_len]; exact Nat.le_refl _), grpS_len,
    grpS_get (i := q) (n := n) (q := k) hk (by omega)]
  simp
theorem cls_lt {n x : Nat} (hx : x < n) : cls e n x < (grpS e n).2 := by
  have := gnm_lt (e := e) (n := n) (x := x) (by omega) (by omega)
  rw [gnm_cls] at this
  omega
theorem find_some {p : Nat → Bool} {i k : Nat} (h : (List.range i).find? p = some k) : p k = true := by
  have := List.find?_some h
  exact this
theorem find_fresh {r : Nat} (h : (List.range r).find? (fun k => e r k) = none) : Fresh e r := by
  intro k hk
  rw [List.find?_eq_none] at h
  have := h k (List.mem_range.2 hk)
  simpa using this
theorem cls_rep {n : Nat} (htr : ∀ x y z, x < n → y < n → z < n → e x y = true → e y z = true → e x z = true) : ∀ m q, q ≤ m → q < n → ∃ r, r < n ∧ (r = q ∨ e q r = true) ∧ cls e n r = cls e n q ∧ Fresh e r
  | m, q, hm, hq => by
    cases hf : (List.range q).find? (fun k => e q k) with
    | none => exact ⟨q, hq, .inl rfl, rfl, find_fresh hf⟩
    | some k =>
      have hk := find_lt hf
      have hek := find_some hf
      cases m with
      | zero => omega
      | succ m =>
        obtain ⟨r, h1, h2, h3, h4⟩ := cls_rep htr m k (by omega) (by omega)
        refine ⟨r, h1, .inr ?_, by rw [h3, cls_old hq hf], h4⟩
        rcases h2 with rfl | h2
        · exact hek
        · exact htr _ _ _ hq (by omega) h1 hek h2
theorem fresh_inj {n r s : Nat} (hr : r < n) (hs : s < n) (fr : Fresh e r) (fs : Fresh e s) (h : cls e n r = cls e n s) : r = s := by
  have lt : ∀ {r s : Nat}, r < n → s < n → Fresh e r → Fresh e s → r < s → cls e n r < cls e n s := by
    intro r s hr hs fr fs hlt
    rw [cls_new hs fs, cls_new hr fr]
    have h1 := grpS_new (e := e) (i := r) (find_none fr)
    have h2 := grpS_mono (e := e) (show r + 1 ≤ s by omega)
    rw [h1] at h2
    simp only at h2
    omega
  by_cases h1 : r < s
  · have := lt hr hs fr fs h1; omega
  by_cases h2 : s < r
  · have := lt hs hr fs fr h2; omega
  omega
theorem cls_same {n p q : Nat} (hsy : ∀ x y, x < n → y < n → e x y = true → e y x = true) (htr : ∀ x y z, x < n → y < n → z < n → e x y = true → e y z = true → e x z = true) (hp : p < n) (hq : q < n) :
    cls e n p = cls e n q ↔ p = q ∨ e p q = true := by
  obtain ⟨r, h1, h2, h3, h4⟩ := cls_rep htr p p (Nat.le_refl _) hp
  obtain ⟨s, g1, g2, g3, g4⟩ := cls_rep htr q q (Nat.le_refl _) hq
  constructor
  · intro h
    have hrs := fresh_inj h1 g1 h4 g4 (by rw [h3, g3, h])
    subst hrs
    rcases h2 with rfl | h2
    · rcases g2 with rfl | g2
      · exact .inl rfl
      · exact .inr (hsy _ _ hq hp g2)
    · rcases g2 with rfl | g2
      · exact .inr h2
      · exact .inr (htr _ _ _ hp h1 hq h2 (hsy _ _ hq h1 g2))
  · rintro (rfl | h)
    · rfl
    · have hrs : r = s := by
        have hers : r = s ∨ e r s = true := by
          rcases h2 with rfl | h2
          · rcases g2 with rfl | g2
            · exact .inr h
            · exact .inr (htr _ _ _ hp hq g1 h g2)
          · have h5 := htr _ _ _ h1 hp hq (hsy _ _ hp h1 h2) h
            rcases g2 with rfl | g2
            · exact .inr h5
            · exact .inr (htr _ _ _ h1 hq g1 h5 g2)
        rcases hers with h5 | h5
        · exact h5
        by_cases h6 : r < s
        · have := g4 r h6
          rw [hsy _ _ h1 g1 h5] at this
          simp at this
        by_cases h7 : s < r
        · have := h4 s h7
          rw [h5] at this
          simp at this
        omega
      rw [← h3, ← g3, hrs]
theorem accG_at {a : Aut} : ∀ {n r : Nat}, r < n → Fresh e r → (accG a e n).getD (grpS e r).2 false = a.acc.getD r false
  | 0, r, h, _ => absurd h (Nat.not_lt_zero r)
  | n + 1, r, h, hf => by
    have hl := accG_len (a := a) (e := e) n
    by_cases hr : r = n
    · subst hr
      unfold accG
      rw [find_none hf]
      simp only
      rw [List.getD_eq_getElem?_getD, List.getElem?_append_right (by omega), hl]
      simp
    · have ih := accG_at (a := a) (show r < n by omega) hf
      unfold accG
      split
      · exact ih
      · have h1 := grpS_new (e := e) (i := r) (find_none hf)
        have h2 := grpS_mono (e := e) (show r + 1 ≤ n by omega)
        rw [h1] at h2
        simp only at h2
        rw [List.getD_eq_getElem?_getD, List.getElem?_append_left (by omega), ← List.getD_eq_getElem?_getD]
        exact ih
end
section
variable {a : Aut} {R : Rl}
theorem eqv_iff {x y : Nat} : eqv R x y = true ↔ R x y = true ∧ R y x = true := by simp [eqv]
theorem eqv_sy {n : Nat} : ∀ x y, x < n → y < n → eqv R x y = true → eqv R y x = true := fun x y _ _ h => eqv_iff.2 (eqv_iff.1 h).symm
theorem eqv_tr (ha : a.Ok) (hR : Great a R) : ∀ x y z, x < a.acc.length → y < a.acc.length → z < a.acc.length → eqv R x y = true → eqv R y z = true → eqv R x z = true := fun x y z hx hy hz h k => by
  rw [eqv_iff] at *
  exact ⟨hR.trans ha hx hy hz h.1 k.1, hR.trans ha hz hy hx k.2 h.2⟩
theorem cls_R (ha : a.Ok) (hR : Great a R) {p q : Nat} (hp : p < a.acc.length) (hq : q < a.acc.length) (h : cls (eqv R) a.acc.length p = cls (eqv R) a.acc.length q) : R p q = true := by
  rcases (cls_same eqv_sy (eqv_tr ha hR) hp hq).1 h with rfl | h
  · exact hR.refl hp
  · exact (eqv_iff.1 h).1
theorem mrg_st {w : Nat → Int} {t p q : Nat} (h : StE a.edges w t p q) : StE (a.mergeE (eqv R)).edges w t (cls (eqv R) a.acc.length p) (cls (eqv R) a.acc.length q) := by
  obtain ⟨f, hf, h1, h2, h3⟩ := h
  exact ⟨_, ded_mem.2 (List.mem_map_of_mem hf), by simp only [Tr.ren, h1, gnm_cls], by simp only [Tr.ren, h2, gnm_cls], h3⟩
theorem mrg_st' (ha : a.Ok) {w : Nat → Int} {t x y : Nat} (h : StE (a.mergeE (eqv R)).edges w t x y) : ∃ p q, StE a.edges w t p q ∧ x = cls (eqv R) a.acc.length p ∧ y = cls (eqv R) a.acc.length q := by
  obtain ⟨f, hf, h1, h2, h3⟩ := h
  obtain ⟨g, hg, rfl⟩ := List.mem_map.1 (ded_mem.1 hf)
  obtain ⟨u, v, k1, k2, k3, k4⟩ := ha.tr hg
  simp only [Tr.ren, k1, k2, gnm_cls] at h1 h2
  exact ⟨u, v, ⟨g, hg, k1, k2, h3⟩, by omega, by omega⟩
theorem mrg_tru (ha : a.Ok) (hR : Great a R) {p : Nat} (hp : p < a.acc.length) : tru (a.mergeE (eqv R)).acc (cls (eqv R) a.acc.length p) ↔ tru a.acc p := by
  obtain ⟨r, h1, h2, h3, h4⟩ := cls_rep (eqv_tr ha hR) p p (Nat.le_refl _) hp
  have h5 := accG_at (a := a) h1 h4
  rw [← cls_new h1 h4, h3] at h5
  have e1 := cls_R ha hR hp h1 h3.symm
  have e2 := cls_R ha hR h1 hp h3
  show (accG a (eqv R) a.acc.length).getD _ false = true ↔ _
  rw [h5]
  exact ⟨fun h => hR.simu.1 r p h1 hp e2 h, fun h => hR.simu.1 p r hp h1 e1 h⟩
theorem mrg_ini (ha : a.Ok) {s : Nat} (h : (s : Int) ∈ a.init) : ((cls (eqv R) a.acc.length s : Nat) : Int) ∈ (a.mergeE (eqv R)).init := by
  refine memL_mem.2 ⟨_, rfl, cls_lt (ha.ini h), ?_⟩
  rw [List.any_eq_true]
  exact ⟨_, h, by rw [gnm_cls]; simp⟩
theorem mrg_ini' (ha : a.Ok) {x : Nat} (h : (x : Int) ∈ (a.mergeE (eqv R)).init) : ∃ s : Nat, (s : Int) ∈ a.init ∧ x = cls (eqv R) a.acc.length s := by
  obtain ⟨q, h1, h2, h3⟩ := memL_mem.1 h
  rw [List.any_eq_true] at h3
  obtain ⟨i, hi, h4⟩ := h3
  have h5 := incr_mem ha.i i hi
  obtain ⟨s, rfl⟩ : ∃ s : Nat, i = s := ⟨i.toNat, by omega⟩
  rw [gnm_cls, decide_eq_true_eq] at h4
  exact ⟨s, hi, by omega⟩
theorem mergeE_lang (ha : a.Ok) (hR : Great a R) {w : Nat → Int} (hw : Letters w) : (a.mergeE (eqv R)).Lang w ↔ a.Lang w := by
  constructor
  · rintro ⟨x, hx, h⟩
    obtain ⟨s, h1, rfl⟩ := mrg_ini' ha hx
    have hs := ha.ini h1
    refine ⟨s, h1, Run.sim (fun x p => p < a.acc.length ∧ ∃ y, y < a.acc.length ∧ x = cls (eqv R) a.acc.length y ∧ R y p = true) ?_ ?_ h ⟨hs, s, hs, rfl, hR.refl hs⟩⟩
    · rintro t x x' p ⟨g1, y, g2, rfl, g3⟩ g4 _
      obtain ⟨u, v, ⟨e, he, k1, k2, k3⟩, k4, rfl⟩ := mrg_st' ha g4
      obtain ⟨u', v', m1, m2, m3, m4⟩ := ha.tr he
      obtain rfl : u' = u := by omega
      obtain rfl : v' = v := by omega
      have h5 := hR.trans ha m3 g2 g1 (cls_R ha hR m3 g2 k4.symm) g3
      have h6 := hw t
      obtain ⟨n, hn⟩ : ∃ n : Nat, w t = n := ⟨(w t).toNat, by omega⟩
      rw [hn] at k3
      obtain ⟨f, hf, n1, n2, n3⟩ := hR.simu.2 _ p m3 g1 h5 n (by omega) e he k1 k3
      obtain ⟨c, d, o1, o2, o3, o4⟩ := ha.tr hf
      rw [k2, o2, Int.toNat_natCast, Int.toNat_natCast] at n3
      exact ⟨d, ⟨f, hf, n1, o2, by rw [hn]; exact n2⟩, o4, _, m4, rfl, n3⟩
    · rintro x p ⟨g1, y, g2, rfl, g3⟩ g4
      exact hR.simu.1 y p g2 g1 g3 ((mrg_tru ha hR g2).1 g4)
  · rintro ⟨s, hs, h⟩
    refine ⟨_, mrg_ini ha hs, Run.sim (fun p x => p < a.acc.length ∧ x = cls (eqv R) a.acc.length p) ?_ ?_ h ⟨ha.ini hs, rfl⟩⟩
    · rintro t p q x ⟨g1, rfl⟩ g2 _
      exact ⟨_, mrg_st g2, (ha.st g2).2, rfl⟩
    · rintro p x ⟨g1, rfl⟩ g2
      exact (mrg_tru ha hR g1).2 g2
end
theorem Great.ex {a : Aut} (ha : a.Ok) : ∃ R, Great a R := by
  refine ⟨fun i j => @decide (∃ S, Simu a S ∧ S i j = true) (Classical.propDecidable _), ⟨?_, ?_⟩, ?_⟩
  · intro i j hi hj h h1
    simp only [decide_eq_true_eq] at h
    obtain ⟨S, hS, h2⟩ := h
    exact hS.1 i j hi hj h2 h1
  · intro i j hi hj h
    simp only [decide_eq_true_eq] at h
    obtain ⟨S, hS, h2⟩ := h
    refine (hS.2 i j hi hj h2).mono ha fun x y _ _ hxy => ?_
    simp only [decide_eq_true_eq]
    exact ⟨S, hS, hxy⟩
  · intro S hS i j _ _ h
    simp only [decide_eq_true_eq]
    exact ⟨S, hS, h⟩
theorem mrg_lang {a : Aut} (ha : a.Ok) {w : Nat → Int} (hw : Letters w) : a.mrg.Lang w ↔ a.Lang w := by
  obtain ⟨R, hR⟩ := Great.ex ha
  rw [← Aut.mrg_eq hR]
  exact mergeE_lang ha hR hw
theorem rnd_lang {a : Aut} (ha : a.Ok) {w : Nat → Int} (hw : Letters w) : a.rnd.Lang w ↔ a.Lang w := (mrg_lang (Aut.trim_ok ha) hw).trans (trim_lang ha)
theorem SmpR.all {a r : Aut} (h : SmpR a r) : a.Ok → (∀ {w}, Letters w → (r.Lang w ↔ a.Lang w)) ∧ r.acc.length ≤ a.acc.length ∧ r.rnd = r := by
  induction h with
  | stop h => intro ha; exact ⟨fun _ => Iff.rfl, Nat.le_refl _, h⟩
  | more h _ ih =>
    intro ha
    obtain ⟨h1, h2, h3⟩ := ih (Aut.rnd_ok ha)
    have h4 := (Aut.mrg_len (Aut.trim_ok ha)).1
    have h5 := (Aut.trim_len ha).1
    exact ⟨fun hw => (h1 hw).trans (rnd_lang ha hw), Nat.le_trans h2 (Nat.le_trans h4 h5), h3⟩
theorem smp_lang {a : Aut} (ha : a.Ok) {w : Nat → Int} (hw : Letters w) : a.smp.Lang w ↔ a.Lang w := ((Aut.smp_spec ha).1.all ha).1 hw
theorem smp_len {a : Aut} (ha : a.Ok) : a.smp.acc.length ≤ a.acc.length := ((Aut.smp_spec ha).1.all ha).2.1
theorem smp_smp {a : Aut} (ha : a.Ok) : a.smp.smp = a.smp := Aut.smp_stop (Aut.smp_spec ha).2 ((Aut.smp_spec ha).1.all ha).2.2
section
variable {a b : Aut}
end
end Go.Proofs.YtglnelcmcimljaaGreat

namespace Go.Proofs.YtglnelcmcimljaaGreat
open Go
def leav (es : List Tr) (i : Nat) : List Tr := es.filter fun e => e.frm = (i : Int)
theorem leav_take {es : List Tr} {k i : Nat} (hk : k < es.length) : leav (es.take (k + 1)) i = leav (es.take k) i ++ (if es[k].frm = (i : Int) then [es[k]] else []) := by
  rw [leav, leav, List.take_add_one, List.getElem?_eq_getElem hk]
  simp only [Option.toList_some, List.filter_append]
  congr 1
  by_cases h : es[k].frm = (i : Int) <;> simp [h]
theorem leav_len {es : List Tr} {i : Nat} : (leav es i).length ≤ es.length := List.length_filter_le _ _
theorem c_l13Leaving {h : Heap} {v : Value} {a : Aut} (Ra : Rep h v a) (ha : a.Ok) : CallE Tryz.prog fn_spec_l13Leaving [v] h (fun u h' => ∃ L : List (List Tr), HS h [ow u L] h' ∧ L.length = a.acc.length ∧ ∀ i (hi : i < L.length), L[i] = leav a.edges i) := by
  obtain ⟨v1, v2, v3, rfl, R1, R2, R3⟩ := Rep_Aut.1 Ra
  refine CallE.gen fun k hk => EN_spec_l13Leaving rfl ?_
  have hn := ha.n
  have he := ha.e
  simp -implicitDefEqProofs (disch:=first|omega|(simp only[LnZ];omega))[wrap64, R2.len]
  refine HS.init.mks (α := List Tr) (z := []) rfl rfl own_nils (Nat.le_refl _) (by omega) (by omega) fun vo h1 H => ?_
  simp -implicitDefEqProofs (disch:=first|omega|(simp only[LnZ];omega))[wrap64]
  refine wp_count a.edges.length (fun k e h' => e = [none, some (.agg #[v1, v2, v3]), none, some vo, some (.int .i64 k)] ∧
    ∃ L : List (List Tr), HS h [ow vo L] h' ∧ L.length = a.acc.length ∧ ∀ i (hi : i < L.length), L[i] = leav (a.edges.take k) i) ⟨by simp, _, H, by simp, fun i hi => by simp [leav]⟩ ?_
  rintro J k _ h2 hJ hi ⟨rfl, L, H, hL, hE⟩
  simp -implicitDefEqProofs (disch:=first|omega|(simp only[LnZ];omega))[wrap64, (R3.on H).len]
  refine IteW.mk (fun hlt => ?_) (fun hge => ?_)
  · have hlx : k < a.edges.length := by omega
    have hx := ha.t hlx
    have hv := R3.okTr hlx
    unfold Tr.Ok at hx
    obtain ⟨f, hf⟩ : ∃ f : Nat, a.edges[k].frm = f := ⟨a.edges[k].frm.toNat, by omega⟩
    have hfL : f < L.length := by omega
    obtain ⟨w, hw, HT⟩ := H.take hfL
    change hload _ (some (elp 1 vo f)) none = some w at hw
    have hl := leav_len (es := a.edges.take k) (i := f)
    have hl2 : (a.edges.take k).length ≤ a.edges.length := by simp; omega
    rw [hE f hfL] at HT
    simp -implicitDefEqProofs (disch:=first|omega|(simp only[LnZ];omega))[wrap64, (R3.on H).fTr, (R3.on H).xTr, hf, H.rep.X (n := 1) rfl, hw, Tr.v, setC]
    refine HT.app1 a.edges[k] rfl rfl ?_ (R3.okF hlx) rfl rfl ?_ (by omega) fun w' h3 HT => ?_
    · rw [← hf]; rfl
    · omega
    simp -implicitDefEqProofs (disch:=first|omega|(simp only[LnZ];omega))[wrap64, HS.holeia HT.sw1 (n := 1) rfl hfL, (R3.on HT).fTr, hf]
    refine HS.storeH HT rfl rfl rfl fun h4 H => ?_
    simp -implicitDefEqProofs (disch:=first|omega|(simp only[LnZ];omega))[wrap64]
    refine hJ _ _ hlx ⟨rfl, _, H, by simpa using hL, fun i hi => ?_⟩
    rw [leav_take hlx, hf]
    rw [List.getElem_set]
    by_cases hif : f = i
    · subst hif; simp
    · have h5 : ¬ (f : Int) = (i : Int) := by omega
      rw [if_neg hif, if_neg h5, hE i (by simpa using hi)]; simp
  · simp -implicitDefEqProofs (disch:=first|omega|(simp only[LnZ];omega))[wrap64]
    rw [List.take_of_length_le (by omega)] at hE
    exact RetK.keep (hk _ _ ⟨L, H, hL, hE⟩)
theorem c_l13Answers {h : Heap} {v w u : Value} {fs gs : List Tr} {M : List (List Bool)} {n : Nat} (hn : n ≤ 64) (Rf : Rep h v fs) (Rg : Rep h w gs) (RM : Rep h u M) (hM : M.length = n) (hr : ∀ r ∈ M, r.length = n) (hf : ∀ e ∈ fs, e.Ok n) (hg : ∀ e ∈ gs, e.Ok n) :
    CallE Tryz.prog fn_spec_l13Answers [v, w, u] h (fun z h' => h' = h ∧ ∃ r : Bool, z = .bool r ∧ (r = true ↔ ∀ l : Nat, l < 8 → ∀ e ∈ fs, e.on l = true → ∃ f ∈ gs, f.on l = true ∧ matR M e.to.toNat f.to.toNat = true)) := by
  refine CallE.gen fun k hk => EN_spec_l13Answers rfl ?_
  have e1 := Rf.lt
  have e2 := Rg.lt
  simp -implicitDefEqProofs (disch:=first|omega|(simp only[LnZ];omega))[wrap64]
  refine wp_count 8 (fun l e h' => h' = h ∧ e = [some v, some w, some u, none, some (.int .i64 l), none, none, none] ∧
    ∀ l' < l, ∀ e ∈ fs, e.on (l' : Nat) = true → ∃ f ∈ gs, f.on (l' : Nat) = true ∧ matR M e.to.toNat f.to.toNat = true) ⟨rfl, by simp, fun l' hl' => absurd hl' (Nat.not_lt_zero l')⟩ ?_
  rintro J l _ h hJ hl ⟨rfl, rfl, hA⟩
  simp -implicitDefEqProofs (disch:=first|omega|(simp only[LnZ];omega))[wrap64]
  refine IteW.mk (fun hlt => ?_) (fun hge => ?_)
  · have hl8 : l < 8 := by omega
    simp -implicitDefEqProofs (disch:=first|omega|(simp only[LnZ];omega))[wrap64]
    refine wp_count fs.length (fun k e h' => h' = _ ∧ e = [some v, some w, some u, none, some (.int .i64 l), some (.int .i64 k), none, none] ∧
      ∀ k' (hk' : k' < fs.length), k' < k → fs[k'].on (l : Nat) = true → ∃ f ∈ gs, f.on (l : Nat) = true ∧ matR M fs[k'].to.toNat f.to.toNat = true) ⟨rfl, by simp, fun k' _ hk' => absurd hk' (Nat.not_lt_zero k')⟩ ?_
    rintro J2 k _ h hJ2 hk2 ⟨rfl, rfl, hA2⟩
    simp -implicitDefEqProofs (disch:=first|omega|(simp only[LnZ];omega))[wrap64, Rf.len]
    refine IteW.mk (fun hlt2 => ?_) (fun hge2 => ?_)
    · have hkx : k < fs.length := by omega
      have hnext : (fs[k].on (l : Nat) = true → ∃ f ∈ gs, f.on (l : Nat) = true ∧ matR M fs[k].to.toNat f.to.toNat = true) → ∀ k' (hk' : k' < fs.length), k' < k + 1 → fs[k'].on (l : Nat) = true → ∃ f ∈ gs, f.on (l : Nat) = true ∧ matR M fs[k'].to.toNat f.to.toNat = true := by
        intro h0 k' hk' hkk ho
        by_cases h1 : k' = k
        · subst h1; exact h0 ho
        · exact hA2 k' hk' (by omega) ho
      simp -implicitDefEqProofs (disch:=first|omega|(simp only[LnZ];omega))[wrap64, Rf.xTr]
      refine (c_l7On (Rep_Tr.2 ⟨rfl, Rf.okTr hkx⟩)).go ?_
      rintro _ _ ⟨rfl, rfl⟩
      by_cases ho : fs[k].on l = true
      case neg =>
        simp -implicitDefEqProofs (disch:=first|omega|(simp only[LnZ];omega))[wrap64, ho]
        exact hJ2 _ _ hkx ⟨rfl, rfl, hnext fun h => absurd h ho⟩
      have hok := hf _ (List.getElem_mem hkx)
      unfold Tr.Ok at hok
      obtain ⟨t, ht⟩ : ∃ t : Nat, fs[k].to = t := ⟨fs[k].to.toNat, by omega⟩
      rw [ht, Int.toNat_natCast] at hnext
      obtain ⟨z, hz, Rz⟩ := RM.ldL (i := t) (by omega)
      have hzl := hr _ (List.getElem_mem (show t < M.length by omega))
      simp -implicitDefEqProofs (disch:=first|omega|(simp only[LnZ];omega))[wrap64, ho]
      refine wp_while (σ := Nat × Bool) (fun s e h' => h' = _ ∧ e = [some v, some w, some u, none, some (.int .i64 l), some (.int .i64 k), some (.bool s.2), some (.int .i64 s.1)] ∧ s.1 ≤ gs.length ∧
        (if s.2 = true then ∃ f ∈ gs, f.on (l : Nat) = true ∧ matR M t f.to.toNat = true else ∀ m' (hm' : m' < gs.length), m' < s.1 → ¬ (gs[m'].on (l : Nat) = true ∧ matR M t gs[m'].to.toNat = true)))
        (fun s => gs.length - s.1) (0, false) ⟨rfl, by simp, by simp, by simp⟩ ?_
      rintro J3 ⟨m, some'⟩ _ h hJ3 ⟨rfl, rfl, hm, hS⟩
      dsimp only at hm hS
      by_cases hmx : m < gs.length
      case neg =>
        simp -implicitDefEqProofs (disch:=first|omega|(simp only[LnZ];omega))[wrap64, Rg.len, hmx]
        cases some' with
        | true =>
          simp -implicitDefEqProofs (disch:=first|omega|(simp only[LnZ];omega))[wrap64]
          exact hJ2 _ _ hkx ⟨rfl, rfl, hnext fun _ => by simpa using hS⟩
        | false =>
          simp -implicitDefEqProofs (disch:=first|omega|(simp only[LnZ];omega))[wrap64]
          refine RetK.keep (hk _ _ ⟨rfl, false, rfl, ?_⟩)
          simp only [Bool.false_eq_true, false_iff]
          intro h
          obtain ⟨f, hf, h1, h2⟩ := h l hl8 _ (List.getElem_mem hkx) ho
          obtain ⟨m', hm', rfl⟩ := List.mem_iff_getElem.1 hf
          rw [ht, Int.toNat_natCast] at h2
          exact (by simpa using hS : ∀ m' (hm' : m' < gs.length), m' < m → ¬ (gs[m'].on (l : Nat) = true ∧ matR M t gs[m'].to.toNat = true)) m' hm' (by omega) ⟨h1, h2⟩
      cases some' with
      | true =>
        simp -implicitDefEqProofs (disch:=first|omega|(simp only[LnZ];omega))[wrap64, Rg.len, hmx]
        exact hJ2 _ _ hkx ⟨rfl, rfl, hnext fun _ => by simpa using hS⟩
      | false =>
        have hS' : ∀ m' (hm' : m' < gs.length), m' < m → ¬ (gs[m'].on (l : Nat) = true ∧ matR M t gs[m'].to.toNat = true) := by simpa using hS
        simp -implicitDefEqProofs (disch:=first|omega|(simp only[LnZ];omega))[wrap64, Rg.len, hmx, Rg.xTr]
        refine (c_l7On (Rep_Tr.2 ⟨rfl, Rg.okTr hmx⟩)).go ?_
        rintro _ _ ⟨rfl, rfl⟩
        by_cases ho2 : gs[m].on l = true
        · have hok2 := hg _ (List.getElem_mem hmx)
          unfold Tr.Ok at hok2
          obtain ⟨t2, ht2⟩ : ∃ t2 : Nat, gs[m].to = t2 := ⟨gs[m].to.toNat, by omega⟩
          simp -implicitDefEqProofs (disch:=first|omega|(simp only[LnZ];omega))[wrap64, ho2, Rf.X (n := 4) rfl, Rf.fTr, ht, RM.X (n := 1) rfl, hz, Rg.X (n := 4) rfl, Rg.fTr, ht2, Rz.B]
          refine hJ3 (m + 1, M[t][t2]'(by omega)) _ _ (by simp; omega) ⟨rfl, rfl, hmx, ?_⟩
          have hmat : matR M t t2 = M[t][t2]'(by omega) := matR_get (by omega) (by omega)
          cases hb : M[t][t2]'(by omega) with
          | true => exact ⟨_, List.getElem_mem hmx, ho2, by rw [ht2]; simp [hmat, hb]⟩
          | false =>
            simp only [Bool.false_eq_true, if_false]
            intro m' hm' hmm
            by_cases h1 : m' = m
            · subst h1; rintro ⟨_, h2⟩; rw [ht2, Int.toNat_natCast, hmat, hb] at h2; simp at h2
            · exact hS' m' hm' (by omega)
        · simp -implicitDefEqProofs (disch:=first|omega|(simp only[LnZ];omega))[wrap64, ho2]
          refine hJ3 (m + 1, false) _ _ (by simp; omega) ⟨rfl, rfl, hmx, ?_⟩
          simp only [Bool.false_eq_true, if_false]
          intro m' hm' hmm
          by_cases h1 : m' = m
          · subst h1; exact fun h => ho2 h.1
          · exact hS' m' hm' (by omega)
    · simp -implicitDefEqProofs (disch:=first|omega|(simp only[LnZ];omega))[wrap64]
      refine hJ _ _ hl8 ⟨rfl, rfl, fun l' hl' e he ho => ?_⟩
      by_cases h1 : l' = l
      · subst h1
        obtain ⟨k', hk', rfl⟩ := List.mem_iff_getElem.1 he
        exact hA2 k' hk' (by omega) ho
      · exact hA l' (by omega) e he ho
  · simp -implicitDefEqProofs (disch:=first|omega|(simp only[LnZ];omega))[wrap64]
    refine RetK.keep (hk _ _ ⟨rfl, true, rfl, ?_⟩)
    simp only [true_iff]
    intro l' hl' e he ho
    exact hA l' (by omega) e he ho
theorem c_l13Relation {h : Heap} {v : Value} {a : Aut} (Ra : Rep h v a) (ha : a.Ok) : CallE Tryz.prog fn_spec_l13Relation [v] h (fun u h' => ∃ M : List (List Bool), HS h [ow u M] h' ∧ M.length = a.acc.length ∧ (∀ r ∈ M, r.length = a.acc.length) ∧ Great a (matR M)) := by
  obtain ⟨v1, v2, v3, rfl, R1, R2, R3⟩ := Rep_Aut.1 Ra
  refine CallE.gen fun k hk => EN_spec_l13Relation rfl ?_
  have hn := ha.n
  have he := ha.e
  simp -implicitDefEqProofs (disch:=first|omega|(simp only[LnZ];omega))[wrap64, R2.len]
  refine HS.init.bls0 (List Bool) fun vm h1 H => ?_
  simp -implicitDefEqProofs (disch:=first|omega|(simp only[LnZ];omega))[wrap64]
  refine wp_count a.acc.length (fun i e h' => ∃ vm, e = [none, some (.agg #[v1, v2, v3]), none, some (.int .i64 a.acc.length), some vm, some (.int .i64 i), none, none, none, none, none, none] ∧
    ∃ M : List (List Bool), HS h [ow vm M] h' ∧ M.length = i ∧ ∀ x (hx : x < M.length), M[x] = (List.range a.acc.length).map (acc0 a x)) ⟨vm, by simp, [], H, rfl, fun x hx => by simp at hx⟩ ?_
  rintro J i _ h2 hJ hi ⟨vm, rfl, M, H, hM, hE⟩
  simp -implicitDefEqProofs (disch:=first|omega|(simp only[LnZ];omega))[wrap64]
  refine IteW.mk (fun hlt => ?_) (fun hge => ?_)
  · have hin : i < a.acc.length := by omega
    simp -implicitDefEqProofs (disch:=first|omega|(simp only[LnZ];omega))[wrap64]
    refine H.bls0 Bool fun vr h3 H => ?_
    simp -implicitDefEqProofs (disch:=first|omega|(simp only[LnZ];omega))[wrap64]
    refine wp_count a.acc.length (fun j e h' => ∃ vr, e = [none, some (.agg #[v1, v2, v3]), none, some (.int .i64 a.acc.length), some vm, some (.int .i64 i), some vr, some (.int .i64 j), none, none, none, none] ∧
      HS h [ow vr ((List.range j).map (acc0 a i)), ow vm M] h') ⟨vr, by simp, H⟩ ?_
    rintro J2 j _ h4 hJ2 hj ⟨vr, rfl, H⟩
    simp -implicitDefEqProofs (disch:=first|omega|(simp only[LnZ];omega))[wrap64]
    refine IteW.mk (fun hlt2 => ?_) (fun hge2 => ?_)
    · have hjn : j < a.acc.length := by omega
      have hc := cond_acc0 hin hjn
      have hnext : ∀ b : Bool, b = acc0 a i j → (List.range j).map (acc0 a i) ++ [b] = (List.range (j + 1)).map (acc0 a i) := by
        rintro b rfl; rw [List.range_succ, List.map_append]; rfl
      by_cases h1 : a.acc[i] = true
      · simp -implicitDefEqProofs (disch:=first|omega|(simp only[LnZ];omega))[wrap64, (R2.on H).B, h1]
        refine H.app1 a.acc[j] rfl rfl rfl trivial rfl rfl ?_ ?_ fun vr' h5 H => ?_
        · simp; omega
        · simp; omega
        simp -implicitDefEqProofs (disch:=first|omega|(simp only[LnZ];omega))[wrap64]
        rw [hnext _ (by rw [hc, h1]; simp)] at H
        exact hJ2 _ _ hjn ⟨vr', rfl, H⟩
      · simp -implicitDefEqProofs (disch:=first|omega|(simp only[LnZ];omega))[wrap64, (R2.on H).B, h1]
        refine H.app1 true rfl rfl rfl trivial rfl rfl ?_ ?_ fun vr' h5 H => ?_
        · simp; omega
        · simp; omega
        simp -implicitDefEqProofs (disch:=first|omega|(simp only[LnZ];omega))[wrap64]
        rw [hnext _ (by rw [hc]; simp [h1])] at H
        exact hJ2 _ _ hjn ⟨vr', rfl, H⟩
    · simp -implicitDefEqProofs (disch:=first|omega|(simp only[LnZ];omega))[wrap64, H.rep.cells]
      have hjn : j = a.acc.length := by omega
      subst hjn
      refine H.appO rfl rfl (by rw [H.rep.cells]; rfl) rfl rfl ?_ ?_ fun vm' h5 H => ?_
      · omega
      · omega
      simp -implicitDefEqProofs (disch:=first|omega|(simp only[LnZ];omega))[wrap64]
      refine hJ _ _ hin ⟨vm', rfl, _, H, by simp [hM], fun x hx => ?_⟩
      by_cases hxi : x < M.length
      · rw [List.getElem_append_left hxi]; exact hE x hxi
      · have : x = i := by simp at hx; omega
        subst this
        rw [List.getElem_append_right (by omega)]; simp
  simp -implicitDefEqProofs (disch:=first|omega|(simp only[LnZ];omega))[wrap64]
  have hMn : M.length = a.acc.length := by omega
  have hr : ∀ r ∈ M, r.length = a.acc.length := by
    intro r hr
    obtain ⟨x, hx, rfl⟩ := List.mem_iff_getElem.1 hr
    rw [hE x hx]; simp
  have hB2 : ∀ x y, x < a.acc.length → y < a.acc.length → matR M x y = acc0 a x y := by
    intro x y hx hy
    have h1 := hE x (by omega)
    rw [matR_get (by omega) (by rw [h1]; simpa using hy)]
    simp [h1]
  have hA : AccR a (matR M) := fun x y hx hy hr => acc0_acc a x y hx hy (by rw [← hB2 x y hx hy]; exact hr)
  have hU : Upper a (matR M) := fun S hS x y hx hy hr => by rw [hB2 x y hx hy]; exact acc0_upper a S hS x y hx hy hr
  refine (c_l13Leaving (Ra.on H) ha).go ?_
  rintro vl h3 ⟨L, HL, hL, hLE⟩
  have H := (HL.app H).sw1
  simp -implicitDefEqProofs (disch:=first|omega|(simp only[LnZ];omega))[wrap64]
  have hok : ∀ i (hi : i < L.length), ∀ e ∈ L[i], e.Ok a.acc.length := by
    intro i hi e he
    rw [hLE i hi] at he
    exact ha.2.2.2 e (List.mem_filter.1 he).1
  have hans : ∀ M : List (List Bool), ∀ i j (hi : i < L.length) (hj : j < L.length), ((∀ l : Nat, l < 8 → ∀ e ∈ L[i], e.on l = true → ∃ f ∈ L[j], f.on l = true ∧ matR M e.to.toNat f.to.toNat = true) ↔ Ans a (matR M) i j) := by
    intro M i j hi hj
    rw [hLE i hi, hLE j hj]
    simp only [leav, List.mem_filter, decide_eq_true_eq]
    constructor
    · intro h l hl e he h1 h2
      obtain ⟨f, ⟨hf, h3⟩, h4⟩ := h l hl e ⟨he, h1⟩ h2
      exact ⟨f, hf, h3, h4⟩
    · rintro h l hl e ⟨he, h1⟩ h2
      obtain ⟨f, hf, h3, h4⟩ := h l hl e he h1 h2
      exact ⟨f, ⟨hf, h3⟩, h4⟩
  refine wp_while (σ := List (List Bool) × Bool) (fun s e h' => e = [none, none, none, some (.int .i64 a.acc.length), some vm, none, none, none, some vl, some (.bool s.2), none, none] ∧
    HS h [ow vm s.1, ow vl L] h' ∧ s.1.length = a.acc.length ∧ (∀ r ∈ s.1, r.length = a.acc.length) ∧ AccR a (matR s.1) ∧ Upper a (matR s.1) ∧ (s.2 = false → Great a (matR s.1)))
    (fun s => 2 * cnt2 a.acc.length (matR s.1) + (if s.2 then 1 else 0)) (M, true) ⟨by simp, H, hMn, hr, hA, hU, by simp⟩ ?_
  rintro J ⟨B, c⟩ _ h11 hJ ⟨rfl, H, hBl, hBr, hA, hU, hG⟩
  dsimp only at H hBl hBr hA hU hG
  simp -implicitDefEqProofs (disch:=first|omega|(simp only[LnZ];omega))[wrap64]
  cases c with
  | false =>
    simp -implicitDefEqProofs (disch:=first|omega|(simp only[LnZ];omega))[wrap64]
    exact RetK.keep (hk _ _ ⟨B, H.sw1.drop, hBl, hBr, hG rfl⟩)
  | true =>
  simp -implicitDefEqProofs (disch:=first|omega|(simp only[LnZ];omega))[wrap64]
  refine wp_count a.acc.length (fun i e h' => ∃ c', e = [none, none, none, some (.int .i64 a.acc.length), some vm, none, none, none, some vl, some (.bool c'), some (.int .i64 i), none] ∧
    ∃ B', HS h [ow vm B', ow vl L] h' ∧ B'.length = a.acc.length ∧ (∀ r ∈ B', r.length = a.acc.length) ∧ Pass a (matR B) (matR B') c' i 0) ⟨false, by simp, B, H, hBl, hBr, Pass.start hA hU⟩ ?_
  rintro J1 i _ h12 hJ1 hi ⟨c', rfl, B', H, hBl', hBr', hP⟩
  simp -implicitDefEqProofs (disch:=first|omega|(simp only[LnZ];omega))[wrap64]
  refine IteW.mk (fun hlt4 => ?_) (fun hge4 => ?_)
  · have hin : i < a.acc.length := by omega
    simp -implicitDefEqProofs (disch:=first|omega|(simp only[LnZ];omega))[wrap64]
    refine wp_count a.acc.length (fun j e h' => ∃ c', e = [none, none, none, some (.int .i64 a.acc.length), some vm, none, none, none, some vl, some (.bool c'), some (.int .i64 i), some (.int .i64 j)] ∧
      ∃ B', HS h [ow vm B', ow vl L] h' ∧ B'.length = a.acc.length ∧ (∀ r ∈ B', r.length = a.acc.length) ∧ Pass a (matR B) (matR B') c' i j) ⟨c', by simp, B', H, hBl', hBr', hP⟩ ?_
    rintro J2 j _ h13 hJ2 hj ⟨c', rfl, B', H, hBl', hBr', hP⟩
    simp -implicitDefEqProofs (disch:=first|omega|(simp only[LnZ];omega))[wrap64]
    refine IteW.mk (fun hlt5 => ?_) (fun hge5 => ?_)
    · have hjn : j < a.acc.length := by omega
      have hiB : i < B'.length := by omega
      have hil := hBr' _ (List.getElem_mem hiB)
      have hbg := matR_get (M := B') hiB (show j < B'[i].length by omega)
      obtain ⟨w, hw, Rw⟩ := H.rep.ldL hiB
      cases hb : B'[i]'hiB |>.get ⟨j, by omega⟩ with
      | false =>
        have hb : (B'[i]'hiB)[j]'(by omega) = false := hb
        simp -implicitDefEqProofs (disch:=first|omega|(simp only[LnZ];omega))[wrap64, H.rep.X (n := 1) rfl, hw, Rw.B, hb]
        exact hJ2 _ _ hjn ⟨c', rfl, B', H, hBl', hBr', hP.keep fun hr => by rw [hbg, hb] at hr; simp at hr⟩
      | true =>
        have hb : (B'[i]'hiB)[j]'(by omega) = true := hb
        obtain ⟨x, hx, Rx⟩ := H.sw1.rep.ldL (i := i) (by omega)
        obtain ⟨y, hy, Ry⟩ := H.sw1.rep.ldL (i := j) (by omega)
        simp -implicitDefEqProofs (disch:=first|omega|(simp only[LnZ];omega))[wrap64, H.rep.X (n := 1) rfl, hw, Rw.B, hb, H.sw1.rep.X (n := 1) rfl, hx, hy]
        refine (c_l13Answers (n := a.acc.length) (by omega) Rx Ry H.rep hBl' hBr' (hok i (by omega)) (hok j (by omega))).go ?_
        rintro _ _ ⟨rfl, r, rfl, hr⟩
        rw [hans] at hr
        cases r with
        | true =>
          simp -implicitDefEqProofs (disch:=first|omega|(simp only[LnZ];omega))[wrap64]
          exact hJ2 _ _ hjn ⟨c', rfl, B', H, hBl', hBr', hP.keep fun _ => hr.1 rfl⟩
        | false =>
          obtain ⟨z, hz, HT⟩ := H.take hiB
          change hload _ (some (elp 1 vm i)) none = some z at hz
          simp -implicitDefEqProofs (disch:=first|omega|(simp only[LnZ];omega))[wrap64, H.rep.X (n := 1) rfl, hz, HT.rep.B]
          refine HT.storeF false (i := j) (by omega) rfl rfl trivial rfl fun h14 HT => ?_
          have H := HT.put
          simp -implicitDefEqProofs (disch:=first|omega|(simp only[LnZ];omega))[wrap64]
          refine hJ2 _ _ hjn ⟨true, rfl, _, H, by simpa using hBl', ?_, ?_⟩
          · intro r hr2
            rcases List.mem_or_eq_of_mem_set hr2 with h1 | rfl
            · exact hBr' r h1
            · simpa using hil
          · rw [matR_clr hiB (by omega)]
            exact hP.rem ha hin hjn (by rw [hbg, hb]) (fun hA => by have := hr.2 hA; simp at this)
    · simp -implicitDefEqProofs (disch:=first|omega|(simp only[LnZ];omega))[wrap64]
      exact hJ1 _ _ hin ⟨c', rfl, B', H, hBl', hBr', hP.next (by omega)⟩
  · simp -implicitDefEqProofs (disch:=first|omega|(simp only[LnZ];omega))[wrap64]
    refine hJ (B', c') _ _ ?_ ⟨rfl, H, hBl', hBr', hP.acc, hP.upper, fun hc => by dsimp only at hc; subst hc; exact hP.done (by omega)⟩
    cases c' with
    | true => have := hP.less rfl; simp; omega
    | false => simp [(hP.same rfl).1]
end Go.Proofs.YtglnelcmcimljaaGreat

namespace Go.Proofs.YtglnelcmcimljaaGreat
open Go
end Go.Proofs.YtglnelcmcimljaaGreat

namespace Go.Proofs.YtglnelcmcimljaaGreat
open Go
def H_slices_Equal_S_int_int : Hint := ⟨[(0, false), (1, false), (4, false), (5, false), (12, false), (13, false)], [[2, 3]]⟩
def K47_1 : C := .seq (.pl <| .e 6 0 <|
 .x 2 (.mv (.c (.bool true))) .done) (.ret)
@[simp] def W47_1 := C.w K47_1.eq_1
def K47_2 : C := .pl <| .e 6 1 <|
 .x 6 (.bin .add (.v 5) (.c (.int .i64 1))) <|
 .m 5 6 .done
@[simp] def W47_2 := C.w K47_2.eq_1
def K47_3 : C := .seq (.pl <| .e 6 0 <|
 .x 2 (.mv (.c (.bool false))) .done) (.ret)
@[simp] def W47_3 := C.w K47_3.eq_1
def K47_4 : C := .cond 6 (.v 14) K47_3 (.skip)
@[simp] def W47_4 := C.w K47_4.eq_1
def K47_5 : C := .seq (.pl <| .e 6 9 <|
 .m 6 0 <|
 .m 7 3 <|
 .x 8 (.ia 1 (.v 6) (.v 7)) <|
 .l 9 8 <|
 .m 10 1 <|
 .m 11 3 <|
 .x 12 (.ia 1 (.v 10) (.v 11)) <|
 .l 13 12 <|
 .x 14 (.bin .neq (.v 9) (.v 13)) .done) K47_4
@[simp] def W47_5 := C.w K47_5.eq_1
def K47_6 : C := .seq (.block 1 (.seq (.pl <| .e 6 1 <|
 .m 6 5 <|
 .m 3 6 .done) K47_5)) K47_2
@[simp] def W47_6 := C.w K47_6.eq_1
def K47_7 : C := .seq (.cond 6 (.v 6) (.skip) (.exit 0)) K47_6
@[simp] def W47_7 := C.w K47_7.eq_1
def K47_8 : C := .seq (.pl <| .e 6 1 <|
 .x 6 (.bin .lss (.v 5) (.v 4)) .done) K47_7
@[simp] def W47_8 := C.w K47_8.eq_1
def K47_9 : C := .block 0 (.loop 6 [2, 3] K47_8)
@[simp] def W47_9 := C.w K47_9.eq_1
def K47_10 : C := .seq (.seq (.pl <| .e 6 1 <|
 .m 6 0 <|
 .x 4 (.lenV (.v 6)) <|
 .x 5 (.mv (.c (.int .i64 0))) .done) K47_9) K47_1
@[simp] def W47_10 := C.w K47_10.eq_1
def K47_11 : C := .seq (.pl <| .e 6 0 <|
 .x 2 (.mv (.c (.bool false))) .done) (.ret)
@[simp] def W47_11 := C.w K47_11.eq_1
def K47_12 : C := .cond 6 (.v 10) K47_11 (.skip)
@[simp] def W47_12 := C.w K47_12.eq_1
def K47_13 : C := .seq (.seq (.pl <| .e 6 5 <|
 .m 6 0 <|
 .x 7 (.lenV (.v 6)) <|
 .m 8 1 <|
 .x 9 (.lenV (.v 8)) <|
 .x 10 (.bin .neq (.v 7) (.v 9)) .done) K47_12) K47_10
@[simp] def W47_13 := C.w K47_13.eq_1
def B_slices_Equal_S_int_int : C := .seq (.pl <| .e 6 0 <|
 .x 2 (.mv (.c (.bool false))) .done) K47_13
@[simp] def WB_slices_Equal_S_int_int := C.w B_slices_Equal_S_int_int.eq_1
def R_slices_Equal_S_int_int : FIR := ⟨B_slices_Equal_S_int_int, 6, [(2, none)]⟩
theorem IR_slices_Equal_S_int_int : cfun Tryz.prog H_slices_Equal_S_int_int Tryz.f47 = some R_slices_Equal_S_int_int := by kernel_rfl
theorem EN_slices_Equal_S_int_int : ENT Tryz.prog B_slices_Equal_S_int_int [(2, none)] 2 6 fn_slices_Equal_S_int_int := fun hargs hw => enter Tryz.func47 rfl IR_slices_Equal_S_int_int hargs hw
end Go.Proofs.YtglnelcmcimljaaGreat

namespace Go.Proofs.YtglnelcmcimljaaGreat
open Go Go.Shelf
def sh_lays189_ren : Ren := ⟨fun | 189 => 88 | 125 => 127 | 257 => 126 | 128 => 157 | 129 => 158 | 294 => 148 | 295 => 149 | 296 => 150 | 297 => 151 | 298 => 152 | 299 => 153 | 216 => 154 | 300 => 155 | 301 => 156 | 328 => 167 | 329 => 168 | 330 => 169 | 331 => 170 | 332 => 171 | 215 => 172 | 343 => 173 | n => n, fun | 28 => 23 | 3 => 3 | 46 => 121 | 0 => 0 | 51 => 164 | 53 => 103 | 4 => 4 | 183 => 158 | 182 => 157 | 131 => 50 | 5 => 5 | 9 => 9 | 218 => 168 | 222 => 172 | 228 => 174 | 229 => 125 | n => n, fun | n => n⟩
theorem sh_lays189 : Go.Proofs.Lays.n189 Tryz.prog sh_lays189_ren := {
  mixed := by kernel_rfl
  f125 := Tryz.func127.trans (congrArg some (by kernel_rfl))
  f128 := Tryz.func157.trans (congrArg some (by kernel_rfl))
  f129 := Tryz.func158.trans (congrArg some (by kernel_rfl))
  f189 := Tryz.func88.trans (congrArg some (by kernel_rfl))
  f215 := Tryz.func172.trans (congrArg some (by kernel_rfl))
  f216 := Tryz.func154.trans (congrArg some (by kernel_rfl))
  f257 := Tryz.func126.trans (congrArg some (by kernel_rfl))
  f294 := Tryz.func148.trans (congrArg some (by kernel_rfl))
  f295 := Tryz.func149.trans (congrArg some (by kernel_rfl))
  f296 := Tryz.func150.trans (congrArg some (by kernel_rfl))
  f297 := Tryz.func151.trans (congrArg some (by kernel_rfl))
  f298 := Tryz.func152.trans (congrArg some (by kernel_rfl))
  f299 := Tryz.func153.trans (congrArg some (by kernel_rfl))
  f300 := Tryz.func155.trans (congrArg some (by kernel_rfl))
  f301 := Tryz.func156.trans (congrArg some (by kernel_rfl))
  f328 := Tryz.func167.trans (congrArg some (by kernel_rfl))
  f329 := Tryz.func168.trans (congrArg some (by kernel_rfl))
  f330 := Tryz.func169.trans (congrArg some (by kernel_rfl))
  f331 := Tryz.func170.trans (congrArg some (by kernel_rfl))
  f332 := Tryz.func171.trans (congrArg some (by kernel_rfl))
  f343 := Tryz.func173.trans (congrArg some (by kernel_rfl))
  t0 := Tryz.underlying0
  a0 := Tryz.isAgg0
  z0 := Tryz.sizeOf0
  v0 := Tryz.zeroValue0
  t3 := Tryz.underlying3
  a3 := Tryz.isAgg3
  z3 := Tryz.sizeOf3
  v3 := Tryz.zeroValue3
  t4 := Tryz.underlying4
  a4 := Tryz.isAgg4
  z4 := Tryz.sizeOf4
  v4 := Tryz.zeroValue4
  t5 := Tryz.underlying5
  a5 := Tryz.isAgg5
  z5 := Tryz.sizeOf5
  v5 := Tryz.zeroValue5
  t9 := Tryz.underlying9
  a9 := Tryz.isAgg9
  z9 := Tryz.sizeOf9
  v9 := Tryz.zeroValue9
  t28 := Tryz.underlying23
  a28 := Tryz.isAgg23
  z28 := Tryz.sizeOf23
  v28 := Tryz.zeroValue23
  t46 := Tryz.underlying121
  a46 := Tryz.isAgg121
  z46 := Tryz.sizeOf121
  v46 := Tryz.zeroValue121
  t51 := Tryz.underlying164
  a51 := Tryz.isAgg164
  z51 := Tryz.sizeOf164
  v51 := Tryz.zeroValue164
  t53 := Tryz.underlying103
  a53 := Tryz.isAgg103
  z53 := Tryz.sizeOf103
  v53 := Tryz.zeroValue103
  t131 := Tryz.underlying50
  a131 := Tryz.isAgg50
  z131 := Tryz.sizeOf50
  v131 := Tryz.zeroValue50
  t182 := Tryz.underlying157
  a182 := Tryz.isAgg157
  z182 := Tryz.sizeOf157
  v182 := Tryz.zeroValue157
  t183 := Tryz.underlying158
  a183 := Tryz.isAgg158
  z183 := Tryz.sizeOf158
  v183 := Tryz.zeroValue158
  t218 := Tryz.underlying168
  a218 := Tryz.isAgg168
  z218 := Tryz.sizeOf168
  v218 := Tryz.zeroValue168
  t222 := Tryz.underlying172
  a222 := Tryz.isAgg172
  z222 := Tryz.sizeOf172
  v222 := Tryz.zeroValue172
  t228 := Tryz.underlying174
  a228 := Tryz.isAgg174
  z228 := Tryz.sizeOf174
  v228 := Tryz.zeroValue174
  t229 := Tryz.underlying125
  a229 := Tryz.isAgg125
  z229 := Tryz.sizeOf125
  v229 := Tryz.zeroValue125 }
open Go.Sort Go.RowKit in
theorem sh_slices_Sort_int (blk off cap : Nat) (zs : List Int) (w : World) (hH : Holds (Value.int .i64) w blk off zs.toArray) (hblk : blk < w.heap.size) (hsz : zs.length < 4611686018427387904) :
    Calls Tryz.prog 88 #[.slice (some ⟨blk, off, none⟩) zs.length cap] w fun e w' =>
      e = .returned (.tuple #[]) ∧ ∃ n os, w' = grow (putRow (Value.int .i64) (Sort.ahead w n) blk off (zs.mergeSort fun x y => decide (x ≤ y)).toArray) os := Any.slices_Sort_int sh_lays189 blk off cap zs w hH hblk hsz
def sh_laysNm220_ren : Ren := ⟨fun | 20 => 89 | n => n, fun | 22 => 23 | 3 => 3 | 4 => 4 | 0 => 0 | n => n, fun | n => n⟩
theorem sh_laysNm220 : Go.Proofs.Lays2.n20 Tryz.prog sh_laysNm220_ren := {
  mixed := by kernel_rfl
  f20 := Tryz.func89.trans (congrArg some (by kernel_rfl))
  t0 := Tryz.underlying0
  a0 := Tryz.isAgg0
  z0 := Tryz.sizeOf0
  v0 := Tryz.zeroValue0
  t3 := Tryz.underlying3
  a3 := Tryz.isAgg3
  z3 := Tryz.sizeOf3
  v3 := Tryz.zeroValue3
  t4 := Tryz.underlying4
  a4 := Tryz.isAgg4
  z4 := Tryz.sizeOf4
  v4 := Tryz.zeroValue4
  t22 := Tryz.underlying23
  a22 := Tryz.isAgg23
  z22 := Tryz.sizeOf23
  v22 := Tryz.zeroValue23
  i3 := by kernel_rfl }
open Go.RowKit Go.Lib Go.Sort in
theorem sh_slices_Compact_int (blk off cap : Nat) (zs : List Int) (w : World) (hH : Holds (Value.int .i64) w blk off zs.toArray) (hsz : zs.length ≤ 9223372036854775807) (hcap : zs.length ≤ cap) :
    Calls Tryz.prog 89 #[.slice (some ⟨blk, off, none⟩) zs.length cap] w fun e w' => e = .returned (.slice (some ⟨blk, off, none⟩) (Lib.compact zs).length cap) ∧ ∃ q, w' = putRow (Value.int .i64) (Sort.ahead w q) blk off (Lib.compact zs ++ List.replicate (zs.length - (Lib.compact zs).length) 0).toArray := Any.slices_Compact_int sh_laysNm220 blk off cap zs w hH hsz hcap
open Go.RowKit Go.Lib Go.Sort in
theorem sh_slices_Compact_int_empty (a : Option Addr) (cap : Nat) (w : World) :
    Calls Tryz.prog 89 #[.slice a 0 cap] w fun e w' => e = .returned (.slice a 0 cap) ∧ w' = w := Any.slices_Compact_int_empty sh_laysNm220 a cap w
open Go.RowKit Go.Sort in
theorem sh_slices_Sort_int_none (p : Option Addr) (cap : Nat) (w : World) :
    Calls Tryz.prog 88 #[.slice p 0 cap] w fun e w' => e = .returned (.tuple #[]) ∧ w' = w := Any.slices_Sort_int_none sh_lays189 p cap w
end Go.Proofs.YtglnelcmcimljaaGreat

namespace Go.Proofs.YtglnelcmcimljaaGreat
open Go
theorem compactUpTo_succ {d : Array Int} {m : Nat} : Lib.compactUpTo d (m + 1) = Lib.compactUpTo d m ++ if Lib.keeps d m then [d[m]!] else [] := by
  simp only [Lib.compactUpTo, List.range_succ, List.filter_append, List.map_append, List.filter_cons, List.filter_nil]
  congr 1
  split <;> simp
theorem compact_spec {d : Array Int} (hs : ∀ i j, i ≤ j → j < d.size → d[i]! ≤ d[j]!) : ∀ m, m ≤ d.size → (Lib.compactUpTo d m).Pairwise (· < ·) ∧ (∀ x, x ∈ Lib.compactUpTo d m ↔ ∃ j, j < m ∧ x = d[j]!)
  | 0, _ => by simp [Lib.compactUpTo]
  | m + 1, h => by
    obtain ⟨h1, h2⟩ := compact_spec hs m (by omega)
    rw [compactUpTo_succ]
    by_cases hk : Lib.keeps d m = true
    · rw [if_pos hk]
      have hlt : ∀ x ∈ Lib.compactUpTo d m, x < d[m]! := by
        intro x hx
        obtain ⟨j, hj, rfl⟩ := (h2 x).1 hx
        have a1 := hs j (m - 1) (by omega) (by omega)
        have a2 := hs (m - 1) m (by omega) (by omega)
        simp only [Lib.keeps, decide_eq_true_eq] at hk
        have a3 : ¬ (m = 0) := by omega
        have a4 : ¬ d[m]! = d[m - 1]! := by
          rcases hk with hk | hk
          · exact absurd hk a3
          · exact hk
        omega
      refine ⟨List.pairwise_append.2 ⟨h1, List.pairwise_singleton _ _, fun x hx y hy => ?_⟩, fun x => ?_⟩
      · obtain rfl : y = d[m]! := by simpa using hy
        exact hlt x hx
      · rw [List.mem_append, h2]
        constructor
        · rintro (⟨j, h3, h4⟩ | h3)
          · exact ⟨j, by omega, h4⟩
          · exact ⟨m, by omega, by simpa using h3⟩
        · rintro ⟨j, h3, h4⟩
          by_cases e : j = m
          · subst e; exact .inr (by simpa using h4)
          · exact .inl ⟨j, by omega, h4⟩
    · rw [if_neg hk, List.append_nil]
      refine ⟨h1, fun x => ?_⟩
      rw [h2]
      have hk0 : Lib.keeps d m = false := by simpa using hk
      have hm : 0 < m := by
        cases m with
        | zero => simp [Lib.keeps] at hk0
        | succ m => omega
      have he : d[m]! = d[m - 1]! := by
        simp [Lib.keeps] at hk0
        exact hk0.2
      constructor
      · rintro ⟨j, h3, h4⟩; exact ⟨j, by omega, h4⟩
      · rintro ⟨j, h3, h4⟩
        by_cases e : j = m
        · subst e; exact ⟨j - 1, by omega, by rw [h4, he]⟩
        · exact ⟨j, by omega, h4⟩
theorem sort_compact (l : List Int) : (Lib.compact (l.mergeSort fun x y => decide (x ≤ y))).Pairwise (· < ·) ∧ ∀ x, x ∈ Lib.compact (l.mergeSort fun x y => decide (x ≤ y)) ↔ x ∈ l := by
  have hp : (l.mergeSort fun x y => decide (x ≤ y)).Pairwise (· ≤ ·) := by
    have := List.pairwise_mergeSort (le := fun x y : Int => decide (x ≤ y)) (by intro a b c; simp; omega) (by intro a b; simp; omega) l
    exact this.imp (by simp)
  have hm : ∀ x, x ∈ (l.mergeSort fun x y => decide (x ≤ y)) ↔ x ∈ l := fun x => List.mem_mergeSort
  generalize (l.mergeSort fun x y => decide (x ≤ y)) = s at hp hm
  have hsz : s.toArray.size = s.length := by simp
  have hg : ∀ i, i < s.length → s.toArray[i]! = s[i]! := fun i hi => by simp
  obtain ⟨h1, h2⟩ := compact_spec (d := s.toArray) (fun i j hij hj => by
    rw [hsz] at hj
    rw [hg i (by omega), hg j hj, getElem!_pos s i (by omega), getElem!_pos s j hj]
    rcases Nat.lt_or_ge i j with h | h
    · exact List.pairwise_iff_getElem.1 hp i j (by omega) hj h
    · have : i = j := by omega
      subst this; exact Int.le_refl _) s.length (by simp)
  refine ⟨h1, fun x => ?_⟩
  rw [← hm x]
  unfold Lib.compact
  rw [h2]
  constructor
  · rintro ⟨j, hj, rfl⟩
    rw [hg j hj, getElem!_pos s j hj]
    exact List.getElem_mem hj
  · intro hx
    obtain ⟨j, hj, rfl⟩ := List.mem_iff_getElem.1 hx
    exact ⟨j, hj, by rw [hg j hj, getElem!_pos s j hj]⟩
theorem calle_of {P : Program} {f : FuncId} {fn : Func} {args : List Value} {h : Heap} {Q : Value → Heap → Prop} (hf : P.funcs[f]? = some fn) (hname : (fn.name == "runtime.NumGoroutine") = false) (hb : fn.body.isSome = true)
    (hc : ∀ w, h.sub w → Calls P f args.toArray w fun e w' => ∃ v h', e = .returned v ∧ Q v h' ∧ h'.sub w' ∧ Frm h w h' w') : CallE P f args h Q := by
  intro w hw
  obtain ⟨bd, hbd⟩ := Option.isSome_iff_exists.1 hb
  have hname' : ¬ fn.name = "runtime.NumGoroutine" := by simpa using hname
  have hcall : (callFunc f args.toArray).run P w = .ok (.enter f args.toArray) w := by
    simp [callFunc, hf, hname', hbd]
  rw [hcall]
  exact hc w hw
theorem flatI : ∀ {l : List Int} {cs : List Value} {r : Heap}, ownL l cs r → r = Heap.nil ∧ cs.take l.length = l.map (Value.int .i64) ∧ ∀ x ∈ l, Flat.ok x
  | [], cs, r, h => ⟨h, by simp, by simp⟩
  | x :: l, cs, r, ⟨r1, r2, e, _, h1, h2⟩ => by
    have h1 : r1 = Heap.nil ∧ cs.take 1 = [.int .i64 x] ∧ _ := h1
    obtain ⟨e1, h3, h4⟩ := h1
    obtain ⟨e2, h5, h6⟩ := flatI h2
    have h5 : (cs.drop 1).take l.length = l.map (Value.int .i64) := h5
    refine ⟨by rw [e, e1, e2]; funext b; rfl, ?_, ?_⟩
    · cases cs with
      | nil => simp at h3
      | cons c cs =>
        simp at h3 h5
        simp [h3, h5]
    · intro y hy
      rcases List.mem_cons.1 hy with rfl | hy
      · exact h4
      · exact h6 y hy
theorem encI (l : List Int) : encL l = l.map (Value.int .i64) := by
  induction l with
  | nil => rfl
  | cons x l ih => rw [encL_cons, ih]; rfl
open Go.Sort in
theorem row_put {g g' : Heap} {Γ : List HP} {b off cap : Nat} {cells : List Value} {el : TypeId} {l d : List Int} {m n : Nat} {os : Array Obj} {w : World} (d1 : g' b = none) (H : HS g Γ g') (h1 : l.length ≤ cap ∧ l.length < 4611686018427387904) (h2 : off + cap ≤ cells.length)
    (hw : (g'.add (Heap.one b (.cells cells.toArray el (0, 0)))).sub w) (hd : d.length = l.length) (hm : m ≤ d.length) (hok : ∀ x ∈ d.take m, Flat.ok x) :
    ∃ h', HS g (ow (.slice (some ⟨b, off, none⟩) m cap) (d.take m) :: Γ) h' ∧ h'.sub (grow (putRow (Value.int .i64) (Sort.ahead w n) b off d.toArray) os) ∧ Frm (g'.add (Heap.one b (.cells cells.toArray el (0, 0)))) w h' (grow (putRow (Value.int .i64) (Sort.ahead w n) b off d.toArray) os) := by
  have hb : w.heap[b]? = some (.cells cells.toArray el (0, 0)) := hw b _ (by simp [Heap.add, Heap.one, d1])
  have hbs : b < w.heap.size := (Array.getElem?_eq_some_iff.1 hb).1
  have hold : ∀ x, x < w.heap.size → (grow (putRow (Value.int .i64) (Sort.ahead w n) b off d.toArray) os).heap[x]? = if x = b then some (.cells (putCells (Value.int .i64) off d.toArray cells.toArray) el (0, 0)) else w.heap[x]? := by
    intro x hx
    rw [heap_grow_old _ _ (by simpa [putRow, mapBlock, Sort.ahead] using hx)]
    simp only [putRow, mapBlock, Sort.ahead, Array.getElem?_modify]
    by_cases e : b = x
    · subst e; simp [hb, onCells]
    · simp [e, Ne.symm e]
  have hpt : (putCells (Value.int .i64) off d.toArray cells.toArray).toList.length = cells.length := by simp [putCells]
  refine ⟨g'.add (Heap.one b (.cells (putCells (Value.int .i64) off d.toArray cells.toArray).toList.toArray el (0, 0))), ⟨g', _, rfl, Dj_one.2 d1, ?_, H⟩, ?_, ?_⟩
  · have hlm : (d.take m).length = m := by simp; omega
    refine Own_list.2 (.inr ⟨b, off, cap, _, el, Heap.nil, by rw [hlm], ⟨by omega, by omega⟩, by rw [hpt]; show off + cap * 1 ≤ _; omega, by simp, rfl, ?_⟩)
    refine ownL_congr (ownL_enc hok) ?_
    rw [encI, hlm]
    show List.take (m * 1) _ = List.take (m * 1) _
    rw [List.take_of_length_le (l := List.map (Value.int .i64) (d.take m)) (by simp; omega)]
    apply List.ext_getElem?
    intro j
    by_cases hj : j < m
    · have hjd : j < d.length := by omega
      have hjc : off + j < cells.length := by omega
      have key : (putCells (Value.int .i64) off d.toArray cells.toArray).toList[off + j]? = some (.int .i64 d[j]) := by
        rw [Array.getElem?_toList, putCells, Array.getElem?_mapIdx]
        simp [hjc, hjd]
      rw [Nat.mul_one, List.getElem?_take_of_lt hj, List.getElem?_drop, key, List.getElem?_map, List.getElem?_take_of_lt hj, List.getElem?_eq_getElem hjd]
      rfl
    · have e1 : (List.map (Value.int .i64) (List.take m d))[j]? = none := List.getElem?_eq_none (by simp; omega)
      have e2 : (List.take (m * 1) (List.drop off (putCells (Value.int .i64) off d.toArray cells.toArray).toList))[j]? = none := List.getElem?_eq_none (by simp; omega)
      rw [e1, e2]
  · intro x o hx
    by_cases e : x = b
    · subst e
      rw [hold x hbs, if_pos rfl]
      simp only [Heap.add, Heap.one, d1, if_true] at hx
      simpa using hx
    · have hx2 : g' x = some o := by
        simp only [Heap.add, Heap.one, if_neg e] at hx
        cases hg : g' x with
        | none => rw [hg] at hx; simp at hx
        | some o' => rw [hg] at hx; simpa using hx
      have hwx : w.heap[x]? = some o := hw x o (by simp [Heap.add, Heap.one, e, hx2])
      have hxs : x < w.heap.size := (Array.getElem?_eq_some_iff.1 hwx).1
      rw [hold x hxs, if_neg e]; exact hwx
  · refine ⟨rfl, rfl, rfl, by simp [grow, putRow, mapBlock, Sort.ahead], fun x hx hn => ?_, fun x hx hn => ?_⟩
    · have e : x ≠ b := by
        intro e
        subst e
        simp [Heap.add, Heap.one, d1] at hn
      rw [hold x hx, if_neg e]
    · have e : x ≠ b := by
        intro e
        subst e
        simp [Heap.add, Heap.one, d1] at hn
      simp only [Heap.add, Heap.one, if_neg e] at hn ⊢
      exact hn
open Go.Sort in
theorem row_holds {g' : Heap} {b off : Nat} {cells : List Value} {el : TypeId} {l : List Int} {w : World} (d1 : g' b = none) (hw : (g'.add (Heap.one b (.cells cells.toArray el (0, 0)))).sub w) (ht : (cells.drop off).take l.length = l.map (Value.int .i64)) : Holds (Value.int .i64) w b off l.toArray ∧ b < w.heap.size := by
  have hb : w.heap[b]? = some (.cells cells.toArray el (0, 0)) := hw b _ (by simp [Heap.add, Heap.one, d1])
  refine ⟨fun j hj => ?_, (Array.getElem?_eq_some_iff.1 hb).1⟩
  have hj' : j < l.length := by simpa using hj
  refine ⟨?_, by simp [World.frozen?, hb]⟩
  have h1 : ((cells.drop off).take l.length)[j]? = (l.map (Value.int .i64))[j]? := by rw [ht]
  rw [List.getElem?_take_of_lt hj', List.getElem?_drop] at h1
  simp only [World.cell?, hb]
  simp only [Option.isSome_none, Bool.false_eq_true, if_false]
  rw [List.getElem?_toArray, h1]
  simp [hj']
theorem c_Sort_int {g h : Heap} {Γ : List HP} {v : Value} {l : List Int} (H : HS g (ow v l :: Γ) h) : CallE Tryz.prog fn_slices_Sort_S_int_int [v] h (fun u h' => HS g (ow v (l.mergeSort fun x y => decide (x ≤ y)) :: Γ) h') := by
  obtain ⟨g', r, rfl, d, O, H⟩ := H
  rcases Own_list.1 O with ⟨p, rfl, rfl, rfl, hp⟩ | ⟨b, off, cap, cells, el, r', rfl, ⟨h1, hM⟩, h2, rfl, h4, h5⟩
  · refine calle_of Tryz.func88 (by kernel_rfl) (by kernel_rfl) fun w hw => (sh_slices_Sort_int_none p 0 w).mono ?_
    rintro e w' ⟨rfl, rfl⟩
    exact ⟨_, _, rfl, ⟨g', Heap.nil, rfl, d, Own_list.2 (.inl ⟨p, rfl, by simp, rfl, hp⟩), H⟩, hw, rfl, rfl, rfl, Nat.le_refl _, fun _ _ _ => rfl, fun _ _ h => h⟩
  · obtain ⟨rfl, ht, hok⟩ := flatI h5
    have h2 : off + cap ≤ cells.length := by have : Ty.sz Int = 1 := rfl; rw [this] at h2; omega
    have hn : (Heap.one b (.cells cells.toArray el (0, 0))).add Heap.nil = Heap.one b (.cells cells.toArray el (0, 0)) := by simp
    rw [hn] at d ⊢
    have d1 := Dj_one.1 d
    refine calle_of Tryz.func88 (by kernel_rfl) (by kernel_rfl) fun w hw => ?_
    obtain ⟨hH, hbs⟩ := row_holds d1 hw ht
    refine (sh_slices_Sort_int b off cap l w hH hbs hM).mono ?_
    rintro e w' ⟨rfl, n, os, rfl⟩
    have hl : (l.mergeSort fun x y => decide (x ≤ y)).length = l.length := List.length_mergeSort l
    obtain ⟨h', q1, q2, q3⟩ := row_put (n := n) (os := os) (d := l.mergeSort fun x y => decide (x ≤ y)) (m := l.length) d1 H ⟨h1, hM⟩ h2 hw hl (by omega) (fun x hx => hok x (List.mem_mergeSort.1 (List.mem_of_mem_take hx)))
    rw [List.take_of_length_le (by omega)] at q1
    exact ⟨_, h', rfl, q1, q2, q3⟩
theorem c_Compact_int {g h : Heap} {Γ : List HP} {v : Value} {l : List Int} (H : HS g (ow v l :: Γ) h) : CallE Tryz.prog fn_slices_Compact_S_int_int [v] h (fun u h' => HS g (ow u (Lib.compact l) :: Γ) h') := by
  obtain ⟨g', r, rfl, d, O, H⟩ := H
  rcases Own_list.1 O with ⟨p, rfl, rfl, rfl, hp⟩ | ⟨b, off, cap, cells, el, r', rfl, ⟨h1, hM⟩, h2, rfl, h4, h5⟩
  · refine calle_of Tryz.func89 (by kernel_rfl) (by kernel_rfl) fun w hw => (sh_slices_Compact_int_empty p 0 w).mono ?_
    rintro e w' ⟨rfl, rfl⟩
    exact ⟨_, _, rfl, ⟨g', Heap.nil, rfl, d, Own_list.2 (.inl ⟨p, rfl, rfl, rfl, hp⟩), H⟩, hw, rfl, rfl, rfl, Nat.le_refl _, fun _ _ _ => rfl, fun _ _ h => h⟩
  · obtain ⟨rfl, ht, hok⟩ := flatI h5
    have h2 : off + cap ≤ cells.length := by have : Ty.sz Int = 1 := rfl; rw [this] at h2; omega
    have hn : (Heap.one b (.cells cells.toArray el (0, 0))).add Heap.nil = Heap.one b (.cells cells.toArray el (0, 0)) := by simp
    rw [hn] at d ⊢
    have d1 := Dj_one.1 d
    refine calle_of Tryz.func89 (by kernel_rfl) (by kernel_rfl) fun w hw => ?_
    obtain ⟨hH, hbs⟩ := row_holds d1 hw ht
    refine (sh_slices_Compact_int b off cap l w hH (by omega) h1).mono ?_
    rintro e w' ⟨rfl, n, rfl⟩
    have hcl : (Lib.compact l).length ≤ l.length := by
      have := List.length_filter_le (Lib.keeps l.toArray) (List.range l.length)
      simpa [Lib.compact, Lib.compactUpTo] using this
    have hcm : ∀ x ∈ Lib.compact l, x ∈ l := by
      intro x hx
      simp only [Lib.compact, Lib.compactUpTo, List.mem_map, List.mem_filter, List.mem_range] at hx
      obtain ⟨j, ⟨hj, _⟩, rfl⟩ := hx
      rw [getElem!_pos l.toArray j (by simpa using hj)]
      simp
    have hl : (Lib.compact l ++ List.replicate (l.length - (Lib.compact l).length) 0).length = l.length := by simp; omega
    have htk : (Lib.compact l ++ List.replicate (l.length - (Lib.compact l).length) 0).take (Lib.compact l).length = Lib.compact l := List.take_left' rfl
    obtain ⟨h', q1, q2, q3⟩ := row_put (n := n) (os := #[]) (d := Lib.compact l ++ List.replicate (l.length - (Lib.compact l).length) 0) (m := (Lib.compact l).length) d1 H ⟨h1, hM⟩ h2 hw hl (by simp) (by rw [htk]; exact fun x hx => hok x (hcm x hx))
    rw [htk] at q1
    rw [Go.Sort.grow_empty] at q2 q3
    exact ⟨_, h', rfl, q1, q2, q3⟩
end Go.Proofs.YtglnelcmcimljaaGreat

namespace Go.Proofs.YtglnelcmcimljaaGreat
open Go
def zl (l : List Nat) : List Int := l.map fun (x : Nat) => (x : Int)
@[simp] theorem zl_len {l : List Nat} : (zl l).length = l.length := by simp [zl]
theorem zl_get {l : List Nat} {i : Nat} (hi : i < l.length) : (zl l)[i]'(by simpa using hi) = (l[i] : Int) := by simp [zl]
theorem zl_append {l l' : List Nat} : zl (l ++ l') = zl l ++ zl l' := by simp [zl]
theorem c_merge_1 {h : Heap} {b3 : Nat} {vb : Value} {B : List (BitVec 64)} (hb : hload h (some (.pointer (some ⟨b3, 0, none⟩))) none = some vb) (Rb : Rep h vb B) (hB : B.length ≤ 64) {i m : Nat} (hi : i < B.length) (hm : m < B.length) :
    CallE Tryz.prog fn_impl_Automaton_merge_1 [.int .i64 i, .int .i64 m, .pointer (some ⟨b3, 0, none⟩)] h (fun u h' => h.le h' ∧ u = .bool (eqv (bitR B) i m)) := by
  refine CallE.gen fun k hk => EN_impl_Automaton_merge_1 rfl ?_
  have e1 := bitR_get (B := B) (i := i) (j := m) hi
  have e2 := bitR_get (B := B) (i := m) (j := i) hm
  have hik : i < 64 := by omega
  have hmm : m < 64 := by omega
  cases h1 : B[i].getLsbD m with
  | false =>
    simp -implicitDefEqProofs (disch:=first|omega|(simp only[LnZ];omega))[wrap64, -BitVec.getLsbD_eq_getElem, hb, Rb.U, u64_bit, h1]
    exact RetK.keep (hk _ _ ⟨Heap.le.refl _, by simp only [eqv]; rw [e1, h1]; rfl⟩)
  | true =>
    cases h2 : B[m].getLsbD i with
    | false =>
      simp -implicitDefEqProofs (disch:=first|omega|(simp only[LnZ];omega))[wrap64, -BitVec.getLsbD_eq_getElem, hb, Rb.U, u64_bit, h1, h2]
      exact RetK.keep (hk _ _ ⟨Heap.le.refl _, by simp only [eqv]; rw [e1, e2, h1, h2]; rfl⟩)
    | true =>
      simp -implicitDefEqProofs (disch:=first|omega|(simp only[LnZ];omega))[wrap64, -BitVec.getLsbD_eq_getElem, hb, Rb.U, u64_bit, h1, h2]
      exact RetK.keep (hk _ _ ⟨Heap.le.refl _, by simp only [eqv]; rw [e1, e2, h1, h2]; rfl⟩)
theorem c_grouped {h : Heap} {fv : Value} {n : Nat} {f : FuncId} {c1 c2 : List Value} (hf : fnOf fv = some (f, c1, c2)) (e : Nat → Nat → Bool) (hn : n ≤ 1048576)
    (hp : ∀ h1, h.le h1 → ∀ i k, i < n → k < i → CallE Tryz.prog f (c1 ++ (.int .i64 i :: .int .i64 k :: c2)) h1 (fun v h' => h1.le h' ∧ v = .bool (e i k))) :
    CallE Tryz.prog fn_impl_grouped [.int .i64 n, fv] h (fun u h' => HS h [ow u (zl (grpS e n).1)] h') := by
  refine CallE.gen fun k hk => EN_impl_grouped rfl ?_
  simp -implicitDefEqProofs (disch:=first|omega|(simp only[LnZ];omega))[wrap64]
  refine HS.init.mks (α := Int) (z := 0) rfl rfl (own_zero (by decide) (by decide)) (Nat.le_refl _) (by omega) (by omega) fun o h1 H => ?_
  simp -implicitDefEqProofs (disch:=first|omega|(simp only[LnZ];omega))[wrap64, H.rep.len]
  refine wp_count n (fun i e' h' => e' = [none, some fv, none, some o, some (.int .i64 (grpS e i).2), none, none, some (.int .i64 n), some (.int .i64 i), none, none] ∧ ∃ O : List Int, HS h [ow o O] h' ∧ O.length = n ∧ O.take i = zl (grpS e i).1) ⟨by simp [grpS], _, H, by simp, by simp [grpS, zl]⟩ ?_
  clear H
  rintro J i _ h2 hJ hi ⟨rfl, O, H, hOl, hO⟩
  have hgl := grpS_len (e := e) i
  have hgc := grpS_le (e := e) i
  simp -implicitDefEqProofs (disch:=first|omega|(simp only[LnZ];omega))[wrap64]
  refine IteW.mk (fun hlt => ?_) (fun hge => ?_)
  · have hin : i < n := by omega
    simp -implicitDefEqProofs (disch:=first|omega|(simp only[LnZ];omega))[wrap64, H.rep.I]
    refine H.storeF ((grpS e i).2 : Int) (i := i) (by omega) rfl rfl ⟨by omega, by omega⟩ rfl fun h3 H => ?_
    simp -implicitDefEqProofs (disch:=first|omega|(simp only[LnZ];omega))[wrap64]
    refine wp_count i (fun k e' h' => e' = [none, some fv, none, some o, some (.int .i64 (grpS e i).2), some (.int .i64 i), none, some (.int .i64 n), some (.int .i64 i), some (.int .i64 i), some (.int .i64 k)] ∧ HS h [ow o (O.set i ((grpS e i).2 : Int))] h' ∧ ∀ j, j < k → e i j = false) ⟨by simp, H, fun j hj => absurd hj (Nat.not_lt_zero j)⟩ ?_
    clear H
    rintro J2 k _ h4 hJ2 hk2 ⟨rfl, H, hno⟩
    simp -implicitDefEqProofs (disch:=first|omega|(simp only[LnZ];omega))[wrap64]
    refine IteW.mk (fun hlt2 => ?_) (fun hge2 => ?_)
    · have hki : k < i := by omega
      simp -implicitDefEqProofs (disch:=first|omega|(simp only[LnZ];omega))[wrap64, hf]
      refine (hp h4 H.base i k hin hki).go ?_
      rintro _ h5 ⟨hl, rfl⟩
      have H := H.le hl
      cases hek : e i k with
      | false =>
        simp -implicitDefEqProofs (disch:=first|omega|(simp only[LnZ];omega))[wrap64]
        refine hJ2 _ _ hki ⟨by simp, H, fun j hj => ?_⟩
        by_cases ej : j = k
        · subst ej; exact hek
        · exact hno j (by omega)
      | true =>
        have hfind := find_range (p := fun k => e i k) hki hek hno
        have hgo := grpS_old hfind
        obtain ⟨x, hx⟩ : ∃ x, x = (grpS e i).1[k]'(by omega) := ⟨_, rfl⟩
        have hxl : x < (grpS e i).2 := hx ▸ grpS_lt i _ (List.getElem_mem (by omega))
        have hOk : (O.set i ((grpS e i).2 : Int))[k]'(by simp; omega) = (x : Int) := by
          rw [List.getElem_set_ne (by omega)]
          have h6 : (O.take i)[k]? = (zl (grpS e i).1)[k]? := by rw [hO]
          rw [List.getElem?_take_of_lt hki, List.getElem?_eq_getElem (by omega), List.getElem?_eq_getElem (by simp; omega), zl_get (by omega), ← hx] at h6
          simpa using h6
        simp -implicitDefEqProofs (disch:=first|omega|(simp only[LnZ];omega))[wrap64, H.rep.I, hOk]
        refine H.storeF (x : Int) (i := i) (by simp; omega) rfl rfl ⟨by omega, by omega⟩ rfl fun h6 H => ?_
        have hne : ¬ ((x : Int) = (grpS e i).2) := by omega
        simp -implicitDefEqProofs (disch:=first|omega|(simp only[LnZ];omega))[wrap64, H.rep.I, hne]
        refine hJ _ _ hin ⟨by rw [hgo]; simp, _, H, by simpa using hOl, ?_⟩
        rw [hgo, zl_append, ← hO]
        rw [List.set_set, List.take_set, List.take_add_one, List.getElem?_eq_getElem (by omega), List.getD_eq_getElem?_getD, List.getElem?_eq_getElem (by omega), ← hx]
        rw [List.set_append_right _ _ (by simp; omega)]
        simp [zl, Nat.min_eq_left (by omega : i ≤ O.length)]
    · have hki : k = i := by omega
      subst hki
      have hgn := grpS_new (find_none (p := fun j => e k j) hno)
      simp -implicitDefEqProofs (disch:=first|omega|(simp only[LnZ];omega))[wrap64, H.rep.I]
      refine hJ _ _ hin ⟨by rw [hgn]; simp, _, H, by simpa using hOl, ?_⟩
      rw [hgn, zl_append, ← hO]
      rw [List.take_set, List.take_add_one, List.getElem?_eq_getElem (by omega)]
      rw [List.set_append_right _ _ (by simp; omega)]
      simp [zl, Nat.min_eq_left (by omega : k ≤ O.length)]
  have hin : i = n := by omega
  subst hin
  simp -implicitDefEqProofs (disch:=first|omega|(simp only[LnZ];omega))[wrap64]
  rw [List.take_of_length_le (by omega)] at hO
  rw [hO] at H
  exact RetK.keep (hk _ _ H)
theorem c_picked {h : Heap} {l s : Value} {L S : List Int} (Rl : Rep h l L) (Rs : Rep h s S) (hS : ∀ x ∈ S, 0 ≤ x ∧ x < L.length) (hSl : S.length ≤ 1048576) : CallE Tryz.prog fn_impl_picked [l, s] h (fun u h' => HS h [ow u (S.map fun x => L.getD x.toNat 0)] h') := by
  have hll := Rl.lt
  refine CallE.gen fun k hk => EN_impl_picked rfl ?_
  simp -implicitDefEqProofs (disch:=first|omega|(simp only[LnZ];omega))[wrap64, Rs.len]
  refine HS.init.mks (α := Int) (z := 0) rfl rfl (own_zero (by decide) (by decide)) (Nat.le_refl _) (by omega) (by omega) fun o h1 H => ?_
  simp -implicitDefEqProofs (disch:=first|omega|(simp only[LnZ];omega))[wrap64, (Rs.on H).len]
  refine wp_count S.length (fun i e h' => e = [some l, none, none, some o, none, none, some s, some (.int .i64 S.length), some (.int .i64 i)] ∧ ∃ O : List Int, HS h [ow o O] h' ∧ O.length = S.length ∧ O.take i = (S.take i).map fun x => L.getD x.toNat 0) ⟨by simp, _, H, by simp, by simp⟩ ?_
  clear H
  rintro J i _ h2 hJ hi ⟨rfl, O, H, hOl, hO⟩
  simp -implicitDefEqProofs (disch:=first|omega|(simp only[LnZ];omega))[wrap64]
  refine IteW.mk (fun hlt => ?_) (fun hge => ?_)
  · have hix : i < S.length := by omega
    have hx := hS _ (List.getElem_mem hix)
    obtain ⟨q, hq⟩ : ∃ q : Nat, S[i] = q := ⟨S[i].toNat, by omega⟩
    have hqn : q < L.length := by omega
    have hqo := Rl.okI hqn
    simp -implicitDefEqProofs (disch:=first|omega|(simp only[LnZ];omega))[wrap64, (Rs.on H).I, hq, (Rl.on H).I, H.rep.I]
    refine H.storeF L[q] (i := i) (by omega) rfl rfl hqo rfl fun h3 H => ?_
    simp -implicitDefEqProofs (disch:=first|omega|(simp only[LnZ];omega))[wrap64]
    refine hJ _ _ hix ⟨rfl, _, H, by simpa using hOl, ?_⟩
    rw [map_take_succ hix, ← hO, hq]
    rw [List.take_set, List.take_add_one, List.getElem?_eq_getElem (by omega), List.set_append_right _ _ (by simp; omega)]
    simp [Nat.min_eq_left (by omega : i ≤ O.length), hqn]
  simp -implicitDefEqProofs (disch:=first|omega|(simp only[LnZ];omega))[wrap64]
  rw [List.take_of_length_le (by omega), List.take_of_length_le (by omega)] at hO
  rw [hO] at H
  exact RetK.keep (hk _ _ H)
theorem keyEq_Tr : ∀ a b : Tr, keyEq (.many [.i, .i, .i, .i]) a.v b.v = some (decide (a = b)) := by
  intro a b
  simp only [keyEq, Tr.v, eqL, eqB]
  simp only [and_self, if_true]
  congr 1
  rw [Bool.eq_iff_iff]
  cases a; cases b
  simp [and_assoc]
end Go.Proofs.YtglnelcmcimljaaGreat

namespace Go.Proofs.YtglnelcmcimljaaGreat
open Go
theorem c_l10Sorted {g h : Heap} {Γ : List HP} {v : Value} {l : List Int} {n y : Int} (H : HS g (ow v l :: Γ) h) (hl : incr n (-1) l) (hy : -1 < y ∧ y < n) (hn : n ≤ 1048576) : CallE Tryz.prog fn_spec_l10Sorted [v, .int .i64 y] h (fun u h' => ∃ l', HS g (ow u l' :: Γ) h' ∧ incr n (-1) l' ∧ ∀ x, x ∈ l' ↔ x ∈ l ∨ x = y) := by
  have hll := incr_len hl (by omega)
  have hp := (incr_iff.1 hl).1
  refine CallE.gen fun k hk => EN_spec_l10Sorted rfl ?_
  simp -implicitDefEqProofs (disch:=first|omega|(simp only[LnZ];omega))[wrap64]
  refine H.bls0 Int fun o h1 H => ?_
  simp -implicitDefEqProofs (disch:=first|omega|(simp only[LnZ];omega))[wrap64]
  refine wp_count l.length (fun i e h' => ∃ o dn, e = [some v, some (.int .i64 y), none, some o, some (.bool dn), some (.int .i64 i)] ∧ ∃ O : List Int, HS g (ow o O :: ow v l :: Γ) h' ∧ InsI l y i dn O) ⟨o, false, by simp, [], H, InsI.zero⟩ ?_
  clear H
  rintro J i _ h2 hJ hi ⟨o, dn, rfl, O, H, hI⟩
  have hol := hI.len
  simp -implicitDefEqProofs (disch:=first|omega|(simp only[LnZ];omega))[wrap64, H.sw1.rep.len]
  refine IteW.mk (fun hlt => ?_) (fun hge => ?_)
  · have hix : i < l.length := by omega
    have hxb := H.sw1.rep.okI hix
    by_cases h1 : l[i] = y
    · simp -implicitDefEqProofs (disch:=first|omega|(simp only[LnZ];omega))[wrap64, H.sw1.rep.I, h1]
      refine RetK.keep (hk _ _ ⟨l, H.drop, hl, fun x => ⟨.inl, fun hh => hh.elim id fun e => ?_⟩⟩)
      rw [e, ← h1]; exact List.getElem_mem hix
    by_cases h2 : y < l[i]
    · cases dn with
      | false =>
        simp -implicitDefEqProofs (disch:=first|omega|(simp only[LnZ];omega))[wrap64, H.sw1.rep.I, h1, h2]
        refine H.app1 y rfl rfl rfl ⟨by omega, by omega⟩ rfl rfl (by omega) (by omega) fun o1 h3 H => ?_
        simp -implicitDefEqProofs (disch:=first|omega|(simp only[LnZ];omega))[wrap64, H.sw1.rep.I]
        refine H.app1 l[i] rfl rfl rfl hxb rfl rfl (by simp; omega) (by simp; omega) fun o2 h4 H => ?_
        simp -implicitDefEqProofs (disch:=first|omega|(simp only[LnZ];omega))[wrap64]
        exact hJ _ _ hix ⟨o2, true, rfl, _, H, hI.big hp hix h2⟩
      | true =>
        simp -implicitDefEqProofs (disch:=first|omega|(simp only[LnZ];omega))[wrap64, H.sw1.rep.I, h1, h2]
        refine H.app1 l[i] rfl rfl rfl hxb rfl rfl (by omega) (by omega) fun o2 h4 H => ?_
        simp -implicitDefEqProofs (disch:=first|omega|(simp only[LnZ];omega))[wrap64]
        exact hJ _ _ hix ⟨o2, true, rfl, _, H, hI.more hix h1⟩
    · simp -implicitDefEqProofs (disch:=first|omega|(simp only[LnZ];omega))[wrap64, H.sw1.rep.I, h1, h2]
      refine H.app1 l[i] rfl rfl rfl hxb rfl rfl (by omega) (by omega) fun o2 h4 H => ?_
      simp -implicitDefEqProofs (disch:=first|omega|(simp only[LnZ];omega))[wrap64]
      refine hJ _ _ hix ⟨o2, dn, rfl, _, H, ?_⟩
      cases dn with
      | false => exact hI.small hix (by omega)
      | true => exact hI.more hix h1
  · obtain ⟨r1, r2⟩ := hI.result hl hy (by omega)
    cases dn with
    | false =>
      simp -implicitDefEqProofs (disch:=first|omega|(simp only[LnZ];omega))[wrap64]
      refine H.app1 y rfl rfl rfl ⟨by omega, by omega⟩ rfl rfl (by omega) (by omega) fun o1 h3 H => ?_
      simp -implicitDefEqProofs (disch:=first|omega|(simp only[LnZ];omega))[wrap64]
      exact RetK.keep (hk _ _ ⟨_, H.sw1.drop, r1, r2⟩)
    | true =>
      simp -implicitDefEqProofs (disch:=first|omega|(simp only[LnZ];omega))[wrap64]
      exact RetK.keep (hk _ _ ⟨_, H.sw1.drop, r1, r2⟩)
def R2 {α : Type} [Ty α] (b : Bool) (y : α) (h : Heap) (u : Value) (h' : Heap) : Prop := ∃ v, u = .tuple #[v, .bool b] ∧ HS h [ow v y] h'
end Go.Proofs.YtglnelcmcimljaaGreat

namespace Go.Proofs.YtglnelcmcimljaaGreat
open Go
theorem gnm_get {e : Nat → Nat → Bool} {n q : Nat} (hq : q < n) {h1 : q < (zl (grpS e n).1).length} : (zl (grpS e n).1)[q] = gnm e n q := by
  have hl := grpS_len (e := e) n
  rw [zl_get (by omega)]
  simp [gnm, hl, hq]
theorem gnm_first {e : Nat → Nat → Bool} {n i : Nat} (hi : i < n) : gnm e n i = ((grpS e (i + 1)).1.getD i 0 : Nat) := by
  simp only [gnm, Int.toNat_natCast]
  rw [grpS_get (i := i + 1) (by omega) (by omega)]
theorem gnm_new {e : Nat → Nat → Bool} {n i : Nat} (hi : i < n) : (gnm e n i = ((grpS e i).2 : Int)) ↔ (List.range i).find? (fun k => e i k) = none := by
  have hl := grpS_len (e := e) i
  rw [gnm_first hi]
  cases h : (List.range i).find? (fun k => e i k) with
  | none =>
    rw [grpS_new h]
    simp [List.getElem?_append_right (show (grpS e i).1.length ≤ i by omega), hl]
  | some k =>
    have hk := find_lt h
    have := grpS_lt (e := e) i _ (List.getElem_mem (show k < (grpS e i).1.length by omega))
    rw [grpS_old h]
    simp only [List.getD_eq_getElem?_getD]
    rw [List.getElem?_append_right (show (grpS e i).1.length ≤ i by omega), List.getElem?_eq_getElem (show k < (grpS e i).1.length by omega)]
    simp [hl]
    omega
theorem accG_step {a : Aut} {e : Nat → Nat → Bool} {i : Nat} (hi : i < a.acc.length) : accG a e (i + 1) = accG a e i ++ if gnm e a.acc.length i = ((grpS e i).2 : Int) then [a.acc[i]] else [] := by
  have h := gnm_new (e := e) hi
  cases hf : (List.range i).find? (fun k => e i k) with
  | none => rw [if_pos (h.2 hf)]; simp [accG, hf, hi]
  | some k => rw [if_neg (fun h2 => by rw [h.1 h2] at hf; simp at hf)]; simp [accG, hf]
set_option maxHeartbeats 4000000 in
theorem c_merge {h : Heap} {v : Value} {a : Aut} (Ra : Rep h v a) (ha : a.Ok) : CallE Tryz.prog fn_impl_Automaton_merge [v] h (fun u h' => HS h [ow u a.mrg] h') := by
  obtain ⟨v1, v2, v3, rfl, R1, R2, R3⟩ := Rep_Aut.1 Ra
  have hn := ha.n
  have he := ha.e
  have hil := ha.il
  refine CallE.gen fun k hk => EN_impl_Automaton_merge rfl ?_
  simp -implicitDefEqProofs (disch:=first|omega|(simp only[LnZ];omega))[wrap64]
  refine (c_simulation Ra ha).go ?_
  rintro vb h1 ⟨B, H, hBl, hG⟩
  simp -implicitDefEqProofs (disch:=first|omega|(simp only[LnZ];omega))[wrap64]
  refine H.alloc rfl fun bB h2 H => ?_
  simp -implicitDefEqProofs (disch:=first|omega|(simp only[LnZ];omega))[wrap64]
  have Rb := H.sw1.rep
  refine H.bxst (u := vb) rfl rfl (by rw [Rb.cells]; rfl) (by rw [Rb.cells]; simp [Rb.one]) (by simp [Rb.cells]) fun h3 H => ?_
  have H : HS h [bx bB [vb], ow vb B] h3 := by simpa [setC, Rb.cells] using H
  obtain ⟨e, he'⟩ : ∃ e, e = eqv (bitR B) := ⟨_, rfl⟩
  have hme : a.mergeE e = a.mrg := by rw [he']; exact Aut.mrg_eq hG
  simp -implicitDefEqProofs (disch:=first|omega|(simp only[LnZ];omega))[wrap64, H.bxld0, H.sw1.rep.len]
  refine (c_grouped (n := B.length) (f := fn_impl_Automaton_merge_1) (c1 := []) (c2 := [.pointer (some ⟨bB, 0, none⟩)]) (by rfl) e (by omega) ?_).go ?_
  · intro h4 hl i m hi hm
    subst he'
    exact c_merge_1 (hload_le hl H.bxld0) (H.sw1.rep.le hl) (by omega) hi (by omega)
  intro o h4 H4
  have H := (H4.app H).only
  rw [hBl] at H
  have hgl := grpS_len (e := e) a.acc.length
  have hgc := grpS_le (e := e) a.acc.length
  have hgp := grpS_pos (e := e) a.acc.length hn.1
  have hon : ∀ q (hq : q < a.acc.length), (zl (grpS e a.acc.length).1)[q]'(by simp; omega) = gnm e a.acc.length q := fun q hq => gnm_get hq
  have hzl : (zl (grpS e a.acc.length).1).length = a.acc.length := by simp [hgl]
  have H := H.nil_ow (α := Bool)
  simp -implicitDefEqProofs (disch:=first|omega|(simp only[LnZ];omega))[wrap64, H.sw1.rep.len]
  refine wp_count a.acc.length (fun i e' h' => ∃ o2, e' = [none, some (.agg #[v1, v2, v3]), some (.agg #[.slice none 0 0, .slice none 0 0, .slice none 0 0]), none, some o, some (.agg #[.slice none 0 0, o2, .slice none 0 0]), none, none, none, none, none, some o, some (.int .i64 a.acc.length), some (.int .i64 i), none, none, none] ∧
    HS h [ow o2 (accG a e i), ow o (zl (grpS e a.acc.length).1)] h') ⟨.slice none 0 0, by simp [hgl], H⟩ ?_
  clear H
  rintro J i _ h5 hJ hi ⟨o2, rfl, H⟩
  have hal := accG_len (a := a) (e := e) i
  have hgi := grpS_le (e := e) i
  simp -implicitDefEqProofs (disch:=first|omega|(simp only[LnZ];omega))[wrap64]
  refine IteW.mk (fun hlt => ?_) (fun hge => ?_)
  · have hin : i < a.acc.length := by omega
    have hst := accG_step (e := e) hin
    have hoi := hon i hin
    by_cases hnew : gnm e a.acc.length i = ((grpS e i).2 : Int)
    · have hoi2 : (zl (grpS e a.acc.length).1)[i]'(by simp; omega) = ((grpS e i).2 : Int) := by rw [hoi, hnew]
      simp -implicitDefEqProofs (disch:=first|omega|(simp only[LnZ];omega))[wrap64, H.sw1.rep.I, hoi2, H.rep.len, hal, (R2.on H).B]
      refine H.app1 a.acc[i] rfl rfl rfl trivial rfl rfl (by omega) (by omega) fun o3 h6 H => ?_
      simp -implicitDefEqProofs (disch:=first|omega|(simp only[LnZ];omega))[wrap64, H.rep.cells, H.rep.one, setC]
      exact hJ _ _ hin ⟨o3, rfl, by rw [hst, if_pos hnew]; exact H⟩
    · simp -implicitDefEqProofs (disch:=first|omega|(simp only[LnZ];omega))[wrap64, H.sw1.rep.I, hoi, H.rep.len, hal, hnew]
      exact hJ _ _ hin ⟨o2, rfl, by rw [hst, if_neg hnew]; simpa using H⟩
  have hin : i = a.acc.length := by omega
  subst hin
  simp -implicitDefEqProofs (disch:=first|omega|(simp only[LnZ];omega))[wrap64]
  refine (c_picked H.sw1.rep (R1.on H) (fun x hx => by have := incr_mem ha.i x hx; simp; omega) (by omega)).go ?_
  intro p h6 H6
  have H := H6.app H
  simp -implicitDefEqProofs (disch:=first|omega|(simp only[LnZ];omega))[wrap64, H.rep.one, H.rep.cells, setC]
  refine (c_Sort_int H).go ?_
  intro _ h7 H
  simp -implicitDefEqProofs (disch:=first|omega|(simp only[LnZ];omega))[wrap64]
  refine (c_Compact_int H).go ?_
  intro p2 h8 H
  have hini : Lib.compact ((a.init.map fun x => (zl (grpS e a.acc.length).1).getD x.toNat 0).mergeSort fun x y => decide (x ≤ y)) = (a.mergeE e).init := by
    obtain ⟨q1, q2⟩ := sort_compact (a.init.map fun x => (zl (grpS e a.acc.length).1).getD x.toNat 0)
    have hval : ∀ q ∈ a.init, (zl (grpS e a.acc.length).1).getD q.toNat 0 = gnm e a.acc.length q := by
      intro q hq
      have := incr_mem ha.i q hq
      rw [List.getD_eq_getElem?_getD, List.getElem?_eq_getElem (by simp; omega)]
      have h9 := hon q.toNat (by omega)
      rw [Int.toNat_of_nonneg (by omega)] at h9
      simpa using h9
    refine pairwise_ext q1 (incr_iff.1 (memL_incr (n := (grpS e a.acc.length).2) (Nat.le_refl _))).1 fun x => ?_
    rw [q2, show (a.mergeE e).init = memL _ _ from rfl, memL_mem]
    simp only [List.mem_map, List.any_eq_true, decide_eq_true_eq]
    constructor
    · rintro ⟨q, hq, rfl⟩
      have := incr_mem ha.i q hq
      have hg := gnm_lt (e := e) (n := a.acc.length) (x := q) (by omega) (by omega)
      rw [hval q hq]
      exact ⟨(gnm e a.acc.length q).toNat, by omega, by omega, q, hq, by omega⟩
    · rintro ⟨b, rfl, hb, q, hq, h9⟩
      exact ⟨q, hq, by rw [hval q hq]; exact h9⟩
  rw [hini] at H
  simp -implicitDefEqProofs (disch:=first|omega|(simp only[LnZ];omega))[wrap64, H.rep.one, H.rep.cells, setC]
  have H := H.nil_ow (α := Tr)
  refine H.mkm (fun t : Tr => t.v) (fun b : Bool => .bool b) fun bm h9 H => ?_
  simp -implicitDefEqProofs (disch:=first|omega|(simp only[LnZ];omega))[wrap64, (R3.on H).len]
  refine wp_count a.edges.length (fun i e' h' => ∃ o3, e' = [none, none, some (.agg #[.slice none 0 0, .slice none 0 0, .slice none 0 0]), none, some o, some (.agg #[p2, o2, o3]), none, none, some (.map (some bm)), none, none, none, none, none, some v3, some (.int .i64 a.edges.length), some (.int .i64 i)] ∧
    HS h [mpo (fun t : Tr => t.v) (fun b : Bool => .bool b) bm ((ded ((a.edges.map (Tr.ren (gnm e a.acc.length))).take i)).map fun t => (t, true)), ow o3 (ded ((a.edges.map (Tr.ren (gnm e a.acc.length))).take i)), ow p2 (a.mergeE e).init, ow o2 (accG a e a.acc.length), ow o (zl (grpS e a.acc.length).1)] h') ⟨.slice none 0 0, by simp, H⟩ ?_
  clear H hJ
  rintro J i _ h10 hJ hi2 ⟨o3, rfl, H⟩
  have hdl := ded_len (l := (a.edges.map (Tr.ren (gnm e a.acc.length))).take i)
  simp only [List.length_take, List.length_map] at hdl
  simp -implicitDefEqProofs (disch:=first|omega|(simp only[LnZ];omega))[wrap64]
  refine IteW.mk (fun hlt2 => ?_) (fun hge2 => ?_)
  · have hix : i < a.edges.length := by omega
    have hx := ha.t hix
    have hv := R3.okTr hix
    unfold Tr.Ok at hx
    obtain ⟨f, hf⟩ : ∃ f : Nat, a.edges[i].frm = f := ⟨a.edges[i].frm.toNat, by omega⟩
    obtain ⟨t, ht⟩ : ∃ t : Nat, a.edges[i].to = t := ⟨a.edges[i].to.toNat, by omega⟩
    have hof := hon f (by omega)
    have hot := hon t (by omega)
    have hgf := gnm_lt (e := e) (n := a.acc.length) (x := f) (by omega) (by omega)
    have hgt := gnm_lt (e := e) (n := a.acc.length) (x := t) (by omega) (by omega)
    obtain ⟨y, hy⟩ : ∃ y : Tr, y = Tr.ren (gnm e a.acc.length) a.edges[i] := ⟨_, rfl⟩
    have hyv : y.v = .agg #[.int .i64 (gnm e a.acc.length f), .int .i64 a.edges[i].care, .int .i64 a.edges[i].value, .int .i64 (gnm e a.acc.length t)] := by
      rw [hy]; simp [Tr.v, Tr.ren, hf, ht]
    have hyok : y.ok := by
      rw [hy]
      exact ⟨by simp only [Tr.ren, hf]; omega, hv.care, hv.value, by simp only [Tr.ren, ht]; omega⟩
    have hds := ded_succ (l := a.edges.map (Tr.ren (gnm e a.acc.length))) (i := i) (by simpa using hix)
    simp only [List.getElem_map, ← hy] at hds
    have hmk : ∀ D : List Tr, mlk (D.map fun t => (t, true)) y = if y ∈ D then some true else none := by
      intro D
      induction D with
      | nil => rfl
      | cons d D ih =>
        simp only [mlk, List.map_cons, List.find?_cons] at ih ⊢
        by_cases hdy : d = y
        · subst hdy; simp
        · simp only [hdy, decide_false]
          rw [ih]
          simp [Ne.symm hdy]
    simp -implicitDefEqProofs (disch:=first|omega|(simp only[LnZ];omega))[wrap64, (R3.on H).xTr, Tr.v, setC, hf, ht, H.sw4.rep.I, hof, hot]
    refine H.mget (a := y) rfl (by simp [O.get, hyv]) keyEq_Tr ?_
    rw [hmk]
    by_cases hm : y ∈ ded ((a.edges.map (Tr.ren (gnm e a.acc.length))).take i)
    · rw [if_pos hm]
      simp -implicitDefEqProofs (disch:=first|omega|(simp only[LnZ];omega))[wrap64]
      exact hJ _ _ hix ⟨o3, by simp, by rw [hds, if_pos hm]; exact H⟩
    · rw [if_neg hm]
      simp -implicitDefEqProofs (disch:=first|omega|(simp only[LnZ];omega))[wrap64]
      refine H.mput (a := y) (v := true) rfl (by simp [O.get, hyv]) rfl keyEq_Tr (by rw [hmk, if_neg hm]) fun h11 H => ?_
      simp -implicitDefEqProofs (disch:=first|omega|(simp only[LnZ];omega))[wrap64]
      have H := H.sw1
      refine H.app1 y rfl rfl (by simp [setC, Flat.enc, hy, Tr.ren, hf, ht]) (Tr.ok_iff.2 hyok) rfl rfl (by omega) (by omega) fun o3' h12 H => ?_
      simp -implicitDefEqProofs (disch:=first|omega|(simp only[LnZ];omega))[wrap64, H.rep.cells, H.rep.one, setC]
      refine hJ _ _ hix ⟨o3', by simp, ?_⟩
      rw [hds, if_neg hm, List.map_append]
      exact H.sw1
  have hii : i = a.edges.length := by omega
  subst hii
  rw [List.take_of_length_le (by simp)] at H
  have H := H.drop
  have H := HS.mkAut (a := a.mergeE e) H.sw2.sw2
  rw [hme] at H
  have hok := Aut.mrg_ok ha
  have e1 := hok.n
  have e2 := hok.il
  have e3 := hok.e
  simp -implicitDefEqProofs (disch:=first|omega|(simp only[LnZ];omega))[wrap64]
  refine (c_copyOf H.rep (by omega) (by omega) (by omega)).go ?_
  intro v' h9 H6
  have H := (H6.app H).only
  obtain ⟨z1, z2, z3, rfl, S1, S2, S3⟩ := Rep_Aut.1 H.rep
  simp -implicitDefEqProofs (disch:=first|omega|(simp only[LnZ];omega))[wrap64, S1.one, S2.one, S3.one]
  exact RetK.keep (hk _ _ H)
end Go.Proofs.YtglnelcmcimljaaGreat

namespace Go.Proofs.YtglnelcmcimljaaGreat
open Go
theorem matR_at {M : List (List Bool)} {n i j : Nat} (hM : M.length = n) (hr : ∀ r ∈ M, r.length = n) (hi : i < n) (hj : j < n) : ∃ (h1 : i < M.length) (h2 : j < M[i].length), matR M i j = M[i][j] := by
  have h1 : i < M.length := by omega
  have h2 : j < M[i].length := by rw [hr _ (List.getElem_mem h1)]; exact hj
  exact ⟨h1, h2, matR_get h1 h2⟩
set_option maxHeartbeats 4000000 in
theorem c_l13Merge {h : Heap} {v : Value} {a : Aut} (Ra : Rep h v a) (ha : a.Ok) : CallE Tryz.prog fn_spec_l13Merge [v] h (fun u h' => HS h [ow u a.mrg] h') := by
  obtain ⟨v1, v2, v3, rfl, R1, R2, R3⟩ := Rep_Aut.1 Ra
  have hn := ha.n
  have he := ha.e
  have hil := ha.il
  refine CallE.gen fun k hk => EN_spec_l13Merge rfl ?_
  simp -implicitDefEqProofs (disch:=first|omega|(simp only[LnZ];omega))[wrap64]
  refine (c_l13Relation Ra ha).go ?_
  rintro w h1 ⟨M, H, hMl, hMr, hG⟩
  obtain ⟨e, he'⟩ : ∃ e, e = eqv (matR M) := ⟨_, rfl⟩
  have hme : a.mergeE e = a.mrg := by rw [he']; exact Aut.mrg_eq hG
  have hgl := grpS_len (e := e) a.acc.length
  have hgc := grpS_le (e := e) a.acc.length
  have hgp := grpS_pos (e := e) a.acc.length hn.1
  have hon : ∀ q (hq : q < a.acc.length), (zl (grpS e a.acc.length).1)[q]'(by simp; omega) = gnm e a.acc.length q := fun q hq => gnm_get hq
  have hzl : (zl (grpS e a.acc.length).1).length = a.acc.length := by simp [hgl]
  simp -implicitDefEqProofs (disch:=first|omega|(simp only[LnZ];omega))[wrap64]
  refine H.bls0 Int fun o h2 H => ?_
  have H := H.nil_ow (α := Bool)
  simp -implicitDefEqProofs (disch:=first|omega|(simp only[LnZ];omega))[wrap64]
  refine wp_count a.acc.length (fun i e' h' => ∃ o o2, e' = [none, some (.agg #[v1, v2, v3]), some (.agg #[.slice none 0 0, .slice none 0 0, .slice none 0 0]), some w, some o, some (.agg #[.slice none 0 0, o2, .slice none 0 0]), some (.int .i64 i), none, none, none, none, none, none] ∧
    HS h [ow o2 (accG a e i), ow o (zl (grpS e i).1), ow w M] h') ⟨o, .slice none 0 0, by simp, by simpa [grpS, zl, accG] using H⟩ ?_
  clear H
  rintro J i _ h3 hJ hi ⟨o, o2, rfl, H⟩
  have hal := accG_len (a := a) (e := e) i
  have hgi := grpS_le (e := e) i
  have hgli := grpS_len (e := e) i
  have hzi : (zl (grpS e i).1).length = i := by simp [hgli]
  simp -implicitDefEqProofs (disch:=first|omega|(simp only[LnZ];omega))[wrap64, H.sw2.rep.len]
  refine IteW.mk (fun hlt => ?_) (fun hge => ?_)
  · have hin : i < a.acc.length := by omega
    obtain ⟨hi1, _, _⟩ := matR_at hMl hMr hin hin
    have hri := hMr _ (List.getElem_mem hi1)
    simp -implicitDefEqProofs (disch:=first|omega|(simp only[LnZ];omega))[wrap64]
    refine wp_count i (fun m e' h' => e' = [none, some (.agg #[v1, v2, v3]), some (.agg #[.slice none 0 0, .slice none 0 0, .slice none 0 0]), some w, some o, some (.agg #[.slice none 0 0, o2, .slice none 0 0]), some (.int .i64 i), some (.int .i64 m), none, none, none, none, none] ∧ HS h [ow o2 (accG a e i), ow o (zl (grpS e i).1), ow w M] h' ∧ ∀ j, j < m → e i j = false) ⟨by simp, H, fun j hj => absurd hj (Nat.not_lt_zero j)⟩ ?_
    clear H
    rintro J2 m _ h4 hJ2 hm2 ⟨rfl, H, hno⟩
    have Rw := H.sw2.rep
    have hstop : ∀ (hmi : m < i) (hem : e i m = true), (List.range i).find? (fun k => e i k) = some m := fun hmi hem => find_range (p := fun k => e i k) hmi hem hno
    by_cases hmi : m < i
    · obtain ⟨hm1, _, _⟩ := matR_at hMl hMr (show m < a.acc.length by omega) hin
      have hrm := hMr _ (List.getElem_mem hm1)
      obtain ⟨q1, q2, q3⟩ := matR_at hMl hMr hin (show m < a.acc.length by omega)
      obtain ⟨q4, q5, q6⟩ := matR_at hMl hMr (show m < a.acc.length by omega) hin
      obtain ⟨ui, hui, Rui⟩ := Rw.ldL hi1
      obtain ⟨um, hum, Rum⟩ := Rw.ldL hm1
      have hek : e i m = (M[i][m] && M[m][i]) := by rw [he']; simp only [eqv]; rw [q3, q6]
      cases hb1 : M[i][m] with
      | false =>
        have hef : e i m = false := by rw [hek, hb1]; rfl
        simp -implicitDefEqProofs (disch:=first|omega|(simp only[LnZ];omega))[wrap64, hmi, Rw.X (n := 1) rfl, hui, Rui.B, hb1]
        refine hJ2 _ _ hmi ⟨by simp, H, fun j hj => ?_⟩
        by_cases ej : j = m
        · subst ej; exact hef
        · exact hno j (by omega)
      | true =>
        cases hb2 : M[m][i] with
        | false =>
          have hef : e i m = false := by rw [hek, hb1, hb2]; rfl
          simp -implicitDefEqProofs (disch:=first|omega|(simp only[LnZ];omega))[wrap64, hmi, Rw.X (n := 1) rfl, hui, Rui.B, hb1, hum, Rum.B, hb2]
          refine hJ2 _ _ hmi ⟨by simp, H, fun j hj => ?_⟩
          by_cases ej : j = m
          · subst ej; exact hef
          · exact hno j (by omega)
        | true =>
          have hef : e i m = true := by rw [hek, hb1, hb2]; rfl
          have hgo := grpS_old (hstop hmi hef)
          obtain ⟨x, hx⟩ : ∃ x, x = (grpS e i).1[m]'(by omega) := ⟨_, rfl⟩
          have hxl : x < (grpS e i).2 := hx ▸ grpS_lt i _ (List.getElem_mem (by omega))
          have hzm : (zl (grpS e i).1)[m]'(by omega) = (x : Int) := by rw [zl_get (by omega), ← hx]
          have hacc : accG a e (i + 1) = accG a e i := by simp [accG, hstop hmi hef]
          simp -implicitDefEqProofs (disch:=first|omega|(simp only[LnZ];omega))[wrap64, hmi, Rw.X (n := 1) rfl, hui, Rui.B, hb1, hum, Rum.B, hb2, H.sw1.rep.I, hzm]
          refine H.sw1.app1 (x : Int) rfl rfl rfl ⟨by omega, by omega⟩ rfl rfl (by omega) (by omega) fun o' h5 H => ?_
          simp -implicitDefEqProofs (disch:=first|omega|(simp only[LnZ];omega))[wrap64]
          refine hJ _ _ hin ⟨o', o2, by simp, ?_⟩
          rw [hgo, hacc, zl_append, List.getD_eq_getElem?_getD, List.getElem?_eq_getElem (by omega : m < (grpS e i).1.length), ← hx]
          simpa [zl] using H.sw1
    · have hmi2 : m = i := by omega
      subst hmi2
      have hfn := find_none (p := fun j => e m j) hno
      have hgn := grpS_new hfn
      have hacc : accG a e (m + 1) = accG a e m ++ [a.acc[m]] := by simp [accG, hfn, hin]
      simp -implicitDefEqProofs (disch:=first|omega|(simp only[LnZ];omega))[wrap64, H.rep.len]
      refine H.sw1.app1 ((grpS e m).2 : Int) rfl rfl (by simp [hal, O.get, Flat.enc, setC]) ⟨by omega, by omega⟩ rfl rfl (by omega) (by omega) fun o' h5 H => ?_
      have H := H.sw1
      simp -implicitDefEqProofs (disch:=first|omega|(simp only[LnZ];omega))[wrap64, (R2.on H).B]
      refine H.app1 a.acc[m] rfl rfl rfl trivial rfl rfl (by omega) (by omega) fun o3 h6 H => ?_
      simp -implicitDefEqProofs (disch:=first|omega|(simp only[LnZ];omega))[wrap64, H.rep.cells, H.rep.one, setC]
      refine hJ _ _ hin ⟨o', o3, by simp, ?_⟩
      rw [hgn, hacc, zl_append]
      exact H
  have hin : i = a.acc.length := by omega
  subst hin
  have H := H.sw2.drop
  have H := H.nil_ow (α := Int)
  simp -implicitDefEqProofs (disch:=first|omega|(simp only[LnZ];omega))[wrap64]
  refine wp_count a.init.length (fun i e' h' => ∃ o1, e' = [none, some (.agg #[v1, v2, v3]), some (.agg #[.slice none 0 0, .slice none 0 0, .slice none 0 0]), none, some o, some (.agg #[o1, o2, .slice none 0 0]), none, none, some (.int .i64 i), none, none, none, none] ∧
    ∃ I : List Int, HS h [ow o1 I, ow o2 (accG a e a.acc.length), ow o (zl (grpS e a.acc.length).1)] h' ∧ incr ((grpS e a.acc.length).2 : Nat) (-1) I ∧ ∀ x, x ∈ I ↔ ∃ q ∈ a.init.take i, gnm e a.acc.length q = x) ⟨.slice none 0 0, by simp, [], H, trivial, by simp⟩ ?_
  clear H hJ
  rintro J i _ h4 hJ hi2 ⟨o1, rfl, I, H, hI, hIm⟩
  simp -implicitDefEqProofs (disch:=first|omega|(simp only[LnZ];omega))[wrap64, (R1.on H).len]
  refine IteW.mk (fun hlt2 => ?_) (fun hge2 => ?_)
  · have hix : i < a.init.length := by omega
    have hx := ha.im hix
    obtain ⟨q, hq⟩ : ∃ q : Nat, a.init[i] = q := ⟨a.init[i].toNat, by omega⟩
    have hoq := hon q (by omega)
    have hgq := gnm_lt (e := e) (n := a.acc.length) (x := q) (by omega) (by omega)
    simp -implicitDefEqProofs (disch:=first|omega|(simp only[LnZ];omega))[wrap64, (R1.on H).I, hq, H.sw2.rep.I, hoq]
    refine (c_l10Sorted H hI (by omega) (by omega)).go ?_
    rintro o1' h5 ⟨I', H, hI', hIm'⟩
    simp -implicitDefEqProofs (disch:=first|omega|(simp only[LnZ];omega))[wrap64, H.rep.cells, H.rep.one, setC]
    refine hJ _ _ hix ⟨o1', rfl, I', H, hI', fun x => ?_⟩
    rw [hIm', hIm]
    constructor
    · rintro (⟨p, h6, h7⟩ | rfl)
      · exact ⟨p, (take_mem_succ hix).2 (.inl h6), h7⟩
      · exact ⟨_, (take_mem_succ hix).2 (.inr rfl), by rw [hq]⟩
    · rintro ⟨p, h6, h7⟩
      rcases (take_mem_succ hix).1 h6 with h6 | rfl
      · exact .inl ⟨p, h6, h7⟩
      · exact .inr (by rw [← h7, hq])
  have hii : i = a.init.length := by omega
  subst hii
  rw [List.take_length] at hIm
  have hini : I = (a.mergeE e).init := by
    refine incr_ext hI (memL_incr (n := (grpS e a.acc.length).2) (Nat.le_refl _)) fun x => ?_
    rw [hIm, show (a.mergeE e).init = memL _ _ from rfl, memL_mem]
    simp only [List.any_eq_true, decide_eq_true_eq]
    constructor
    · rintro ⟨q, hq, rfl⟩
      have := incr_mem ha.i q hq
      have hg := gnm_lt (e := e) (n := a.acc.length) (x := q) (by omega) (by omega)
      exact ⟨(gnm e a.acc.length q).toNat, by omega, by omega, q, hq, by omega⟩
    · rintro ⟨b, rfl, hb, q, hq, h9⟩
      exact ⟨q, hq, h9⟩
  rw [hini] at H
  have H := H.nil_ow (α := Tr)
  simp -implicitDefEqProofs (disch:=first|omega|(simp only[LnZ];omega))[wrap64]
  refine wp_count a.edges.length (fun i e' h' => ∃ o3, e' = [none, some (.agg #[v1, v2, v3]), some (.agg #[.slice none 0 0, .slice none 0 0, .slice none 0 0]), none, some o, some (.agg #[o1, o2, o3]), none, none, none, some (.int .i64 i), none, none, none] ∧
    HS h [ow o3 (ded ((a.edges.map (Tr.ren (gnm e a.acc.length))).take i)), ow o1 (a.mergeE e).init, ow o2 (accG a e a.acc.length), ow o (zl (grpS e a.acc.length).1)] h') ⟨.slice none 0 0, by simp, H⟩ ?_
  clear H hJ
  rintro J i _ h10 hJ hi3 ⟨o3, rfl, H⟩
  have hdl := ded_len (l := (a.edges.map (Tr.ren (gnm e a.acc.length))).take i)
  simp only [List.length_take, List.length_map] at hdl
  simp -implicitDefEqProofs (disch:=first|omega|(simp only[LnZ];omega))[wrap64, (R3.on H).len]
  refine IteW.mk (fun hlt2 => ?_) (fun hge2 => ?_)
  · have hix : i < a.edges.length := by omega
    have hx := ha.t hix
    have hv := R3.okTr hix
    unfold Tr.Ok at hx
    obtain ⟨f, hf⟩ : ∃ f : Nat, a.edges[i].frm = f := ⟨a.edges[i].frm.toNat, by omega⟩
    obtain ⟨t, ht⟩ : ∃ t : Nat, a.edges[i].to = t := ⟨a.edges[i].to.toNat, by omega⟩
    have hof := hon f (by omega)
    have hot := hon t (by omega)
    have hgf := gnm_lt (e := e) (n := a.acc.length) (x := f) (by omega) (by omega)
    have hgt := gnm_lt (e := e) (n := a.acc.length) (x := t) (by omega) (by omega)
    obtain ⟨y, hy⟩ : ∃ y : Tr, y = Tr.ren (gnm e a.acc.length) a.edges[i] := ⟨_, rfl⟩
    have hyv : y.v = .agg #[.int .i64 (gnm e a.acc.length f), .int .i64 a.edges[i].care, .int .i64 a.edges[i].value, .int .i64 (gnm e a.acc.length t)] := by
      rw [hy]; simp [Tr.v, Tr.ren, hf, ht]
    have hyok : y.ok := by
      rw [hy]
      exact ⟨by simp only [Tr.ren, hf]; omega, hv.care, hv.value, by simp only [Tr.ren, ht]; omega⟩
    have hds := ded_succ (l := a.edges.map (Tr.ren (gnm e a.acc.length))) (i := i) (by simpa using hix)
    simp only [List.getElem_map, ← hy] at hds
    obtain ⟨D, hD⟩ : ∃ D, D = ded ((a.edges.map (Tr.ren (gnm e a.acc.length))).take i) := ⟨_, rfl⟩
    rw [← hD] at H hds hdl
    simp -implicitDefEqProofs (disch:=first|omega|(simp only[LnZ];omega))[wrap64, (R3.on H).X (n := 4) rfl, (R3.on H).fTr, hf, ht, setC, H.sw3.rep.I, hof, hot]
    refine wp_count D.length (fun m e' h' => ∃ b : Bool, e' = [none, some (.agg #[v1, v2, v3]), some (.agg #[.slice none 0 0, .slice none 0 0, .slice none 0 0]), none, some o, some (.agg #[o1, o2, o3]), none, none, none, some (.int .i64 i), some y.v, some (.bool b), some (.int .i64 m)] ∧
      HS h [ow o3 D, ow o1 (a.mergeE e).init, ow o2 (accG a e a.acc.length), ow o (zl (grpS e a.acc.length).1)] h' ∧ (b = true ↔ y ∈ D.take m)) ⟨false, by simp [hyv], H, by simp⟩ ?_
    clear H
    rintro J2 m _ h11 hJ2 hm2 ⟨b, rfl, H, hb⟩
    have hDv : ∀ j (hj : j < D.length), D[j].v = y.v ↔ D[j] = y := by
      intro j hj
      cases D[j]; cases y
      simp [Tr.v]
    simp -implicitDefEqProofs (disch:=first|omega|(simp only[LnZ];omega))[wrap64, H.rep.len]
    refine IteW.mk (fun hlt3 => ?_) (fun hge3 => ?_)
    · have hmD : m < D.length := by omega
      cases b with
      | true =>
        simp -implicitDefEqProofs (disch:=first|omega|(simp only[LnZ];omega))[wrap64]
        exact hJ2 _ _ hmD ⟨true, by simp, H, by rw [take_mem_succ hmD]; simp [hb.1 rfl]⟩
      | false =>
        have hno : ¬ y ∈ D.take m := fun h => by have := hb.2 h; simp at this
        simp -implicitDefEqProofs (disch:=first|omega|(simp only[LnZ];omega))[wrap64, H.rep.xTr, Tr.v, hyv, setC]
        refine hJ2 _ _ hmD ⟨decide (D[m] = y), by simp [Tr.v, Tr.ext_iff', Bool.decide_and], H, ?_⟩
        rw [take_mem_succ hmD, decide_eq_true_iff]
        constructor
        · intro h; exact .inr h.symm
        · rintro (h | h)
          · exact absurd h hno
          · exact h.symm
    · have hmD : m = D.length := by omega
      subst hmD
      rw [List.take_length] at hb
      cases b with
      | true =>
        have hm := hb.1 rfl
        simp -implicitDefEqProofs (disch:=first|omega|(simp only[LnZ];omega))[wrap64]
        exact hJ _ _ hix ⟨o3, by simp, by rw [hds, if_pos hm]; exact H⟩
      | false =>
        have hm : ¬ y ∈ D := fun h => by have := hb.2 h; simp at this
        simp -implicitDefEqProofs (disch:=first|omega|(simp only[LnZ];omega))[wrap64, Tr.v, setC]
        refine H.app1 y rfl rfl (by simp [setC, Flat.enc, Tr.v]) (Tr.ok_iff.2 hyok) rfl rfl (by omega) (by omega) fun o3' h12 H => ?_
        simp -implicitDefEqProofs (disch:=first|omega|(simp only[LnZ];omega))[wrap64, H.rep.cells, H.rep.one, setC]
        exact hJ _ _ hix ⟨o3', by simp, by rw [hds, if_neg hm]; exact H⟩
  have hii : i = a.edges.length := by omega
  subst hii
  rw [List.take_of_length_le (by simp)] at H
  have H := HS.mkAut (a := a.mergeE e) H.sw2.sw2
  rw [hme] at H
  have H := H.only
  obtain ⟨z1, z2, z3, hz, S1, S2, S3⟩ := Rep_Aut.1 H.rep
  simp at hz
  obtain ⟨rfl, rfl, rfl⟩ := hz
  simp -implicitDefEqProofs (disch:=first|omega|(simp only[LnZ];omega))[wrap64, S1.one, S2.one, S3.one]
  exact RetK.keep (hk _ _ H)
end Go.Proofs.YtglnelcmcimljaaGreat
