/-
  What the program makes of the greatest simulation: its rows, and whether one automaton is simulated by another.
-/
import Derived.Test.YtfhjclhchbagnaaP6
namespace Go.Proofs.Ytfhjclhchbagnaa
open Go
set_option linter.all false
set_option linter.unusedVariables false
set_option linter.unusedSimpArgs false
set_option linter.defProp false

theorem c_SimulationRelation {h : Heap} {v : Value} {a : Aut} (Ra : Rep h v a) : CallE Try.prog fn_impl_SimulationRelation [v] h (fun u h' => ∃ (w : Value) (M : List (List Bool)), u = .tuple #[w, .bool (decide a.Ok)] ∧ HS h [ow w M] h' ∧
    ((¬ a.Ok ∧ M = []) ∨ (a.Ok ∧ M.length = a.acc.length ∧ (∀ r ∈ M, r.length = a.acc.length) ∧ Great a (matR M)))) := by
  obtain ⟨v1, v2, v3, rfl, R1, R2, R3⟩ := Rep_Aut.1 Ra
  refine CallE.gen fun k hk => EN_impl_SimulationRelation rfl ?_
  simp -implicitDefEqProofs (disch := first | omega | (simp only [List.length_set, List.length_replicate, List.length_append, List.length_map, List.length_take, List.length_cons, List.length_nil]; omega)) [wrap64]
  refine (c_AutomatonValid Ra).go ?_
  rintro _ h1 ⟨l1, rfl⟩
  by_cases ha : a.Ok
  case neg =>
    simp -implicitDefEqProofs (disch := first | omega | (simp only [List.length_set, List.length_replicate, List.length_append, List.length_map, List.length_take, List.length_cons, List.length_nil]; omega)) [wrap64, ha]
    exact RetK.keep (hk _ _ ⟨_, [], by simp [ha], HS.nil_ow (Γ := []) l1, .inl ⟨ha, rfl⟩⟩)
  have hn := ha.n
  simp -implicitDefEqProofs (disch := first | omega | (simp only [List.length_set, List.length_replicate, List.length_append, List.length_map, List.length_take, List.length_cons, List.length_nil]; omega)) [wrap64, ha, (R2.le l1).len]
  refine HS.mks (Γ := []) (g := h) (α := List Bool) (z := []) l1 rfl rfl own_nils (Nat.le_refl _) (by omega) (by omega) fun vo h2 H => ?_
  simp -implicitDefEqProofs (disch := first | omega | (simp only [List.length_set, List.length_replicate, List.length_append, List.length_map, List.length_take, List.length_cons, List.length_nil]; omega)) [wrap64]
  refine (c_simulation (Ra.on H) ha).go ?_
  rintro vb h3 ⟨B, HB, hBl, hG⟩
  have H := (HB.app H).sw1
  simp -implicitDefEqProofs (disch := first | omega | (simp only [List.length_set, List.length_replicate, List.length_append, List.length_map, List.length_take, List.length_cons, List.length_nil]; omega)) [wrap64, H.sw1.rep.len]
  rw [hBl]
  refine wp_count a.acc.length (fun i e h' => e = [none, some (.agg #[v1, v2, v3]), none, none, some vo, none, none, none, some vb, some (.int .i64 a.acc.length), some (.int .i64 i), none, none] ∧
    ∃ M, HS h [ow vo M, ow vb B] h' ∧ M.length = a.acc.length ∧ ∀ x, x < i → (M.getD x []).length = a.acc.length ∧ ∀ y, y < a.acc.length → matR M x y = bitR B x y) ⟨by simp, _, H, by simp, fun x hx => absurd hx (Nat.not_lt_zero x)⟩ ?_
  rintro J i _ h4 hJ hi ⟨rfl, M, H, hM, hR⟩
  simp -implicitDefEqProofs (disch := first | omega | (simp only [List.length_set, List.length_replicate, List.length_append, List.length_map, List.length_take, List.length_cons, List.length_nil]; omega)) [wrap64]
  refine IteW.mk (fun hlt => ?_) (fun hge => ?_)
  · have hin : i < a.acc.length := by omega
    simp -implicitDefEqProofs (disch := first | omega | (simp only [List.length_set, List.length_replicate, List.length_append, List.length_map, List.length_take, List.length_cons, List.length_nil]; omega)) [wrap64, H.sw1.rep.U, (R2.on H).len]
    refine H.mks (α := Bool) (z := false) rfl rfl own_false (Nat.le_refl _) (by omega) (by omega) fun vr h5 H => ?_
    simp -implicitDefEqProofs (disch := first | omega | (simp only [List.length_set, List.length_replicate, List.length_append, List.length_map, List.length_take, List.length_cons, List.length_nil]; omega)) [wrap64, H.sw1.rep.X (n := 1) rfl]
    refine H.store (i := i) (by omega) rfl rfl rfl fun h6 H => ?_
    obtain ⟨w, hw, Rw⟩ := H.rep.ldL (i := i) (by simpa [hM] using hin)
    rw [List.getElem_set_self] at Rw
    simp -implicitDefEqProofs (disch := first | omega | (simp only [List.length_set, List.length_replicate, List.length_append, List.length_map, List.length_take, List.length_cons, List.length_nil]; omega)) [wrap64, H.rep.X (n := 1) rfl, hM, hw, Rw.len]
    have hset : (M.set i (List.replicate a.acc.length false)).length = a.acc.length := by simpa using hM
    refine wp_count a.acc.length (fun j e h' => e = [none, some (.agg #[v1, v2, v3]), none, none, some vo, some (.int .i64 i), some (.int .u64 (B[i]'(by omega)).toNat), none, some vb, some (.int .i64 a.acc.length), some (.int .i64 i), some (.int .i64 a.acc.length), some (.int .i64 j)] ∧
      ∃ M', HS h [ow vo M', ow vb B] h' ∧ M'.length = a.acc.length ∧ (M'.getD i []).length = a.acc.length ∧ (∀ x, x < i → (M'.getD x []).length = a.acc.length ∧ ∀ y, y < a.acc.length → matR M' x y = bitR B x y) ∧ ∀ y, y < j → matR M' i y = bitR B i y) ⟨by simp, _, H, hset, by simp [hM, hin], fun x hx => ?_, fun y hy => absurd hy (Nat.not_lt_zero y)⟩ ?_
    · have h1 : ¬ i = x := by omega
      simp only [matR, List.getD_eq_getElem?_getD, List.getElem?_set, h1, if_false]
      simpa only [matR, List.getD_eq_getElem?_getD] using hR x hx
    rintro J2 j _ h7 hJ2 hj ⟨rfl, M', H, hM', hMi, hR', hRi⟩
    simp -implicitDefEqProofs (disch := first | omega | (simp only [List.length_set, List.length_replicate, List.length_append, List.length_map, List.length_take, List.length_cons, List.length_nil]; omega)) [wrap64]
    have hiM : i < M'.length := by omega
    have hMi' : M'[i].length = a.acc.length := by simpa [hiM] using hMi
    refine IteW.mk (fun hlt2 => ?_) (fun hge2 => ?_)
    · have hjn : j < a.acc.length := by omega
      obtain ⟨w, hw, HT⟩ := H.take hiM
      change hload _ (some (elp 1 vo i)) none = some w at hw
      have hbit : IntKind.u64.wrap 0 = 0 := rfl
      simp -implicitDefEqProofs (disch := first | omega | (simp only [List.length_set, List.length_replicate, List.length_append, List.length_map, List.length_take, List.length_cons, List.length_nil]; omega)) [wrap64, -BitVec.getLsbD_eq_getElem, H.rep.X (n := 1) rfl, hw, u64_bit, HT.rep.X (n := 1) rfl, hMi']
      refine HT.storeF ((B[i]'(by omega)).getLsbD j) (i := j) (by omega) rfl (by simp [valC, Flat.enc, Ty.agg]) trivial rfl fun h8 HT => ?_
      have H := HT.put
      simp -implicitDefEqProofs (disch := first | omega | (simp only [List.length_set, List.length_replicate, List.length_append, List.length_map, List.length_take, List.length_cons, List.length_nil]; omega)) [wrap64]
      refine hJ2 _ _ hjn ⟨rfl, _, H, by simpa using hM', by simp [hiM, hMi'], fun x hx => ?_, fun y hy => ?_⟩
      · have h1 : ¬ i = x := by omega
        have h2 := hR' x hx
        simp only [matR, List.getD_eq_getElem?_getD, List.getElem?_set, h1, if_false] at h2 ⊢
        exact h2
      · have h2 := hRi y
        simp only [matR, List.getD_eq_getElem?_getD, List.getElem?_set, if_true, hiM, List.getElem?_eq_getElem, Option.getD_some] at h2 ⊢
        by_cases hy2 : j = y
        · subst hy2
          rw [bitR_get (by omega)]
          simp [hMi', hjn]
        · simp only [hy2, if_false]
          exact h2 (by omega)
    · simp -implicitDefEqProofs (disch := first | omega | (simp only [List.length_set, List.length_replicate, List.length_append, List.length_map, List.length_take, List.length_cons, List.length_nil]; omega)) [wrap64]
      refine hJ _ _ hin ⟨rfl, _, H, hM', fun x hx => ?_⟩
      by_cases hxi : x = i
      · subst hxi; exact ⟨hMi, fun y hy => hRi y (by omega)⟩
      · exact hR' x (by omega)
  · simp -implicitDefEqProofs (disch := first | omega | (simp only [List.length_set, List.length_replicate, List.length_append, List.length_map, List.length_take, List.length_cons, List.length_nil]; omega)) [wrap64]
    have hlen : ∀ r ∈ M, r.length = a.acc.length := by
      intro r hr
      obtain ⟨x, hx, rfl⟩ := List.mem_iff_getElem.1 hr
      have := (hR x (by omega)).1
      simpa [hx] using this
    have hsame : ∀ x y, x < a.acc.length → y < a.acc.length → matR M x y = bitR B x y := fun x y hx hy => (hR x (by omega)).2 y hy
    refine RetK.keep (hk _ _ ⟨vo, M, by simp [ha], H.sw1.drop, .inr ⟨ha, hM, hlen, hG.congr ha fun x y hx hy => (hsame x y hx hy).symm⟩⟩)


/-- is each first state simulated by one of the other automaton's -/
def inclR (R : Rl) (a b : Aut) : Bool := a.init.all fun i => b.init.any fun j => R i.toNat (j.toNat + a.acc.length)
/-- what both programs answer -/
def InclA (a b : Aut) (r : Bool) : Prop := (¬ (a.Ok ∧ b.Ok ∧ (a.unite b).Ok) ∧ r = false) ∨ ((a.Ok ∧ b.Ok ∧ (a.unite b).Ok) ∧ ∃ R, Great (a.unite b) R ∧ r = inclR R a b)
theorem InclA.eq {a b : Aut} {r s : Bool} (h : InclA a b r) (h' : InclA a b s) : r = s := by
  rcases h with ⟨h1, rfl⟩ | ⟨h1, R, hR, rfl⟩
  · rcases h' with ⟨_, rfl⟩ | ⟨h2, _⟩
    · rfl
    · exact absurd h2 h1
  · rcases h' with ⟨h2, _⟩ | ⟨_, S, hS, rfl⟩
    · exact absurd h1 h2
    · obtain ⟨ha, hb, hc⟩ := h1
      have hl : (a.unite b).acc.length = a.acc.length + b.acc.length := by simp [Aut.unite]
      have : ∀ i ∈ a.init, ∀ j ∈ b.init, R i.toNat (j.toNat + a.acc.length) = S i.toNat (j.toNat + a.acc.length) := by
        intro i hi j hj
        have h1 := incr_mem ha.i i hi
        have h2 := incr_mem hb.i j hj
        exact hR.eq hS (by omega) (by omega)
      unfold inclR
      rw [Bool.eq_iff_iff, List.all_eq_true, List.all_eq_true]
      constructor <;> intro h i hi <;> have h3 := h i hi <;> rw [List.any_eq_true] at h3 ⊢ <;> obtain ⟨j, hj, h4⟩ := h3 <;> exact ⟨j, hj, by first | rw [this i hi j hj] at h4; exact h4 | rw [← this i hi j hj] at h4; exact h4⟩

theorem c_incl_1_1 {h : Heap} {u : Value} {j i n : Int} (Rj : Rep h u j) {p1 p2 p3 : Addr} {vb : Value} {B : List (BitVec 64)} (h1 : hload h (some (.pointer (some p1))) none = some vb) (h2 : hload h (some (.pointer (some p2))) none = some (.int .i64 i))
    (h3 : hload h (some (.pointer (some p3))) none = some (.int .i64 n)) (Rb : Rep h vb B) (hi : 0 ≤ i ∧ i < B.length) (hj : 0 ≤ j ∧ 0 ≤ n ∧ j + n < 64) :
    CallE Try.prog fn_impl_IncludesAutomaton_1_1 [u, .pointer (some p1), .pointer (some p2), .pointer (some p3)] h (fun u h' => h' = h ∧ u = .bool (bitR B i.toNat (j.toNat + n.toNat))) := by
  rw [(Rep_int.1 Rj).1]
  refine CallE.gen fun k hk => EN_impl_IncludesAutomaton_1_1 rfl ?_
  have hs : (j + n) = ((j.toNat + n.toNat : Nat) : Int) := by omega
  have hw : IntKind.i64.wrap (j + n) = ((j.toNat + n.toNat : Nat) : Int) := by rw [wrap64 (by omega) (by omega), hs]
  simp -implicitDefEqProofs (disch := omega) [-BitVec.getLsbD_eq_getElem, -Int.natCast_add, h1, h2, h3, Rb.U, hw, u64_bit]
  refine RetK.keep (hk _ _ ⟨rfl, ?_⟩)
  rw [bitR_get (by omega)]

theorem c_incl_1 {h : Heap} {u : Value} {i : Int} (Ri : Rep h u i) {b3 b7 b8 : Nat} {w1 vb : Value} {B : List (BitVec 64)} {binit : List Int} {n : Nat} (h0 : hload h (some (.pointer (some ⟨b3, 0, none⟩))) none = some w1)
    (h1 : hload h (some (.pointer (some ⟨b7, 0, none⟩))) none = some vb) (h3 : hload h (some (.pointer (some ⟨b8, 0, none⟩))) none = some (.int .i64 n)) (Rb : Rep h vb B) (S1 : Rep h w1 binit)
    (hi : 0 ≤ i ∧ i < B.length) (hj : ∀ j ∈ binit, 0 ≤ j ∧ j + n < 64) :
    CallE Try.prog fn_impl_IncludesAutomaton_1 [u, .pointer (some ⟨b3, 0, none⟩), .pointer (some ⟨b7, 0, none⟩), .pointer (some ⟨b8, 0, none⟩)] h (fun u h' => h.le h' ∧ u = .bool (!binit.any fun j => bitR B i.toNat (j.toNat + n))) := by
  rw [(Rep_int.1 Ri).1]
  refine CallE.gen fun k hk => EN_impl_IncludesAutomaton_1 rfl ?_
  simp -implicitDefEqProofs (disch := first | omega | (simp only [List.length_set, List.length_replicate, List.length_append, List.length_map, List.length_take, List.length_cons, List.length_nil]; omega)) [wrap64]
  refine HS.init.alloc rfl fun b h1' H => ?_
  have H : HS h [bx b [.int .i64 i]] h1' := H
  have hl := H.base
  simp -implicitDefEqProofs (disch := first | omega | (simp only [List.length_set, List.length_replicate, List.length_append, List.length_map, List.length_take, List.length_cons, List.length_nil]; omega)) [wrap64, hload_le hl h0]
  refine (c_ContainsFunc_int (S1.on H) (c1 := []) (fnOf_func) (fun j => bitR B i.toNat (j.toNat + n)) ?_).go ?_
  · intro h2 hl2 m hm x Rx
    have hl3 := hl.trans hl2
    have hx := hj _ (List.getElem_mem hm)
    refine (c_incl_1_1 (n := n) Rx (hload_le hl3 h1) (hload_le hl2 H.bxld0) (hload_le hl3 h3) (Rb.le hl3) hi (by omega)).to fun _ _ ⟨h4, h5⟩ => ⟨h4 ▸ Heap.le.refl _, by simpa using h5⟩
  · rintro _ h2 ⟨hl2, rfl⟩
    simp -implicitDefEqProofs (disch := first | omega | (simp only [List.length_set, List.length_replicate, List.length_append, List.length_map, List.length_take, List.length_cons, List.length_nil]; omega)) [wrap64]
    exact RetK.keep (hk _ _ ⟨hl.trans hl2, rfl⟩)

theorem c_IncludesAutomaton {h : Heap} {v w : Value} {a b : Aut} (Ra : Rep h v a) (Rb : Rep h w b) : CallE Try.prog fn_impl_IncludesAutomaton [v, w] h (fun u h' => h.le h' ∧ ∃ r, u = .bool r ∧ InclA a b r) := by
  obtain ⟨v1, v2, v3, rfl, R1, R2, R3⟩ := Rep_Aut.1 Ra
  obtain ⟨w1, w2, w3, rfl, S1, S2, S3⟩ := Rep_Aut.1 Rb
  refine CallE.gen fun k hk => EN_impl_IncludesAutomaton rfl ?_
  simp -implicitDefEqProofs (disch := first | omega | (simp only [List.length_set, List.length_replicate, List.length_append, List.length_map, List.length_take, List.length_cons, List.length_nil]; omega)) [wrap64]
  refine HS.init.alloc rfl fun b3 h1 H => ?_
  have H : HS h [bx b3 [w1, w2, w3]] h1 := H
  have hld := H.bxlds (o := 0) (n := 3) (by simp)
  simp -implicitDefEqProofs (disch := first | omega | (simp only [List.length_set, List.length_replicate, List.length_append, List.length_map, List.length_take, List.length_cons, List.length_nil]; omega)) [wrap64, hld]
  refine (c_UniteAutomata (Ra.on H) (Rb.on H)).go ?_
  rintro _ h2 ⟨vc, rfl, HC⟩
  have H := HC.app H
  by_cases hP : a.Ok ∧ b.Ok ∧ (a.unite b).Ok
  case neg =>
    rw [if_neg hP] at H
    obtain ⟨z1, z2, z3, hz, q1, q2, q3⟩ := Rep_Aut.1 H.rep
    subst hz
    simp -implicitDefEqProofs (disch := first | omega | (simp only [List.length_set, List.length_replicate, List.length_append, List.length_map, List.length_take, List.length_cons, List.length_nil]; omega)) [wrap64, hP, q1.one, q2.one, q3.one]
    exact RetK.keep (hk _ _ ⟨H.base, false, rfl, .inl ⟨hP, rfl⟩⟩)
  rw [if_pos hP] at H
  obtain ⟨ha, hb, hc⟩ := hP
  obtain ⟨z1, z2, z3, hz, q1, q2, q3⟩ := Rep_Aut.1 H.rep
  subst hz
  simp -implicitDefEqProofs (disch := first | omega | (simp only [List.length_set, List.length_replicate, List.length_append, List.length_map, List.length_take, List.length_cons, List.length_nil]; omega)) [wrap64, ha, hb, hc, q1.one, q2.one, q3.one]
  refine (c_simulation H.rep hc).go ?_
  rintro vb h3 ⟨B, HB, hBl, hG⟩
  have H := (HB.app H)
  simp -implicitDefEqProofs (disch := first | omega | (simp only [List.length_set, List.length_replicate, List.length_append, List.length_map, List.length_take, List.length_cons, List.length_nil]; omega)) [wrap64]
  refine H.alloc rfl fun b7 h4 H => ?_
  simp -implicitDefEqProofs (disch := first | omega | (simp only [List.length_set, List.length_replicate, List.length_append, List.length_map, List.length_take, List.length_cons, List.length_nil]; omega)) [wrap64]
  refine H.bxst (u := vb) rfl rfl (by rw [H.sw1.rep.cells]; rfl) (by rw [H.sw1.rep.cells]; simp [H.sw1.rep.one]) (by simp [H.sw1.rep.cells]) fun h5 H => ?_
  have H : HS h [bx b7 [vb], ow vb B, ow (.agg #[z1, z2, z3]) (a.unite b), bx b3 [w1, w2, w3]] h5 := by
    simpa [setC, H.sw1.rep.cells] using H
  simp -implicitDefEqProofs (disch := first | omega | (simp only [List.length_set, List.length_replicate, List.length_append, List.length_map, List.length_take, List.length_cons, List.length_nil]; omega)) [wrap64, (R2.on H).len]
  refine H.alloc rfl fun b8 h6 H => ?_
  simp -implicitDefEqProofs (disch := first | omega | (simp only [List.length_set, List.length_replicate, List.length_append, List.length_map, List.length_take, List.length_cons, List.length_nil]; omega)) [wrap64]
  refine H.bxst (u := .int .i64 a.acc.length) rfl rfl rfl rfl (by simp) fun h7 H => ?_
  have H : HS h [bx b8 [.int .i64 a.acc.length], bx b7 [vb], ow vb B, ow (.agg #[z1, z2, z3]) (a.unite b), bx b3 [w1, w2, w3]] h7 := H
  have hl : (a.unite b).acc.length = a.acc.length + b.acc.length := by simp [Aut.unite]
  have hcn := hc.n
  simp -implicitDefEqProofs (disch := first | omega | (simp only [List.length_set, List.length_replicate, List.length_append, List.length_map, List.length_take, List.length_cons, List.length_nil]; omega)) [wrap64]
  refine (c_ContainsFunc_int (R1.on H) (c1 := []) (fnOf_func) (fun i => !b.init.any fun j => bitR B i.toNat (j.toNat + a.acc.length)) ?_).go ?_
  · intro h8 hl2 m hm x Rx
    have hx := ha.im hm
    exact (c_incl_1 Rx (hload_le hl2 (H.sw4.bxld (o := 0) rfl)) (hload_le hl2 H.sw1.bxld0) (hload_le hl2 H.bxld0) (H.sw2.rep.le hl2) ((S1.on H).le hl2) ⟨hx.1, by omega⟩ fun j hj => by
      have := incr_mem hb.i j hj
      omega)
  · rintro _ h8 ⟨hl2, rfl⟩
    simp -implicitDefEqProofs (disch := first | omega | (simp only [List.length_set, List.length_replicate, List.length_append, List.length_map, List.length_take, List.length_cons, List.length_nil]; omega)) [wrap64]
    refine RetK.keep (hk _ _ ⟨H.base.trans hl2, _, rfl, .inr ⟨⟨ha, hb, hc⟩, bitR B, hG, ?_⟩⟩)
    rw [inclR, Bool.eq_iff_iff]
    simp
end Go.Proofs.Ytfhjclhchbagnaa
