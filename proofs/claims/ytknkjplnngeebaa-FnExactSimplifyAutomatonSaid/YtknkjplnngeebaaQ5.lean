/-
  The program's components, which nodes lie on a cycle, and the states from which a word is accepted.
-/
import Derived.Test.YtknkjplnngeebaaQ4
namespace Go.Proofs.Ytknkjplnngeebaa
open Go
set_option linter.all false
set_option linter.unusedVariables false
set_option linter.unusedSimpArgs false
set_option linter.defProp false
set_option maxRecDepth 1000000

/-- one piece is kept -/
theorem HS.only {g h : Heap} {Γ : List HP} {p : HP} (H : HS g (p :: Γ) h) : HS g [p] h := by
  obtain ⟨g', r, e, d, hp, H⟩ := H
  exact ⟨g', r, e, d, hp, H.base⟩

/-- the names of parts, when so many nodes have been named -/
structure NmI (n : Nat) (f : Nat → Int) (i : Nat) (l : List (Int × Int)) (Q : List Int) : Prop where
  len : Q.length = n
  le : l.length ≤ i
  done : ∀ x, x < i → mlk l (f x) = some (gd Q x)
  rest : ∀ x, i ≤ x → x < n → gd Q x = f x
  bnd : ∀ a y, mlk l a = some y → 0 ≤ y ∧ y < l.length
  inj : ∀ a b y, mlk l a = some y → mlk l b = some y → a = b
theorem NmI.old {n : Nat} {f : Nat → Int} {i : Nat} {l : List (Int × Int)} {Q : List Int} {y : Int} (h : NmI n f i l Q) (hi : i < n) (hy : mlk l (f i) = some y) : NmI n f (i + 1) l (Q.set i y) := by
  have hl := h.len
  refine ⟨by simpa using hl, by have := h.le; omega, ?_, ?_, h.bnd, h.inj⟩
  · intro x hx
    rw [gd_set (by omega)]
    by_cases e : x = i
    · subst e; simp [hy]
    · rw [fput_ne e]; exact h.done x (by omega)
  · intro x hx hxn
    rw [gd_set (by omega), fput_ne (by omega)]
    exact h.rest x (by omega) hxn
theorem NmI.new {n : Nat} {f : Nat → Int} {i : Nat} {l : List (Int × Int)} {Q : List Int} (h : NmI n f i l Q) (hi : i < n) (hy : mlk l (f i) = none) : NmI n f (i + 1) (l ++ [(f i, (l.length : Int))]) (Q.set i (l.length : Int)) ∧ mlk (l ++ [(f i, (l.length : Int))]) (f i) = some (l.length : Int) := by
  have hl := h.len
  have hs := fun b => mlk_snoc (y := (l.length : Int)) (b := b) hy
  refine ⟨⟨by simpa using hl, by have := h.le; simp; omega, ?_, ?_, ?_, ?_⟩, by rw [hs, if_pos rfl]⟩
  · intro x hx
    rw [gd_set (by omega), hs]
    by_cases e : x = i
    · subst e; simp
    · rw [fput_ne e]
      have h1 := h.done x (by omega)
      rw [if_neg]
      · exact h1
      · intro e2; rw [← e2, hy] at h1; simp at h1
  · intro x hx hxn
    rw [gd_set (by omega), fput_ne (by omega)]
    exact h.rest x (by omega) hxn
  · intro a y ha
    rw [hs] at ha
    split at ha
    · simp at ha; subst ha; simp; omega
    · have := h.bnd a y ha; simp; omega
  · intro a b y ha hb
    rw [hs] at ha hb
    split at ha
    · simp at ha
      split at hb
      · rename_i e1 e2; rw [← e1, ← e2]
      · have := h.bnd b y hb; omega
    · split at hb
      · simp at hb
        have := h.bnd a y ha; omega
      · exact h.inj a b y ha hb
theorem NmI.result {n : Nat} {f : Nat → Int} {l : List (Int × Int)} {Q : List Int} (h : NmI n f n l Q) : (∀ x, x < n → 0 ≤ gd Q x ∧ gd Q x < n) ∧ ∀ x y, x < n → y < n → (gd Q x = gd Q y ↔ f x = f y) := by
  refine ⟨fun x hx => ?_, fun x y hx hy => ⟨fun e => ?_, fun e => ?_⟩⟩
  · have := h.bnd _ _ (h.done x hx)
    have := h.le
    omega
  · have h1 := h.done x hx
    have h2 := h.done y hy
    rw [e] at h1
    exact h.inj _ _ _ h1 h2
  · have h1 := h.done x hx
    have h2 := h.done y hy
    rw [e, h2] at h1
    simpa using h1.symm

set_option maxHeartbeats 4000000 in
theorem c_components {h : Heap} {w : Value} {G : List (List Int)} {E : Nat → Nat → Prop} (Rw : Rep h w G) (hG : Adj E G) (hnl : G.length ≤ 1048576) :
    CallE Try.prog fn_impl_components [w] h (fun u h' => ∃ Q : List Int, HS h [ow u Q] h' ∧ Q.length = G.length ∧ (∀ x, x < G.length → 0 ≤ gd Q x ∧ gd Q x < G.length) ∧ ∀ x y, x < G.length → y < G.length → (gd Q x = gd Q y ↔ Scc E x y)) := by
  refine CallE.gen fun k hk => EN_impl_components rfl ?_
  simp -implicitDefEqProofs (disch := first | omega | (simp only [List.length_set, List.length_replicate, List.length_append, List.length_map, List.length_take, List.length_cons, List.length_nil]; omega)) [wrap64]
  refine HS.init.alloc rfl fun bG h1 H => ?_
  have H : HS h [bx bG [w]] h1 := by simpa [Rw.cells] using H
  simp -implicitDefEqProofs (disch := first | omega | (simp only [List.length_set, List.length_replicate, List.length_append, List.length_map, List.length_take, List.length_cons, List.length_nil]; omega)) [wrap64, H.bxld0, Rw.len]
  refine H.mks (α := Int) (z := 0) rfl rfl (own_zero (by decide) (by decide)) (Nat.le_refl _) (by omega) (by omega) fun vn h2 H => ?_
  simp -implicitDefEqProofs (disch := first | omega | (simp only [List.length_set, List.length_replicate, List.length_append, List.length_map, List.length_take, List.length_cons, List.length_nil]; omega)) [wrap64]
  refine H.mks (α := Int) (z := 0) rfl rfl (own_zero (by decide) (by decide)) (Nat.le_refl _) (by omega) (by omega) fun vl h3 H => ?_
  simp -implicitDefEqProofs (disch := first | omega | (simp only [List.length_set, List.length_replicate, List.length_append, List.length_map, List.length_take, List.length_cons, List.length_nil]; omega)) [wrap64]
  refine H.mks (α := Int) (z := 0) rfl rfl (own_zero (by decide) (by decide)) (Nat.le_refl _) (by omega) (by omega) fun vq h4 H => ?_
  simp -implicitDefEqProofs (disch := first | omega | (simp only [List.length_set, List.length_replicate, List.length_append, List.length_map, List.length_take, List.length_cons, List.length_nil]; omega)) [wrap64]
  refine H.alloc rfl fun bN h5 H => ?_
  simp -implicitDefEqProofs (disch := first | omega | (simp only [List.length_set, List.length_replicate, List.length_append, List.length_map, List.length_take, List.length_cons, List.length_nil]; omega)) [wrap64]
  refine H.alloc rfl fun bL h6 H => ?_
  simp -implicitDefEqProofs (disch := first | omega | (simp only [List.length_set, List.length_replicate, List.length_append, List.length_map, List.length_take, List.length_cons, List.length_nil]; omega)) [wrap64]
  refine H.alloc rfl fun bQ h7 H => ?_
  simp -implicitDefEqProofs (disch := first | omega | (simp only [List.length_set, List.length_replicate, List.length_append, List.length_map, List.length_take, List.length_cons, List.length_nil]; omega)) [wrap64]
  have R0 := H.sw3.rep
  have R1 := H.sw4.rep
  have R2 := H.sw5.rep
  refine H.sw2.bxst (u := vn) rfl rfl (by rw [R2.cells]; rfl) (by rw [R2.cells]; simp [R2.one]) (by simp [R2.cells]) fun h8 H => ?_
  simp -implicitDefEqProofs (disch := first | omega | (simp only [List.length_set, List.length_replicate, List.length_append, List.length_map, List.length_take, List.length_cons, List.length_nil]; omega)) [wrap64]
  refine H.sw2.bxst (u := vl) rfl rfl (by rw [R1.cells]; rfl) (by rw [R1.cells]; simp [R1.one]) (by simp [R1.cells]) fun h9 H => ?_
  simp -implicitDefEqProofs (disch := first | omega | (simp only [List.length_set, List.length_replicate, List.length_append, List.length_map, List.length_take, List.length_cons, List.length_nil]; omega)) [wrap64]
  refine H.sw2.bxst (u := vq) rfl rfl (by rw [R0.cells]; rfl) (by rw [R0.cells]; simp [R0.one]) (by simp [R0.cells]) fun h10 H => ?_
  have H : HS h [bx bQ [vq], bx bL [vl], bx bN [vn], ow vq (List.replicate G.length (0 : Int)), ow vl (List.replicate G.length (0 : Int)), ow vn (List.replicate G.length (0 : Int)), bx bG [w]] h10 := by
    simpa [setC, R0.cells, R1.cells, R2.cells] using H
  have H := H.sw3
  simp -implicitDefEqProofs (disch := first | omega | (simp only [List.length_set, List.length_replicate, List.length_append, List.length_map, List.length_take, List.length_cons, List.length_nil]; omega)) [wrap64, H.sw1.bxld0, H.rep.len]
  refine wp_count G.length (fun i e h' => e = [none, some (.pointer (some ⟨bG, 0, none⟩)), none, some (.int .i64 G.length), some (.pointer (some ⟨bN, 0, none⟩)), some (.pointer (some ⟨bL, 0, none⟩)), some (.pointer (some ⟨bQ, 0, none⟩)), none, none, none, none, none, none, none, none, none, none, some (.int .i64 G.length), some (.int .i64 i), none, none, none, none, none] ∧
    ∃ Q : List Int, HS h [ow vq Q, bx bQ [vq], bx bL [vl], bx bN [vn], ow vl (List.replicate G.length (0 : Int)), ow vn (List.replicate G.length (0 : Int)), bx bG [w]] h' ∧ Q.length = G.length ∧ ∀ x, x < i → gd Q x = -1) ⟨by simp, _, H, by simp, fun x hx => absurd hx (Nat.not_lt_zero x)⟩ ?_
  clear H
  rintro J i _ h11 hJ hi ⟨rfl, Q, H, hQl, hQ⟩
  simp -implicitDefEqProofs (disch := first | omega | (simp only [List.length_set, List.length_replicate, List.length_append, List.length_map, List.length_take, List.length_cons, List.length_nil]; omega)) [wrap64]
  refine IteW.mk (fun hlt => ?_) (fun hge => ?_)
  · have hin : i < G.length := by omega
    simp -implicitDefEqProofs (disch := first | omega | (simp only [List.length_set, List.length_replicate, List.length_append, List.length_map, List.length_take, List.length_cons, List.length_nil]; omega)) [wrap64, H.sw1.bxld0, H.rep.I]
    refine H.storeF (-1) (i := i) (by omega) rfl rfl ⟨by decide, by decide⟩ rfl fun h12 H => ?_
    simp -implicitDefEqProofs (disch := first | omega | (simp only [List.length_set, List.length_replicate, List.length_append, List.length_map, List.length_take, List.length_cons, List.length_nil]; omega)) [wrap64]
    refine hJ _ _ hin ⟨rfl, _, H, by simpa using hQl, fun x hx => ?_⟩
    rw [gd_set (by omega)]
    by_cases e : x = i
    · subst e; simp
    · rw [fput_ne e]; exact hQ x (by omega)
  have hin : i = G.length := by omega
  subst hin
  simp -implicitDefEqProofs (disch := first | omega | (simp only [List.length_set, List.length_replicate, List.length_append, List.length_map, List.length_take, List.length_cons, List.length_nil]; omega)) [wrap64]
  refine H.alloc rfl fun bS h12 H => ?_
  simp -implicitDefEqProofs (disch := first | omega | (simp only [List.length_set, List.length_replicate, List.length_append, List.length_map, List.length_take, List.length_cons, List.length_nil]; omega)) [wrap64]
  refine H.alloc rfl fun bC h13 H => ?_
  simp -implicitDefEqProofs (disch := first | omega | (simp only [List.length_set, List.length_replicate, List.length_append, List.length_map, List.length_take, List.length_cons, List.length_nil]; omega)) [wrap64]
  refine H.alloc rfl fun bP h14 H => ?_
  simp -implicitDefEqProofs (disch := first | omega | (simp only [List.length_set, List.length_replicate, List.length_append, List.length_map, List.length_take, List.length_cons, List.length_nil]; omega)) [wrap64]
  refine H.sw1.bxst (u := .int .i64 0) rfl rfl rfl rfl (by simp) fun h15 H => ?_
  simp -implicitDefEqProofs (disch := first | omega | (simp only [List.length_set, List.length_replicate, List.length_append, List.length_map, List.length_take, List.length_cons, List.length_nil]; omega)) [wrap64]
  refine H.sw1.bxst (u := .int .i64 0) rfl rfl rfl rfl (by simp) fun h16 H => ?_
  simp -implicitDefEqProofs (disch := first | omega | (simp only [List.length_set, List.length_replicate, List.length_append, List.length_map, List.length_take, List.length_cons, List.length_nil]; omega)) [wrap64]
  refine H.alloc rfl fun bV h17 H => ?_
  simp -implicitDefEqProofs (disch := first | omega | (simp only [List.length_set, List.length_replicate, List.length_append, List.length_map, List.length_take, List.length_cons, List.length_nil]; omega)) [wrap64]
  obtain ⟨fv, hfv⟩ : ∃ fv, fv = Value.func (.func fn_impl_components_1) #[] #[.pointer (some ⟨bC, 0, none⟩), .pointer (some ⟨bN, 0, none⟩), .pointer (some ⟨bL, 0, none⟩), .pointer (some ⟨bS, 0, none⟩), .pointer (some ⟨bG, 0, none⟩), .pointer (some ⟨bV, 0, none⟩), .pointer (some ⟨bQ, 0, none⟩), .pointer (some ⟨bP, 0, none⟩)] := ⟨_, rfl⟩
  have hfn : fnOf fv = some (fn_impl_components_1, [], [.pointer (some ⟨bC, 0, none⟩), .pointer (some ⟨bN, 0, none⟩), .pointer (some ⟨bL, 0, none⟩), .pointer (some ⟨bS, 0, none⟩), .pointer (some ⟨bG, 0, none⟩), .pointer (some ⟨bV, 0, none⟩), .pointer (some ⟨bQ, 0, none⟩), .pointer (some ⟨bP, 0, none⟩)]) := by subst hfv; rfl
  have hfc : fv.cells = #[fv] := by subst hfv; rfl
  have hf1 : fv.oneCell' = true := by subst hfv; rfl
  rw [← hfv]
  refine H.bxst (u := fv) rfl rfl (by rw [hfc]; rfl) (by rw [hfc]; simp [hf1]) (by simp) fun h18 H => ?_
  have H : HS h [bx bV [fv], bx bP [.int .i64 0], bx bC [.int .i64 0], bx bS [.slice none 0 0], ow vq Q, bx bQ [vq], bx bL [vl], bx bN [vn], ow vl (List.replicate G.length (0 : Int)), ow vn (List.replicate G.length (0 : Int)), bx bG [w]] h18 := by
    simpa [setC, hfc] using H
  have H := H.nil_ow (α := Int)
  have H := H.sw1.sw11.sw7.sw8.sw9.sw6.sw7.sw8.sw8.sw9.sw10.sw11
  obtain ⟨g1, H0, H⟩ := HS.rebase (Δ := [ow vn (List.replicate G.length (0 : Int)), ow vl (List.replicate G.length (0 : Int)), ow vq Q, ow (.slice none 0 0) ([] : List Int), bx bS [.slice none 0 0], bx bC [.int .i64 0], bx bP [.int .i64 0]]) (Γ := [bx bN [vn], bx bL [vl], bx bQ [vq], bx bG [w], bx bV [fv]]) H
  have F : FB bN bL bQ bG bV vn vl vq w fv g1 := ⟨H0.bxld0, H0.sw1.bxld0, H0.sw2.bxld0, H0.sw3.bxld0, H0.sw4.bxld0⟩
  have Rw1 := Rw.on H0
  have hg0 : ∀ x, gd (List.replicate G.length (0 : Int)) x = 0 := by
    intro x
    simp only [gd, List.getD_eq_getElem?_getD, List.getElem?_replicate]
    split <;> rfl
  have hE := hG.lt
  have hC0 : ∃ s, CH g1 vn vl vq bS bC bP G.length s h18 ∧ TI G.length E (fun _ => False) s ∧ ∀ x, x < 0 → s.num x ≠ 0 := by
    refine ⟨⟨gd (List.replicate G.length (0 : Int)), gd (List.replicate G.length (0 : Int)), gd Q, [], 0, 0⟩, ⟨_, _, Q, .slice none 0 0, ⟨by simp, by simp, hQl, rfl, rfl, rfl, ?_⟩, H⟩, TI.start (fun x _ => hg0 x) (fun x hx => hQ x hx) rfl rfl rfl, fun x hx => absurd hx (Nat.not_lt_zero x)⟩
    have := List.length_filter_le (fun x => decide (x < G.length ∧ gd (List.replicate G.length (0 : Int)) x = 0)) (List.range G.length)
    simp only [List.length_range] at this
    show (0 : Int) + ((unv G.length (gd (List.replicate G.length (0 : Int))) : Nat) : Int) ≤ _
    unfold unv
    omega
  simp -implicitDefEqProofs (disch := first | omega | (simp only [List.length_set, List.length_replicate, List.length_append, List.length_map, List.length_take, List.length_cons, List.length_nil]; omega)) [wrap64]
  refine wp_count G.length (fun i e h' => e = [none, none, none, none, some (.pointer (some ⟨bN, 0, none⟩)), none, some (.pointer (some ⟨bQ, 0, none⟩)), none, none, none, none, some (.pointer (some ⟨bV, 0, none⟩)), none, none, none, none, none, none, none, some (.int .i64 G.length), some (.int .i64 i), none, none, none] ∧
    ∃ s, CH g1 vn vl vq bS bC bP G.length s h' ∧ TI G.length E (fun _ => False) s ∧ ∀ x, x < i → s.num x ≠ 0) ⟨by simp, hC0⟩ ?_
  clear H hC0 hQ hQl hJ
  rintro J2 i _ h19 hJ2 hi2 ⟨rfl, s, ⟨N, L, Q, vs, hl, H⟩, hI, hv⟩
  have hNl := hl.hN
  simp -implicitDefEqProofs (disch := first | omega | (simp only [List.length_set, List.length_replicate, List.length_append, List.length_map, List.length_take, List.length_cons, List.length_nil]; omega)) [wrap64]
  refine IteW.mk (fun hlt2 => ?_) (fun hge2 => ?_)
  · have hin : i < G.length := by omega
    have hNi : s.num i = N[i]'(by omega) := by rw [hl.num, gd_get]
    by_cases h0 : N[i]'(by omega) = 0
    · simp -implicitDefEqProofs (disch := first | omega | (simp only [List.length_set, List.length_replicate, List.length_append, List.length_map, List.length_take, List.length_cons, List.length_nil]; omega)) [wrap64, F.on H, H.rep.I, h0, hfn]
      refine (c_visit F Rw1 hG rfl hnl hfn _ (fun _ => False) s i _ rfl ⟨N, L, Q, vs, hl, H⟩ hI hin (by rw [hNi, h0]) (fun _ h => h.elim) (fun _ h => h.elim)).go ?_
      rintro u h20 ⟨s2, hC2, hV⟩
      simp -implicitDefEqProofs (disch := first | omega | (simp only [List.length_set, List.length_replicate, List.length_append, List.length_map, List.length_take, List.length_cons, List.length_nil]; omega)) [wrap64]
      refine hJ2 _ _ hin ⟨rfl, s2, hC2, hV.inv, fun x hx => ?_⟩
      by_cases e : x = i
      · subst e; exact hV.vis
      · have h1 := hv x (by omega)
        rw [(hV.num x (by omega) h1).1]; exact h1
    · simp -implicitDefEqProofs (disch := first | omega | (simp only [List.length_set, List.length_replicate, List.length_append, List.length_map, List.length_take, List.length_cons, List.length_nil]; omega)) [wrap64, F.on H, H.rep.I, h0]
      refine hJ2 _ _ hin ⟨rfl, s, ⟨N, L, Q, vs, hl, H⟩, hI, fun x hx => ?_⟩
      by_cases e : x = i
      · subst e; rw [hNi]; exact h0
      · exact hv x (by omega)
  have hin : i = G.length := by omega
  subst hin
  obtain ⟨hr1, hr2⟩ := hI.result hv
  have hQl := hl.hQ
  have H := H.sw2.only
  simp -implicitDefEqProofs (disch := first | omega | (simp only [List.length_set, List.length_replicate, List.length_append, List.length_map, List.length_take, List.length_cons, List.length_nil]; omega)) [wrap64]
  refine H.mkm (fun n : Int => .int .i64 n) (fun n : Int => .int .i64 n) fun bm h20 H => ?_
  have H := H.sw1
  simp -implicitDefEqProofs (disch := first | omega | (simp only [List.length_set, List.length_replicate, List.length_append, List.length_map, List.length_take, List.length_cons, List.length_nil]; omega)) [wrap64, F.on H, H.rep.len]
  refine wp_count G.length (fun i e h' => e = [none, none, none, none, none, none, some (.pointer (some ⟨bQ, 0, none⟩)), none, none, none, none, none, none, some (.map (some bm)), none, none, none, none, none, none, none, some vq, some (.int .i64 G.length), some (.int .i64 i)] ∧
    ∃ (l : List (Int × Int)) (Q : List Int), HS g1 [ow vq Q, mpo (fun n : Int => .int .i64 n) (fun n : Int => .int .i64 n) bm l] h' ∧ NmI G.length s.part i l Q) ⟨by simp [hQl], [], Q, H, hQl, by simp, fun x hx => absurd hx (Nat.not_lt_zero x), fun x _ _ => by rw [hl.part], fun a y h => by simp [mlk_nil] at h, fun a b y h => by simp [mlk_nil] at h⟩ ?_
  clear H hQl hl
  rintro J3 i _ h21 hJ3 hi3 ⟨rfl, l, Q, H, hM⟩
  have hQl := hM.len
  have hle := hM.le
  simp -implicitDefEqProofs (disch := first | omega | (simp only [List.length_set, List.length_replicate, List.length_append, List.length_map, List.length_take, List.length_cons, List.length_nil]; omega)) [wrap64]
  refine IteW.mk (fun hlt3 => ?_) (fun hge3 => ?_)
  · have hin : i < G.length := by omega
    have hQi : Q[i]'(by omega) = s.part i := by rw [← gd_get, hM.rest i (Nat.le_refl _) hin]
    simp -implicitDefEqProofs (disch := first | omega | (simp only [List.length_set, List.length_replicate, List.length_append, List.length_map, List.length_take, List.length_cons, List.length_nil]; omega)) [wrap64, H.rep.I, hQi]
    refine H.sw1.mget (a := s.part i) rfl rfl keyEq_int ?_
    cases hlk : mlk l (s.part i) with
    | some y =>
      have hyb := hM.bnd _ _ hlk
      simp -implicitDefEqProofs (disch := first | omega | (simp only [List.length_set, List.length_replicate, List.length_append, List.length_map, List.length_take, List.length_cons, List.length_nil]; omega)) [wrap64, F.on H]
      refine H.sw1.mget (a := s.part i) rfl rfl keyEq_int ?_
      rw [hlk]
      simp -implicitDefEqProofs (disch := first | omega | (simp only [List.length_set, List.length_replicate, List.length_append, List.length_map, List.length_take, List.length_cons, List.length_nil]; omega)) [wrap64, F.on H, H.rep.I]
      refine H.storeF y (i := i) (by omega) rfl rfl ⟨by omega, by omega⟩ rfl fun h22 H => ?_
      simp -implicitDefEqProofs (disch := first | omega | (simp only [List.length_set, List.length_replicate, List.length_append, List.length_map, List.length_take, List.length_cons, List.length_nil]; omega)) [wrap64]
      exact hJ3 _ _ hin ⟨rfl, l, _, H, hM.old hin hlk⟩
    | none =>
      obtain ⟨hn1, hn2⟩ := hM.new hin hlk
      simp -implicitDefEqProofs (disch := first | omega | (simp only [List.length_set, List.length_replicate, List.length_append, List.length_map, List.length_take, List.length_cons, List.length_nil]; omega)) [wrap64]
      refine H.sw1.mlen rfl ?_
      simp -implicitDefEqProofs (disch := first | omega | (simp only [List.length_set, List.length_replicate, List.length_append, List.length_map, List.length_take, List.length_cons, List.length_nil]; omega)) [wrap64]
      refine H.sw1.mput (a := s.part i) (v := (l.length : Int)) rfl rfl rfl keyEq_int hlk fun h22 H => ?_
      simp -implicitDefEqProofs (disch := first | omega | (simp only [List.length_set, List.length_replicate, List.length_append, List.length_map, List.length_take, List.length_cons, List.length_nil]; omega)) [wrap64, F.on H]
      refine H.mget (a := s.part i) rfl rfl keyEq_int ?_
      rw [hn2]
      have H := H.sw1
      simp -implicitDefEqProofs (disch := first | omega | (simp only [List.length_set, List.length_replicate, List.length_append, List.length_map, List.length_take, List.length_cons, List.length_nil]; omega)) [wrap64, F.on H, H.rep.I]
      refine H.storeF (l.length : Int) (i := i) (by omega) rfl rfl ⟨by omega, by omega⟩ rfl fun h23 H => ?_
      simp -implicitDefEqProofs (disch := first | omega | (simp only [List.length_set, List.length_replicate, List.length_append, List.length_map, List.length_take, List.length_cons, List.length_nil]; omega)) [wrap64]
      exact hJ3 _ _ hin ⟨rfl, _, _, H, hn1⟩
  have hin : i = G.length := by omega
  subst hin
  simp -implicitDefEqProofs (disch := first | omega | (simp only [List.length_set, List.length_replicate, List.length_append, List.length_map, List.length_take, List.length_cons, List.length_nil]; omega)) [wrap64, F.on H]
  obtain ⟨hb, hc⟩ := hM.result
  have Hf := (H.app H0).only
  exact RetK.keep (hk _ _ ⟨Q, Hf, hQl, hb, fun x y hx hy => by rw [hc x y hx hy, hr2 x y hx hy]⟩)
end Go.Proofs.Ytknkjplnngeebaa
