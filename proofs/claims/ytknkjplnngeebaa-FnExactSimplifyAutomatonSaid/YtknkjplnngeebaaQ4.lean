/-
  The program's search for strongly connected components.
-/
import Derived.Test.YtknkjplnngeebaaQ3
import Derived.Test.YtknkjplnngeebaaGE
namespace Go.Proofs.Ytknkjplnngeebaa
open Go
set_option linter.all false
set_option linter.unusedVariables false
set_option linter.unusedSimpArgs false
set_option linter.defProp false
set_option maxRecDepth 1000000

def gd (l : List Int) : Nat → Int := fun x => l.getD x 0
theorem gd_get {l : List Int} {i : Nat} (hi : i < l.length) : gd l i = l[i] := by simp [gd, hi]
theorem gd_set {l : List Int} {i : Nat} {v : Int} (hi : i < l.length) : gd (l.set i v) = fput (gd l) i v := by
  funext x
  simp only [gd, fput, List.getD_eq_getElem?_getD, List.getElem?_set]
  by_cases h : i = x
  · subst h; simp [hi]
  · simp [h, Ne.symm h]
theorem ite_min {a b : Int} : (if b < a then b else a) = min a b := by
  split <;> omega

/-- so many have not been visited -/
def unv (n : Nat) (f : Nat → Int) : Nat := ((List.range n).filter fun x => decide (x < n ∧ f x = 0)).length
theorem unv_lt {n : Nat} {f f' : Nat → Int} {a : Nat} (ha : a < n) (h0 : f a = 0) (h1 : f' a ≠ 0) (h : ∀ x, x < n → f x ≠ 0 → f' x ≠ 0) : unv n f' < unv n f := by
  refine filter_lt_of ?_ ⟨a, by simpa using ha, by simp [h1], by simp [h0, ha]⟩
  intro x hx2
  simp at hx2 ⊢
  exact ⟨hx2.1, Classical.byContradiction fun hn => h x hx2.1 hn hx2.2⟩
theorem unv_le {n : Nat} {f f' : Nat → Int} (h : ∀ x, x < n → f x ≠ 0 → f' x ≠ 0) : unv n f' ≤ unv n f := by
  refine filter_le_of ?_ _
  intro x hx2
  simp at hx2 ⊢
  exact ⟨hx2.1, Classical.byContradiction fun hn => h x hx2.1 hn hx2.2⟩

/-- the boxes that are only read -/
@[reducible] def FB (bN bL bQ bG bV : Nat) (vn vl vq w fv : Value) (h : Heap) : Prop := hload h (some (.pointer (some ⟨bN, 0, none⟩))) none = some vn ∧ hload h (some (.pointer (some ⟨bL, 0, none⟩))) none = some vl ∧ hload h (some (.pointer (some ⟨bQ, 0, none⟩))) none = some vq ∧
  hload h (some (.pointer (some ⟨bG, 0, none⟩))) none = some w ∧ hload h (some (.pointer (some ⟨bV, 0, none⟩))) none = some fv
theorem FB.on {bN bL bQ bG bV : Nat} {vn vl vq w fv : Value} {g h : Heap} {Γ : List HP} (F : FB bN bL bQ bG bV vn vl vq w fv g) (H : HS g Γ h) : FB bN bL bQ bG bV vn vl vq w fv h :=
  ⟨hload_le H.base F.1, hload_le H.base F.2.1, hload_le H.base F.2.2.1, hload_le H.base F.2.2.2.1, hload_le H.base F.2.2.2.2⟩

/-- the state of the search lies in the memory -/
@[reducible] def CHs (vn vl vq : Value) (bS bC bP : Nat) (vs : Value) (N L Q : List Int) (s : TS) : List HP :=
  [ow vn N, ow vl L, ow vq Q, ow vs (s.stk.map Int.ofNat), bx bS [vs], bx bC [.int .i64 s.cnt], bx bP [.int .i64 s.prt]]
structure CHl (n : Nat) (N L Q : List Int) (s : TS) : Prop where
  hN : N.length = n
  hL : L.length = n
  hQ : Q.length = n
  num : s.num = gd N
  low : s.low = gd L
  part : s.part = gd Q
  cnt : s.cnt + unv n s.num ≤ n
def CH (g : Heap) (vn vl vq : Value) (bS bC bP n : Nat) (s : TS) (h : Heap) : Prop := ∃ (N L Q : List Int) (vs : Value), CHl n N L Q s ∧ HS g (CHs vn vl vq bS bC bP vs N L Q s) h

theorem TL.mono {n : Nat} {E : Nat → Nat → Prop} {gr sc sc' : Nat → Prop} {s s1 : TS} {a : Nat} (h : TL n E gr s a sc s1) (hs : ∀ y, sc' y → sc y) : TL n E gr s a sc' s1 :=
  ⟨h.inv, h.num, h.part, h.stk, h.na, h.cnt, h.fresh, h.black, h.lowa, h.low, h.min, fun y hy => h.proc y (hs y hy)⟩

/-- the node that is taken off the stack next -/
def topv (C : List Nat) (m : Nat) : Int := if h : m < C.length then (C[m] : Int) else -1

set_option maxHeartbeats 4000000 in
theorem c_visit {g : Heap} {bN bL bQ bG bV bS bC bP n : Nat} {vn vl vq w fv : Value} {G : List (List Int)} {E : Nat → Nat → Prop} (F : FB bN bL bQ bG bV vn vl vq w fv g) (Rw : Rep g w G) (hG : Adj E G) (hn : G.length = n) (hnl : n ≤ 1048576)
    (hfv : fnOf fv = some (fn_impl_components_1, [], [.pointer (some ⟨bC, 0, none⟩), .pointer (some ⟨bN, 0, none⟩), .pointer (some ⟨bL, 0, none⟩), .pointer (some ⟨bS, 0, none⟩), .pointer (some ⟨bG, 0, none⟩), .pointer (some ⟨bV, 0, none⟩), .pointer (some ⟨bQ, 0, none⟩), .pointer (some ⟨bP, 0, none⟩)])) :
    ∀ (m : Nat) (gr : Nat → Prop) (s : TS) (a : Nat) (h : Heap), unv n s.num = m → CH g vn vl vq bS bC bP n s h → TI n E gr s → a < n → s.num a = 0 → (∀ g, gr g → g ∈ s.stk → Rch E g a) → (∀ g, gr g → g < n ∧ s.num g ≠ 0) →
    CallE Try.prog fn_impl_components_1 [.int .i64 a, .pointer (some ⟨bC, 0, none⟩), .pointer (some ⟨bN, 0, none⟩), .pointer (some ⟨bL, 0, none⟩), .pointer (some ⟨bS, 0, none⟩), .pointer (some ⟨bG, 0, none⟩), .pointer (some ⟨bV, 0, none⟩), .pointer (some ⟨bQ, 0, none⟩), .pointer (some ⟨bP, 0, none⟩)] h
      (fun u h' => ∃ s', CH g vn vl vq bS bC bP n s' h' ∧ TV n E gr s a s') := by
  intro m
  induction m using Nat.strongRecOn with
  | ind m ih =>
  rintro gr s a h hm ⟨N, L, Q, vs, hl, H⟩ hI han ha0 hg1 hg2
  have hE : ∀ x y, E x y → x < n ∧ y < n := fun x y hxy => hn ▸ hG.lt x y hxy
  have hc := hI.cnt
  have hcn := hl.cnt
  have hNl := hl.hN
  have hLl := hl.hL
  have hQl := hl.hQ
  have haG : a < G.length := by omega
  obtain ⟨u, hu0, Ru⟩ := Rw.ldL haG
  have hul := Ru.lt
  refine CallE.gen fun k hk => EN_impl_components_1 rfl ?_
  simp -implicitDefEqProofs (disch := first | omega | (simp only [List.length_set, List.length_replicate, List.length_append, List.length_map, List.length_take, List.length_cons, List.length_nil]; omega)) [wrap64, H.sw5.bxld0]
  refine H.sw5.bxst (u := .int .i64 (s.cnt + 1)) rfl rfl rfl rfl (by simp) fun h1 H => ?_
  simp only [setC, cells_int, List.take_zero, List.nil_append] at H
  have H : HS g (bx bC [.int .i64 (s.cnt + 1)] :: ow vn N :: ow vl L :: ow vq Q :: ow vs (s.stk.map Int.ofNat) :: bx bS [vs] :: [bx bP [.int .i64 s.prt]]) h1 := H
  have H := H.bk5
  simp -implicitDefEqProofs (disch := first | omega | (simp only [List.length_set, List.length_replicate, List.length_append, List.length_map, List.length_take, List.length_cons, List.length_nil]; omega)) [wrap64, F.on H, H.sw5.bxld0, H.rep.I]
  refine H.storeF (s.cnt + 1) (i := a) (by omega) rfl rfl ⟨by omega, by omega⟩ rfl fun h2 H => ?_
  have H := H.sw1
  simp -implicitDefEqProofs (disch := first | omega | (simp only [List.length_set, List.length_replicate, List.length_append, List.length_map, List.length_take, List.length_cons, List.length_nil]; omega)) [wrap64, F.on H, H.sw5.bxld0, H.rep.I]
  refine H.storeF (s.cnt + 1) (i := a) (by omega) rfl rfl ⟨by omega, by omega⟩ rfl fun h3 H => ?_
  have H := H.sw1
  simp -implicitDefEqProofs (disch := first | omega | (simp only [List.length_set, List.length_replicate, List.length_append, List.length_map, List.length_take, List.length_cons, List.length_nil]; omega)) [wrap64, F.on H, H.sw4.bxld0]
  refine H.sw3.app1 (a : Int) rfl rfl rfl ⟨by omega, by omega⟩ rfl rfl (by simp; omega) (by simp; omega) fun vs1 h4 H => ?_
  have H := H.bk3
  simp -implicitDefEqProofs (disch := first | omega | (simp only [List.length_set, List.length_replicate, List.length_append, List.length_map, List.length_take, List.length_cons, List.length_nil]; omega)) [wrap64, F.on H]
  refine H.sw4.bxst (u := vs1) rfl rfl (by rw [H.sw3.rep.cells]; rfl) (by rw [H.sw3.rep.cells]; simp [H.sw3.rep.one]) (by simp [H.sw3.rep.cells]) fun h5 H => ?_
  have H : HS g [ow vn (N.set a (s.cnt + 1)), ow vl (L.set a (s.cnt + 1)), ow vq Q, ow vs1 ((s.push a).stk.map Int.ofNat), bx bS [vs1], bx bC [.int .i64 (s.cnt + 1)], bx bP [.int .i64 s.prt]] h5 := by
    simpa [setC, H.sw4.rep.cells, TS.push] using H.bk4
  have hl1 : CHl n (N.set a (s.cnt + 1)) (L.set a (s.cnt + 1)) Q (s.push a) := by
    refine ⟨by simpa using hNl, by simpa using hLl, hQl, by rw [gd_set (by omega), ← hl.num]; rfl, by rw [gd_set (by omega), ← hl.low]; rfl, hl.part, ?_⟩
    have h1 : unv n (s.push a).num < unv n s.num := by
      refine unv_lt han ha0 (by simp [TS.push]; omega) fun x hx hx0 => ?_
      by_cases e : x = a
      · exact absurd ha0 (e ▸ hx0)
      · simp only [TS.push, fput_ne e]; exact hx0
    show s.cnt + 1 + (unv n (s.push a).num : Int) ≤ n
    omega
  have hT := TL.start hE hI han ha0 hg1
  simp -implicitDefEqProofs (disch := first | omega | (simp only [List.length_set, List.length_replicate, List.length_append, List.length_map, List.length_take, List.length_cons, List.length_nil]; omega)) [wrap64, F.on H, (Rw.on H).X (n := 1) rfl, hload_le H.base hu0, Ru.len]
  refine wp_count G[a].length (fun j e h' => e = [some (.int .i64 a), none, some (.pointer (some ⟨bN, 0, none⟩)), some (.pointer (some ⟨bL, 0, none⟩)), some (.pointer (some ⟨bS, 0, none⟩)), none, some (.pointer (some ⟨bV, 0, none⟩)), some (.pointer (some ⟨bQ, 0, none⟩)), some (.pointer (some ⟨bP, 0, none⟩)), none, none, some u, some (.int .i64 G[a].length), some (.int .i64 j)] ∧
    ∃ s1, CH g vn vl vq bS bC bP n s1 h' ∧ TL n E gr s a (fun y => ∃ (j' : Nat) (hj' : j' < G[a].length), j' < j ∧ G[a][j'] = y) s1) ⟨by simp, _, ⟨_, _, _, _, hl1, H⟩, hT.mono fun y ⟨_, _, h0, _⟩ => absurd h0 (Nat.not_lt_zero _)⟩ ?_
  clear hl1 hT H hl
  rintro J j _ h6 hJ hj ⟨rfl, s1, ⟨N, L, Q, vs, hl, H⟩, hT⟩
  have hNl := hl.hN
  have hLl := hl.hL
  have hQl := hl.hQ
  simp -implicitDefEqProofs (disch := first | omega | (simp only [List.length_set, List.length_replicate, List.length_append, List.length_map, List.length_take, List.length_cons, List.length_nil]; omega)) [wrap64]
  refine IteW.mk (fun hlt => ?_) (fun hge => ?_)
  · have hjl : j < G[a].length := by omega
    obtain ⟨y, hy, hxy, hyG⟩ := hG.get haG hjl
    have hyn : y < n := by omega
    have hsc : ∀ z : Nat, (∃ (j' : Nat) (hj' : j' < G[a].length), j' < j + 1 ∧ G[a][j'] = z) → (∃ (j' : Nat) (hj' : j' < G[a].length), j' < j ∧ G[a][j'] = z) ∨ z = y := by
      rintro z ⟨j', hj', h1, h2⟩
      by_cases e : j' = j
      · subst e; exact .inr (by omega)
      · exact .inl ⟨j', hj', by omega, h2⟩
    have hNy : s1.num y = N[y]'(by omega) := by rw [hl.num, gd_get]
    have hQy : s1.part y = Q[y]'(by omega) := by rw [hl.part, gd_get]
    have hLa : s1.low a = L[a]'(by omega) := by rw [hl.low, gd_get]
    by_cases hy0 : N[y]'(by omega) = 0
    · have hy0' : s1.num y = 0 := by rw [hNy, hy0]
      have hgray := hT.gray hxy hI hg2 han
      have hlt2 : unv n s1.num < m := by
        rw [← hm]
        refine unv_lt han ha0 (by rw [hT.na]; omega) fun x hx hx0 => ?_
        rw [(hT.num x hx hx0).1]; exact hx0
      simp -implicitDefEqProofs (disch := first | omega | (simp only [List.length_set, List.length_replicate, List.length_append, List.length_map, List.length_take, List.length_cons, List.length_nil]; omega)) [wrap64, (Ru.on H).I, hy, F.on H, H.rep.I, hy0, hfv]
      refine (ih (unv n s1.num) hlt2 _ s1 y _ rfl ⟨N, L, Q, vs, hl, H⟩ hT.inv hyn hy0' hgray.1 hgray.2.1).go ?_
      clear H hl hNy hQy hLa
      rintro u' h7 ⟨s2, ⟨N2, L2, Q2, vs2, hl, H⟩, hV⟩
      have hLl2 := hl.hL
      have hLa : L2[a]'(by omega) = s2.low a := by rw [hl.low, gd_get]
      have hLy : L2[y]'(by omega) = s2.low y := by rw [hl.low, gd_get]
      have H := H.sw1
      have hla := H.rep.okI (i := a) (by omega)
      have hly := H.rep.okI (i := y) (by omega)
      simp -implicitDefEqProofs (disch := first | omega | (simp only [List.length_set, List.length_replicate, List.length_append, List.length_map, List.length_take, List.length_cons, List.length_nil]; omega)) [wrap64, F.on H, H.rep.I, ite_min]
      refine H.storeF (min (L2[a]'(by omega)) (L2[y]'(by omega))) (i := a) (by omega) rfl rfl ⟨by omega, by omega⟩ rfl fun h8 H => ?_
      simp -implicitDefEqProofs (disch := first | omega | (simp only [List.length_set, List.length_replicate, List.length_append, List.length_map, List.length_take, List.length_cons, List.length_nil]; omega)) [wrap64]
      refine hJ _ _ hjl ⟨rfl, s2.lower a (s2.low y), ⟨N2, L2.set a (min (L2[a]'(by omega)) (L2[y]'(by omega))), Q2, vs2, ⟨hl.hN, by simpa using hLl2, hl.hQ, hl.num, ?_, hl.part, hl.cnt⟩, H.sw1⟩, (hT.visit hxy hE ha0 hI hy0' hV).mono hsc⟩
      rw [gd_set (by omega), ← hl.low, hLa, hLy]
      rfl
    · have hy0' : s1.num y ≠ 0 := by rw [hNy]; exact hy0
      by_cases hp : Q[y]'(by omega) < 0
      · have hl2 : (L[a]'(by omega)) = s1.low a := hLa.symm
        have H1 := H.sw1
        have hla := H1.rep.okI (i := a) (by omega)
        have hny := H.rep.okI (i := y) (by omega)
        simp -implicitDefEqProofs (disch := first | omega | (simp only [List.length_set, List.length_replicate, List.length_append, List.length_map, List.length_take, List.length_cons, List.length_nil]; omega)) [wrap64, (Ru.on H).I, hy, F.on H, H.rep.I, hy0, H.sw2.rep.I, hp, H.sw1.rep.I, ite_min]
        refine H1.storeF (min (L[a]'(by omega)) (N[y]'(by omega))) (i := a) (by omega) rfl rfl ⟨by omega, by omega⟩ rfl fun h8 H => ?_
        simp -implicitDefEqProofs (disch := first | omega | (simp only [List.length_set, List.length_replicate, List.length_append, List.length_map, List.length_take, List.length_cons, List.length_nil]; omega)) [wrap64]
        refine hJ _ _ hjl ⟨rfl, s1.lower a (s1.num y), ⟨N, L.set a (min (L[a]'(by omega)) (N[y]'(by omega))), Q, vs, ⟨hl.hN, by simpa using hLl, hl.hQ, hl.num, ?_, hl.part, hl.cnt⟩, H.sw1⟩, (hT.seen hxy hE ha0 hI hy0' (by rw [hQy]; exact hp)).mono hsc⟩
        rw [gd_set (by omega), ← hl.low, hl2, ← hNy]
        rfl
      · simp -implicitDefEqProofs (disch := first | omega | (simp only [List.length_set, List.length_replicate, List.length_append, List.length_map, List.length_take, List.length_cons, List.length_nil]; omega)) [wrap64, (Ru.on H).I, hy, F.on H, H.rep.I, hy0, H.sw2.rep.I, hp]
        exact hJ _ _ hjl ⟨rfl, s1, ⟨N, L, Q, vs, hl, H⟩, (hT.skip hI hyn hy0' (by rw [hQy]; omega)).mono hsc⟩
  have hall : ∀ y, E a y → ∃ (j' : Nat) (hj' : j' < G[a].length), j' < j ∧ G[a][j'] = y := by
    intro y hxy
    obtain ⟨_, j', hj', h1⟩ := hG.of hxy
    exact ⟨j', hj', by omega, h1⟩
  have hLa : s1.low a = L[a]'(by omega) := by rw [hl.low, gd_get]
  have hNa : s1.num a = N[a]'(by omega) := by rw [hl.num, gd_get]
  have hc1 := hT.inv.cnt
  by_cases he : L[a]'(by omega) = N[a]'(by omega)
  case neg =>
    simp -implicitDefEqProofs (disch := first | omega | (simp only [List.length_set, List.length_replicate, List.length_append, List.length_map, List.length_take, List.length_cons, List.length_nil]; omega)) [wrap64, F.on H, H.rep.I, H.sw1.rep.I, he]
    exact RetK.keep (hk _ _ ⟨s1, ⟨N, L, Q, vs, hl, H⟩, hT.end1 hall han ha0 hI (by rw [hLa, hNa]; exact he)⟩)
  obtain ⟨wl, hw, hw2⟩ := hT.stk
  have hlen : s1.stk.length = s.stk.length + (a :: wl).length := by rw [hw]; simp
  have hcl : s1.cnt ≤ n := by have := hl.cnt; omega
  have hpr : ∀ x ∈ a :: wl, x < n := fun x hx => hT.inv.stk_lt (by rw [hw]; exact List.mem_append_right _ hx)
  simp -implicitDefEqProofs (disch := first | omega | (simp only [List.length_set, List.length_replicate, List.length_append, List.length_map, List.length_take, List.length_cons, List.length_nil]; omega)) [wrap64, F.on H, H.rep.I, H.sw1.rep.I, he]
  refine wp_while (σ := Nat) (fun m e h' => m ≤ (a :: wl).length ∧ e = [some (.int .i64 a), none, none, none, some (.pointer (some ⟨bS, 0, none⟩)), none, none, some (.pointer (some ⟨bQ, 0, none⟩)), some (.pointer (some ⟨bP, 0, none⟩)), none, some (.int .i64 (topv (a :: wl) m)), none, none, none] ∧
      ∃ Q' vs', Q'.length = n ∧ gd Q' = (fun x => if x ∈ (a :: wl).drop m then s1.prt else s1.part x) ∧ HS g [ow vn N, ow vl L, ow vq Q', ow vs' ((s.stk ++ (a :: wl).take m).map Int.ofNat), bx bS [vs'], bx bC [.int .i64 s1.cnt], bx bP [.int .i64 s1.prt]] h')
    (fun m => m) (a :: wl).length ⟨Nat.le_refl _, by simp [topv], Q, vs, hQl, by rw [List.drop_length]; simp [hl.part], by rw [List.take_length, ← hw]; exact H⟩ ?_
  rintro J2 m _ h7 hJ2 ⟨hml, rfl, Q', vs', hQl', hQ', H⟩
  cases m with
  | zero =>
    have ht : topv (a :: wl) 0 = a := by simp [topv]
    simp -implicitDefEqProofs (disch := first | omega | (simp only [List.length_set, List.length_replicate, List.length_append, List.length_map, List.length_take, List.length_cons, List.length_nil]; omega)) [wrap64, ht, H.sw6.bxld0]
    refine H.sw6.bxst (u := .int .i64 (s1.prt + 1)) rfl rfl rfl rfl (by simp) fun h8 H => ?_
    have H : HS g (bx bP [.int .i64 (s1.prt + 1)] :: ow vn N :: ow vl L :: ow vq Q' :: ow vs' (s.stk.map Int.ofNat) :: bx bS [vs'] :: [bx bC [.int .i64 s1.cnt]]) h8 := by
      simpa [setC] using H
    have H := H.bk6
    simp -implicitDefEqProofs (disch := first | omega | (simp only [List.length_set, List.length_replicate, List.length_append, List.length_map, List.length_take, List.length_cons, List.length_nil]; omega)) [wrap64]
    exact RetK.keep (hk _ _ ⟨s1.pop s.stk (a :: wl), ⟨N, L, Q', vs', ⟨hl.hN, hl.hL, hQl', hl.num, hl.low, by rw [hQ']; rfl, hl.cnt⟩, H⟩, hT.end2 hE hall han ha0 hI hg2 (by rw [hLa, hNa]; exact he) hw⟩)
  | succ m =>
    have hmC : m < (a :: wl).length := by omega
    obtain ⟨c, hc'⟩ : ∃ c, (a :: wl)[m] = c := ⟨_, rfl⟩
    have hcn : c < n := hpr c (hc' ▸ List.getElem_mem hmC)
    have ht : ¬ (topv (a :: wl) (m + 1) = a) := by
      unfold topv
      split
      · rename_i hlt2
        simp only [List.getElem_cons_succ]
        have hm2 : m < wl.length := by simpa using hlt2
        have := (hw2 _ (List.getElem_mem hm2)).2
        omega
      · omega
    have htm : topv (a :: wl) m = c := by simp only [topv, hmC, dif_pos, hc']
    obtain ⟨W, hW⟩ : ∃ W, W = (s.stk ++ (a :: wl).take m).map Int.ofNat := ⟨_, rfl⟩
    have hst : (s.stk ++ (a :: wl).take (m + 1)).map Int.ofNat = W ++ [(c : Int)] := by
      rw [hW, List.take_add_one, List.getElem?_eq_getElem hmC, hc']
      simp
    have hWl : W.length = s.stk.length + m := by
      rw [hW]
      simp at hml ⊢
      omega
    rw [hst] at H
    obtain ⟨v', hv', H'⟩ := H.sw3.cut (n := W.length) (esz := 1) (k := .i64) (by simp)
    rw [List.take_left' rfl] at H'
    have hlen1 : (W ++ [(c : Int)]).length = W.length + 1 := by simp
    have hi1 : IntKind.i64.wrap ((W.length : Int) + 1 - 1) = W.length := by rw [wrap64 (by omega) (by omega)]; omega
    have H' := H'.bk3
    simp -implicitDefEqProofs (disch := first | omega | (simp only [List.length_set, List.length_replicate, List.length_append, List.length_map, List.length_take, List.length_cons, List.length_nil]; omega)) [wrap64, ht, H.sw4.bxld0, H.sw3.rep.I, hlen1, hi1, hv']
    refine H'.sw4.bxst (u := v') rfl rfl (by rw [H'.sw3.rep.cells]; rfl) (by rw [H'.sw3.rep.cells]; simp [H'.sw3.rep.one]) (by simp [H'.sw3.rep.cells]) fun h8 H => ?_
    have H : HS g [ow vn N, ow vl L, ow vq Q', ow v' W, bx bS [v'], bx bC [.int .i64 s1.cnt], bx bP [.int .i64 s1.prt]] h8 := by
      simpa [setC, H'.sw3.rep.cells] using H.bk4
    have hQb := hT.inv.bnd a han
    simp -implicitDefEqProofs (disch := first | omega | (simp only [List.length_set, List.length_replicate, List.length_append, List.length_map, List.length_take, List.length_cons, List.length_nil]; omega)) [wrap64, F.on H, H.sw6.bxld0, H.sw2.rep.I]
    refine H.sw2.storeF s1.prt (i := c) (by omega) rfl rfl ⟨by omega, by omega⟩ rfl fun h9 H => ?_
    have H := H.bk2
    simp -implicitDefEqProofs (disch := first | omega | (simp only [List.length_set, List.length_replicate, List.length_append, List.length_map, List.length_take, List.length_cons, List.length_nil]; omega)) [wrap64]
    refine hJ2 m _ _ (by omega) ⟨by omega, by rw [htm], Q'.set c s1.prt, v', by simpa using hQl', ?_, by rw [← hW]; exact H⟩
    rw [gd_set (by omega), hQ']
    funext x
    rw [List.drop_eq_getElem_cons hmC, hc']
    by_cases e : x = c
    · subst e; simp
    · simp only [fput_ne e, List.mem_cons, e, false_or]
end Go.Proofs.Ytknkjplnngeebaa
