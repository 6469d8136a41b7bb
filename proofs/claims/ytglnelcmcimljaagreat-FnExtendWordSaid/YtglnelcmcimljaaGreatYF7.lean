/-
  Texts of this proof, one behind the other.
-/
import Derived.Shelf.Sort.Plain
import Derived.Shelf.Slices.CompactI
import Derived.Shelf.Slices.In.SortNone
import Derived.Test.YtglnelcmcimljaaGreatRows
import Derived.Lib.SlicesCompact
import Derived.Sort.Grow
import Derived.Sort.Row
import Derived.Test.YtglnelcmcimljaaGreatYF6
set_option linter.all false
set_option linter.unusedVariables false
set_option linter.unusedSimpArgs false
set_option linter.defProp false
set_option maxRecDepth 1000000
namespace Go.Proofs.YtglnelcmcimljaaGreat
open Go
def Las.Ok (l : Las) : Prop := ((∀ x ∈ l.stem, 0 ≤ x ∧ x ≤ 7) ∧ ∀ x ∈ l.loop, 0 ≤ x ∧ x ≤ 7) ∧ l.stem.length ≤ 80 ∧ 1 ≤ l.loop.length ∧ l.loop.length ≤ 80
instance instDecLasOk (l : Las) : Decidable l.Ok := by unfold Las.Ok; infer_instance
def Las.size (l : Las) : Nat := l.stem.length + l.loop.length
def Las.all (l : Las) : List Int := l.stem ++ l.loop
def Las.nx (l : Las) (i : Nat) : Nat := if i + 1 = l.size then l.stem.length else i + 1
def Las.pos (l : Las) : Nat → Nat
  | 0 => 0
  | t + 1 => l.nx (l.pos t)
def Las.word (l : Las) (t : Nat) : Int := l.all.getD (l.pos t) 0
theorem Las.nx_lt {l : Las} (h : 1 ≤ l.loop.length) {i : Nat} (hi : i < l.size) : l.nx i < l.size := by
  unfold Las.nx Las.size at *
  split <;> omega
theorem Las.pos_lt {l : Las} (h : 1 ≤ l.loop.length) : ∀ t, l.pos t < l.size
  | 0 => by unfold Las.pos Las.size; omega
  | t + 1 => Las.nx_lt h (Las.pos_lt h t)
theorem Las.all_len {l : Las} : l.all.length = l.size := by simp [Las.all, Las.size]
def StE (E : List Tr) (w : Nat → Int) (t p q : Nat) : Prop := ∃ e ∈ E, e.frm = p ∧ e.to = q ∧ e.on (w t) = true
inductive FR (E : List Tr) (w : Nat → Int) : Nat → Nat → Nat → Nat → Prop
  | refl (t p : Nat) : FR E w t p t p
  | step {t p q u r : Nat} (h : StE E w t p q) (k : FR E w (t + 1) q u r) : FR E w t p u r
section
variable {E : List Tr} {w : Nat → Int} {A : List Bool} {t p u q v r : Nat}
theorem FR.trans (h : FR E w t p u q) (k : FR E w u q v r) : FR E w t p v r := by
  induction h with
  | refl => exact k
  | step h _ ih => exact .step h (ih k)
theorem FR.le (h : FR E w t p u q) : t ≤ u := by
  induction h with
  | refl => exact Nat.le_refl _
  | step h _ ih => omega
theorem FR.one (h : StE E w t p q) : FR E w t p (t + 1) q := .step h (.refl _ _)
end
def Goes (A : List Bool) (E : List Tr) (w : Nat → Int) (C : Nat → Nat → Prop) : Prop := ∀ t p, C t p → ∃ u q, t < u ∧ FR E w t p u q ∧ tru A q ∧ C u q
def Run (A : List Bool) (E : List Tr) (w : Nat → Int) (t p : Nat) : Prop := ∃ C, C t p ∧ Goes A E w C
def Aut.Lang (a : Aut) (w : Nat → Int) : Prop := ∃ s : Nat, (s : Int) ∈ a.init ∧ Run a.acc a.edges w 0 s
theorem Run.before {A : List Bool} {E : List Tr} {w : Nat → Int} {t p u q : Nat} (h : FR E w t p u q) (k : Run A E w u q) : Run A E w t p := by
  obtain ⟨C, hC, hG⟩ := k
  refine ⟨fun t' p' => (t' = t ∧ p' = p) ∨ C t' p', .inl ⟨rfl, rfl⟩, ?_⟩
  rintro t' p' (⟨rfl, rfl⟩ | h1)
  · obtain ⟨v, r, h2, h3, h4, h5⟩ := hG u q hC
    have := h.le
    exact ⟨v, r, by omega, h.trans h3, h4, .inr h5⟩
  · obtain ⟨v, r, h2, h3, h4, h5⟩ := hG t' p' h1
    exact ⟨v, r, h2, h3, h4, .inr h5⟩
theorem Run.sim {A A' : List Bool} {E E' : List Tr} {w : Nat → Int} (M : Nat → Nat → Prop)
    (hs : ∀ t p q p', M p p' → StE E w t p q → Run A E w (t + 1) q → ∃ q', StE E' w t p' q' ∧ M q q') (ha : ∀ p p', M p p' → tru A p → tru A' p') {t p p' : Nat} (h : Run A E w t p) (hm : M p p') : Run A' E' w t p' := by
  have fr : ∀ {t p u r : Nat}, FR E w t p u r → Run A E w u r → ∀ p', M p p' → ∃ r', FR E' w t p' u r' ∧ M r r' := by
    intro t p u r h
    induction h with
    | refl => intro _ p' hm; exact ⟨p', .refl _ _, hm⟩
    | step h k ih =>
      intro hr p' hm
      obtain ⟨q', h1, h2⟩ := hs _ _ _ _ hm h (hr.before k)
      obtain ⟨r', h3, h4⟩ := ih hr q' h2
      exact ⟨r', .step h1 h3, h4⟩
  obtain ⟨C, hC, hG⟩ := h
  refine ⟨fun t p' => ∃ p, C t p ∧ M p p', ⟨p, hC, hm⟩, ?_⟩
  rintro t p' ⟨p, hC, hm⟩
  obtain ⟨u, q, h2, h3, h4, h5⟩ := hG t p hC
  obtain ⟨q', h6, h7⟩ := fr h3 ⟨C, h5, hG⟩ p' hm
  exact ⟨u, q', h2, h6, ha _ _ h7 h4, q, h5, h7⟩
theorem fin_cyc {T : Nat → Nat → Prop} (tr : ∀ x y z, T x y → T y z → T x z) (N : Nat) : ∀ (m : Nat) (D : Nat → Prop), (((List.range N).filter fun x => @decide (D x) (Classical.propDecidable _)).length ≤ m) → (∀ x, D x → x < N) → (∃ x, D x) → (∀ x, D x → ∃ y, D y ∧ T x y) → ∃ x, D x ∧ T x x := by
  intro m
  induction m with
  | zero =>
    rintro D hm hN ⟨x, hx⟩ _
    exfalso
    have : x ∈ (List.range N).filter fun x => @decide (D x) (Classical.propDecidable _) := by
      rw [List.mem_filter]
      exact ⟨List.mem_range.2 (hN x hx), by simpa using hx⟩
    have := List.length_pos_of_mem this
    omega
  | succ m ih =>
    rintro D hm hN ⟨x, hx⟩ hT
    by_cases hxx : T x x
    · exact ⟨x, hx, hxx⟩
    obtain ⟨y, hy, hxy⟩ := hT x hx
    obtain ⟨z, ⟨hz, _⟩, hzz⟩ := ih (fun y => D y ∧ T x y) (by
      have := filter_lt_of (p := fun y => @decide (D y ∧ T x y) (Classical.propDecidable _)) (q := fun y => @decide (D y) (Classical.propDecidable _)) (fun y hy => by
        simp only [decide_eq_true_eq] at hy ⊢
        exact hy.1) (l := List.range N) ⟨x, List.mem_range.2 (hN x hx), by simp [hxx], by simpa using hx⟩
      omega) (fun y hy => hN y hy.1) ⟨y, hy, hxy⟩ (fun z hz => by
        obtain ⟨v, h1, h2⟩ := hT z hz.1
        exact ⟨v, ⟨h1, tr _ _ _ hz.2 h2⟩, h2⟩)
    exact ⟨z, hz, hzz⟩
def Rch1 (E : Nat → Nat → Prop) (x y : Nat) : Prop := ∃ z, E x z ∧ Rch E z y
theorem Rch1.trans {E : Nat → Nat → Prop} {x y z : Nat} (h : Rch1 E x y) (k : Rch1 E y z) : Rch1 E x z := by
  obtain ⟨u, h1, h2⟩ := h
  obtain ⟨v, h3, h4⟩ := k
  exact ⟨u, h1, h2.trans (.step h3 h4)⟩
theorem Rch1.rch {E : Nat → Nat → Prop} {x y : Nat} (h : Rch1 E x y) : Rch E x y := by
  obtain ⟨u, h1, h2⟩ := h
  exact .step h1 h2
theorem fin_rch {E : Nat → Nat → Prop} {N : Nat} {D : Nat → Prop} (hN : ∀ x, D x → x < N) (h0 : ∃ x, D x) (hT : ∀ x, D x → ∃ y, D y ∧ Rch1 E x y) : ∃ x, D x ∧ Cyc E x :=
  fin_cyc (T := Rch1 E) (fun _ _ _ h k => Rch1.trans h k) N _ D (Nat.le_refl _) hN h0 hT
theorem at_div {i n f : Nat} (h : f < n) : (i * n + f) / n = i := by
  rw [Nat.mul_comm, Nat.mul_add_div (by omega), Nat.div_eq_of_lt h, Nat.add_zero]
theorem at_mod {i n f : Nat} (h : f < n) : (i * n + f) % n = f := by
  rw [Nat.mul_comm, Nat.mul_add_mod, Nat.mod_eq_of_lt h]
theorem at_inj {i j n f g : Nat} (hf : f < n) (hg : g < n) (h : i * n + f = j * n + g) : i = j ∧ f = g := by
  have h1 := at_div (i := i) hf
  have h2 := at_div (i := j) hg
  have h3 := at_mod (i := i) hf
  have h4 := at_mod (i := j) hg
  rw [h] at h1 h3
  exact ⟨by rw [← h1, h2], by rw [← h3, h4]⟩
theorem at_lt {i n f s : Nat} (hf : f < n) (hi : i < s) : i * n + f < s * n := by
  have : (i + 1) * n ≤ s * n := Nat.mul_le_mul_right n hi
  rw [Nat.add_mul] at this
  omega
def Aut.PE (a : Aut) (l : Las) (x y : Nat) : Prop := ∃ e ∈ a.edges, ∃ i, i < l.size ∧ x = i * a.acc.length + e.frm.toNat ∧ y = l.nx i * a.acc.length + e.to.toNat ∧ e.on (l.all.getD i 0) = true
def Aut.Acc (a : Aut) (l : Las) : Prop := ∃ s : Nat, (s : Int) ∈ a.init ∧ ∃ x, Rch (a.PE l) s x ∧ Cyc (a.PE l) x ∧ tru a.acc (x % a.acc.length)
section
variable {a : Aut} {l : Las}
theorem Aut.Ok.tr (ha : a.Ok) {e : Tr} (he : e ∈ a.edges) : ∃ f g : Nat, e.frm = f ∧ e.to = g ∧ f < a.acc.length ∧ g < a.acc.length := by
  have := ha.2.2.2 e he
  unfold Tr.Ok at this
  exact ⟨e.frm.toNat, e.to.toNat, by omega, by omega, by omega, by omega⟩
theorem Aut.Ok.st (ha : a.Ok) {w : Nat → Int} {t p q : Nat} (h : StE a.edges w t p q) : p < a.acc.length ∧ q < a.acc.length := by
  obtain ⟨e, he, h1, h2, _⟩ := h
  obtain ⟨f, g, h3, h4, h5, h6⟩ := ha.tr he
  exact ⟨by omega, by omega⟩
theorem Aut.Ok.ini (ha : a.Ok) {s : Nat} (hs : (s : Int) ∈ a.init) : s < a.acc.length := by
  have := incr_mem ha.i _ hs
  omega
theorem PE.lift (ha : a.Ok) (hl : 1 ≤ l.loop.length) {x y : Nat} (h : Rch (a.PE l) x y) : ∀ t p, p < a.acc.length → x = l.pos t * a.acc.length + p → ∃ u q, t ≤ u ∧ q < a.acc.length ∧ y = l.pos u * a.acc.length + q ∧ FR a.edges l.word t p u q := by
  induction h with
  | refl => intro t p hp hx; exact ⟨t, p, Nat.le_refl _, hp, hx, .refl _ _⟩
  | step h _ ih =>
    intro t p hp hx
    obtain ⟨e, he, i, hi, h1, h2, h3⟩ := h
    obtain ⟨f, g, h4, h5, h6, h7⟩ := ha.tr he
    rw [h4, Int.toNat_natCast] at h1
    rw [h5, Int.toNat_natCast] at h2
    obtain ⟨rfl, rfl⟩ := at_inj h6 hp (h1.symm.trans hx)
    obtain ⟨u, q, h8, h9, h10, h11⟩ := ih (t + 1) g h7 h2
    exact ⟨u, q, by omega, h9, h10, .step ⟨e, he, h4, h5, h3⟩ h11⟩
theorem PE.lift1 (ha : a.Ok) (hl : 1 ≤ l.loop.length) {x y : Nat} (h : Rch1 (a.PE l) x y) (t p : Nat) (hp : p < a.acc.length) (hx : x = l.pos t * a.acc.length + p) : ∃ u q, t < u ∧ q < a.acc.length ∧ y = l.pos u * a.acc.length + q ∧ FR a.edges l.word t p u q := by
  obtain ⟨z, ⟨e, he, i, hi, h1, h2, h3⟩, hr⟩ := h
  obtain ⟨f, g, h4, h5, h6, h7⟩ := ha.tr he
  rw [h4, Int.toNat_natCast] at h1
  rw [h5, Int.toNat_natCast] at h2
  obtain ⟨rfl, rfl⟩ := at_inj h6 hp (h1.symm.trans hx)
  obtain ⟨u, q, h8, h9, h10, h11⟩ := PE.lift ha hl hr (t + 1) g h7 h2
  exact ⟨u, q, by omega, h9, h10, .step ⟨e, he, h4, h5, h3⟩ h11⟩
theorem PE.of (hl : 1 ≤ l.loop.length) {t p q : Nat} (h : StE a.edges l.word t p q) : a.PE l (l.pos t * a.acc.length + p) (l.pos (t + 1) * a.acc.length + q) := by
  obtain ⟨e, he, h1, h2, h3⟩ := h
  exact ⟨e, he, l.pos t, Las.pos_lt hl t, by rw [h1]; rfl, by rw [h2]; rfl, h3⟩
theorem PE.rch (hl : 1 ≤ l.loop.length) {t p u q : Nat} (h : FR a.edges l.word t p u q) : Rch (a.PE l) (l.pos t * a.acc.length + p) (l.pos u * a.acc.length + q) := by
  induction h with
  | refl => exact .refl _
  | step h _ ih => exact .step (PE.of hl h) ih
theorem PE.rch1 (hl : 1 ≤ l.loop.length) {t p u q : Nat} (h : FR a.edges l.word t p u q) (htu : t < u) : Rch1 (a.PE l) (l.pos t * a.acc.length + p) (l.pos u * a.acc.length + q) := by
  cases h with
  | refl => omega
  | step h k => exact ⟨_, PE.of hl h, PE.rch hl k⟩
theorem FR.lt (ha : a.Ok) {w : Nat → Int} {t p u q : Nat} (h : FR a.edges w t p u q) (hp : p < a.acc.length) : q < a.acc.length := by
  induction h with
  | refl => exact hp
  | step h _ ih => exact ih (ha.st h).2
theorem Aut.acc_iff (ha : a.Ok) (hl : 1 ≤ l.loop.length) : a.Acc l ↔ a.Lang l.word := by
  constructor
  · rintro ⟨s, hs, x, h1, h2, h3⟩
    have hs' := ha.ini hs
    obtain ⟨u, q, _, h4, h5, h6⟩ := PE.lift ha hl h1 0 s hs' (by simp [Las.pos])
    refine ⟨s, hs, Run.before h6 ⟨fun t p => p < a.acc.length ∧ x = l.pos t * a.acc.length + p, ⟨h4, h5⟩, ?_⟩⟩
    rintro t p ⟨g1, g2⟩
    obtain ⟨v, r, g3, g4, g5, g6⟩ := PE.lift1 ha hl (x := x) (y := x) h2 t p g1 g2
    refine ⟨v, r, g3, g6, ?_, g4, g5⟩
    rw [g5, at_mod g4] at h3
    exact h3
  · rintro ⟨s, hs, C, hC, hG⟩
    have hs' := ha.ini hs
    obtain ⟨x, ⟨t, p, g1, g2, g3, rfl, g4⟩, hx⟩ := fin_rch (E := a.PE l) (N := l.size * a.acc.length) (D := fun x => ∃ t p, C t p ∧ p < a.acc.length ∧ tru a.acc p ∧ x = l.pos t * a.acc.length + p ∧ Rch (a.PE l) s x)
      (by rintro x ⟨t, p, g1, g2, g3, rfl, g4⟩; exact at_lt g2 (Las.pos_lt hl t))
      (by
        obtain ⟨u, q, h1, h2, h3, h4⟩ := hG 0 s hC
        have h5 := PE.rch (l := l) hl h2
        rw [show l.pos 0 * a.acc.length + s = s by simp [Las.pos]] at h5
        exact ⟨_, u, q, h4, h2.lt ha hs', h3, rfl, h5⟩)
      (by
        rintro x ⟨t, p, g1, g2, g3, rfl, g4⟩
        obtain ⟨u, q, h1, h2, h3, h4⟩ := hG t p g1
        have h5 := PE.rch1 (l := l) hl h2 h1
        exact ⟨_, ⟨u, q, h4, h2.lt ha g2, h3, rfl, g4.trans h5.rch⟩, h5⟩)
    exact ⟨s, hs, _, g4, hx, by rw [at_mod g2]; exact g3⟩
end
theorem Run.live {a : Aut} (ha : a.Ok) {w : Nat → Int} {t p : Nat} (hp : p < a.acc.length) (h : Run a.acc a.edges w t p) : a.Live p := by
  have rch : ∀ {t p u q : Nat}, FR a.edges w t p u q → Rch a.E p q := by
    intro t p u q h
    induction h with
    | refl => exact .refl _
    | step h _ ih =>
      obtain ⟨e, he, h1, h2, _⟩ := h
      exact .step ⟨e, he, h1, h2⟩ ih
  have rch1 : ∀ {t p u q : Nat}, FR a.edges w t p u q → t < u → Rch1 a.E p q := by
    intro t p u q h hlt
    cases h with
    | refl => omega
    | step h k =>
      obtain ⟨e, he, h1, h2, _⟩ := h
      exact ⟨_, ⟨e, he, h1, h2⟩, rch k⟩
  obtain ⟨C, hC, hG⟩ := h
  obtain ⟨x, ⟨t, g1, g2, g3, g4⟩, hx⟩ := fin_rch (E := a.E) (N := a.acc.length) (D := fun x => ∃ t, C t x ∧ x < a.acc.length ∧ tru a.acc x ∧ Rch a.E p x)
    (by rintro x ⟨t, g1, g2, _⟩; exact g2)
    (by
      obtain ⟨u, q, h1, h2, h3, h4⟩ := hG t p hC
      exact ⟨q, u, h4, h2.lt ha hp, h3, rch h2⟩)
    (by
      rintro x ⟨t, g1, g2, g3, g4⟩
      obtain ⟨u, q, h1, h2, h3, h4⟩ := hG t x g1
      exact ⟨q, ⟨u, h4, h2.lt ha g2, h3, g4.trans (rch h2)⟩, rch1 h2 h1⟩)
  exact ⟨x, g4, hx, g3⟩
end Go.Proofs.YtglnelcmcimljaaGreat

namespace Go.Proofs.YtglnelcmcimljaaGreat
open Go
theorem c_Grow_int {h : Heap} {m : Int} (hm : 0 ≤ m) (hn : m ≤ 1048576) : CallE Tryz.prog fn_slices_Grow_S_int_int [.slice none 0 0, .int .i64 m] h (fun u h' => HS h [ow u ([] : List Int)] h') := by
  obtain ⟨n, rfl⟩ : ∃ n : Nat, m = n := ⟨m.toNat, (Int.toNat_of_nonneg hm).symm⟩
  have H : HS h [ow (.slice none 0 0) ([] : List Int)] h := HS.init.nil_ow
  refine CallE.gen fun k hk => EN_slices_Grow_S_int_int rfl ?_
  have hng : ¬ ((n : Int) < 0) := by omega
  have hcap : capVV (.slice none 0 0) = some (.int .i64 0) := rfl
  have hln : lenVV (.slice none 0 0) = some (.int .i64 0) := rfl
  have hsl : sliceVV 1 (.slice none 0 0) none (some (some (.int .i64 0))) none = some (.slice none 0 0) := rfl
  by_cases h0 : (0 : Int) < n
  · have h0' : 0 < n := by omega
    simp -implicitDefEqProofs (disch:=first|omega|(simp only[LnZ];omega))[wrap64, h0, h0', hng, hcap, hln, hsl]
    refine HS.appZ (bytes := 8) (α := Int) (z := 0) (n := n) H rfl rfl rfl ⟨by decide, by decide⟩ rfl rfl (by simp; omega) (by simp; omega) fun v' h1 H => ?_
    obtain ⟨v2, hv2, H⟩ := H.cut (n := 0) (esz := 1) (k := .i64) (by simp)
    simp only [List.take_zero] at H
    have hv2' : sliceVV 1 v' none (some (some (.int .i64 0))) none = some v2 := hv2
    simp -implicitDefEqProofs (disch:=first|omega|(simp only[LnZ];omega))[wrap64, hln, hv2']
    exact RetK.keep (hk _ _ H)
  · have h0' : ¬ 0 < n := by omega
    simp -implicitDefEqProofs (disch:=first|omega|(simp only[LnZ];omega))[wrap64, h0, h0', hng, hcap, hln, hsl]
    exact RetK.keep (hk _ _ H)
theorem c_Concat_int {h : Heap} {v : Value} {x y : List Int} (R : Rep h v [x, y]) (hx : x.length ≤ 65536) (hy : y.length ≤ 65536) : CallE Tryz.prog fn_slices_Concat_S_int_int [v] h (fun u h' => HS h [ow u (x ++ y)] h') := by
  have hL : ([x, y] : List (List Int)).length = 2 := rfl
  obtain ⟨u0, hu0, R0⟩ := R.ldL (i := 0) (by simp)
  obtain ⟨u1, hu1, R1⟩ := R.ldL (i := 1) (by simp)
  simp only [List.getElem_cons_zero, List.getElem_cons_succ] at R0 R1
  have hX := R.X (n := 1) rfl
  have hn1 : ¬ (x.length : Int) < 0 := by omega
  have hn2 : ¬ (x.length : Int) + y.length < 0 := by omega
  refine CallE.gen fun k hk => EN_slices_Concat_S_int_int rfl ?_
  simp -implicitDefEqProofs (disch:=first|omega|(simp only[LnZ];omega))[wrap64, R.len]
  refine wp_count 2 (fun i e h' => e = [some v, none, some (.int .i64 (if i = 0 then 0 else if i = 1 then x.length else x.length + y.length)), none, none, none, some v, some (.int .i64 2), some (.int .i64 i), none, none, none] ∧ h' = h) ⟨by simp, rfl⟩ ?_
  rintro J i _ h1 hJ hi ⟨rfl, rfl⟩
  simp -implicitDefEqProofs (disch:=first|omega|(simp only[LnZ];omega))[wrap64]
  refine IteW.mk (fun hlt => ?_) (fun hge => ?_)
  · obtain rfl | rfl : i = 0 ∨ i = 1 := by omega
    · simp -implicitDefEqProofs (disch:=first|omega|(simp only[LnZ];omega))[wrap64, hX, hu0, R0.len, hn1]
      exact hJ _ _ (by omega) ⟨by simp, rfl⟩
    · simp -implicitDefEqProofs (disch:=first|omega|(simp only[LnZ];omega))[wrap64, hX, hu1, R1.len, hn1, hn2]
      exact hJ _ _ (by omega) ⟨by simp, rfl⟩
  obtain rfl : i = 2 := by omega
  simp -implicitDefEqProofs (disch:=first|omega|(simp only[LnZ];omega))[wrap64]
  refine (c_Grow_int (m := (x.length : Int) + y.length) (by omega) (by omega)).go ?_
  intro o h2 H
  simp -implicitDefEqProofs (disch:=first|omega|(simp only[LnZ];omega))[wrap64, (R.on H).len]
  refine wp_count 2 (fun i e h' => ∃ o, e = [none, none, none, none, some o, none, none, none, none, some v, some (.int .i64 2), some (.int .i64 i)] ∧ HS h1 [ow o (if i = 0 then [] else if i = 1 then x else x ++ y)] h') ⟨o, by simp, by simpa using H⟩ ?_
  clear H
  rintro J2 i _ h3 hJ2 hi ⟨o, rfl, H⟩
  simp -implicitDefEqProofs (disch:=first|omega|(simp only[LnZ];omega))[wrap64]
  refine IteW.mk (fun hlt2 => ?_) (fun hge2 => ?_)
  · obtain rfl | rfl : i = 0 ∨ i = 1 := by omega
    · simp only [if_true] at H
      simp -implicitDefEqProofs (disch:=first|omega|(simp only[LnZ];omega))[wrap64, hX, hload_le H.base hu0]
      refine HS.appL (bytes := 8) (l2 := x) H rfl rfl (R0.on H) rfl rfl (by simp; omega) (by simp; omega) fun o' h4 H => ?_
      simp -implicitDefEqProofs (disch:=first|omega|(simp only[LnZ];omega))[wrap64]
      exact hJ2 _ _ (by omega) ⟨o', by simp, by simpa using H⟩
    · simp only [Nat.one_ne_zero, if_true, if_false] at H
      simp -implicitDefEqProofs (disch:=first|omega|(simp only[LnZ];omega))[wrap64, hX, hload_le H.base hu1]
      refine HS.appL (bytes := 8) (l2 := y) H rfl rfl (R1.on H) rfl rfl (by omega) (by omega) fun o' h4 H => ?_
      simp -implicitDefEqProofs (disch:=first|omega|(simp only[LnZ];omega))[wrap64]
      exact hJ2 _ _ (by omega) ⟨o', by simp, by simpa using H⟩
  obtain rfl : i = 2 := by omega
  simp -implicitDefEqProofs (disch:=first|omega|(simp only[LnZ];omega))[wrap64]
  exact RetK.keep (hk _ _ (by simpa using H))
theorem c_all {h : Heap} {v : Value} {l : Las} (R : Rep h v l) (hs : l.stem.length ≤ 65536) (hl : l.loop.length ≤ 65536) : CallE Tryz.prog fn_impl_Lasso_all [v] h (fun u h' => HS h [ow u l.all] h') := by
  obtain ⟨v1, v2, rfl, R1, R2⟩ := Rep_Las.1 R
  refine CallE.gen fun k hk => EN_impl_Lasso_all rfl ?_
  simp -implicitDefEqProofs (disch:=first|omega|(simp only[LnZ];omega))[wrap64]
  refine bls_two R1 R2 (by simp [fillP, R1.cells, R2.cells, R1.one, R2.one, reps, setC]) fun w h1 l1 RW => ?_
  simp -implicitDefEqProofs (disch:=first|omega|(simp only[LnZ];omega))[wrap64]
  refine (c_Concat_int RW hs hl).go ?_
  intro u h2 H
  simp -implicitDefEqProofs (disch:=first|omega|(simp only[LnZ];omega))[wrap64]
  exact RetK.keep (hk _ _ (H.app (show HS h [] h1 from l1)))
theorem c_nextL {h : Heap} {v : Value} {l : Las} (R : Rep h v l) (hs : l.stem.length ≤ 65536) (hl : l.loop.length ≤ 65536) {i : Nat} (hi : i < l.size) : CallE Tryz.prog fn_impl_Lasso_next [v, .int .i64 i] h (fun u h' => h' = h ∧ u = .int .i64 (l.nx i : Nat)) := by
  obtain ⟨v1, v2, rfl, R1, R2⟩ := Rep_Las.1 R
  have hsz : l.size = l.stem.length + l.loop.length := rfl
  refine CallE.gen fun k hk => EN_impl_Lasso_next rfl ?_
  unfold Las.nx at hk
  by_cases e : i + 1 = l.size
  · rw [if_pos e] at hk
    have e' : (i : Int) + 1 = (l.stem.length : Int) + l.loop.length := by omega
    simp -implicitDefEqProofs (disch:=first|omega|(simp only[LnZ];omega))[wrap64, R1.len, R2.len, e']
    exact RetK.keep (hk _ _ ⟨rfl, rfl⟩)
  · rw [if_neg e] at hk
    have e' : ¬ (i : Int) + 1 = (l.stem.length : Int) + l.loop.length := by omega
    simp -implicitDefEqProofs (disch:=first|omega|(simp only[LnZ];omega))[wrap64, R1.len, R2.len, e']
    exact RetK.keep (hk _ _ ⟨rfl, by simp⟩)
theorem c_LassoValid {h : Heap} {v : Value} {l : Las} (R : Rep h v l) : CallE Tryz.prog fn_impl_LassoValid [v] h (fun u h' => h.le h' ∧ u = .bool (decide l.Ok)) := by
  obtain ⟨v1, v2, rfl, R1, R2⟩ := Rep_Las.1 R
  have hL1 := R1.lt
  have hL2 := R2.lt
  refine CallE.gen fun k hk => EN_impl_LassoValid rfl ?_
  simp -implicitDefEqProofs (disch:=first|omega|(simp only[LnZ];omega))[wrap64]
  refine (c_letters R1).go ?_
  rintro _ h1 ⟨l1, rfl⟩
  by_cases q1 : ∀ x ∈ l.stem, 0 ≤ x ∧ x ≤ 7
  case neg =>
    have d1 : decide (∀ x ∈ l.stem, 0 ≤ x ∧ x ≤ 7) = false := decide_eq_false q1
    simp -implicitDefEqProofs (disch:=first|omega|(simp only[LnZ];omega))[wrap64, d1]
    exact RetK.keep (hk _ _ ⟨l1, by rw [decide_eq_false (fun hh : l.Ok => q1 hh.1.1)]⟩)
  have d1 : decide (∀ x ∈ l.stem, 0 ≤ x ∧ x ≤ 7) = true := decide_eq_true q1
  simp -implicitDefEqProofs (disch:=first|omega|(simp only[LnZ];omega))[wrap64, d1]
  refine (c_letters (R2.le l1)).go ?_
  rintro _ h2 ⟨l2, rfl⟩
  by_cases q2 : ∀ x ∈ l.loop, 0 ≤ x ∧ x ≤ 7
  case neg =>
    have d2 : decide (∀ x ∈ l.loop, 0 ≤ x ∧ x ≤ 7) = false := decide_eq_false q2
    simp -implicitDefEqProofs (disch:=first|omega|(simp only[LnZ];omega))[wrap64, d2]
    exact RetK.keep (hk _ _ ⟨l1.trans l2, by rw [decide_eq_false (fun hh : l.Ok => q2 hh.1.2)]⟩)
  have d2 : decide (∀ x ∈ l.loop, 0 ≤ x ∧ x ≤ 7) = true := decide_eq_true q2
  by_cases q3 : (l.stem.length : Int) ≤ 80
  case neg =>
    simp -implicitDefEqProofs (disch:=first|omega|(simp only[LnZ];omega))[wrap64, d2, R1.len, q3]
    exact RetK.keep (hk _ _ ⟨l1.trans l2, by rw [decide_eq_false (fun hh : l.Ok => q3 (by have := hh.2.1; omega))]⟩)
  simp -implicitDefEqProofs (disch:=first|omega|(simp only[LnZ];omega))[wrap64, d2, R1.len, q3, R2.len]
  refine c_in.go ?_
  rintro _ h2 ⟨rfl, rfl⟩
  simp -implicitDefEqProofs (disch:=first|omega|(simp only[LnZ];omega))[wrap64]
  refine RetK.keep (hk _ _ ⟨l1.trans l2, ?_⟩)
  congr 1
  rw [← Bool.decide_and]
  refine decide_eq_decide.2 ⟨fun hh => ⟨⟨q1, q2⟩, by omega, by omega, by omega⟩, fun hh => ⟨by have := hh.2.2.1; omega, by have := hh.2.2.2; omega⟩⟩
structure GI (N B : Nat) (E : Nat → Nat → Prop) (G : List (List Int)) : Prop where
  len : G.length = N
  mem : ∀ x (hx : x < G.length) z, z ∈ G[x] ↔ ∃ y : Nat, z = y ∧ E x y
  row : ∀ x (hx : x < G.length), G[x].length ≤ B
theorem GI.zero {N : Nat} : GI N 0 (fun _ _ => False) (List.replicate N []) := ⟨by simp, by simp, by simp⟩
theorem GI.add {N B : Nat} {E : Nat → Nat → Prop} {G : List (List Int)} (h : GI N B E G) {f t : Nat} (hf : f < G.length) : GI N (B + 1) (fun x y => E x y ∨ (x = f ∧ y = t)) (G.set f (G[f] ++ [(t : Int)])) := by
  refine ⟨by simp [h.len], fun x hx z => ?_, fun x hx => ?_⟩
  · simp only [List.length_set] at hx
    rw [List.getElem_set]
    split
    · rename_i e
      subst e
      rw [List.mem_append, h.mem f hf z, List.mem_singleton]
      constructor
      · rintro (⟨y, h1, h2⟩ | h1)
        · exact ⟨y, h1, .inl h2⟩
        · exact ⟨t, h1, .inr ⟨rfl, rfl⟩⟩
      · rintro ⟨y, h1, h2 | ⟨_, h2⟩⟩
        · exact .inl ⟨y, h1, h2⟩
        · subst h2; exact .inr h1
    · rename_i e
      rw [h.mem x hx z]
      constructor
      · rintro ⟨y, h1, h2⟩; exact ⟨y, h1, .inl h2⟩
      · rintro ⟨y, h1, h2 | ⟨h2, _⟩⟩
        · exact ⟨y, h1, h2⟩
        · exact absurd h2.symm e
  · simp only [List.length_set] at hx
    rw [List.getElem_set]
    have h1 := h.row f hf
    have h2 := h.row x hx
    split
    · simp; omega
    · omega
theorem GI.congr {N B B' : Nat} {E E' : Nat → Nat → Prop} {G : List (List Int)} (h : GI N B E G) (hB : B ≤ B') (he : ∀ x y, E x y ↔ E' x y) : GI N B' E' G :=
  ⟨h.len, fun x hx z => by rw [h.mem x hx z]; exact ⟨fun ⟨y, h1, h2⟩ => ⟨y, h1, (he x y).1 h2⟩, fun ⟨y, h1, h2⟩ => ⟨y, h1, (he x y).2 h2⟩⟩, fun x hx => Nat.le_trans (h.row x hx) hB⟩
def Aut.PK (a : Aut) (l : Las) (i k : Nat) (x y : Nat) : Prop := ∃ (m : Nat) (hm : m < a.edges.length) (j : Nat), j < l.size ∧ (j < i ∨ (j = i ∧ m < k)) ∧ x = j * a.acc.length + a.edges[m].frm.toNat ∧ y = l.nx j * a.acc.length + a.edges[m].to.toNat ∧ a.edges[m].on (l.all.getD j 0) = true
theorem PK_all {a : Aut} {l : Las} {x y : Nat} {i : Nat} (hi : l.size ≤ i) : a.PK l i 0 x y ↔ a.PE l x y := by
  constructor
  · rintro ⟨m, hm, j, h1, _, h3⟩
    exact ⟨_, List.getElem_mem hm, j, h1, h3⟩
  · rintro ⟨e, he, j, h1, h2⟩
    obtain ⟨m, hm, rfl⟩ := List.mem_iff_getElem.1 he
    exact ⟨m, hm, j, h1, .inl (by omega), h2⟩
theorem PK_next {a : Aut} {l : Las} {x y : Nat} {i k : Nat} (hk : a.edges.length ≤ k) : a.PK l i k x y ↔ a.PK l (i + 1) 0 x y := by
  constructor
  · rintro ⟨m, hm, j, h1, h2, h3⟩
    exact ⟨m, hm, j, h1, .inl (by omega), h3⟩
  · rintro ⟨m, hm, j, h1, h2, h3⟩
    exact ⟨m, hm, j, h1, by omega, h3⟩
theorem PK_step {a : Aut} {l : Las} {x y : Nat} {i k : Nat} (hi : i < l.size) (hk : k < a.edges.length) : a.PK l i (k + 1) x y ↔ a.PK l i k x y ∨ (a.edges[k].on (l.all.getD i 0) = true ∧ x = i * a.acc.length + a.edges[k].frm.toNat ∧ y = l.nx i * a.acc.length + a.edges[k].to.toNat) := by
  constructor
  · rintro ⟨m, hm, j, h1, h2, h3, h4, h5⟩
    by_cases e : j = i ∧ m = k
    · obtain ⟨rfl, rfl⟩ := e
      exact .inr ⟨h5, h3, h4⟩
    · exact .inl ⟨m, hm, j, h1, by omega, h3, h4, h5⟩
  · rintro (⟨m, hm, j, h1, h2, h3⟩ | ⟨h1, h2, h3⟩)
    · exact ⟨m, hm, j, h1, by omega, h3⟩
    · exact ⟨k, hk, i, hi, .inr ⟨rfl, by omega⟩, h2, h3, h1⟩
theorem Aut.PE_lt {a : Aut} {l : Las} (ha : a.Ok) (hl : 1 ≤ l.loop.length) {x y : Nat} (h : a.PE l x y) : x < l.size * a.acc.length ∧ y < l.size * a.acc.length := by
  obtain ⟨e, he, i, hi, h1, h2, h3⟩ := h
  obtain ⟨f, g, h4, h5, h6, h7⟩ := ha.tr he
  rw [h4, Int.toNat_natCast] at h1
  rw [h5, Int.toNat_natCast] at h2
  subst h1 h2
  exact ⟨at_lt h6 hi, at_lt h7 (Las.nx_lt hl hi)⟩
end Go.Proofs.YtglnelcmcimljaaGreat

namespace Go.Proofs.YtglnelcmcimljaaGreat
open Go
set_option maxHeartbeats 1000000 in
theorem c_accepts {h : Heap} {v w : Value} {a : Aut} {l : Las} (Ra : Rep h v a) (Rl : Rep h w l) (ha : a.Ok) (hl : l.Ok) : CallE Tryz.prog fn_impl_Automaton_accepts [v, w] h (fun u h' => h.le h' ∧ ∃ r : Bool, u = .bool r ∧ (r = true ↔ a.Acc l)) := by
  obtain ⟨v1, v2, v3, rfl, R1, R2, R3⟩ := Rep_Aut.1 Ra
  have hn := ha.n
  have he := ha.e
  have hl1 := hl.2.1
  have hl2 := hl.2.2.1
  have hl3 := hl.2.2.2
  have hsz : l.size = l.stem.length + l.loop.length := rfl
  have FL := Rl.aLas
  have hSn : l.size * a.acc.length ≤ 160 * 64 := Nat.mul_le_mul (by omega) hn.2
  refine CallE.gen fun k hk => EN_impl_Automaton_accepts rfl ?_
  simp -implicitDefEqProofs (disch:=first|omega|(simp only[LnZ];omega))[wrap64, FL, R2.len]
  refine (c_all Rl (by omega) (by omega)).go ?_
  intro wd h1 H
  have hal := Las.all_len (l := l)
  obtain ⟨N, hN⟩ : ∃ N, N = l.size * a.acc.length := ⟨_, rfl⟩
  have hmul : (l.size : Int) * a.acc.length = (N : Int) := by rw [hN]; simp
  simp -implicitDefEqProofs (disch:=first|omega|(simp only[LnZ];omega))[wrap64, (R2.on H).len, H.rep.len, hal, hmul]
  refine H.mks (α := List Int) (z := []) (n := N) (c := N) rfl rfl own_nils (Nat.le_refl _) (by omega) (by omega) fun nx h2 H => ?_
  simp -implicitDefEqProofs (disch:=first|omega|(simp only[LnZ];omega))[wrap64, H.sw1.rep.len, hal]
  refine wp_count l.size (fun i e h' => ∃ G, e = [none, none, some (.agg #[v1, v2, v3]), some w, none, none, some (.int .i64 a.acc.length), some nx, none, none, none, none, none, none, some wd, some (.int .i64 l.size), some (.int .i64 i), none, none, none, none, none, none] ∧ HS h [ow nx G, ow wd l.all] h' ∧ GI N (i * 2048) (a.PK l i 0) G) ⟨_, by simp, H, by
    have : (0 : Nat) * 2048 = 0 := by omega
    rw [this]
    exact GI.zero.congr (Nat.le_refl _) fun x y => ⟨False.elim, fun ⟨m, hm, j, _, h, _⟩ => by omega⟩⟩ ?_
  clear H
  rintro J i _ h3 hJ hi ⟨G, rfl, H, hG⟩
  simp -implicitDefEqProofs (disch:=first|omega|(simp only[LnZ];omega))[wrap64]
  refine IteW.mk (fun hlt => ?_) (fun hge => ?_)
  · have his : i < l.size := by omega
    have hial : i < l.all.length := by omega
    have hlet : l.all.getD i 0 = l.all[i] := by simp [hial]
    have hX := H.sw1.rep.I
    simp -implicitDefEqProofs (disch:=first|omega|(simp only[LnZ];omega))[wrap64, hX, (R3.on H).len]
    refine wp_count a.edges.length (fun k e h' => ∃ G, e = [none, none, some (.agg #[v1, v2, v3]), some w, none, none, some (.int .i64 a.acc.length), some nx, some (.int .i64 i), some (.int .i64 l.all[i]), none, none, none, none, some wd, some (.int .i64 l.size), some (.int .i64 i), some v3, some (.int .i64 a.edges.length), some (.int .i64 k), none, none, none] ∧ HS h [ow nx G, ow wd l.all] h' ∧ GI N (i * 2048 + k) (a.PK l i k) G) ⟨G, by simp, H, hG⟩ ?_
    clear H hG
    rintro J2 k _ h4 hJ2 hk2 ⟨G, rfl, H, hG⟩
    simp -implicitDefEqProofs (disch:=first|omega|(simp only[LnZ];omega))[wrap64]
    refine IteW.mk (fun hlt2 => ?_) (fun hge2 => ?_)
    · have hkx : k < a.edges.length := by omega
      have hx := ha.t hkx
      have hv := R3.okTr hkx
      unfold Tr.Ok at hx
      have hstep := fun x y => PK_step (a := a) (l := l) (x := x) (y := y) his hkx
      rw [hlet] at hstep
      simp -implicitDefEqProofs (disch:=first|omega|(simp only[LnZ];omega))[wrap64, (R3.on H).xTr, Tr.v, setC]
      refine (c_takes (t := a.edges[k]) (Rep_Tr.2 ⟨rfl, hv⟩)).go ?_
      rintro _ _ ⟨rfl, rfl⟩
      cases ho : a.edges[k].on l.all[i] with
      | false =>
        simp -implicitDefEqProofs (disch:=first|omega|(simp only[LnZ];omega))[wrap64, ho]
        refine hJ2 _ _ hkx ⟨G, by simp, H, hG.congr (by omega) fun x y => ?_⟩
        rw [hstep, ho]
        simp
      | true =>
        obtain ⟨f, hf⟩ : ∃ f : Nat, a.edges[k].frm = f := ⟨a.edges[k].frm.toNat, by omega⟩
        obtain ⟨t, ht⟩ : ∃ t : Nat, a.edges[k].to = t := ⟨a.edges[k].to.toNat, by omega⟩
        have hfn : f < a.acc.length := by omega
        have htn : t < a.acc.length := by omega
        have hnxl := Las.nx_lt hl2 his
        have hx1 := at_lt hfn his
        have hy1 := at_lt htn hnxl
        have e3 : (i : Int) * a.acc.length = ((i * a.acc.length : Nat) : Int) := by simp
        have e4 : ((l.nx i : Nat) : Int) * a.acc.length = ((l.nx i * a.acc.length : Nat) : Int) := by simp
        obtain ⟨X, hX1⟩ : ∃ X, X = i * a.acc.length + f := ⟨_, rfl⟩
        obtain ⟨Y, hY1⟩ : ∃ Y, Y = l.nx i * a.acc.length + t := ⟨_, rfl⟩
        obtain ⟨p, hp⟩ : ∃ p, p = i * a.acc.length := ⟨_, rfl⟩
        obtain ⟨q, hq⟩ : ∃ q, q = l.nx i * a.acc.length := ⟨_, rfl⟩
        have hXG : X < G.length := by rw [hG.len]; omega
        have hrow := hG.row X hXG
        have e5 : (p : Int) + f = X := by omega
        have e6 : (q : Int) + t = Y := by omega
        rw [← hp] at e3
        rw [← hq] at e4
        obtain ⟨u, hu, HT⟩ := H.take hXG
        change hload _ (some (elp 1 nx X)) none = some u at hu
        have RL := Rl.on HT
        have hadd : G[X] ++ [(Y : Int)] = G[X] ++ [(Y : Int)] := rfl
        simp -implicitDefEqProofs (disch:=first|omega|(simp only[LnZ];omega))[wrap64, ho, hf, ht, e3, e5, HT.sw1.holeia (n := 1) rfl, hu, RL.aLas]
        refine (c_nextL RL (by omega) (by omega) his).go ?_
        rintro _ _ ⟨rfl, rfl⟩
        simp -implicitDefEqProofs (disch:=first|omega|(simp only[LnZ];omega))[wrap64, hf, ht, e3, e5, e4, e6, HT.sw1.holeia (n := 1) rfl, hu]
        refine HT.app1 (Y : Int) rfl rfl rfl ⟨by omega, by omega⟩ rfl rfl (by omega) (by omega) fun u' h5 H => ?_
        simp -implicitDefEqProofs (disch:=first|omega|(simp only[LnZ];omega))[wrap64, H.sw1.holeia (n := 1) rfl]
        refine H.storeH rfl rfl rfl fun h6 H => ?_
        simp -implicitDefEqProofs (disch:=first|omega|(simp only[LnZ];omega))[wrap64]
        refine hJ2 _ _ hkx ⟨_, by simp, H, (hG.add hXG).congr (by omega) fun x y => ?_⟩
        rw [hstep, ho, hf, ht, Int.toNat_natCast, Int.toNat_natCast, hX1, hY1]
        simp
    · simp -implicitDefEqProofs (disch:=first|omega|(simp only[LnZ];omega))[wrap64]
      exact hJ _ _ his ⟨G, by simp, H, hG.congr (by omega) fun x y => PK_next (by omega)⟩
  have hG' : GI N (i * 2048) (a.PE l) G := hG.congr (Nat.le_refl _) fun x y => PK_all (by omega)
  have hAdj : Adj (a.PE l) G := ⟨fun x y hxy => by
    have := Aut.PE_lt ha hl2 hxy
    rw [hG'.len, hN]; exact this, hG'.mem⟩
  have hGl := hG'.len
  simp -implicitDefEqProofs (disch:=first|omega|(simp only[LnZ];omega))[wrap64]
  refine (c_cyclic H.rep hAdj (by omega)).go ?_
  rintro c h4 ⟨C, H2, hCl, hC⟩
  have H := H2.app H
  simp -implicitDefEqProofs (disch:=first|omega|(simp only[LnZ];omega))[wrap64]
  have hi1 : ∀ z ∈ a.init, 0 ≤ z ∧ z < (G.length : Int) := by
    intro z hz
    have h5 := incr_mem ha.i z hz
    have : 1 * a.acc.length ≤ l.size * a.acc.length := Nat.mul_le_mul_right _ (by omega)
    omega
  have hil := ha.il
  refine (c_reachable H.sw1.rep (R1.on H) hAdj hi1 (by omega) (by omega)).go ?_
  rintro r h5 ⟨B, H5, hBl, hB⟩
  have H := H5.app H
  have hacc : ∀ x, x < G.length → (tru B x ∧ tru C x ∧ tru a.acc (x % a.acc.length) ↔ (∃ s : Nat, (s : Int) ∈ a.init ∧ Rch (a.PE l) s x) ∧ Cyc (a.PE l) x ∧ tru a.acc (x % a.acc.length)) := fun x hx => by rw [hB, hC x hx]
  simp -implicitDefEqProofs (disch:=first|omega|(simp only[LnZ];omega))[wrap64, H.rep.len]
  refine wp_count G.length (fun k e h' => e = [none, none, some (.agg #[v1, v2, v3]), none, none, none, some (.int .i64 a.acc.length), none, none, none, none, some c, none, none, none, none, none, none, none, none, some r, some (.int .i64 G.length), some (.int .i64 k)] ∧ h' = h5 ∧ ∀ x, x < k → ¬ (tru B x ∧ tru C x ∧ tru a.acc (x % a.acc.length))) ⟨by simp [hBl], rfl, fun x hx => absurd hx (Nat.not_lt_zero x)⟩ ?_
  rintro J3 k _ h6 hJ3 hk3 ⟨rfl, rfl, hno⟩
  simp -implicitDefEqProofs (disch:=first|omega|(simp only[LnZ];omega))[wrap64]
  refine IteW.mk (fun hlt2 => ?_) (fun hge2 => ?_)
  · have hkn : k < G.length := by omega
    have hmod : k % a.acc.length < a.acc.length := Nat.mod_lt _ (by omega)
    have hmodi : (k : Int).tmod a.acc.length = ((k % a.acc.length : Nat) : Int) := by first | exact (Int.ofNat_tmod _ _).symm | exact (Int.natCast_tmod _ _).symm | simp
    have hmodi2 : (k : Int) % a.acc.length = ((k % a.acc.length : Nat) : Int) := by simp
    obtain ⟨m, hm⟩ : ∃ m, m = k % a.acc.length := ⟨_, rfl⟩
    rw [← hm] at hmod hmodi hmodi2
    have hn0 : ¬ (a.acc.length : Int) = 0 := by omega
    have hn0' : ¬ a.acc = [] := fun e => by rw [e] at hn; simp at hn
    have tB : tru B k ↔ B[k]'(by omega) = true := tru_get (by omega)
    have tC : tru C k ↔ C[k]'(by omega) = true := tru_get (by omega)
    have tA : tru a.acc (k % a.acc.length) ↔ a.acc[m] = true := by rw [← hm]; exact tru_get hmod
    have next : ¬ (tru B k ∧ tru C k ∧ tru a.acc (k % a.acc.length)) → ∀ x, x < k + 1 → ¬ (tru B x ∧ tru C x ∧ tru a.acc (x % a.acc.length)) := fun hh x hx => by
      by_cases e : x = k
      · subst e; exact hh
      · exact hno x (by omega)
    cases b1 : B[k]'(by omega) with
    | false =>
      simp -implicitDefEqProofs (disch:=first|omega|(simp only[LnZ];omega))[wrap64, H.rep.B, b1]
      exact hJ3 _ _ hkn ⟨by simp, rfl, next fun hh => by have := tB.1 hh.1; rw [b1] at this; exact absurd this (by decide)⟩
    | true =>
    cases b2 : C[k]'(by omega) with
    | false =>
      simp -implicitDefEqProofs (disch:=first|omega|(simp only[LnZ];omega))[wrap64, H.rep.B, b1, H.sw1.rep.B, b2]
      exact hJ3 _ _ hkn ⟨by simp, rfl, next fun hh => by have := tC.1 hh.2.1; rw [b2] at this; exact absurd this (by decide)⟩
    | true =>
    cases b3 : a.acc[m] with
    | false =>
      simp -implicitDefEqProofs (disch:=first|omega|(simp only[LnZ];omega))[wrap64, H.rep.B, b1, H.sw1.rep.B, b2, hmodi, hmodi2, hn0, hn0', (R2.on H).B, b3]
      exact hJ3 _ _ hkn ⟨by simp, rfl, next fun hh => by have := tA.1 hh.2.2; rw [b3] at this; exact absurd this (by decide)⟩
    | true =>
      simp -implicitDefEqProofs (disch:=first|omega|(simp only[LnZ];omega))[wrap64, H.rep.B, b1, H.sw1.rep.B, b2, hmodi, hmodi2, hn0, hn0', (R2.on H).B, b3]
      refine RetK.keep (hk _ _ ⟨H.base, true, rfl, ?_⟩)
      simp only [true_iff]
      obtain ⟨⟨s, h7, h8⟩, h9, h10⟩ := (hacc k hkn).1 ⟨tB.2 b1, tC.2 b2, tA.2 b3⟩
      exact ⟨s, h7, k, h8, h9, h10⟩
  · simp -implicitDefEqProofs (disch:=first|omega|(simp only[LnZ];omega))[wrap64]
    refine RetK.keep (hk _ _ ⟨H.base, false, rfl, ?_⟩)
    simp only [Bool.false_eq_true, false_iff]
    rintro ⟨s, h7, x, h8, h9, h10⟩
    have hxl : x < G.length := by
      obtain ⟨y, h11, _⟩ := h9
      exact (hAdj.lt x y h11).1
    exact hno x (by omega) ((hacc x hxl).2 ⟨⟨s, h7, h8⟩, h9, h10⟩)
noncomputable def Aut.accB (a : Aut) (l : Las) : Bool := @decide (a.Ok ∧ l.Ok ∧ a.Acc l) (Classical.propDecidable _)
theorem c_Accepts {h : Heap} {v w : Value} {a : Aut} {l : Las} (Ra : Rep h v a) (Rl : Rep h w l) : CallE Tryz.prog fn_impl_Accepts [v, w] h (fun u h' => h.le h' ∧ u = .tuple #[.bool (a.accB l), .bool (decide (a.Ok ∧ l.Ok))]) := by
  have FA := Ra.aAut
  have FL := Rl.aLas
  refine CallE.gen fun k hk => EN_impl_Accepts rfl ?_
  simp -implicitDefEqProofs (disch:=first|omega|(simp only[LnZ];omega))[wrap64, FA, FL]
  refine (c_AutomatonValid Ra).go ?_
  rintro _ h1 ⟨l1, rfl⟩
  by_cases ha : a.Ok
  case neg =>
    simp -implicitDefEqProofs (disch:=first|omega|(simp only[LnZ];omega))[wrap64, ha]
    refine RetK.keep (hk _ _ ⟨l1, ?_⟩)
    rw [show a.accB l = false by simp [Aut.accB, ha], decide_eq_false (fun hh : a.Ok ∧ l.Ok => ha hh.1)]
  simp -implicitDefEqProofs (disch:=first|omega|(simp only[LnZ];omega))[wrap64, ha, FL]
  refine (c_LassoValid (Rl.le l1)).go ?_
  rintro _ h2 ⟨l2, rfl⟩
  by_cases hl : l.Ok
  case neg =>
    simp -implicitDefEqProofs (disch:=first|omega|(simp only[LnZ];omega))[wrap64, hl]
    refine RetK.keep (hk _ _ ⟨l1.trans l2, ?_⟩)
    rw [show a.accB l = false by simp [Aut.accB, hl], decide_eq_false (fun hh : a.Ok ∧ l.Ok => hl hh.2)]
  simp -implicitDefEqProofs (disch:=first|omega|(simp only[LnZ];omega))[wrap64, hl, FA, FL]
  refine (c_accepts (Ra.le (l1.trans l2)) (Rl.le (l1.trans l2)) ha hl).go ?_
  rintro _ h3 ⟨l3, r, rfl, hr⟩
  simp -implicitDefEqProofs (disch:=first|omega|(simp only[LnZ];omega))[wrap64]
  refine RetK.keep (hk _ _ ⟨l1.trans (l2.trans l3), ?_⟩)
  rw [decide_eq_true (show a.Ok ∧ l.Ok from ⟨ha, hl⟩)]
  have : a.accB l = r := by
    rw [Bool.eq_iff_iff, hr, Aut.accB]
    simp [ha, hl]
  rw [this]
theorem Aut.accB_lang {a : Aut} {l : Las} (ha : a.Ok) (hl : l.Ok) : a.accB l = true ↔ a.Lang l.word := by
  rw [← Aut.acc_iff ha hl.2.2.1, Aut.accB]
  simp [ha, hl]
end Go.Proofs.YtglnelcmcimljaaGreat

namespace Go.Proofs.YtglnelcmcimljaaGreat
open Go
theorem Great.refl {a : Aut} {R : Rl} (h : Great a R) {i : Nat} (hi : i < a.acc.length) : R i i = true := by
  refine h.upper (fun x y => decide (x = y)) ⟨?_, ?_⟩ i i hi hi (by simp)
  · intro x y _ _ hxy hx
    simp only [decide_eq_true_eq] at hxy
    subst hxy; exact hx
  · intro x y _ _ hxy l _ e he hx ho
    simp only [decide_eq_true_eq] at hxy
    subst hxy
    exact ⟨e, he, hx, ho, by simp⟩
theorem Great.trans {a : Aut} (ha : a.Ok) {R : Rl} (h : Great a R) {i j k : Nat} (hi : i < a.acc.length) (hj : j < a.acc.length) (hk : k < a.acc.length) (h1 : R i j = true) (h2 : R j k = true) : R i k = true := by
  refine h.upper (fun x z => @decide (∃ y, y < a.acc.length ∧ R x y = true ∧ R y z = true) (Classical.propDecidable _)) ⟨?_, ?_⟩ i k hi hk (by simpa using ⟨j, hj, h1, h2⟩)
  · intro x z hx hz hxz h3
    simp only [decide_eq_true_eq] at hxz
    obtain ⟨y, hy, h4, h5⟩ := hxz
    exact h.simu.1 y z hy hz h5 (h.simu.1 x y hx hy h4 h3)
  · intro x z hx hz hxz l hl e he h6 ho
    simp only [decide_eq_true_eq] at hxz
    obtain ⟨y, hy, h4, h5⟩ := hxz
    obtain ⟨f, hf, g1, g2, g3⟩ := h.simu.2 x y hx hy h4 l hl e he h6 ho
    obtain ⟨f', hf', k1, k2, k3⟩ := h.simu.2 y z hy hz h5 l hl f hf g1 g2
    obtain ⟨_, q, _, h8, _, h10⟩ := ha.tr hf
    refine ⟨f', hf', k1, k2, ?_⟩
    simp only [decide_eq_true_eq]
    exact ⟨f.to.toNat, by rw [h8]; simpa using h10, g3, k3⟩
def Letters (w : Nat → Int) : Prop := ∀ t, 0 ≤ w t ∧ w t ≤ 7
theorem Simu.run {a : Aut} (ha : a.Ok) {R : Rl} (hR : Simu a R) {w : Nat → Int} (hw : Letters w) {t i j : Nat} (hi : i < a.acc.length) (hj : j < a.acc.length) (h : R i j = true) (k : Run a.acc a.edges w t i) : Run a.acc a.edges w t j := by
  refine Run.sim (fun x y => x < a.acc.length ∧ y < a.acc.length ∧ R x y = true) ?_ ?_ k ⟨hi, hj, h⟩
  · rintro t p q p' ⟨h1, h2, h3⟩ ⟨e, he, h4, h5, h6⟩ _
    have h7 := hw t
    obtain ⟨n, hn⟩ : ∃ n : Nat, w t = n := ⟨(w t).toNat, by omega⟩
    rw [hn] at h6 h7
    obtain ⟨f, hf, g1, g2, g3⟩ := hR.2 p p' h1 h2 h3 n (by omega) e he h4 h6
    obtain ⟨x, y, k1, k2, k3, k4⟩ := ha.tr he
    obtain ⟨x', y', k1', k2', k3', k4'⟩ := ha.tr hf
    refine ⟨y', ⟨f, hf, g1, k2', by rw [hn]; exact g2⟩, by omega, k4', ?_⟩
    rw [h5, k2'] at g3
    simpa using g3
  · rintro p p' ⟨h1, h2, h3⟩ h4
    exact hR.1 p p' h1 h2 h3 h4
section
variable {a b : Aut}
end
theorem kidx_inj {K : Nat → Bool} {p q : Nat} (hp : K p = true) (hq : K q = true) (h : kidx K p = kidx K q) : p = q := by
  have lt : ∀ {p q : Nat}, K p = true → p < q → kidx K p < kidx K q := by
    intro p q hp hlt
    have h1 := kidx_succ (K := K) (q := p)
    rw [hp, if_pos rfl] at h1
    have h2 := kidx_mono (K := K) (show p + 1 ≤ q by omega)
    omega
  by_cases h1 : p < q
  · have := lt hp h1; omega
  by_cases h2 : q < p
  · have := lt hq h2; omega
  omega
theorem kept_at {K : Nat → Bool} {A : List Bool} : ∀ {n p : Nat}, p < n → K p = true → (((List.range n).filter K).map fun q => A.getD q false)[kidx K p]? = some (A.getD p false)
  | 0, p, h, _ => absurd h (Nat.not_lt_zero p)
  | n + 1, p, h, hK => by
    rw [List.range_succ, List.filter_append, List.map_append]
    by_cases hp : p = n
    · subst hp
      rw [List.getElem?_append_right (by simp [kidx])]
      simp [kidx, hK]
    · have h1 := kept_at (A := A) (show p < n by omega) hK
      rw [List.getElem?_append_left]
      · exact h1
      · obtain ⟨h2, _⟩ := List.getElem?_eq_some_iff.1 h1
        exact h2
section
variable {a : Aut} {K : Nat → Bool}
theorem kidx_pos {n p : Nat} (hp : p < n) (hK : K p = true) : kidx K n ≠ 0 := by
  have h1 := kidx_succ (K := K) (q := p)
  rw [hK, if_pos rfl] at h1
  have h2 := kidx_mono (K := K) (show p + 1 ≤ n by omega)
  omega
theorem keep_ini {s : Nat} (hs : s < a.acc.length) (hK : K s = true) (h : (s : Int) ∈ a.init) : ((kidx K s : Nat) : Int) ∈ (a.keep K).init := by
  rw [Aut.keep, if_neg (kidx_pos hs hK)]
  exact List.mem_map.2 ⟨s, List.mem_filter.2 ⟨h, by simpa using hK⟩, by simp [kout]⟩
theorem keep_ini' (ha : a.Ok) {x : Nat} (h : (x : Int) ∈ (a.keep K).init) : ∃ s : Nat, (s : Int) ∈ a.init ∧ K s = true ∧ x = kidx K s := by
  unfold Aut.keep at h
  split at h
  · simp at h
  · obtain ⟨i, hi, he⟩ := List.mem_map.1 h
    obtain ⟨h1, h2⟩ := List.mem_filter.1 hi
    have h3 := incr_mem ha.i _ h1
    exact ⟨i.toNat, by rw [Int.toNat_of_nonneg (by omega)]; exact h1, h2, by simp only [kout] at he; omega⟩
theorem keep_st {w : Nat → Int} {t p q : Nat} (hp : K p = true) (hq : K q = true) (hpn : p < a.acc.length) (h : StE a.edges w t p q) : StE (a.keep K).edges w t (kidx K p) (kidx K q) := by
  obtain ⟨e, he, h1, h2, h3⟩ := h
  rw [Aut.keep, if_neg (kidx_pos hpn hp)]
  exact ⟨_, List.mem_map.2 ⟨e, List.mem_filter.2 ⟨he, by simp [h1, h2, hp, hq]⟩, rfl⟩, by simp [Tr.ren, kout, h1], by simp [Tr.ren, kout, h2], h3⟩
theorem keep_st' (ha : a.Ok) {w : Nat → Int} {t p y : Nat} (hp : K p = true) (h : StE (a.keep K).edges w t (kidx K p) y) : ∃ q, K q = true ∧ q < a.acc.length ∧ y = kidx K q ∧ StE a.edges w t p q := by
  obtain ⟨e, he, h1, h2, h3⟩ := h
  unfold Aut.keep at he
  split at he
  · simp at he
  · obtain ⟨f, hf, rfl⟩ := List.mem_map.1 he
    obtain ⟨g1, g2⟩ := List.mem_filter.1 hf
    obtain ⟨x, z, k1, k2, k3, k4⟩ := ha.tr g1
    simp only [Tr.ren, kout, k1, k2, Int.toNat_natCast, Bool.and_eq_true] at h1 h2 g2
    have := kidx_inj g2.1 hp (by omega)
    subst this
    exact ⟨z, g2.2, k4, by omega, f, g1, k1, k2, h3⟩
theorem keep_tru {p : Nat} (hp : p < a.acc.length) (hK : K p = true) : tru (a.keep K).acc (kidx K p) ↔ tru a.acc p := by
  rw [Aut.keep, if_neg (kidx_pos hp hK)]
  unfold tru
  rw [List.getD_eq_getElem?_getD, kept_at hp hK]
  rfl
theorem trim_lang (ha : a.Ok) {w : Nat → Int} : a.trim.Lang w ↔ a.Lang w := by
  constructor
  · rintro ⟨x, hx, h⟩
    obtain ⟨s, h1, h2, rfl⟩ := keep_ini' ha hx
    refine ⟨s, h1, Run.sim (fun x p => a.tkeep p = true ∧ p < a.acc.length ∧ x = kidx a.tkeep p) ?_ ?_ h ⟨h2, ha.ini h1, rfl⟩⟩
    · rintro t x y p ⟨g1, g2, rfl⟩ g3 _
      obtain ⟨q, k1, k2, k3, k4⟩ := keep_st' ha g1 g3
      exact ⟨q, k4, k1, k2, k3⟩
    · rintro x p ⟨g1, g2, rfl⟩ g3
      exact (keep_tru g2 g1).1 g3
  · rintro ⟨s, hs, h⟩
    have hs' := ha.ini hs
    have hK : a.tkeep s = true := Aut.tkeep_iff.2 ⟨⟨s, hs, .refl _⟩, Run.live ha hs' h⟩
    refine ⟨_, keep_ini hs' hK hs, Run.sim (fun p x => a.tkeep p = true ∧ p < a.acc.length ∧ x = kidx a.tkeep p) ?_ ?_ h ⟨hK, hs', rfl⟩⟩
    · rintro t p q x ⟨g1, g2, rfl⟩ g3 g4
      have hq := (ha.st g3).2
      have hKq : a.tkeep q = true := by
        obtain ⟨⟨s', h1, h2⟩, _⟩ := Aut.tkeep_iff.1 g1
        obtain ⟨e, he, k1, k2, _⟩ := g3
        exact Aut.tkeep_iff.2 ⟨⟨s', h1, h2.snoc ⟨e, he, k1, k2⟩⟩, Run.live ha hq g4⟩
      exact ⟨_, keep_st g1 hKq g2 g3, hKq, hq, rfl⟩
    · rintro p x ⟨g1, g2, rfl⟩ g3
      exact (keep_tru g2 g1).2 g3
end
end Go.Proofs.YtglnelcmcimljaaGreat

namespace Go.Proofs.YtglnelcmcimljaaGreat
open Go
end Go.Proofs.YtglnelcmcimljaaGreat

namespace Go.Proofs.YtglnelcmcimljaaGreat
open Go
def unitR (h : Heap) (a b : Aut) (u : Value) (h' : Heap) : Prop := ∃ v, u = .tuple #[v, .bool (decide (a.Ok ∧ b.Ok ∧ (a.unite b).Ok))] ∧ HS h [ow v (if a.Ok ∧ b.Ok ∧ (a.unite b).Ok then a.unite b else Aut.empty)] h'
theorem unitR.no {h h' : Heap} {a b : Aut} (hn : ¬ (a.Ok ∧ b.Ok ∧ (a.unite b).Ok)) (H : HS h [] h') : unitR h a b (.tuple #[.agg #[.slice none 0 0, .slice none 0 0, .slice none 0 0], .bool false]) h' :=
  ⟨_, by rw [decide_eq_false hn], by rw [if_neg hn]; exact empty_ow H⟩
theorem unitR.yes {h h' : Heap} {a b : Aut} {v : Value} (hn : a.Ok ∧ b.Ok ∧ (a.unite b).Ok) (H : HS h [ow v (a.unite b)] h') : unitR h a b (.tuple #[v, .bool true]) h' :=
  ⟨_, by rw [decide_eq_true hn], by rw [if_pos hn]; exact H⟩
end Go.Proofs.YtglnelcmcimljaaGreat

namespace Go.Proofs.YtglnelcmcimljaaGreat
open Go
def inclR (R : Rl) (a b : Aut) : Bool := a.init.all fun i => b.init.any fun j => R i.toNat (j.toNat + a.acc.length)
def InclA (a b : Aut) (r : Bool) : Prop := (¬ (a.Ok ∧ b.Ok ∧ (a.unite b).Ok) ∧ r = false) ∨ ((a.Ok ∧ b.Ok ∧ (a.unite b).Ok) ∧ ∃ R, Great (a.unite b) R ∧ r = inclR R a b)
theorem InclA.eq {a b : Aut} {r s : Bool} (h : InclA a b r) (h' : InclA a b s) : r = s := by
  rcases h with ⟨h1, rfl⟩ | ⟨h1, R, hR, rfl⟩
  · rcases h' with ⟨_, rfl⟩ | ⟨h2, _⟩
    · rfl
    · exact absurd h2 h1
  · rcases h' with ⟨h2, _⟩ | ⟨_, S, hS, rfl⟩
    · exact absurd h1 h2
    · obtain ⟨ha, hb, hc⟩ := h1
      have hl : (a.unite b).acc.length = a.acc.length + b.acc.length := by simp [Aut.unite]
      have : ∀ i ∈ a.init, ∀ j ∈ b.init, R i.toNat (j.toNat + a.acc.length) = S i.toNat (j.toNat + a.acc.length) := by
        intro i hi j hj
        have h1 := incr_mem ha.i i hi
        have h2 := incr_mem hb.i j hj
        exact hR.eq hS (by omega) (by omega)
      unfold inclR
      rw [Bool.eq_iff_iff, List.all_eq_true, List.all_eq_true]
      constructor <;> intro h i hi <;> have h3 := h i hi <;> rw [List.any_eq_true] at h3 ⊢ <;> obtain ⟨j, hj, h4⟩ := h3 <;> exact ⟨j, hj, by first | rw [this i hi j hj] at h4; exact h4 | rw [← this i hi j hj] at h4; exact h4⟩
end Go.Proofs.YtglnelcmcimljaaGreat

namespace Go.Proofs.YtglnelcmcimljaaGreat
open Go
def cls (e : Nat → Nat → Bool) (n x : Nat) : Nat := (grpS e n).1.getD x 0
theorem gnm_cls {e : Nat → Nat → Bool} {n x : Nat} : gnm e n (x : Int) = (cls e n x : Int) := by simp [gnm, cls]
def Fresh (e : Nat → Nat → Bool) (r : Nat) : Prop := ∀ k, k < r → e r k = false
section
variable {e : Nat → Nat → Bool}
theorem grpS_mono {i n : Nat} (h : i ≤ n) : (grpS e i).2 ≤ (grpS e n).2 := by
  induction n with
  | zero => obtain rfl : i = 0 := by omega
            exact Nat.le_refl _
  | succ n ih =>
    by_cases hi : i = n + 1
    · subst hi; exact Nat.le_refl _
    · have := ih (by omega)
      cases hf : (List.range n).find? (fun k => e n k) with
      | some k => rw [grpS_old hf]; exact this
      | none => rw [grpS_new hf]; simp only; omega
theorem cls_new {n r : Nat} (hr : r < n) (hf : Fresh e r) : cls e n r = (grpS e r).2 := by
  have hn : (List.range r).find? (fun k => e r k) = none := find_none hf
  unfold cls
  rw [grpS_get (i := r + 1) (by omega) (by omega), grpS_new hn, List.getD_eq_getElem?_getD, List.getElem?_append_right (by rw [grpS_len]; exact Nat.le_refl _), grpS_len]
  simp
theorem cls_old {n q k : Nat} (hq : q < n) (hf : (List.range q).find? (fun k => e q k) = some k) : cls e n q = cls e n k := by
  have hk := find_lt hf
  unfold cls
  rw [grpS_get (i := q + 1) (n := n) (q := q) (by omega) (by omega), grpS_old hf, List.getD_eq_getElem?_getD, List.getElem?_append_right (by rw [grpS_len]; exact Nat.le_refl _), grpS_len,
    grpS_get (i := q) (n := n) (q := k) hk (by omega)]
  simp
theorem cls_lt {n x : Nat} (hx : x < n) : cls e n x < (grpS e n).2 := by
  have := gnm_lt (e := e) (n := n) (x := x) (by omega) (by omega)
  rw [gnm_cls] at this
  omega
theorem find_some {p : Nat → Bool} {i k : Nat} (h : (List.range i).find? p = some k) : p k = true := by
  have := List.find?_some h
  exact this
theorem find_fresh {r : Nat} (h : (List.range r).find? (fun k => e r k) = none) : Fresh e r := by
  intro k hk
  rw [List.find?_eq_none] at h
  have := h k (List.mem_range.2 hk)
  simpa using this
theorem cls_rep {n : Nat} (htr : ∀ x y z, x < n → y < n → z < n → e x y = true → e y z = true → e x z = true) : ∀ m q, q ≤ m → q < n → ∃ r, r < n ∧ (r = q ∨ e q r = true) ∧ cls e n r = cls e n q ∧ Fresh e r
  | m, q, hm, hq => by
    cases hf : (List.range q).find? (fun k => e q k) with
    | none => exact ⟨q, hq, .inl rfl, rfl, find_fresh hf⟩
    | some k =>
      have hk := find_lt hf
      have hek := find_some hf
      cases m with
      | zero => omega
      | succ m =>
        obtain ⟨r, h1, h2, h3, h4⟩ := cls_rep htr m k (by omega) (by omega)
        refine ⟨r, h1, .inr ?_, by rw [h3, cls_old hq hf], h4⟩
        rcases h2 with rfl | h2
        · exact hek
        · exact htr _ _ _ hq (by omega) h1 hek h2
theorem fresh_inj {n r s : Nat} (hr : r < n) (hs : s < n) (fr : Fresh e r) (fs : Fresh e s) (h : cls e n r = cls e n s) : r = s := by
  have lt : ∀ {r s : Nat}, r < n → s < n → Fresh e r → Fresh e s → r < s → cls e n r < cls e n s := by
    intro r s hr hs fr fs hlt
    rw [cls_new hs fs, cls_new hr fr]
    have h1 := grpS_new (e := e) (i := r) (find_none fr)
    have h2 := grpS_mono (e := e) (show r + 1 ≤ s by omega)
    rw [h1] at h2
    simp only at h2
    omega
  by_cases h1 : r < s
  · have := lt hr hs fr fs h1; omega
  by_cases h2 : s < r
  · have := lt hs hr fs fr h2; omega
  omega
theorem cls_same {n p q : Nat} (hsy : ∀ x y, x < n → y < n → e x y = true → e y x = true) (htr : ∀ x y z, x < n → y < n → z < n → e x y = true → e y z = true → e x z = true) (hp : p < n) (hq : q < n) :
    cls e n p = cls e n q ↔ p = q ∨ e p q = true := by
  obtain ⟨r, h1, h2, h3, h4⟩ := cls_rep htr p p (Nat.le_refl _) hp
  obtain ⟨s, g1, g2, g3, g4⟩ := cls_rep htr q q (Nat.le_refl _) hq
  constructor
  · intro h
    have hrs := fresh_inj h1 g1 h4 g4 (by rw [h3, g3, h])
    subst hrs
    rcases h2 with rfl | h2
    · rcases g2 with rfl | g2
      · exact .inl rfl
      · exact .inr (hsy _ _ hq hp g2)
    · rcases g2 with rfl | g2
      · exact .inr h2
      · exact .inr (htr _ _ _ hp h1 hq h2 (hsy _ _ hq h1 g2))
  · rintro (rfl | h)
    · rfl
    · have hrs : r = s := by
        have hers : r = s ∨ e r s = true := by
          rcases h2 with rfl | h2
          · rcases g2 with rfl | g2
            · exact .inr h
            · exact .inr (htr _ _ _ hp hq g1 h g2)
          · have h5 := htr _ _ _ h1 hp hq (hsy _ _ hp h1 h2) h
            rcases g2 with rfl | g2
            · exact .inr h5
            · exact .inr (htr _ _ _ h1 hq g1 h5 g2)
        rcases hers with h5 | h5
        · exact h5
        by_cases h6 : r < s
        · have := g4 r h6
          rw [hsy _ _ h1 g1 h5] at this
          simp at this
        by_cases h7 : s < r
        · have := h4 s h7
          rw [h5] at this
          simp at this
        omega
      rw [← h3, ← g3, hrs]
theorem accG_at {a : Aut} : ∀ {n r : Nat}, r < n → Fresh e r → (accG a e n).getD (grpS e r).2 false = a.acc.getD r false
  | 0, r, h, _ => absurd h (Nat.not_lt_zero r)
  | n + 1, r, h, hf => by
    have hl := accG_len (a := a) (e := e) n
    by_cases hr : r = n
    · subst hr
      unfold accG
      rw [find_none hf]
      simp only
      rw [List.getD_eq_getElem?_getD, List.getElem?_append_right (by omega), hl]
      simp
    · have ih := accG_at (a := a) (show r < n by omega) hf
      unfold accG
      split
      · exact ih
      · have h1 := grpS_new (e := e) (i := r) (find_none hf)
        have h2 := grpS_mono (e := e) (show r + 1 ≤ n by omega)
        rw [h1] at h2
        simp only at h2
        rw [List.getD_eq_getElem?_getD, List.getElem?_append_left (by omega), ← List.getD_eq_getElem?_getD]
        exact ih
end
section
variable {a : Aut} {R : Rl}
theorem eqv_iff {x y : Nat} : eqv R x y = true ↔ R x y = true ∧ R y x = true := by simp [eqv]
theorem eqv_sy {n : Nat} : ∀ x y, x < n → y < n → eqv R x y = true → eqv R y x = true := fun x y _ _ h => eqv_iff.2 (eqv_iff.1 h).symm
theorem eqv_tr (ha : a.Ok) (hR : Great a R) : ∀ x y z, x < a.acc.length → y < a.acc.length → z < a.acc.length → eqv R x y = true → eqv R y z = true → eqv R x z = true := fun x y z hx hy hz h k => by
  rw [eqv_iff] at *
  exact ⟨hR.trans ha hx hy hz h.1 k.1, hR.trans ha hz hy hx k.2 h.2⟩
theorem cls_R (ha : a.Ok) (hR : Great a R) {p q : Nat} (hp : p < a.acc.length) (hq : q < a.acc.length) (h : cls (eqv R) a.acc.length p = cls (eqv R) a.acc.length q) : R p q = true := by
  rcases (cls_same eqv_sy (eqv_tr ha hR) hp hq).1 h with rfl | h
  · exact hR.refl hp
  · exact (eqv_iff.1 h).1
theorem mrg_st {w : Nat → Int} {t p q : Nat} (h : StE a.edges w t p q) : StE (a.mergeE (eqv R)).edges w t (cls (eqv R) a.acc.length p) (cls (eqv R) a.acc.length q) := by
  obtain ⟨f, hf, h1, h2, h3⟩ := h
  exact ⟨_, ded_mem.2 (List.mem_map_of_mem hf), by simp only [Tr.ren, h1, gnm_cls], by simp only [Tr.ren, h2, gnm_cls], h3⟩
theorem mrg_st' (ha : a.Ok) {w : Nat → Int} {t x y : Nat} (h : StE (a.mergeE (eqv R)).edges w t x y) : ∃ p q, StE a.edges w t p q ∧ x = cls (eqv R) a.acc.length p ∧ y = cls (eqv R) a.acc.length q := by
  obtain ⟨f, hf, h1, h2, h3⟩ := h
  obtain ⟨g, hg, rfl⟩ := List.mem_map.1 (ded_mem.1 hf)
  obtain ⟨u, v, k1, k2, k3, k4⟩ := ha.tr hg
  simp only [Tr.ren, k1, k2, gnm_cls] at h1 h2
  exact ⟨u, v, ⟨g, hg, k1, k2, h3⟩, by omega, by omega⟩
theorem mrg_tru (ha : a.Ok) (hR : Great a R) {p : Nat} (hp : p < a.acc.length) : tru (a.mergeE (eqv R)).acc (cls (eqv R) a.acc.length p) ↔ tru a.acc p := by
  obtain ⟨r, h1, h2, h3, h4⟩ := cls_rep (eqv_tr ha hR) p p (Nat.le_refl _) hp
  have h5 := accG_at (a := a) h1 h4
  rw [← cls_new h1 h4, h3] at h5
  have e1 := cls_R ha hR hp h1 h3.symm
  have e2 := cls_R ha hR h1 hp h3
  show (accG a (eqv R) a.acc.length).getD _ false = true ↔ _
  rw [h5]
  exact ⟨fun h => hR.simu.1 r p h1 hp e2 h, fun h => hR.simu.1 p r hp h1 e1 h⟩
theorem mrg_ini (ha : a.Ok) {s : Nat} (h : (s : Int) ∈ a.init) : ((cls (eqv R) a.acc.length s : Nat) : Int) ∈ (a.mergeE (eqv R)).init := by
  refine memL_mem.2 ⟨_, rfl, cls_lt (ha.ini h), ?_⟩
  rw [List.any_eq_true]
  exact ⟨_, h, by rw [gnm_cls]; simp⟩
theorem mrg_ini' (ha : a.Ok) {x : Nat} (h : (x : Int) ∈ (a.mergeE (eqv R)).init) : ∃ s : Nat, (s : Int) ∈ a.init ∧ x = cls (eqv R) a.acc.length s := by
  obtain ⟨q, h1, h2, h3⟩ := memL_mem.1 h
  rw [List.any_eq_true] at h3
  obtain ⟨i, hi, h4⟩ := h3
  have h5 := incr_mem ha.i i hi
  obtain ⟨s, rfl⟩ : ∃ s : Nat, i = s := ⟨i.toNat, by omega⟩
  rw [gnm_cls, decide_eq_true_eq] at h4
  exact ⟨s, hi, by omega⟩
theorem mergeE_lang (ha : a.Ok) (hR : Great a R) {w : Nat → Int} (hw : Letters w) : (a.mergeE (eqv R)).Lang w ↔ a.Lang w := by
  constructor
  · rintro ⟨x, hx, h⟩
    obtain ⟨s, h1, rfl⟩ := mrg_ini' ha hx
    have hs := ha.ini h1
    refine ⟨s, h1, Run.sim (fun x p => p < a.acc.length ∧ ∃ y, y < a.acc.length ∧ x = cls (eqv R) a.acc.length y ∧ R y p = true) ?_ ?_ h ⟨hs, s, hs, rfl, hR.refl hs⟩⟩
    · rintro t x x' p ⟨g1, y, g2, rfl, g3⟩ g4 _
      obtain ⟨u, v, ⟨e, he, k1, k2, k3⟩, k4, rfl⟩ := mrg_st' ha g4
      obtain ⟨u', v', m1, m2, m3, m4⟩ := ha.tr he
      obtain rfl : u' = u := by omega
      obtain rfl : v' = v := by omega
      have h5 := hR.trans ha m3 g2 g1 (cls_R ha hR m3 g2 k4.symm) g3
      have h6 := hw t
      obtain ⟨n, hn⟩ : ∃ n : Nat, w t = n := ⟨(w t).toNat, by omega⟩
      rw [hn] at k3
      obtain ⟨f, hf, n1, n2, n3⟩ := hR.simu.2 _ p m3 g1 h5 n (by omega) e he k1 k3
      obtain ⟨c, d, o1, o2, o3, o4⟩ := ha.tr hf
      rw [k2, o2, Int.toNat_natCast, Int.toNat_natCast] at n3
      exact ⟨d, ⟨f, hf, n1, o2, by rw [hn]; exact n2⟩, o4, _, m4, rfl, n3⟩
    · rintro x p ⟨g1, y, g2, rfl, g3⟩ g4
      exact hR.simu.1 y p g2 g1 g3 ((mrg_tru ha hR g2).1 g4)
  · rintro ⟨s, hs, h⟩
    refine ⟨_, mrg_ini ha hs, Run.sim (fun p x => p < a.acc.length ∧ x = cls (eqv R) a.acc.length p) ?_ ?_ h ⟨ha.ini hs, rfl⟩⟩
    · rintro t p q x ⟨g1, rfl⟩ g2 _
      exact ⟨_, mrg_st g2, (ha.st g2).2, rfl⟩
    · rintro p x ⟨g1, rfl⟩ g2
      exact (mrg_tru ha hR g1).2 g2
end
theorem Great.ex {a : Aut} (ha : a.Ok) : ∃ R, Great a R := by
  refine ⟨fun i j => @decide (∃ S, Simu a S ∧ S i j = true) (Classical.propDecidable _), ⟨?_, ?_⟩, ?_⟩
  · intro i j hi hj h h1
    simp only [decide_eq_true_eq] at h
    obtain ⟨S, hS, h2⟩ := h
    exact hS.1 i j hi hj h2 h1
  · intro i j hi hj h
    simp only [decide_eq_true_eq] at h
    obtain ⟨S, hS, h2⟩ := h
    refine (hS.2 i j hi hj h2).mono ha fun x y _ _ hxy => ?_
    simp only [decide_eq_true_eq]
    exact ⟨S, hS, hxy⟩
  · intro S hS i j _ _ h
    simp only [decide_eq_true_eq]
    exact ⟨S, hS, h⟩
theorem mrg_lang {a : Aut} (ha : a.Ok) {w : Nat → Int} (hw : Letters w) : a.mrg.Lang w ↔ a.Lang w := by
  obtain ⟨R, hR⟩ := Great.ex ha
  rw [← Aut.mrg_eq hR]
  exact mergeE_lang ha hR hw
theorem rnd_lang {a : Aut} (ha : a.Ok) {w : Nat → Int} (hw : Letters w) : a.rnd.Lang w ↔ a.Lang w := (mrg_lang (Aut.trim_ok ha) hw).trans (trim_lang ha)
theorem SmpR.all {a r : Aut} (h : SmpR a r) : a.Ok → (∀ {w}, Letters w → (r.Lang w ↔ a.Lang w)) ∧ r.acc.length ≤ a.acc.length ∧ r.rnd = r := by
  induction h with
  | stop h => intro ha; exact ⟨fun _ => Iff.rfl, Nat.le_refl _, h⟩
  | more h _ ih =>
    intro ha
    obtain ⟨h1, h2, h3⟩ := ih (Aut.rnd_ok ha)
    have h4 := (Aut.mrg_len (Aut.trim_ok ha)).1
    have h5 := (Aut.trim_len ha).1
    exact ⟨fun hw => (h1 hw).trans (rnd_lang ha hw), Nat.le_trans h2 (Nat.le_trans h4 h5), h3⟩
section
variable {a b : Aut}
end
end Go.Proofs.YtglnelcmcimljaaGreat

namespace Go.Proofs.YtglnelcmcimljaaGreat
open Go
end Go.Proofs.YtglnelcmcimljaaGreat

namespace Go.Proofs.YtglnelcmcimljaaGreat
open Go
end Go.Proofs.YtglnelcmcimljaaGreat

namespace Go.Proofs.YtglnelcmcimljaaGreat
open Go
def H_slices_Equal_S_int_int : Hint := ⟨[(0, false), (1, false), (4, false), (5, false), (12, false), (13, false)], [[2, 3]]⟩
def K47_1 : C := .seq (.pl <| .e 6 0 <|
 .x 2 (.mv (.c (.bool true))) .done) (.ret)
@[simp] def W47_1 := C.w K47_1.eq_1
def K47_2 : C := .pl <| .e 6 1 <|
 .x 6 (.bin .add (.v 5) (.c (.int .i64 1))) <|
 .m 5 6 .done
@[simp] def W47_2 := C.w K47_2.eq_1
def K47_3 : C := .seq (.pl <| .e 6 0 <|
 .x 2 (.mv (.c (.bool false))) .done) (.ret)
@[simp] def W47_3 := C.w K47_3.eq_1
def K47_4 : C := .cond 6 (.v 14) K47_3 (.skip)
@[simp] def W47_4 := C.w K47_4.eq_1
def K47_5 : C := .seq (.pl <| .e 6 9 <|
 .m 6 0 <|
 .m 7 3 <|
 .x 8 (.ia 1 (.v 6) (.v 7)) <|
 .l 9 8 <|
 .m 10 1 <|
 .m 11 3 <|
 .x 12 (.ia 1 (.v 10) (.v 11)) <|
 .l 13 12 <|
 .x 14 (.bin .neq (.v 9) (.v 13)) .done) K47_4
@[simp] def W47_5 := C.w K47_5.eq_1
def K47_6 : C := .seq (.block 1 (.seq (.pl <| .e 6 1 <|
 .m 6 5 <|
 .m 3 6 .done) K47_5)) K47_2
@[simp] def W47_6 := C.w K47_6.eq_1
def K47_7 : C := .seq (.cond 6 (.v 6) (.skip) (.exit 0)) K47_6
@[simp] def W47_7 := C.w K47_7.eq_1
def K47_8 : C := .seq (.pl <| .e 6 1 <|
 .x 6 (.bin .lss (.v 5) (.v 4)) .done) K47_7
@[simp] def W47_8 := C.w K47_8.eq_1
def K47_9 : C := .block 0 (.loop 6 [2, 3] K47_8)
@[simp] def W47_9 := C.w K47_9.eq_1
def K47_10 : C := .seq (.seq (.pl <| .e 6 1 <|
 .m 6 0 <|
 .x 4 (.lenV (.v 6)) <|
 .x 5 (.mv (.c (.int .i64 0))) .done) K47_9) K47_1
@[simp] def W47_10 := C.w K47_10.eq_1
def K47_11 : C := .seq (.pl <| .e 6 0 <|
 .x 2 (.mv (.c (.bool false))) .done) (.ret)
@[simp] def W47_11 := C.w K47_11.eq_1
def K47_12 : C := .cond 6 (.v 10) K47_11 (.skip)
@[simp] def W47_12 := C.w K47_12.eq_1
def K47_13 : C := .seq (.seq (.pl <| .e 6 5 <|
 .m 6 0 <|
 .x 7 (.lenV (.v 6)) <|
 .m 8 1 <|
 .x 9 (.lenV (.v 8)) <|
 .x 10 (.bin .neq (.v 7) (.v 9)) .done) K47_12) K47_10
@[simp] def W47_13 := C.w K47_13.eq_1
def B_slices_Equal_S_int_int : C := .seq (.pl <| .e 6 0 <|
 .x 2 (.mv (.c (.bool false))) .done) K47_13
@[simp] def WB_slices_Equal_S_int_int := C.w B_slices_Equal_S_int_int.eq_1
def R_slices_Equal_S_int_int : FIR := ⟨B_slices_Equal_S_int_int, 6, [(2, none)]⟩
theorem IR_slices_Equal_S_int_int : cfun Tryz.prog H_slices_Equal_S_int_int Tryz.f47 = some R_slices_Equal_S_int_int := by kernel_rfl
theorem EN_slices_Equal_S_int_int : ENT Tryz.prog B_slices_Equal_S_int_int [(2, none)] 2 6 fn_slices_Equal_S_int_int := fun hargs hw => enter Tryz.func47 rfl IR_slices_Equal_S_int_int hargs hw
end Go.Proofs.YtglnelcmcimljaaGreat

namespace Go.Proofs.YtglnelcmcimljaaGreat
open Go Go.Shelf
end Go.Proofs.YtglnelcmcimljaaGreat

namespace Go.Proofs.YtglnelcmcimljaaGreat
open Go
theorem encI (l : List Int) : encL l = l.map (Value.int .i64) := by
  induction l with
  | nil => rfl
  | cons x l ih => rw [encL_cons, ih]; rfl
open Go.Sort in
theorem row_put {g g' : Heap} {Γ : List HP} {b off cap : Nat} {cells : List Value} {el : TypeId} {l d : List Int} {m n : Nat} {os : Array Obj} {w : World} (d1 : g' b = none) (H : HS g Γ g') (h1 : l.length ≤ cap ∧ l.length < 4611686018427387904) (h2 : off + cap ≤ cells.length)
    (hw : (g'.add (Heap.one b (.cells cells.toArray el (0, 0)))).sub w) (hd : d.length = l.length) (hm : m ≤ d.length) (hok : ∀ x ∈ d.take m, Flat.ok x) :
    ∃ h', HS g (ow (.slice (some ⟨b, off, none⟩) m cap) (d.take m) :: Γ) h' ∧ h'.sub (grow (putRow (Value.int .i64) (Sort.ahead w n) b off d.toArray) os) ∧ Frm (g'.add (Heap.one b (.cells cells.toArray el (0, 0)))) w h' (grow (putRow (Value.int .i64) (Sort.ahead w n) b off d.toArray) os) := by
  have hb : w.heap[b]? = some (.cells cells.toArray el (0, 0)) := hw b _ (by simp [Heap.add, Heap.one, d1])
  have hbs : b < w.heap.size := (Array.getElem?_eq_some_iff.1 hb).1
  have hold : ∀ x, x < w.heap.size → (grow (putRow (Value.int .i64) (Sort.ahead w n) b off d.toArray) os).heap[x]? = if x = b then some (.cells (putCells (Value.int .i64) off d.toArray cells.toArray) el (0, 0)) else w.heap[x]? := by
    intro x hx
    rw [heap_grow_old _ _ (by simpa [putRow, mapBlock, Sort.ahead] using hx)]
    simp only [putRow, mapBlock, Sort.ahead, Array.getElem?_modify]
    by_cases e : b = x
    · subst e; simp [hb, onCells]
    · simp [e, Ne.symm e]
  have hpt : (putCells (Value.int .i64) off d.toArray cells.toArray).toList.length = cells.length := by simp [putCells]
  refine ⟨g'.add (Heap.one b (.cells (putCells (Value.int .i64) off d.toArray cells.toArray).toList.toArray el (0, 0))), ⟨g', _, rfl, Dj_one.2 d1, ?_, H⟩, ?_, ?_⟩
  · have hlm : (d.take m).length = m := by simp; omega
    refine Own_list.2 (.inr ⟨b, off, cap, _, el, Heap.nil, by rw [hlm], ⟨by omega, by omega⟩, by rw [hpt]; show off + cap * 1 ≤ _; omega, by simp, rfl, ?_⟩)
    refine ownL_congr (ownL_enc hok) ?_
    rw [encI, hlm]
    show List.take (m * 1) _ = List.take (m * 1) _
    rw [List.take_of_length_le (l := List.map (Value.int .i64) (d.take m)) (by simp; omega)]
    apply List.ext_getElem?
    intro j
    by_cases hj : j < m
    · have hjd : j < d.length := by omega
      have hjc : off + j < cells.length := by omega
      have key : (putCells (Value.int .i64) off d.toArray cells.toArray).toList[off + j]? = some (.int .i64 d[j]) := by
        rw [Array.getElem?_toList, putCells, Array.getElem?_mapIdx]
        simp [hjc, hjd]
      rw [Nat.mul_one, List.getElem?_take_of_lt hj, List.getElem?_drop, key, List.getElem?_map, List.getElem?_take_of_lt hj, List.getElem?_eq_getElem hjd]
      rfl
    · have e1 : (List.map (Value.int .i64) (List.take m d))[j]? = none := List.getElem?_eq_none (by simp; omega)
      have e2 : (List.take (m * 1) (List.drop off (putCells (Value.int .i64) off d.toArray cells.toArray).toList))[j]? = none := List.getElem?_eq_none (by simp; omega)
      rw [e1, e2]
  · intro x o hx
    by_cases e : x = b
    · subst e
      rw [hold x hbs, if_pos rfl]
      simp only [Heap.add, Heap.one, d1, if_true] at hx
      simpa using hx
    · have hx2 : g' x = some o := by
        simp only [Heap.add, Heap.one, if_neg e] at hx
        cases hg : g' x with
        | none => rw [hg] at hx; simp at hx
        | some o' => rw [hg] at hx; simpa using hx
      have hwx : w.heap[x]? = some o := hw x o (by simp [Heap.add, Heap.one, e, hx2])
      have hxs : x < w.heap.size := (Array.getElem?_eq_some_iff.1 hwx).1
      rw [hold x hxs, if_neg e]; exact hwx
  · refine ⟨rfl, rfl, rfl, by simp [grow, putRow, mapBlock, Sort.ahead], fun x hx hn => ?_, fun x hx hn => ?_⟩
    · have e : x ≠ b := by
        intro e
        subst e
        simp [Heap.add, Heap.one, d1] at hn
      rw [hold x hx, if_neg e]
    · have e : x ≠ b := by
        intro e
        subst e
        simp [Heap.add, Heap.one, d1] at hn
      simp only [Heap.add, Heap.one, if_neg e] at hn ⊢
      exact hn
end Go.Proofs.YtglnelcmcimljaaGreat

namespace Go.Proofs.YtglnelcmcimljaaGreat
open Go
def zl (l : List Nat) : List Int := l.map fun (x : Nat) => (x : Int)
@[simp] theorem zl_len {l : List Nat} : (zl l).length = l.length := by simp [zl]
end Go.Proofs.YtglnelcmcimljaaGreat

namespace Go.Proofs.YtglnelcmcimljaaGreat
open Go
theorem c_l10Sorted {g h : Heap} {Γ : List HP} {v : Value} {l : List Int} {n y : Int} (H : HS g (ow v l :: Γ) h) (hl : incr n (-1) l) (hy : -1 < y ∧ y < n) (hn : n ≤ 1048576) : CallE Tryz.prog fn_spec_l10Sorted [v, .int .i64 y] h (fun u h' => ∃ l', HS g (ow u l' :: Γ) h' ∧ incr n (-1) l' ∧ ∀ x, x ∈ l' ↔ x ∈ l ∨ x = y) := by
  have hll := incr_len hl (by omega)
  have hp := (incr_iff.1 hl).1
  refine CallE.gen fun k hk => EN_spec_l10Sorted rfl ?_
  simp -implicitDefEqProofs (disch:=first|omega|(simp only[LnZ];omega))[wrap64]
  refine H.bls0 Int fun o h1 H => ?_
  simp -implicitDefEqProofs (disch:=first|omega|(simp only[LnZ];omega))[wrap64]
  refine wp_count l.length (fun i e h' => ∃ o dn, e = [some v, some (.int .i64 y), none, some o, some (.bool dn), some (.int .i64 i)] ∧ ∃ O : List Int, HS g (ow o O :: ow v l :: Γ) h' ∧ InsI l y i dn O) ⟨o, false, by simp, [], H, InsI.zero⟩ ?_
  clear H
  rintro J i _ h2 hJ hi ⟨o, dn, rfl, O, H, hI⟩
  have hol := hI.len
  simp -implicitDefEqProofs (disch:=first|omega|(simp only[LnZ];omega))[wrap64, H.sw1.rep.len]
  refine IteW.mk (fun hlt => ?_) (fun hge => ?_)
  · have hix : i < l.length := by omega
    have hxb := H.sw1.rep.okI hix
    by_cases h1 : l[i] = y
    · simp -implicitDefEqProofs (disch:=first|omega|(simp only[LnZ];omega))[wrap64, H.sw1.rep.I, h1]
      refine RetK.keep (hk _ _ ⟨l, H.drop, hl, fun x => ⟨.inl, fun hh => hh.elim id fun e => ?_⟩⟩)
      rw [e, ← h1]; exact List.getElem_mem hix
    by_cases h2 : y < l[i]
    · cases dn with
      | false =>
        simp -implicitDefEqProofs (disch:=first|omega|(simp only[LnZ];omega))[wrap64, H.sw1.rep.I, h1, h2]
        refine H.app1 y rfl rfl rfl ⟨by omega, by omega⟩ rfl rfl (by omega) (by omega) fun o1 h3 H => ?_
        simp -implicitDefEqProofs (disch:=first|omega|(simp only[LnZ];omega))[wrap64, H.sw1.rep.I]
        refine H.app1 l[i] rfl rfl rfl hxb rfl rfl (by simp; omega) (by simp; omega) fun o2 h4 H => ?_
        simp -implicitDefEqProofs (disch:=first|omega|(simp only[LnZ];omega))[wrap64]
        exact hJ _ _ hix ⟨o2, true, rfl, _, H, hI.big hp hix h2⟩
      | true =>
        simp -implicitDefEqProofs (disch:=first|omega|(simp only[LnZ];omega))[wrap64, H.sw1.rep.I, h1, h2]
        refine H.app1 l[i] rfl rfl rfl hxb rfl rfl (by omega) (by omega) fun o2 h4 H => ?_
        simp -implicitDefEqProofs (disch:=first|omega|(simp only[LnZ];omega))[wrap64]
        exact hJ _ _ hix ⟨o2, true, rfl, _, H, hI.more hix h1⟩
    · simp -implicitDefEqProofs (disch:=first|omega|(simp only[LnZ];omega))[wrap64, H.sw1.rep.I, h1, h2]
      refine H.app1 l[i] rfl rfl rfl hxb rfl rfl (by omega) (by omega) fun o2 h4 H => ?_
      simp -implicitDefEqProofs (disch:=first|omega|(simp only[LnZ];omega))[wrap64]
      refine hJ _ _ hix ⟨o2, dn, rfl, _, H, ?_⟩
      cases dn with
      | false => exact hI.small hix (by omega)
      | true => exact hI.more hix h1
  · obtain ⟨r1, r2⟩ := hI.result hl hy (by omega)
    cases dn with
    | false =>
      simp -implicitDefEqProofs (disch:=first|omega|(simp only[LnZ];omega))[wrap64]
      refine H.app1 y rfl rfl rfl ⟨by omega, by omega⟩ rfl rfl (by omega) (by omega) fun o1 h3 H => ?_
      simp -implicitDefEqProofs (disch:=first|omega|(simp only[LnZ];omega))[wrap64]
      exact RetK.keep (hk _ _ ⟨_, H.sw1.drop, r1, r2⟩)
    | true =>
      simp -implicitDefEqProofs (disch:=first|omega|(simp only[LnZ];omega))[wrap64]
      exact RetK.keep (hk _ _ ⟨_, H.sw1.drop, r1, r2⟩)
def R2 {α : Type} [Ty α] (b : Bool) (y : α) (h : Heap) (u : Value) (h' : Heap) : Prop := ∃ v, u = .tuple #[v, .bool b] ∧ HS h [ow v y] h'
end Go.Proofs.YtglnelcmcimljaaGreat

namespace Go.Proofs.YtglnelcmcimljaaGreat
open Go
end Go.Proofs.YtglnelcmcimljaaGreat

namespace Go.Proofs.YtglnelcmcimljaaGreat
open Go
end Go.Proofs.YtglnelcmcimljaaGreat

namespace Go.Proofs.YtglnelcmcimljaaGreat
open Go
theorem c_Equal_int {h : Heap} {a b : Value} {x y : List Int} (Ra : Rep h a x) (Rb : Rep h b y) : CallE Tryz.prog fn_slices_Equal_S_int_int [a, b] h (fun u h' => h' = h ∧ u = .bool (decide (x = y))) := by
  have hL := Ra.lt
  refine CallE.gen fun k hk => EN_slices_Equal_S_int_int rfl ?_
  by_cases hl : (x.length : Int) = y.length
  case neg =>
    simp -implicitDefEqProofs (disch:=first|omega|(simp only[LnZ];omega))[wrap64, Ra.len, Rb.len, hl]
    exact RetK.keep (hk _ _ ⟨rfl, by congr 1; rw [eq_comm, decide_eq_false_iff_not]; intro e; subst e; exact hl rfl⟩)
  simp -implicitDefEqProofs (disch:=first|omega|(simp only[LnZ];omega))[wrap64, Ra.len, Rb.len, hl]
  refine wp_count x.length (fun i e h' => e = [some a, some b, none, none, some (.int .i64 x.length), some (.int .i64 i)] ∧ h' = h ∧ x.take i = y.take i) ⟨by simp [hl], rfl, rfl⟩ ?_
  rintro J i _ h1 hJ hi ⟨rfl, rfl, hq⟩
  simp -implicitDefEqProofs (disch:=first|omega|(simp only[LnZ];omega))[wrap64]
  refine IteW.mk (fun hlt => ?_) (fun hge => ?_)
  · have hlx : i < x.length := by omega
    have hly : i < y.length := by omega
    by_cases he : x[i] = y[i]
    · simp -implicitDefEqProofs (disch:=first|omega|(simp only[LnZ];omega))[wrap64, Ra.I, Rb.I, he]
      exact hJ _ _ hlx ⟨rfl, rfl, take_step hq hlx hly he⟩
    · simp -implicitDefEqProofs (disch:=first|omega|(simp only[LnZ];omega))[wrap64, Ra.I, Rb.I, he]
      exact RetK.keep (hk _ _ ⟨rfl, by congr 1; rw [eq_comm, decide_eq_false_iff_not]; intro e; subst e; exact he rfl⟩)
  · simp -implicitDefEqProofs (disch:=first|omega|(simp only[LnZ];omega))[wrap64]
    rw [List.take_of_length_le (by omega), List.take_of_length_le (by omega)] at hq
    exact RetK.keep (hk _ _ ⟨rfl, by simp [hq]⟩)
end Go.Proofs.YtglnelcmcimljaaGreat

namespace Go.Proofs.YtglnelcmcimljaaGreat
open Go
def SimR (a : Aut) (M : List (List Bool)) : Prop := (¬ a.Ok ∧ M = []) ∨ (a.Ok ∧ M.length = a.acc.length ∧ (∀ r ∈ M, r.length = a.acc.length) ∧ Great a (matR M))
theorem SimR.fn {a : Aut} {M M' : List (List Bool)} (h : SimR a M) (h' : SimR a M') : M = M' := by
  rcases h with ⟨h1, rfl⟩ | ⟨h1, h2, h3, h4⟩
  · rcases h' with ⟨_, rfl⟩ | ⟨h5, _⟩
    · rfl
    · exact absurd h5 h1
  · rcases h' with ⟨h5, _⟩ | ⟨h5, h6, h7, h8⟩
    · exact absurd h1 h5
    refine List.ext_getElem (by omega) fun i hi hi' => ?_
    have g1 := h3 _ (List.getElem_mem hi)
    have g2 := h7 _ (List.getElem_mem hi')
    refine List.ext_getElem (by omega) fun j hj hj' => ?_
    rw [← matR_get hi hj, ← matR_get hi' hj']
    exact h4.eq h8 (by omega) (by omega)
theorem c_AcceptsV {h : Heap} {v w : Value} {a : Aut} {l : Las} (Ra : Rep h v a) (Rl : Rep h w l) (ha : a.Ok) : CallE Tryz.prog fn_impl_Accepts [v, w] h (fun u h' => h.le h' ∧ u = .tuple #[.bool (a.accB l), .bool (decide l.Ok)]) :=
  (c_Accepts Ra Rl).mono fun _ _ ⟨h1, h2⟩ => ⟨h1, by rw [h2, decide_eq_decide.2 (show a.Ok ∧ l.Ok ↔ l.Ok from ⟨fun hh => hh.2, fun hh => ⟨ha, hh⟩⟩)]⟩
end Go.Proofs.YtglnelcmcimljaaGreat

namespace Go.Proofs.YtglnelcmcimljaaGreat
open Go
namespace Bf
abbrev SP := List Int × List Int
def s1 (a : Int) (p : SP) (to : Int) : SP := if p.1.getD to.toNat 0 = -2 then (p.1.set to.toNat a, p.2 ++ [to]) else p
def sF (l : List Int) (a : Int) (p : SP) : SP := l.foldl (s1 a) p
def s0 (N : Nat) (S : List Int) : SP := (S.foldl (fun f s => f.set s.toNat (-1)) (List.replicate N (-2)), S)
def sN (next : List (List Int)) (S : List Int) : Nat → SP
  | 0 => s0 next.length S
  | n + 1 => if n < (sN next S n).2.length then sF (next.getD ((sN next S n).2.getD n 0).toNat []) ((sN next S n).2.getD n 0) (sN next S n) else sN next S n
theorem sF_snoc {l : List Int} {x a : Int} {p : SP} : sF (l ++ [x]) a p = s1 a (sF l a p) x := by simp [sF]
theorem sF_take {l : List Int} {a : Int} {p : SP} {m : Nat} (hm : m < l.length) : sF (l.take (m + 1)) a p = s1 a (sF (l.take m) a p) l[m] := by
  rw [List.take_add_one, List.getElem?_eq_getElem hm]
  exact sF_snoc
theorem set_getD {l : List Int} {k j : Nat} {a : Int} (hk : k < l.length) : (l.set k a).getD j 0 = if k = j then a else l.getD j 0 := by
  rw [List.getD_eq_getElem?_getD, List.getElem?_set]
  split
  · rename_i e; subst e; simp [hk]
  · rw [List.getD_eq_getElem?_getD]
theorem set_count {l : List Int} : ∀ {k : Nat} (hk : k < l.length) {a b : Int}, l[k] = a → a ≠ b → (l.set k b).count a + 1 = l.count a := by
  induction l with
  | nil => intro k hk; exact absurd hk (Nat.not_lt_zero k)
  | cons x l ih =>
    intro k hk a b h1 h2
    cases k with
    | zero =>
      simp only [List.getElem_cons_zero] at h1
      subst h1
      simp only [List.set_cons_zero, List.count_cons_self]
      rw [List.count_cons_of_ne (Ne.symm h2)]
    | succ k =>
      simp only [List.getElem_cons_succ] at h1
      have := ih (k := k) (by simpa using hk) h1 h2
      simp only [List.set_cons_succ, List.count_cons]
      omega
structure Le (p p' : SP) : Prop where
  keep : ∀ j : Nat, p.1.getD j 0 ≠ -2 → p'.1.getD j 0 = p.1.getD j 0
  pre : ∃ t, p'.2 = p.2 ++ t
theorem Le.refl {p : SP} : Le p p := ⟨fun _ _ => rfl, ⟨[], by simp⟩⟩
theorem Le.trans {p q r : SP} (h : Le p q) (h' : Le q r) : Le p r := by
  refine ⟨fun j hj => ?_, ?_⟩
  · have e := h.keep j hj
    rw [h'.keep j (by rw [e]; exact hj), e]
  · obtain ⟨t, e⟩ := h.pre
    obtain ⟨t', e'⟩ := h'.pre
    exact ⟨t ++ t', by rw [e', e, List.append_assoc]⟩
theorem Le.len {p q : SP} (h : Le p q) : p.2.length ≤ q.2.length := by
  obtain ⟨t, e⟩ := h.pre
  rw [e]; simp
theorem Le.at {p q : SP} (h : Le p q) {i : Nat} (hi : i < p.2.length) : q.2.getD i 0 = p.2.getD i 0 := by
  obtain ⟨t, e⟩ := h.pre
  rw [e, List.getD_eq_getElem?_getD, List.getD_eq_getElem?_getD, List.getElem?_append_left hi]
structure SI (N : Nat) (S : List Int) (Ed : Int → Int → Prop) (p : SP) : Prop where
  fl : p.1.length = N
  pre : ∃ t, p.2 = S ++ t
  inq : ∀ x ∈ p.2, 0 ≤ x ∧ x < N ∧ p.1.getD x.toNat 0 ≠ -2
  vis : ∀ j : Nat, j < N → p.1.getD j 0 ≠ -2 → (j : Int) ∈ p.2
  st : ∀ s ∈ S, p.1.getD s.toNat 0 = -1
  val : ∀ j : Nat, j < N → p.1.getD j 0 = -2 ∨ p.1.getD j 0 = -1 ∨ 0 ≤ p.1.getD j 0 ∧ p.1.getD j 0 < N
  par : ∀ q : Nat, S.length ≤ q → q < p.2.length → ∃ r : Nat, r < q ∧ p.1.getD (p.2.getD q 0).toNat 0 = p.2.getD r 0 ∧ Ed (p.2.getD r 0) (p.2.getD q 0)
  cnt : p.2.length + p.1.count (-2) = N
section
variable {N : Nat} {S : List Int} {Ed : Int → Int → Prop} {p : SP}
theorem SI.le (h : SI N S Ed p) : p.2.length ≤ N := by have := h.cnt; omega
theorem SI.at (h : SI N S Ed p) {i : Nat} (hi : i < p.2.length) : 0 ≤ p.2.getD i 0 ∧ p.2.getD i 0 < N ∧ p.1.getD (p.2.getD i 0).toNat 0 ≠ -2 := by
  have e : p.2.getD i 0 = p.2[i] := by simp [hi]
  rw [e]
  exact h.inq _ (List.getElem_mem hi)
theorem SI.start {n : Nat} (hS : incr n (-1) S) : SI n S Ed (s0 n S) := by
  have key : ∀ (T : List Int), (∀ x ∈ T, 0 ≤ x ∧ x < (n : Int)) → T.Pairwise (· < ·) → ∀ f : List Int, f.length = n → (∀ x ∈ T, f.getD x.toNat 0 = -2) →
      (T.foldl (fun f s => f.set s.toNat (-1)) f).length = n ∧ (∀ j : Nat, (T.foldl (fun f s => f.set s.toNat (-1)) f).getD j 0 = if (j : Int) ∈ T then -1 else f.getD j 0) ∧ T.length + (T.foldl (fun f s => f.set s.toNat (-1)) f).count (-2) = f.count (-2) := by
    intro T
    induction T with
    | nil => intro _ _ f hf _; exact ⟨hf, fun j => by simp, by simp⟩
    | cons x T ih =>
      intro h1 h2 f hf h3
      obtain ⟨h4, h5⟩ := List.pairwise_cons.1 h2
      have hx := h1 x (by simp)
      obtain ⟨k, rfl⟩ : ∃ k : Nat, x = k := ⟨x.toNat, by omega⟩
      have hk : k < f.length := by omega
      have hfk := h3 k (by simp)
      rw [Int.toNat_natCast] at hfk
      have hge : f[k] = -2 := by rw [← hfk]; simp [hk]
      obtain ⟨g1, g2, g3⟩ := ih (fun y hy => h1 y (by simp [hy])) h5 (f.set k (-1)) (by simpa using hf) (fun y hy => by
        have := h4 y hy
        rw [set_getD hk, if_neg (by omega)]
        exact h3 y (by simp [hy]))
      have hc := set_count hk hge (b := (-1 : Int)) (by decide)
      refine ⟨g1, fun j => ?_, ?_⟩
      · show (T.foldl _ (f.set ((k : Int)).toNat (-1))).getD j 0 = _
        rw [Int.toNat_natCast, g2 j, set_getD hk]
        by_cases e1 : (j : Int) ∈ T
        · simp [e1]
        · by_cases e2 : k = j
          · subst e2; simp
          · rw [if_neg e1, if_neg e2, if_neg]
            intro hm
            rcases List.mem_cons.1 hm with hm | hm
            · omega
            · exact e1 hm
      · show (T.length + 1) + (T.foldl _ (f.set ((k : Int)).toNat (-1))).count (-2) = _
        rw [Int.toNat_natCast]
        omega
  have hb : ∀ x ∈ S, 0 ≤ x ∧ x < (n : Int) := fun x hx => by have := incr_mem hS x hx; omega
  have hp := (incr_iff.1 hS).1
  obtain ⟨g1, g2, g3⟩ := key S hb hp (List.replicate n (-2)) (by simp) (fun x hx => by
    have := hb x hx
    simp [show x.toNat < n by omega])
  have hrep : ∀ j, j < n → (List.replicate n (-2 : Int)).getD j 0 = -2 := fun j hj => by simp [hj]
  refine ⟨g1, ⟨[], by simp [s0]⟩, ?_, ?_, ?_, ?_, ?_, ?_⟩
  · intro x hx
    have h1 := hb x hx
    refine ⟨h1.1, h1.2, ?_⟩
    show (S.foldl (fun f s => f.set s.toNat (-1)) (List.replicate n (-2))).getD x.toNat 0 ≠ -2
    rw [g2, if_pos (by rw [Int.toNat_of_nonneg h1.1]; exact hx)]
    decide
  · intro j hj h1
    show (j : Int) ∈ S
    have h2 : (S.foldl (fun f s => f.set s.toNat (-1)) (List.replicate n (-2))).getD j 0 ≠ -2 := h1
    rw [g2] at h2
    by_cases e : (j : Int) ∈ S
    · exact e
    · rw [if_neg e, hrep j hj] at h2
      exact absurd rfl h2
  · intro s hs
    have h1 := hb s hs
    show (S.foldl (fun f s => f.set s.toNat (-1)) (List.replicate n (-2))).getD s.toNat 0 = -1
    rw [g2, if_pos (by rw [Int.toNat_of_nonneg h1.1]; exact hs)]
  · intro j hj
    show (S.foldl (fun f s => f.set s.toNat (-1)) (List.replicate n (-2))).getD j 0 = -2 ∨ (S.foldl (fun f s => f.set s.toNat (-1)) (List.replicate n (-2))).getD j 0 = -1 ∨ _
    rw [g2, hrep j hj]
    by_cases e : (j : Int) ∈ S
    · simp [e]
    · simp [e]
  · intro q h1 h2
    have h3 : q < S.length := h2
    omega
  · show S.length + (S.foldl (fun f s => f.set s.toNat (-1)) (List.replicate n (-2))).count (-2) = n
    rw [g3, List.count_replicate_self]
theorem SI.step (h : SI N S Ed p) {i : Nat} (hi : i < p.2.length) {to : Int} (h0 : 0 ≤ to) (h1 : to < N) (he : Ed (p.2.getD i 0) to) : SI N S Ed (s1 (p.2.getD i 0) p to) ∧ Le p (s1 (p.2.getD i 0) p to) ∧ (s1 (p.2.getD i 0) p to).1.getD to.toNat 0 ≠ -2 := by
  obtain ⟨a, ha⟩ : ∃ a, a = p.2.getD i 0 := ⟨_, rfl⟩
  have hat := h.at hi
  rw [← ha] at hat he ⊢
  unfold s1
  split
  case isFalse e => exact ⟨h, Le.refl, e⟩
  rename_i e
  obtain ⟨k, rfl⟩ : ∃ k : Nat, to = k := ⟨to.toNat, (Int.toNat_of_nonneg h0).symm⟩
  simp only [Int.toNat_natCast] at e ⊢
  have hkN : k < p.1.length := by rw [h.fl]; omega
  have hkq : (k : Int) ∉ p.2 := fun hm => by
    have := (h.inq _ hm).2.2
    rw [Int.toNat_natCast] at this
    exact this e
  have hge : p.1[k] = -2 := by rw [← e]; simp [hkN]
  obtain ⟨tp, hpre⟩ := h.pre
  refine ⟨⟨by simp [h.fl], ⟨tp ++ [(k : Int)], by rw [hpre, List.append_assoc]⟩, ?_, ?_, ?_, ?_, ?_, ?_⟩, ⟨fun j hj => ?_, ⟨_, rfl⟩⟩, ?_⟩
  · intro x hx
    simp only [List.mem_append, List.mem_singleton] at hx
    simp only [set_getD hkN]
    rcases hx with hx | rfl
    · have := h.inq x hx
      refine ⟨this.1, this.2.1, ?_⟩
      split
      · omega
      · exact this.2.2
    · refine ⟨by omega, by omega, ?_⟩
      simp; omega
  · intro j hj h2
    simp only [set_getD hkN] at h2
    simp only [List.mem_append, List.mem_singleton]
    split at h2
    · rename_i e2; right; omega
    · exact .inl (h.vis j hj h2)
  · intro s hs
    simp only [set_getD hkN]
    rw [if_neg]
    · exact h.st s hs
    · intro e2
      refine hkq ?_
      rw [hpre]
      have := (h.inq s (by rw [hpre]; simp [hs])).1
      have e3 : (k : Int) = s := by omega
      rw [e3]; simp [hs]
  · intro j hj
    simp only [set_getD hkN]
    split
    · right; right; omega
    · exact h.val j hj
  · intro q h2 h3
    simp only [List.length_append, List.length_singleton] at h3
    by_cases hq : q < p.2.length
    · obtain ⟨r, hr, e2, e5⟩ := h.par q h2 hq
      have e3 : (p.2 ++ [(k : Int)]).getD q 0 = p.2.getD q 0 := by rw [List.getD_eq_getElem?_getD, List.getElem?_append_left hq, List.getD_eq_getElem?_getD]
      have e4 : (p.2 ++ [(k : Int)]).getD r 0 = p.2.getD r 0 := by rw [List.getD_eq_getElem?_getD, List.getElem?_append_left (by omega), List.getD_eq_getElem?_getD]
      refine ⟨r, hr, ?_⟩
      simp only [e3, e4, set_getD hkN]
      have := h.at hq
      rw [if_neg (fun e5 => hkq (by
        have e6 : p.2.getD q 0 = p.2[q] := by simp [hq]
        have e7 : (k : Int) = p.2[q] := by rw [← e6]; omega
        rw [e7]; exact List.getElem_mem hq))]
      exact ⟨e2, e5⟩
    · have hq2 : q = p.2.length := by omega
      subst hq2
      refine ⟨i, hi, ?_⟩
      have e3 : (p.2 ++ [(k : Int)]).getD p.2.length 0 = k := by simp
      have e4 : (p.2 ++ [(k : Int)]).getD i 0 = a := by rw [List.getD_eq_getElem?_getD, List.getElem?_append_left hi, ← List.getD_eq_getElem?_getD, ha]
      simp only [e3, e4, set_getD hkN, Int.toNat_natCast, if_pos]
      exact ⟨trivial, he⟩
  · have h2 := h.cnt
    have h3 := set_count hkN hge (b := a) (by omega)
    simp only [List.length_append, List.length_singleton]
    omega
  · simp only [set_getD hkN]
    rw [if_neg]
    rintro rfl
    exact hj e
  · simp only [set_getD hkN, if_pos]
    omega
theorem SI.fold {i : Nat} : ∀ {l : List Int} {p : SP}, SI N S Ed p → i < p.2.length → (∀ x ∈ l, 0 ≤ x ∧ x < N ∧ Ed (p.2.getD i 0) x) → SI N S Ed (sF l (p.2.getD i 0) p) ∧ Le p (sF l (p.2.getD i 0) p) ∧ ∀ x ∈ l, (sF l (p.2.getD i 0) p).1.getD x.toNat 0 ≠ -2
  | [], p, h, _, _ => ⟨h, Le.refl, fun x hx => absurd hx (by simp)⟩
  | y :: l, p, h, hi, hl => by
    have hy := hl y (by simp)
    obtain ⟨h1, h2, h3⟩ := h.step hi hy.1 hy.2.1 hy.2.2
    have hi' : i < (s1 (p.2.getD i 0) p y).2.length := by have := h2.len; omega
    have ih := SI.fold (l := l) h1 hi' (fun x hx => by rw [h2.at hi]; exact hl x (by simp [hx]))
    rw [h2.at hi] at ih
    obtain ⟨g1, g2, g3⟩ := ih
    refine ⟨g1, h2.trans g2, fun x hx => ?_⟩
    rcases List.mem_cons.1 hx with rfl | hx
    · have := g2.keep _ h3
      show (sF l _ _).1.getD _ _ ≠ _
      rw [this]; exact h3
    · exact g3 x hx
end
structure NOk (next : List (List Int)) : Prop where
  ent : ∀ l ∈ next, ∀ x ∈ l, 0 ≤ x ∧ x < next.length
def Ed (next : List (List Int)) (x y : Int) : Prop := 0 ≤ x ∧ x < next.length ∧ y ∈ next.getD x.toNat []
section
variable {next : List (List Int)} {S : List Int}
theorem row_mem {k : Nat} (hk : k < next.length) : next.getD k [] ∈ next := by
  rw [List.getD_eq_getElem?_getD, List.getElem?_eq_getElem hk]
  exact List.getElem_mem hk
theorem NOk.row (hn : NOk next) {p : SP} (h : SI next.length S (Ed next) p) {i : Nat} (hi : i < p.2.length) : ∀ x ∈ next.getD (p.2.getD i 0).toNat [], 0 ≤ x ∧ x < next.length ∧ Ed next (p.2.getD i 0) x := by
  intro x hx
  have hat := h.at hi
  have h1 := hn.ent _ (row_mem (k := (p.2.getD i 0).toNat) (by omega)) x hx
  exact ⟨h1.1, h1.2, hat.1, hat.2.1, hx⟩
theorem sN_inv (hn : NOk next) (hS : incr next.length (-1) S) : ∀ n, SI next.length S (Ed next) (sN next S n) ∧ ∀ q : Nat, q < n → q < (sN next S n).2.length → ∀ x ∈ next.getD ((sN next S n).2.getD q 0).toNat [], (sN next S n).1.getD x.toNat 0 ≠ -2
  | 0 => ⟨SI.start hS, fun q hq => absurd hq (Nat.not_lt_zero q)⟩
  | n + 1 => by
    obtain ⟨h1, h2⟩ := sN_inv hn hS n
    rw [sN]
    split
    case isFalse hlt => exact ⟨h1, fun q hq hq2 => h2 q (by omega) hq2⟩
    rename_i hlt
    obtain ⟨f1, f2, f3⟩ := h1.fold hlt (hn.row h1 hlt)
    refine ⟨f1, fun q hq hq2 x hx => ?_⟩
    by_cases e : q = n
    · subst e
      rw [f2.at hlt] at hx
      exact f3 x hx
    · by_cases hq3 : q < (sN next S n).2.length
      · rw [f2.at hq3] at hx
        have := h2 q (by omega) hq3 x hx
        rw [f2.keep _ this]
        exact this
      · omega
theorem sN_succ {n : Nat} (h : n < (sN next S n).2.length) : sN next S (n + 1) = sF (next.getD ((sN next S n).2.getD n 0).toNat []) ((sN next S n).2.getD n 0) (sN next S n) := by
  rw [sN, if_pos h]
theorem sN_stop {n : Nat} (h : (sN next S n).2.length ≤ n) : sN next S (n + 1) = sN next S n := by
  rw [sN, if_neg (by omega)]
theorem sN_le (hn : NOk next) (hS : incr next.length (-1) S) {n m : Nat} (h : n ≤ m) : Le (sN next S n) (sN next S m) := by
  induction m with
  | zero => have : n = 0 := by omega
            subst this; exact Le.refl
  | succ m ih =>
    by_cases e : n = m + 1
    · subst e; exact Le.refl
    refine (ih (by omega)).trans ?_
    have hi := (sN_inv hn hS m).1
    by_cases hlt : m < (sN next S m).2.length
    · rw [sN_succ hlt]
      exact (hi.fold hlt (hn.row hi hlt)).2.1
    · rw [sN_stop (by omega)]; exact Le.refl
theorem sN_fix {n m : Nat} (h : (sN next S n).2.length ≤ n) (hm : n ≤ m) : sN next S m = sN next S n := by
  induction m with
  | zero => have : n = 0 := by omega
            subst this; rfl
  | succ m ih =>
    by_cases e : n = m + 1
    · subst e; rfl
    have := ih (by omega)
    rw [sN_stop (by rw [this]; omega), this]
def fin (next : List (List Int)) (S : List Int) : SP := sN next S next.length
theorem fin_eq (hn : NOk next) (hS : incr next.length (-1) S) {n : Nat} (h : (sN next S n).2.length ≤ n) : sN next S n = fin next S := by
  have hN := (sN_inv hn hS next.length).1.le
  unfold fin
  by_cases e : n ≤ next.length
  · exact (sN_fix h e).symm
  · exact sN_fix hN (by omega)
theorem sN_fin (hn : NOk next) (hS : incr next.length (-1) S) (n : Nat) : Le (sN next S n) (fin next S) := by
  by_cases e : n ≤ next.length
  · exact sN_le hn hS e
  · have := sN_fix (sN_inv hn hS next.length).1.le (show next.length ≤ n by omega)
    unfold fin
    rw [this]; exact Le.refl
theorem fin_mem (hn : NOk next) (hS : incr next.length (-1) S) {E : Nat → Nat → Prop} (hE : ∀ x y : Nat, E x y ↔ x < next.length ∧ (y : Int) ∈ next.getD x []) {t : Nat} : (t : Int) ∈ (fin next S).2 ↔ ∃ s : Nat, (s : Int) ∈ S ∧ Rch E s t := by
  obtain ⟨h1, h2⟩ := sN_inv hn hS next.length
  have hle := h1.le
  unfold fin
  generalize sN next S next.length = p at *
  obtain ⟨tp, hpre⟩ := h1.pre
  constructor
  · intro ht
    have : ∀ q, q < p.2.length → ∃ s : Nat, (s : Int) ∈ S ∧ Rch E s (p.2.getD q 0).toNat := by
      intro q
      induction q using Nat.strongRecOn with
      | _ q ih =>
        intro hq
        have hat := h1.at hq
        by_cases e : q < S.length
        · refine ⟨(p.2.getD q 0).toNat, ?_, .refl _⟩
          rw [Int.toNat_of_nonneg hat.1, hpre, List.getD_eq_getElem?_getD, List.getElem?_append_left e, List.getElem?_eq_getElem e]
          exact List.getElem_mem e
        · obtain ⟨r, hr, _, e2, e3, e4⟩ := h1.par q (by omega) hq
          obtain ⟨s, g1, g2⟩ := ih r hr (by omega)
          refine ⟨s, g1, g2.snoc ((hE _ _).2 ⟨by omega, ?_⟩)⟩
          rw [Int.toNat_of_nonneg hat.1]
          exact e4
    obtain ⟨q, hq, e⟩ := List.mem_iff_getElem.1 ht
    obtain ⟨s, g1, g2⟩ := this q hq
    have e2 : p.2.getD q 0 = p.2[q] := by simp [hq]
    rw [e2, e, Int.toNat_natCast] at g2
    exact ⟨s, g1, g2⟩
  · rintro ⟨s, hs, hr⟩
    refine hr.closed (C := fun x => (x : Int) ∈ p.2) ?_ (by rw [hpre]; simp [hs])
    intro x y hx hxy
    obtain ⟨g1, g2⟩ := (hE x y).1 hxy
    obtain ⟨q, hq, e⟩ := List.mem_iff_getElem.1 hx
    have e2 : p.2.getD q 0 = p.2[q] := by simp [hq]
    have h3 := h2 q (by omega) hq y (by rw [e2, e, Int.toNat_natCast]; exact g2)
    have h4 := hn.ent _ (row_mem g1) _ g2
    rw [Int.toNat_natCast] at h3
    exact h1.vis y (by omega) h3
end
inductive Chn (f : List Int) : Int → List Int → Prop where
  | z : Chn f (-1) []
  | s {a : Int} {l : List Int} : 0 ≤ a → a < f.length → Chn f (f.getD a.toNat 0) l → Chn f a (l ++ [a])
theorem Chn.neg {f : List Int} {l : List Int} (h : Chn f (-1) l) : l = [] := by
  generalize hx : (-1 : Int) = x at h
  cases h with
  | z => rfl
  | s h0 _ _ => omega
theorem Chn.un {f : List Int} {a : Int} {l : List Int} (h : Chn f a l) (h0 : 0 ≤ a) : ∃ l', l = l' ++ [a] ∧ a < f.length ∧ Chn f (f.getD a.toNat 0) l' := by
  cases h with
  | z => omega
  | s h1 h2 h3 => exact ⟨_, rfl, h2, h3⟩
theorem Chn.ge {f : List Int} {a : Int} {l : List Int} (h : Chn f a l) : -1 ≤ a := by
  cases h with
  | z => decide
  | s h1 _ _ => omega
theorem Chn.det {f : List Int} {a : Int} {l : List Int} (h : Chn f a l) : ∀ {l'}, Chn f a l' → l = l' := by
  induction h with
  | z => exact fun h' => h'.neg.symm
  | s h1 h2 h3 ih =>
    intro l' h'
    obtain ⟨l2, rfl, _, h4⟩ := h'.un h1
    rw [ih h4]
theorem Chn.le {p p' : SP} (hb : Le p p') (hl : p.1.length = p'.1.length) {a : Int} {l : List Int} (h : Chn p.1 a l) : Chn p'.1 a l := by
  induction h with
  | z => exact .z
  | s h1 h2 h3 ih =>
    refine .s h1 (by omega) ?_
    have := h3.ge
    rw [hb.keep _ (by omega)]
    exact ih
theorem Chn.all {f : List Int} {a : Int} {l : List Int} (h : Chn f a l) : ∀ x ∈ l, 0 ≤ x ∧ x < f.length := by
  induction h with
  | z => simp
  | s h1 h2 h3 ih =>
    intro x hx
    simp only [List.mem_append, List.mem_singleton] at hx
    rcases hx with hx | rfl
    · exact ih x hx
    · exact ⟨h1, h2⟩
inductive Pth (S : List Int) (Ed : Int → Int → Prop) : Int → List Int → Prop
  | one {s : Int} (h : s ∈ S) : Pth S Ed s [s]
  | snoc {x y : Int} {l : List Int} (h : Pth S Ed x l) (e : Ed x y) : Pth S Ed y (l ++ [y])
theorem SI.chn {N : Nat} {S : List Int} {Ed : Int → Int → Prop} {p : SP} (h : SI N S Ed p) : ∀ (q : Nat), q < p.2.length → ∃ l, Chn p.1 (p.2.getD q 0) l ∧ l.length ≤ q + 1 ∧ Pth S Ed (p.2.getD q 0) l := by
  intro q
  induction q using Nat.strongRecOn with
  | _ q ih =>
    intro hq
    have hat := h.at hq
    obtain ⟨tp, hpre⟩ := h.pre
    by_cases e : q < S.length
    · have hm : p.2.getD q 0 ∈ S := by
        rw [hpre, List.getD_eq_getElem?_getD, List.getElem?_append_left e, List.getElem?_eq_getElem e]
        exact List.getElem_mem e
      refine ⟨[] ++ [p.2.getD q 0], .s hat.1 (by rw [h.fl]; exact hat.2.1) ?_, by simp, .one hm⟩
      rw [h.st _ hm]
      exact .z
    · obtain ⟨r, hr, e1, e2⟩ := h.par q (by omega) hq
      obtain ⟨l, h1, h2, h3⟩ := ih r hr (by omega)
      exact ⟨l ++ [p.2.getD q 0], .s hat.1 (by rw [h.fl]; exact hat.2.1) (by rw [e1]; exact h1), by simp; omega, .snoc h3 e2⟩
noncomputable def path (next : List (List Int)) (S : List Int) (a : Int) : List Int := open Classical in if h : ∃ l, Chn (fin next S).1 a l then h.choose else []
theorem path_eq {next : List (List Int)} {S : List Int} (hn : NOk next) (hS : incr next.length (-1) S) {n : Nat} {a : Int} {l : List Int} (h : Chn (sN next S n).1 a l) : path next S a = l := by
  have h2 := h.le (sN_fin hn hS n) (by rw [(sN_inv hn hS n).1.fl]; exact (sN_inv hn hS next.length).1.fl.symm)
  unfold path
  rw [dif_pos ⟨l, h2⟩]
  exact (Exists.choose_spec (⟨l, h2⟩ : ∃ l, Chn (fin next S).1 a l)).det h2
theorem path_ok {next : List (List Int)} {S : List Int} (hn : NOk next) (hS : incr next.length (-1) S) {a : Int} (ha : a ∈ (fin next S).2) : Chn (fin next S).1 a (path next S a) ∧ (path next S a).length ≤ next.length ∧ Pth S (Ed next) a (path next S a) := by
  have h1 := (sN_inv hn hS next.length).1
  obtain ⟨q, hq, e⟩ := List.mem_iff_getElem.1 ha
  obtain ⟨l, g1, g2, g3⟩ := h1.chn q hq
  have e2 : (sN next S next.length).2.getD q 0 = a := by
    have e3 : (fin next S).2.getD q 0 = a := by
      rw [List.getD_eq_getElem?_getD, List.getElem?_eq_getElem hq]
      exact e
    exact e3
  rw [e2] at g1 g3
  have := path_eq hn hS g1
  have hle := h1.le
  have hq' : q < (sN next S next.length).2.length := hq
  rw [this]
  exact ⟨g1, by omega, g3⟩
theorem fst_hit {next : List (List Int)} {S : List Int} (hn : NOk next) (hS : incr next.length (-1) S) {g : Int → Bool} {i : Nat} (hi : i < (sN next S i).2.length) (h : g ((sN next S i).2.getD i 0) = true) (hno : ∀ j, j < i → g ((sN next S i).2.getD j 0) = false) : (fin next S).2.find? g = some ((sN next S i).2.getD i 0) := by
  have hle := sN_fin hn hS i
  obtain ⟨t, e⟩ := hle.pre
  rw [List.find?_eq_some_iff_getElem]
  refine ⟨h, i, by rw [e]; simp; omega, ?_, ?_⟩
  · simp only [e]
    rw [List.getElem_append_left hi]
    simp [hi]
  · intro j hj
    simp only [e]
    rw [List.getElem_append_left (by omega)]
    have := hno j hj
    rw [List.getD_eq_getElem?_getD, List.getElem?_eq_getElem (by omega)] at this
    simpa using this
theorem no_hit {next : List (List Int)} {S : List Int} (hn : NOk next) (hS : incr next.length (-1) S) {g : Int → Bool} {i : Nat} (hi : (sN next S i).2.length ≤ i) (hno : ∀ j, j < i → j < (sN next S i).2.length → g ((sN next S i).2.getD j 0) = false) : (fin next S).2.find? g = none := by
  rw [← fin_eq hn hS hi, List.find?_eq_none]
  intro x hx
  obtain ⟨j, hj, rfl⟩ := List.mem_iff_getElem.1 hx
  have := hno j (by omega) hj
  rw [List.getD_eq_getElem?_getD, List.getElem?_eq_getElem hj] at this
  simpa using this
end Bf
end Go.Proofs.YtglnelcmcimljaaGreat

namespace Go.Proofs.YtglnelcmcimljaaGreat
open Go
section
variable {l : Las}
theorem Las.pos_stem {t : Nat} (h : t < l.size) : l.pos t = t := by
  induction t with
  | zero => rfl
  | succ t ih =>
    rw [Las.pos, ih (by omega), Las.nx, if_neg (by omega)]
theorem mod_succ {j L : Nat} (hL : 0 < L) : (j + 1) % L = if j % L + 1 = L then 0 else j % L + 1 := by
  have h := Nat.mod_lt j hL
  rw [← Nat.mod_add_mod]
  split
  · rename_i e; rw [e, Nat.mod_self]
  · exact Nat.mod_eq_of_lt (by omega)
theorem Las.pos_loop (hl : 1 ≤ l.loop.length) : ∀ j : Nat, l.pos (l.stem.length + j) = l.stem.length + j % l.loop.length
  | 0 => by
    rw [Nat.zero_mod, Nat.add_zero]
    exact Las.pos_stem (by unfold Las.size; omega)
  | j + 1 => by
    have ih := Las.pos_loop hl j
    have h := Nat.mod_lt j (show 0 < l.loop.length by omega)
    rw [← Nat.add_assoc, Las.pos, ih, Las.nx, mod_succ (by omega)]
    unfold Las.size
    by_cases e : j % l.loop.length + 1 = l.loop.length
    · rw [if_pos (by omega), if_pos e]; rfl
    · rw [if_neg (by omega), if_neg e]; omega
theorem Las.word_stem {t : Nat} (h : t < l.stem.length) : l.word t = l.stem[t] := by
  unfold Las.word
  rw [Las.pos_stem (by unfold Las.size; omega)]
  unfold Las.all
  rw [List.getD_eq_getElem?_getD, List.getElem?_append_left h, List.getElem?_eq_getElem h]
  rfl
theorem Las.word_loop (hl : 1 ≤ l.loop.length) (j : Nat) : l.word (l.stem.length + j) = l.loop[j % l.loop.length]'(Nat.mod_lt _ (by omega)) := by
  have h := Nat.mod_lt j (show 0 < l.loop.length by omega)
  unfold Las.word
  rw [Las.pos_loop hl]
  unfold Las.all
  rw [List.getD_eq_getElem?_getD, List.getElem?_append_right (by omega), Nat.add_sub_cancel_left, List.getElem?_eq_getElem h]
  rfl
end
inductive LP (E : List Tr) : Nat → List Int → Nat → Prop
  | nil (p : Nat) : LP E p [] p
  | cons {p q r : Nat} {x : Int} {xs : List Int} (h : ∃ e ∈ E, e.frm = p ∧ e.to = q ∧ e.on x = true) (k : LP E q xs r) : LP E p (x :: xs) r
section
variable {E : List Tr}
theorem LP.append {p q r : Nat} {xs ys : List Int} (h : LP E p xs q) (k : LP E q ys r) : LP E p (xs ++ ys) r := by
  induction h with
  | nil => exact k
  | cons h _ ih => exact .cons h (ih k)
theorem LP.fr {w : Nat → Int} {p q : Nat} {xs : List Int} (h : LP E p xs q) : ∀ {t : Nat}, (∀ i (hi : i < xs.length), w (t + i) = xs[i]) → FR E w t p (t + xs.length) q := by
  induction h with
  | nil => intro t _; exact .refl _ _
  | cons h k ih =>
    rename_i x xs
    intro t hw
    have h1 := ih (t := t + 1) (fun i hi => by
      have := hw (i + 1) (by simpa using hi)
      rw [show t + (i + 1) = t + 1 + i by omega] at this
      simpa using this)
    obtain ⟨e, he, h2, h3, h4⟩ := h
    have h5 := hw 0 (by simp)
    simp only [Nat.add_zero, List.getElem_cons_zero] at h5
    rw [List.length_cons, show t + (xs.length + 1) = t + 1 + xs.length by omega]
    exact .step ⟨e, he, h2, h3, by rw [h5]; exact h4⟩ h1
end
theorem lasso_lang {a : Aut} {l : Las} (hl : 1 ≤ l.loop.length) {s x : Nat} (hs : (s : Int) ∈ a.init) (h1 : LP a.edges s l.stem x) (h2 : LP a.edges x l.loop x) (hx : tru a.acc x) : a.Lang l.word := by
  have f1 := h1.fr (w := l.word) (t := 0) (fun i hi => by rw [Nat.zero_add]; exact Las.word_stem hi)
  rw [Nat.zero_add] at f1
  refine ⟨s, hs, Run.before f1 ⟨fun t p => p = x ∧ ∃ k, t = l.stem.length + k * l.loop.length, ⟨rfl, 0, by omega⟩, ?_⟩⟩
  rintro t p ⟨rfl, k, rfl⟩
  refine ⟨l.stem.length + k * l.loop.length + l.loop.length, p, by omega, h2.fr (fun i hi => ?_), hx, rfl, k + 1, by rw [Nat.add_mul]; omega⟩
  rw [Nat.add_assoc, Las.word_loop hl]
  congr 1
  rw [Nat.mul_add_mod', Nat.mod_eq_of_lt hi]
namespace Bf
def row (a : Aut) (q : Int) (k : Nat) : List Int := ((a.edges.take k).filter fun e => decide (e.frm = q)).map Tr.to
def NX (a : Aut) (k : Nat) : List (List Int) := (List.range a.acc.length).map fun (q : Nat) => row a q k
def nx (a : Aut) : List (List Int) := NX a a.edges.length
section
variable {a : Aut}
theorem NX_len {k : Nat} : (NX a k).length = a.acc.length := by simp [NX]
theorem nx_len : (nx a).length = a.acc.length := NX_len
theorem NX_at {k q : Nat} (hq : q < a.acc.length) : (NX a k)[q]'(by rw [NX_len]; exact hq) = row a q k := by simp [NX]
theorem nx_getD {q : Nat} (hq : q < a.acc.length) : (nx a).getD q [] = row a q a.edges.length := by
  rw [List.getD_eq_getElem?_getD, List.getElem?_eq_getElem (by rw [nx_len]; exact hq)]
  exact NX_at hq
theorem row_succ {q : Int} {k : Nat} (hk : k < a.edges.length) : row a q (k + 1) = if a.edges[k].frm = q then row a q k ++ [a.edges[k].to] else row a q k := by
  unfold row
  rw [List.take_add_one, List.getElem?_eq_getElem hk, List.filter_append, List.map_append]
  by_cases e : a.edges[k].frm = q
  · simp [e]
  · simp [e]
theorem row_len {q : Int} {k : Nat} : (row a q k).length ≤ k := by
  unfold row
  rw [List.length_map]
  have := List.length_filter_le (fun e => decide (e.frm = q)) (a.edges.take k)
  rw [List.length_take] at this
  omega
theorem NX_zero : NX a 0 = List.replicate a.acc.length [] := by
  refine List.ext_getElem (by simp [NX]) fun i h1 h2 => ?_
  simp [NX, row]
theorem NX_succ {k f : Nat} (hk : k < a.edges.length) (hf : a.edges[k].frm = f) (hfn : f < a.acc.length) : NX a (k + 1) = (NX a k).set f ((NX a k)[f]'(by rw [NX_len]; exact hfn) ++ [a.edges[k].to]) := by
  refine List.ext_getElem (by simp [NX]) fun i h1 h2 => ?_
  rw [NX_len] at h1
  have e1 : (NX a (k + 1))[i]'(by rw [NX_len]; exact h1) = row a i (k + 1) := NX_at h1
  have e2 : (NX a k)[i]'(by rw [NX_len]; exact h1) = row a i k := NX_at h1
  have e3 : (NX a k)[f]'(by rw [NX_len]; exact hfn) = row a f k := NX_at hfn
  refine e1.trans ?_
  rw [List.getElem_set, row_succ hk, hf]
  by_cases e : f = i
  · subst e; rw [if_pos rfl, if_pos rfl, e3]
  · rw [if_neg e, if_neg (by omega), e2]
theorem row_mem' {q x : Int} : x ∈ row a q a.edges.length ↔ ∃ e ∈ a.edges, e.frm = q ∧ e.to = x := by
  unfold row
  rw [List.take_length, List.mem_map]
  constructor
  · rintro ⟨e, he, rfl⟩
    obtain ⟨h1, h2⟩ := List.mem_filter.1 he
    exact ⟨e, h1, by simpa using h2, rfl⟩
  · rintro ⟨e, he, h1, rfl⟩
    exact ⟨e, List.mem_filter.2 ⟨he, by simpa using h1⟩, rfl⟩
theorem nx_E (ha : a.Ok) (x y : Nat) : a.E x y ↔ x < (nx a).length ∧ (y : Int) ∈ (nx a).getD x [] := by
  rw [nx_len]
  constructor
  · rintro ⟨e, he, h1, h2⟩
    have := (Aut.E_lt ha x y ⟨e, he, h1, h2⟩).1
    exact ⟨this, by rw [nx_getD this, row_mem']; exact ⟨e, he, h1, h2⟩⟩
  · rintro ⟨h1, h2⟩
    rw [nx_getD h1, row_mem'] at h2
    exact h2
theorem nx_ok (ha : a.Ok) : NOk (nx a) := by
  refine ⟨fun l hl x hx => ?_⟩
  obtain ⟨q, hq, rfl⟩ := List.mem_iff_getElem.1 hl
  rw [nx_len] at hq ⊢
  have h1 : x ∈ row a q a.edges.length := by rw [← NX_at hq]; exact hx
  obtain ⟨e, he, _, rfl⟩ := row_mem'.1 h1
  obtain ⟨f, g, _, h3, _, h4⟩ := ha.tr he
  omega
theorem nx_Ed (ha : a.Ok) {x y : Int} : Ed (nx a) x y ↔ ∃ e ∈ a.edges, e.frm = x ∧ e.to = y := by
  unfold Ed
  rw [nx_len]
  constructor
  · rintro ⟨h1, h2, h3⟩
    rw [nx_getD (by omega), row_mem', Int.toNat_of_nonneg h1] at h3
    exact h3
  · rintro ⟨e, he, h1, h2⟩
    obtain ⟨f, g, h3, h4, h5, h6⟩ := ha.tr he
    refine ⟨by omega, by omega, ?_⟩
    rw [nx_getD (by omega), row_mem', Int.toNat_of_nonneg (by omega)]
    exact ⟨e, he, h1, h2⟩
end
def ev (a : Aut) (p q : Int) : Int := match a.edges.find? (fun e => decide (e.frm = p ∧ e.to = q)) with
  | some e => e.value
  | none => 0
def vals (a : Aut) : List Int → List Int
  | p :: q :: l => ev a p q :: vals a (q :: l)
  | _ => []
theorem vals_snoc {a : Aut} : ∀ {l : List Int} {p q : Int}, vals a (l ++ [p] ++ [q]) = vals a (l ++ [p]) ++ [ev a p q]
  | [], p, q => by simp [vals]
  | [x], p, q => by simp [vals]
  | x :: y :: l, p, q => by
    have := vals_snoc (a := a) (l := y :: l) (p := p) (q := q)
    simp only [List.cons_append, vals] at this ⊢
    rw [this]
theorem vals_len {a : Aut} : ∀ {l : List Int}, (vals a l).length = l.length - 1
  | [] => rfl
  | [x] => rfl
  | x :: y :: l => by
    have := vals_len (a := a) (l := y :: l)
    simp only [vals, List.length_cons] at this ⊢
    omega
theorem andI_le {v c : Int} (h0 : 0 ≤ c) (h1 : c < 4294967296) : andI .i64 v c ≤ c := by
  obtain ⟨n, rfl⟩ : ∃ n : Nat, c = n := ⟨c.toNat, by omega⟩
  unfold andI
  have h2 : (BitVec.ofInt IntKind.i64.bits v &&& BitVec.ofInt IntKind.i64.bits (n : Int)).toNat ≤ n := by
    rw [BitVec.toNat_and]
    refine Nat.le_trans Nat.and_le_right ?_
    have : (BitVec.ofInt IntKind.i64.bits (n : Int)).toNat = n % 2 ^ IntKind.i64.bits := by simp
    rw [this]
    exact Nat.mod_le _ _
  generalize (BitVec.ofInt IntKind.i64.bits v &&& BitVec.ofInt IntKind.i64.bits (n : Int)).toNat = m at *
  have : IntKind.i64.wrap (m : Int) = m := by
    have : IntKind.i64.wrap (m : Int) = if (m : Int) % 18446744073709551616 ≥ 9223372036854775808 then (m : Int) % 18446744073709551616 - 18446744073709551616 else (m : Int) % 18446744073709551616 := by
      simp [IntKind.wrap, IntKind.signed, IntKind.bits]
    rw [this]
    split <;> omega
  rw [this]
  omega
theorem ev_ok {a : Aut} (ha : a.Ok) {p q : Int} (h : ∃ e ∈ a.edges, e.frm = p ∧ e.to = q) : ∃ e ∈ a.edges, e.frm = p ∧ e.to = q ∧ ev a p q = e.value ∧ e.on (ev a p q) = true ∧ 0 ≤ ev a p q ∧ ev a p q ≤ 7 := by
  obtain ⟨e, he, h1, h2⟩ := h
  cases hf : a.edges.find? (fun e => decide (e.frm = p ∧ e.to = q)) with
  | none =>
    rw [List.find?_eq_none] at hf
    have := hf e he
    simp [h1, h2] at this
  | some f =>
    have h3 := List.find?_some hf
    have h4 := List.mem_of_find?_eq_some hf
    simp only [decide_eq_true_eq] at h3
    have h5 : ev a p q = f.value := by unfold ev; rw [hf]
    have h6 := ha.2.2.2 f h4
    unfold Tr.Ok at h6
    refine ⟨f, h4, h3.1, h3.2, h5, ?_, by omega, ?_⟩
    · rw [h5, Tr.on, decide_eq_true_eq]
      exact h6.2.2.2.2.2.2.2
    · rw [h5, ← h6.2.2.2.2.2.2.2]
      exact Int.le_trans (andI_le (by omega) (by omega)) (show f.care ≤ 7 by omega)
end Bf
end Go.Proofs.YtglnelcmcimljaaGreat

namespace Go.Proofs.YtglnelcmcimljaaGreat
open Go
theorem c_nextX {h : Heap} {v : Value} {a : Aut} (Ra : Rep h v a) (ha : a.Ok) : CallE Tryz.prog fn_impl_Automaton_next [v] h (fun u h' => HS h [ow u (Bf.nx a)] h') := by
  obtain ⟨v1, v2, v3, rfl, R1, R2, R3⟩ := Rep_Aut.1 Ra
  refine CallE.gen fun k hk => EN_impl_Automaton_next rfl ?_
  have hn := ha.n
  have he := ha.e
  simp -implicitDefEqProofs (disch:=first|omega|(simp only[LnZ];omega))[wrap64, R2.len]
  refine HS.init.mks (α := List Int) (z := []) rfl rfl own_nils (Nat.le_refl _) (by omega) (by omega) fun w h1 H => ?_
  simp -implicitDefEqProofs (disch:=first|omega|(simp only[LnZ];omega))[wrap64, (R3.on H).len]
  refine wp_count a.edges.length (fun i e h' => e = [none, none, none, some w, none, some v3, some (.int .i64 a.edges.length), some (.int .i64 i)] ∧ HS h [ow w (Bf.NX a i)] h') ⟨by simp, by rw [Bf.NX_zero]; exact H⟩ ?_
  clear H
  rintro J i _ h2 hJ hi ⟨rfl, H⟩
  simp -implicitDefEqProofs (disch:=first|omega|(simp only[LnZ];omega))[wrap64]
  refine IteW.mk (fun hlt => ?_) (fun hge => ?_)
  · have hlx : i < a.edges.length := by omega
    obtain ⟨f, t, hf, ht, hfn, htn⟩ := ha.tr (List.getElem_mem hlx)
    have hfG : f < (Bf.NX a i).length := by rw [Bf.NX_len]; exact hfn
    have hle : (Bf.NX a i)[f].length ≤ i := by rw [Bf.NX_at hfn]; exact Bf.row_len
    have hsu := Bf.NX_succ hlx hf hfn
    rw [ht] at hsu
    have R3' := R3.on H
    obtain ⟨G, hG⟩ : ∃ G, G = Bf.NX a i := ⟨_, rfl⟩
    rw [← hG] at H
    have hfG : f < G.length := by rw [hG]; exact hfG
    have hle : G[f].length ≤ i := by subst hG; exact hle
    have hsu : Bf.NX a (i + 1) = G.set f (G[f] ++ [(t : Int)]) := by subst hG; exact hsu
    obtain ⟨u, hu, H⟩ := H.take hfG
    change hload _ (some (elp 1 w f)) none = some u at hu
    simp -implicitDefEqProofs (disch:=first|omega|(simp only[LnZ];omega))[wrap64, R3'.xTr, Tr.v, setC, hf, ht, H.sw1.holeia (n := 1) rfl, hu]
    refine H.app1 (t : Int) rfl rfl rfl ⟨by omega, by omega⟩ rfl rfl (by omega) (by omega) fun u' h3 H => ?_
    simp -implicitDefEqProofs (disch:=first|omega|(simp only[LnZ];omega))[wrap64, H.sw1.holeia (n := 1) rfl]
    refine H.storeH rfl rfl rfl fun h4 H => ?_
    simp -implicitDefEqProofs (disch:=first|omega|(simp only[LnZ];omega))[wrap64]
    exact hJ _ _ hlx ⟨rfl, by rw [hsu]; exact H⟩
  · obtain rfl : i = a.edges.length := by omega
    simp -implicitDefEqProofs (disch:=first|omega|(simp only[LnZ];omega))[wrap64]
    exact RetK.keep (hk _ _ H)
namespace Bf
def sen (f : List Int) : List Bool := f.map fun x => decide (x ≠ -2)
theorem sen_len {f : List Int} : (sen f).length = f.length := by simp [sen]
theorem sen_at {f : List Int} {x : Nat} (hx : x < f.length) : (sen f)[x]'(by rw [sen_len]; exact hx) = decide (f[x] ≠ -2) := by simp [sen]
theorem sen_set {f : List Int} {x : Nat} {a : Int} (ha : a ≠ -2) : sen (f.set x a) = (sen f).set x true := by
  unfold sen
  rw [List.map_set]
  simp [ha]
theorem s0_take {n : Nat} {S : List Int} (hS : incr n (-1) S) : ∀ k, k ≤ S.length → sF (S.take k) (-1) (List.replicate n (-2), []) = ((S.take k).foldl (fun f s => f.set s.toNat (-1)) (List.replicate n (-2)), S.take k)
  | 0, _ => by simp [sF]
  | k + 1, hk => by
    have ih := s0_take hS k (by omega)
    have hkl : k < S.length := by omega
    rw [sF_take hkl, ih, List.take_add_one, List.getElem?_eq_getElem hkl]
    have hx := incr_mem hS _ (List.getElem_mem hkl)
    have hp := (incr_iff.1 hS).1
    have key : ∀ (T : List Int) (f : List Int), f.length = n → (∀ y ∈ T, 0 ≤ y ∧ y ≠ S[k]) → (T.foldl (fun f s => f.set s.toNat (-1)) f).getD S[k].toNat 0 = f.getD S[k].toNat 0 := by
      intro T
      induction T with
      | nil => intro f _ _; rfl
      | cons y T ih2 =>
        intro f hf hT
        have hy := hT y (by simp)
        show (T.foldl _ (f.set y.toNat (-1))).getD _ _ = _
        rw [ih2 _ (by simpa using hf) (fun z hz => hT z (by simp [hz]))]
        by_cases hyl : y.toNat < f.length
        · rw [set_getD hyl, if_neg (by omega)]
        · rw [List.set_eq_of_length_le (by omega)]
    have h2 := key (S.take k) (List.replicate n (-2)) (by simp) (fun y hy => by
      have h3 := incr_mem hS y (List.mem_of_mem_take hy)
      obtain ⟨j, hj, rfl⟩ := List.mem_iff_getElem.1 hy
      rw [List.length_take] at hj
      have := List.pairwise_iff_getElem.1 hp j k (by omega) hkl (by omega)
      rw [List.getElem_take]
      rw [List.getElem_take] at h3
      omega)
    unfold s1
    simp only
    rw [h2, if_pos (by simp [show S[k].toNat < n by omega]), List.foldl_append]
    rfl
theorem s0_sF {n : Nat} {S : List Int} (hS : incr n (-1) S) : sF S (-1) (List.replicate n (-2), []) = s0 n S := by
  have := s0_take hS S.length (Nat.le_refl _)
  rw [List.take_length] at this
  exact this
end Bf
theorem c_find {g h : Heap} {Γ : List HP} {b3 b4 : Nat} {vm vo : Value} {p : Bf.SP} {x : Nat} {a : Int} (H : HS g (bx b3 [vm] :: ow vm (Bf.sen p.1) :: bx b4 [vo] :: ow vo p.2 :: Γ) h) (hx : x < p.1.length) (hlen : p.2.length ≤ 1048576) (ha : a ≠ -2) :
    CallE Tryz.prog fn_impl_order_1 [.int .i64 x, .pointer (some ⟨b3, 0, none⟩), .pointer (some ⟨b4, 0, none⟩)] h (fun u h' => ∃ vo', HS g (bx b3 [vm] :: ow vm (Bf.sen (Bf.s1 a p x).1) :: bx b4 [vo'] :: ow vo' (Bf.s1 a p x).2 :: Γ) h') := by
  have hsl : x < (Bf.sen p.1).length := by rw [Bf.sen_len]; exact hx
  have hxd : p.1.getD x 0 = p.1[x] := by simp [hx]
  have hat := Bf.sen_at hx
  refine CallE.gen fun k hk => EN_impl_order_1 rfl ?_
  rw [Bf.s1, Int.toNat_natCast, hxd] at hk
  by_cases q : p.1[x] = -2
  · rw [if_pos q] at hk
    have hat2 : (Bf.sen p.1)[x] = false := by rw [hat]; simp [q]
    have hset : Bf.sen (p.1.set x a) = (Bf.sen p.1).set x true := Bf.sen_set ha
    rw [hset] at hk
    have hxl := H.sw1.rep.lt
    simp -implicitDefEqProofs (disch:=first|omega|(simp only[LnZ];omega))[wrap64, H.bxld0, H.sw1.rep.B, hat2]
    refine H.sw1.storeF true (i := x) hsl rfl rfl trivial rfl fun h1 H => ?_
    have H := H.sw1
    simp -implicitDefEqProofs (disch:=first|omega|(simp only[LnZ];omega))[wrap64, H.sw2.bxld0]
    refine H.sw3.app1 (x : Int) rfl rfl rfl ⟨by omega, by omega⟩ rfl rfl (by omega) (by omega) fun vo' h2 H => ?_
    have o := H.rep.one
    have c := H.rep.cells
    simp -implicitDefEqProofs (disch:=first|omega|(simp only[LnZ];omega))[wrap64]
    refine H.sw3.bxst (u := vo') rfl rfl (by rw [c]; rfl) (by rw [c]; simp [o]) (by simp [c]) fun h3 H => ?_
    simp -implicitDefEqProofs (disch:=first|omega|(simp only[LnZ];omega))[wrap64]
    have H : HS g (bx b4 [vo'] :: ow vo' (p.2 ++ [(x : Int)]) :: bx b3 [vm] :: ow vm ((Bf.sen p.1).set x true) :: Γ) h3 := by simpa [setC, c] using H
    exact RetK.keep (hk _ _ ⟨vo', H.sw2.under fun _ H => H.sw2⟩)
  · rw [if_neg q] at hk
    have hat2 : (Bf.sen p.1)[x] = true := by rw [hat]; simp [q]
    simp -implicitDefEqProofs (disch:=first|omega|(simp only[LnZ];omega))[wrap64, H.bxld0, H.sw1.rep.B, hat2]
    exact RetK.keep (hk _ _ ⟨vo, H⟩)
set_option maxHeartbeats 1000000 in
theorem c_order {h : Heap} {v w : Value} {G : List (List Int)} {S : List Int} (Rv : Rep h v G) (Rs : Rep h w S) (hn : Bf.NOk G) (hS : incr G.length (-1) S) (hGl : G.length ≤ 65536) : CallE Tryz.prog fn_impl_order [v, w] h (fun u h' => HS h [ow u (Bf.fin G S).2] h') := by
  have hSl := incr_len hS
  refine CallE.gen fun k hk => EN_impl_order rfl ?_
  simp -implicitDefEqProofs (disch:=first|omega|(simp only[LnZ];omega))[wrap64, Rv.len]
  refine HS.init.mks (α := Bool) (z := false) rfl rfl own_false (Nat.le_refl _) (by omega) (by omega) fun vm h1 H => ?_
  have o := H.rep.one
  have c := H.rep.cells
  simp -implicitDefEqProofs (disch:=first|omega|(simp only[LnZ];omega))[wrap64]
  refine H.alloc rfl fun b3 h2 H => ?_
  simp -implicitDefEqProofs (disch:=first|omega|(simp only[LnZ];omega))[wrap64]
  refine H.bxst (u := vm) rfl rfl (by rw [c]; rfl) (by rw [c]; simp [o]) (by simp [c]) fun h3 H => ?_
  have H : HS h [bx b3 [vm], ow vm (List.replicate G.length false)] h3 := by simpa [setC, c] using H
  simp -implicitDefEqProofs (disch:=first|omega|(simp only[LnZ];omega))[wrap64]
  refine H.alloc rfl fun b4 h4 H => ?_
  have H : HS h [bx b4 [.slice none 0 0], bx b3 [vm], ow vm (List.replicate G.length false)] h4 := H
  have hs0 : List.replicate G.length false = Bf.sen (List.replicate G.length (-2)) := by simp [Bf.sen]
  rw [hs0] at H
  have H : HS h [bx b3 [vm], ow vm (Bf.sen (List.replicate G.length (-2))), bx b4 [.slice none 0 0], ow (.slice none 0 0) ([] : List Int)] h4 := (H.nil_ow (α := Int)).sw2.under fun _ H => H.sw2.under fun _ H => H.sw1
  simp -implicitDefEqProofs (disch:=first|omega|(simp only[LnZ];omega))[wrap64]
  obtain ⟨fv, hfv⟩ : ∃ fv, fv = Value.func (.func fn_impl_order_1) #[] #[.pointer (some ⟨b3, 0, none⟩), .pointer (some ⟨b4, 0, none⟩)] := ⟨_, rfl⟩
  have hfn : fnOf fv = some (fn_impl_order_1, [], [.pointer (some ⟨b3, 0, none⟩), .pointer (some ⟨b4, 0, none⟩)]) := by subst hfv; rfl
  rw [← hfv]
  simp -implicitDefEqProofs (disch:=first|omega|(simp only[LnZ];omega))[wrap64, (Rs.on H).len]
  refine wp_count S.length (fun i e h' => e = [some v, none, none, none, some (.pointer (some ⟨b4, 0, none⟩)), some fv, none, none, none, some w, some (.int .i64 S.length), some (.int .i64 i), none, none, none] ∧ ∃ vo, HS h [bx b3 [vm], ow vm (Bf.sen (Bf.sF (S.take i) (-1) (List.replicate G.length (-2), [])).1), bx b4 [vo], ow vo (Bf.sF (S.take i) (-1) (List.replicate G.length (-2), [])).2] h') ⟨by simp, .slice none 0 0, by simpa [Bf.sF] using H⟩ ?_
  clear H
  rintro J i _ h5 hJ hi ⟨rfl, vo, H⟩
  simp -implicitDefEqProofs (disch:=first|omega|(simp only[LnZ];omega))[wrap64]
  refine IteW.mk (fun hlt => ?_) (fun hge => ?_)
  · have hix : i < S.length := by omega
    have hst := Bf.s0_take hS i (by omega)
    have hsx := incr_mem hS _ (List.getElem_mem hix)
    have hsu := Bf.sF_take (a := (-1 : Int)) (p := (List.replicate G.length (-2), [])) hix
    have hfl : (Bf.sF (S.take i) (-1) (List.replicate G.length (-2), [])).1.length = G.length ∧ (Bf.sF (S.take i) (-1) (List.replicate G.length (-2), [])).2.length = i := by
      rw [hst]
      refine ⟨?_, by simp; omega⟩
      have : ∀ (T : List Int) (f : List Int), (T.foldl (fun f s => f.set s.toNat (-1)) f).length = f.length := by
        intro T
        induction T with
        | nil => intro f; rfl
        | cons y T ih => intro f; show (T.foldl _ (f.set y.toNat (-1))).length = _; rw [ih]; simp
      rw [this]; simp
    generalize Bf.sF (S.take i) (-1) (List.replicate G.length (-2), []) = p at *
    obtain ⟨x, hx⟩ : ∃ x : Nat, S[i] = x := ⟨S[i].toNat, by omega⟩
    rw [hx] at hsu
    simp -implicitDefEqProofs (disch:=first|omega|(simp only[LnZ];omega))[wrap64, (Rs.on H).I, hx, hfn]
    refine (c_find (a := -1) H (x := x) (by omega) (by omega) (by decide)).go ?_
    rintro _ h6 ⟨vo', H⟩
    simp -implicitDefEqProofs (disch:=first|omega|(simp only[LnZ];omega))[wrap64]
    exact hJ _ _ hix ⟨by simp, vo', by rw [hsu]; exact H⟩
  have hiS : i = S.length := by omega
  subst hiS
  rw [List.take_length, Bf.s0_sF hS] at H
  simp -implicitDefEqProofs (disch:=first|omega|(simp only[LnZ];omega))[wrap64]
  refine wp_while (σ := Nat) (fun i e h' => e = [some v, none, none, none, some (.pointer (some ⟨b4, 0, none⟩)), some fv, none, some (.int .i64 i), none, none, none, none, none, none, none] ∧ i ≤ (Bf.sN G S i).2.length ∧ ∃ vo, HS h [bx b3 [vm], ow vm (Bf.sen (Bf.sN G S i).1), bx b4 [vo], ow vo (Bf.sN G S i).2] h') (fun i => G.length + 1 - i) 0 ⟨by simp, by omega, vo, H⟩ ?_
  clear H
  rintro J i _ h6 hJ ⟨rfl, hil, vo, H⟩
  obtain ⟨bi, bd⟩ := Bf.sN_inv hn hS i
  have hle := bi.le
  have hst := Bf.sN_stop (next := G) (S := S) (n := i)
  have hsu := Bf.sN_succ (next := G) (S := S) (n := i)
  have hfe := Bf.fin_eq hn hS (n := i)
  have hnl := Bf.sN_le hn hS (show i ≤ i + 1 by omega)
  simp -implicitDefEqProofs (disch:=first|omega|(simp only[LnZ];omega))[wrap64, H.sw2.bxld0, H.sw3.rep.len]
  refine IteW.mk (fun hlt => ?_) (fun hge => ?_)
  · have hlt : i < (Bf.sN G S i).2.length := by omega
    have hsu := hsu hlt
    have hat := bi.at hlt
    have hrow := hn.row bi hlt
    obtain ⟨a, ha⟩ : ∃ a : Nat, (Bf.sN G S i).2.getD i 0 = a := ⟨_, (Int.toNat_of_nonneg hat.1).symm⟩
    have ha' : (Bf.sN G S i).2[i] = a := by rw [← ha]; simp [hlt]
    rw [ha, Int.toNat_natCast] at hat hsu hrow
    have haN : a < G.length := by omega
    obtain ⟨u, hu, Ru⟩ := Rv.ldL haN
    have hgd : G.getD a [] = G[a] := by simp [haN]
    rw [hgd] at hsu hrow
    have hu := hload_le H.base hu
    have RuH := Ru.on H
    have hul := Ru.lt
    simp -implicitDefEqProofs (disch:=first|omega|(simp only[LnZ];omega))[wrap64, H.sw2.bxld0, H.sw3.rep.I, ha', (Rv.on H).X (n := 1) rfl, hu, RuH.len]
    refine wp_count G[a].length (fun m e h' => e = [some v, none, none, none, some (.pointer (some ⟨b4, 0, none⟩)), some fv, none, some (.int .i64 i), none, none, none, none, some u, some (.int .i64 G[a].length), some (.int .i64 m)] ∧ ∃ vo, HS h [bx b3 [vm], ow vm (Bf.sen (Bf.sF (G[a].take m) a (Bf.sN G S i)).1), bx b4 [vo], ow vo (Bf.sF (G[a].take m) a (Bf.sN G S i)).2] h') ⟨by simp, vo, by simpa [Bf.sF] using H⟩ ?_
    clear H RuH
    rintro J2 m _ h7 hJ2 hm ⟨rfl, vo, H⟩
    simp -implicitDefEqProofs (disch:=first|omega|(simp only[LnZ];omega))[wrap64]
    refine IteW.mk (fun hlt2 => ?_) (fun hge2 => ?_)
    · have hmx : m < G[a].length := by omega
      have hx := hrow _ (List.getElem_mem hmx)
      obtain ⟨x, hxx⟩ : ∃ x : Nat, G[a][m] = x := ⟨G[a][m].toNat, by omega⟩
      have hs1 := Bf.sF_take (a := (a : Int)) (p := Bf.sN G S i) hmx
      have hfo := bi.fold (i := i) hlt (l := G[a].take m) (fun y hy => by rw [ha]; exact hrow y (List.mem_of_mem_take hy))
      rw [ha] at hfo
      have hfl := hfo.1.fl
      have hfle := hfo.1.le
      rw [hxx] at hs1 hx
      generalize Bf.sF (G[a].take m) a (Bf.sN G S i) = p at *
      simp -implicitDefEqProofs (disch:=first|omega|(simp only[LnZ];omega))[wrap64, (Ru.on H).I, hxx, hfn]
      refine (c_find (a := (a : Int)) H (x := x) (by omega) (by omega) (by omega)).go ?_
      rintro _ h8 ⟨vo', H⟩
      simp -implicitDefEqProofs (disch:=first|omega|(simp only[LnZ];omega))[wrap64]
      exact hJ2 _ _ hmx ⟨by simp, vo', by rw [hs1]; exact H⟩
    have hmG : m = G[a].length := by omega
    subst hmG
    rw [List.take_length, ← hsu] at H
    have hlen := hnl.len
    simp -implicitDefEqProofs (disch:=first|omega|(simp only[LnZ];omega))[wrap64]
    exact hJ (i + 1) _ _ (by omega) ⟨by simp, by omega, vo, H⟩
  · rw [hfe (by omega)] at H
    simp -implicitDefEqProofs (disch:=first|omega|(simp only[LnZ];omega))[wrap64, H.sw2.bxld0]
    exact RetK.keep (hk _ _ (H.sw3.only1))
end Go.Proofs.YtglnelcmcimljaaGreat

namespace Go.Proofs.YtglnelcmcimljaaGreat
open Go
namespace Bf
section
variable {S : List Int} {D : Int → Int → Prop}
theorem Pth.last {x : Int} {l : List Int} (h : Pth S D x l) : ∃ l0, l = l0 ++ [x] := by
  cases h with
  | one h => exact ⟨[], rfl⟩
  | snoc h e => exact ⟨_, rfl⟩
theorem Pth.head {x : Int} {l : List Int} (h : Pth S D x l) : ∃ s ∈ S, ∃ t, l = s :: t := by
  induction h with
  | one h => exact ⟨_, h, [], rfl⟩
  | snoc h e ih =>
    obtain ⟨s, hs, t, rfl⟩ := ih
    exact ⟨s, hs, t ++ [_], rfl⟩
def Joined (D : Int → Int → Prop) : List Int → Prop
  | x :: y :: l => D x y ∧ Joined D (y :: l)
  | _ => True
theorem Joined.snoc {x y : Int} : ∀ {l : List Int}, Joined D (l ++ [x]) → D x y → Joined D (l ++ [x] ++ [y])
  | [], _, h => ⟨h, trivial⟩
  | [z], h, h' => ⟨h.1, h', trivial⟩
  | z :: z2 :: l, h, h' => ⟨h.1, Joined.snoc (l := z2 :: l) h.2 h'⟩
theorem Pth.joined {x : Int} {l : List Int} (h : Pth S D x l) : Joined D l := by
  induction h with
  | one h => trivial
  | snoc h e ih =>
    obtain ⟨l0, rfl⟩ := h.last
    exact ih.snoc e
theorem Joined.at {D : Int → Int → Prop} : ∀ {l : List Int}, Joined D l → ∀ (i : Nat) (hi : i + 1 < l.length), D l[i] l[i + 1]
  | [], _, i, hi => absurd hi (by simp)
  | [x], _, i, hi => absurd hi (by simp)
  | x :: y :: l, h, 0, _ => h.1
  | x :: y :: l, h, i + 1, hi => Joined.at (l := y :: l) h.2 i (by simpa using hi)
end
noncomputable def hitL (G : List (List Int)) (S : List Int) (g : Int → Bool) : List Int := match (fin G S).2.find? g with
  | some t => path G S t
  | none => []
def back (G : List (List Int)) (t : Int) : Int → Bool := fun m => decide (m ≠ t) && decide (t ∈ G.getD m.toNat [])
noncomputable def arn (G : List (List Int)) (t : Int) : List Int := if t ∈ G.getD t.toNat [] then [t] else hitL G [t] (back G t)
theorem Rch.last {E : Nat → Nat → Prop} {x y z : Nat} (h : E x y) (k : Rch E y z) : ∃ m, Rch E x m ∧ E m z := by
  induction k generalizing x with
  | refl => exact ⟨x, .refl _, h⟩
  | step e _ ih =>
    obtain ⟨m, h1, h2⟩ := ih e
    exact ⟨m, .step h h1, h2⟩
theorem incr_one {n : Int} {t : Int} (h0 : 0 ≤ t) (h1 : t < n) : incr n (-1) [t] := ⟨by omega, h1, trivial⟩
theorem arn_ok {G : List (List Int)} (hn : NOk G) {E : Nat → Nat → Prop} (hE : ∀ x y : Nat, E x y ↔ x < G.length ∧ (y : Int) ∈ G.getD x []) {t : Nat} (ht : t < G.length) (hc : Cyc E t) :
    ∃ m : Int, Pth [(t : Int)] (Ed G) m (arn G t) ∧ Ed G m t ∧ (arn G t).length ≤ G.length := by
  unfold arn
  by_cases hs : (t : Int) ∈ G.getD (t : Int).toNat []
  · rw [if_pos hs]
    exact ⟨t, .one (by simp), ⟨by omega, by omega, hs⟩, by simp; omega⟩
  · rw [if_neg hs]
    have hS : incr G.length (-1) [(t : Int)] := incr_one (by omega) (by omega)
    obtain ⟨y, h1, h2⟩ := hc
    obtain ⟨m, h3, h4⟩ := Rch.last h1 h2
    have hm : (m : Int) ∈ (fin G [(t : Int)]).2 := (fin_mem hn hS hE).2 ⟨t, by simp, h3⟩
    have hmE := (hE m t).1 h4
    have hb : back G t m = true := by
      unfold back
      simp only [Int.toNat_natCast, Bool.and_eq_true, decide_eq_true_eq]
      refine ⟨fun e => hs ?_, hmE.2⟩
      have : m = t := by omega
      subst this
      rw [Int.toNat_natCast]
      exact hmE.2
    cases hf : (fin G [(t : Int)]).2.find? (back G t) with
    | none =>
      rw [List.find?_eq_none] at hf
      exact absurd hb (by simpa using hf m hm)
    | some q =>
      have hq := List.mem_of_find?_eq_some hf
      have hqb := List.find?_some hf
      have hp := path_ok hn hS hq
      have hin := (sN_inv hn hS G.length).1.inq q hq
      unfold back at hqb
      simp only [Bool.and_eq_true, decide_eq_true_eq] at hqb
      refine ⟨q, ?_, ⟨hin.1, hin.2.1, hqb.2⟩, ?_⟩
      · unfold hitL; rw [hf]; exact hp.2.2
      · unfold hitL; rw [hf]; exact hp.2.1
noncomputable def gA (a : Aut) : Int → Bool := fun t => a.acc.getD t.toNat false && @decide (Cyc a.E t.toNat) (Classical.propDecidable _)
theorem gA_iff {a : Aut} {t : Int} : gA a t = true ↔ tru a.acc t.toNat ∧ Cyc a.E t.toNat := by simp [gA, tru]
noncomputable def fw (a : Aut) : Option Las := match (fin (nx a) a.init).2.find? (gA a) with
  | some t => some ⟨vals a (path (nx a) a.init t), vals a (arn (nx a) t ++ [t])⟩
  | none => none
section
variable {a : Aut}
theorem LP_of (ha : a.Ok) {S : List Int} {x : Int} {l : List Int} (h : Pth S (Ed (nx a)) x l) (hS : ∀ s ∈ S, 0 ≤ s) : ∃ s ∈ S, 0 ≤ x ∧ LP a.edges s.toNat (vals a l) x.toNat ∧ ∀ y ∈ vals a l, 0 ≤ y ∧ y ≤ 7 := by
  induction h with
  | one h => exact ⟨_, h, hS _ h, .nil _, by simp [vals]⟩
  | snoc h e ih =>
    rename_i x y l
    obtain ⟨s, hs, h0, h1, h2⟩ := ih
    obtain ⟨l0, rfl⟩ := h.last
    rw [vals_snoc]
    obtain ⟨f, hf, k1, k2, k3, k4, k5, k6⟩ := ev_ok ha ((nx_Ed ha).1 e)
    obtain ⟨p, q, m1, m2, _, _⟩ := ha.tr hf
    refine ⟨s, hs, by omega, h1.append (.cons ⟨f, hf, by omega, by omega, k4⟩ (.nil _)), fun z hz => ?_⟩
    rcases List.mem_append.1 hz with hz | hz
    · exact h2 z hz
    · obtain rfl : z = ev a x y := by simpa using hz
      exact ⟨k5, k6⟩
theorem fw_some (ha : a.Ok) {l : Las} (h : fw a = some l) : (∃ (s x : Nat), (s : Int) ∈ a.init ∧ LP a.edges s l.stem x ∧ LP a.edges x l.loop x ∧ tru a.acc x) ∧ (∀ y ∈ l.stem, 0 ≤ y ∧ y ≤ 7) ∧ (∀ y ∈ l.loop, 0 ≤ y ∧ y ≤ 7) ∧ l.stem.length ≤ 63 ∧ 1 ≤ l.loop.length ∧ l.loop.length ≤ 64 := by
  have hn := nx_ok ha
  have hlen := nx_len (a := a)
  have hS : incr (nx a).length (-1) a.init := by rw [hlen]; exact ha.i
  have h64 := ha.n.2
  unfold fw at h
  split at h
  · rename_i t hf
    simp only [Option.some.injEq] at h
    subst h
    have ht := List.mem_of_find?_eq_some hf
    have htg := gA_iff.1 (List.find?_some hf)
    have hp := path_ok hn hS ht
    have hin := (sN_inv hn hS (nx a).length).1.inq t ht
    obtain ⟨q, rfl⟩ : ∃ q : Nat, t = q := ⟨t.toNat, by omega⟩
    rw [Int.toNat_natCast] at htg
    obtain ⟨m, c1, c2, c3⟩ := arn_ok hn (nx_E ha) (t := q) (by omega) htg.2
    have c4 := c1.snoc c2
    obtain ⟨s, hs, _, p1, p2⟩ := LP_of ha hp.2.2 (fun s hs => by have := incr_mem ha.i s hs; omega)
    obtain ⟨s', hs', _, p3, p4⟩ := LP_of ha c4 (fun s hs => by have : s = q := by simpa using hs
                                                               omega)
    obtain rfl : s' = q := by simpa using hs'
    rw [Int.toNat_natCast] at p1 p3
    have hs0 := incr_mem ha.i s hs
    have l1 := vals_len (a := a) (l := path (nx a) a.init q)
    have l2 := vals_len (a := a) (l := arn (nx a) q ++ [(q : Int)])
    have hne : 1 ≤ (arn (nx a) q).length := by
      obtain ⟨_, _, t, e⟩ := c1.head
      rw [e]; simp
    rw [List.length_append, List.length_singleton] at l2
    have l3 := hp.2.1
    refine ⟨⟨s.toNat, q, by rw [Int.toNat_of_nonneg (by omega)]; exact hs, p1, p3, htg.1⟩, p2, p4, ?_, ?_, ?_⟩
    · simp only; omega
    · simp only; omega
    · simp only; omega
  · simp at h
end
end Bf
end Go.Proofs.YtglnelcmcimljaaGreat

namespace Go.Proofs.YtglnelcmcimljaaGreat
open Go
theorem c_Reverse_int {g h : Heap} {Γ : List HP} {v : Value} {x : List Int} (H : HS g (ow v x :: Γ) h) : CallE Tryz.prog fn_slices_Reverse_S_int_int [v] h (fun _ h' => HS g (ow v x.reverse :: Γ) h') := by
  have hL := H.rep.lt
  have hok := fun {i : Nat} (hi : i < x.length) => H.rep.okI hi
  refine CallE.gen fun k hk => EN_slices_Reverse_S_int_int rfl ?_
  simp -implicitDefEqProofs (disch:=first|omega|(simp only[LnZ];omega))[wrap64, H.rep.len]
  refine wp_while (σ := Nat) (fun i e h' => e = [some v, some (.int .i64 i), some (.int .i64 ((x.length : Int) - 1 - i))] ∧ i ≤ x.length ∧ ∃ y, HS g (ow v y :: Γ) h' ∧ y.length = x.length ∧ (i = 0 ∨ 2 * i ≤ x.length) ∧ ∀ (k : Nat), k < x.length → y.getD k 0 = if k < i ∨ x.length - 1 - i < k then x.getD (x.length - 1 - k) 0 else x.getD k 0) (fun i => x.length - i) 0 ⟨by simp, by omega, x, H, rfl, .inl rfl, fun k hk => by rw [if_neg (by omega)]⟩ ?_
  clear H
  rintro J i _ h1 hJ ⟨rfl, hi, y, H, hl, h0, hy⟩
  simp -implicitDefEqProofs (disch:=first|omega|(simp only[LnZ];omega))[wrap64]
  refine IteW.mk (fun hlt => ?_) (fun hge => ?_)
  · have hin : 2 * i + 1 < x.length := by omega
    have hiy : i < y.length := by omega
    have hjy : x.length - 1 - i < y.length := by omega
    have hcast : (x.length : Int) - 1 - i = ((x.length - 1 - i : Nat) : Int) := by omega
    have o1 := H.rep.okI hiy
    have o2 := H.rep.okI hjy
    rw [hcast]
    simp -implicitDefEqProofs (disch:=first|omega|(simp only[LnZ];omega))[wrap64, H.rep.I]
    refine H.storeF y[x.length - 1 - i] (i := i) hiy rfl rfl ⟨o2.1, o2.2⟩ rfl fun h2 H => ?_
    simp -implicitDefEqProofs (disch:=first|omega|(simp only[LnZ];omega))[wrap64, H.rep.I]
    refine H.storeF y[i] (i := x.length - 1 - i) (by simpa using hjy) rfl rfl ⟨o1.1, o1.2⟩ rfl fun h3 H => ?_
    simp -implicitDefEqProofs (disch:=first|omega|(simp only[LnZ];omega))[wrap64]
    refine hJ (i + 1) _ _ (by omega) ⟨by simp; omega, by omega, _, H, by simp [hl], .inr (by omega), fun k hk => ?_⟩
    have e1 : y[i] = x.getD i 0 := by
      have := hy i (by omega)
      rw [if_neg (by omega)] at this
      rw [← this]; simp [hiy]
    have e2 : y[x.length - 1 - i] = x.getD (x.length - 1 - i) 0 := by
      have := hy (x.length - 1 - i) (by omega)
      rw [if_neg (by omega)] at this
      rw [← this]; simp [hjy]
    rw [Bf.set_getD (by simpa using hjy), Bf.set_getD hiy, e1, e2, hy k hk]
    by_cases c1 : x.length - 1 - i = k
    · rw [if_pos c1, if_pos (by omega)]
      congr 1; omega
    · rw [if_neg c1]
      by_cases c2 : i = k
      · rw [if_pos c2, if_pos (by omega)]
        congr 1; omega
      · rw [if_neg c2]
        by_cases c3 : k < i ∨ x.length - 1 - i < k
        · rw [if_pos c3, if_pos (by omega)]
        · rw [if_neg c3, if_neg (by omega)]
  · simp -implicitDefEqProofs (disch:=first|omega|(simp only[LnZ];omega))[wrap64]
    have he : y = x.reverse := by
      refine List.ext_getElem (by simp [hl]) fun k h1 h2 => ?_
      have hk : k < x.length := by omega
      have := hy k hk
      rw [List.getElem_reverse]
      have e1 : y.getD k 0 = y[k] := by simp [h1]
      rw [← e1, this]
      split
      · simp [show x.length - 1 - k < x.length by omega]
      · have e2 : k = x.length - 1 - k := by omega
        have e3 : x[x.length - 1 - k]'(by omega) = x.getD (x.length - 1 - k) 0 := by simp [show x.length - 1 - k < x.length by omega]
        rw [e3, ← e2]
    exact RetK.keep (hk _ _ (he ▸ H))
set_option maxHeartbeats 1000000 in
theorem c_shortestG {h : Heap} {v w fv : Value} {G : List (List Int)} {S : List Int} (hn : Bf.NOk G) (hS : incr G.length (-1) S) (hGl : G.length ≤ 65536) (R : Rep h v G) (Rs : Rep h w S) (g : Int → Bool) {f : FuncId} {c1 c2 : List Value} (hf : fnOf fv = some (f, c1, c2))
    (hp : ∀ h1, h.le h1 → ∀ a : Nat, a < G.length → CallE Tryz.prog f (c1 ++ .int .i64 a :: c2) h1 (fun u h' => h1.le h' ∧ u = .bool (g a))) :
    CallE Tryz.prog fn_impl_shortest [v, w, fv] h (fun u h' => HS h [ow u (Bf.hitL G S g)] h') := by
  have hL := R.lt
  have hSl := incr_len hS
  refine CallE.gen fun k hk => EN_impl_shortest rfl ?_
  simp -implicitDefEqProofs (disch:=first|omega|(simp only[LnZ];omega))[wrap64, R.len]
  refine HS.init.mks (α := Int) (z := (0 : Int)) rfl rfl (own_zero (by decide) (by decide)) (Nat.le_refl _) (by omega) (by omega) fun o h1 H => ?_
  simp -implicitDefEqProofs (disch:=first|omega|(simp only[LnZ];omega))[wrap64, H.rep.len]
  refine wp_count G.length (fun i e h' => e = [some v, some w, some fv, none, some o, none, none, none, none, none, none, none, some (.int .i64 G.length), some (.int .i64 i), none, none, none, none, none, none] ∧ ∃ y, HS h [ow o y] h' ∧ y.length = G.length ∧ y.take i = (List.replicate G.length (-2)).take i) ⟨by simp, _, H, by simp, by simp⟩ ?_
  clear H
  rintro J i _ h1 hJ hi ⟨rfl, y, H, hl, hy⟩
  simp -implicitDefEqProofs (disch:=first|omega|(simp only[LnZ];omega))[wrap64]
  refine IteW.mk (fun hlt => ?_) (fun hge => ?_)
  · have hlx : i < G.length := by omega
    simp -implicitDefEqProofs (disch:=first|omega|(simp only[LnZ];omega))[wrap64, H.rep.I]
    refine H.storeF (-2) (i := i) (by omega) rfl rfl ⟨by omega, by omega⟩ rfl fun h2 H => ?_
    simp -implicitDefEqProofs (disch:=first|omega|(simp only[LnZ];omega))[wrap64]
    refine hJ _ _ hlx ⟨by simp, _, H, by simp [hl], ?_⟩
    have := take_set_succ (x := List.replicate G.length (-2 : Int)) hy (by simpa using hlx) (by simpa using hl)
    simpa using this
  have he : y = List.replicate G.length (-2) := eq_of_take hy (by simp; omega) (by simpa using hl)
  subst he
  simp -implicitDefEqProofs (disch:=first|omega|(simp only[LnZ];omega))[wrap64, (Rs.on H).len]
  refine wp_count S.length (fun i e h' => ∃ q, e = [some v, none, some fv, none, some o, none, some q, none, none, none, none, none, none, none, some w, some (.int .i64 S.length), some (.int .i64 i), none, none, none] ∧ ∃ y, HS h [ow o y, ow q (S.take i)] h' ∧ y.length = G.length ∧ y = (S.take i).foldl (fun f s => f.set s.toNat (-1)) (List.replicate G.length (-2))) ⟨.slice none 0 0, by simp, _, (H.nil_ow (α := Int)).sw1, by simp, by simp⟩ ?_
  clear H hy hl
  rintro J1 i1 _ h1 hJ1 hi1 ⟨q, rfl, y, H, hyl, hy⟩
  simp -implicitDefEqProofs (disch:=first|omega|(simp only[LnZ];omega))[wrap64]
  refine IteW.mk (fun hlt1 => ?_) (fun hge1 => ?_)
  · have hix : i1 < S.length := by omega
    have hsx := incr_mem hS _ (List.getElem_mem hix)
    obtain ⟨x, hx⟩ : ∃ x : Nat, S[i1] = x := ⟨S[i1].toNat, by omega⟩
    simp -implicitDefEqProofs (disch:=first|omega|(simp only[LnZ];omega))[wrap64, (Rs.on H).I, hx, H.rep.I]
    refine H.storeF (-1) (i := x) (by omega) rfl rfl ⟨by omega, by omega⟩ rfl fun h2 H => ?_
    simp -implicitDefEqProofs (disch:=first|omega|(simp only[LnZ];omega))[wrap64, setC]
    refine HS.app1 (bytes := 8) H.sw1 (x : Int) rfl rfl rfl ⟨by omega, by omega⟩ rfl rfl (by simp; omega) (by simp; omega) fun q' h3 H => ?_
    simp -implicitDefEqProofs (disch:=first|omega|(simp only[LnZ];omega))[wrap64]
    refine hJ1 _ _ hix ⟨q', by simp, y.set x (-1), ?_, by simpa using hyl, ?_⟩
    · rw [List.take_add_one, List.getElem?_eq_getElem hix, hx]
      have H2 := H.sw1
      have he2 : S.take i1 ++ [(x : Int)] = S.take i1 ++ (some (x : Int)).toList := rfl
      rw [he2] at H2
      exact H2
    · rw [List.take_add_one, List.getElem?_eq_getElem hix, List.foldl_append, ← hy, hx]
      show y.set x (-1) = y.set (x : Int).toNat (-1)
      rw [Int.toNat_natCast]
  obtain rfl : i1 = S.length := by omega
  rw [List.take_length] at H hy
  have H : HS h [ow o (Bf.sN G S 0).1, ow q (Bf.sN G S 0).2] h1 := by subst hy; exact H
  clear hy hyl
  simp -implicitDefEqProofs (disch:=first|omega|(simp only[LnZ];omega))[wrap64]
  refine wp_while (σ := Nat) (fun i e h' => ∃ q, e = [some v, none, some fv, none, some o, none, some q, none, some (.int .i64 i), none, none, none, none, none, none, none, none, none, none, none] ∧ HS h [ow o (Bf.sN G S i).1, ow q (Bf.sN G S i).2] h' ∧ i ≤ (Bf.sN G S i).2.length ∧ ∀ j : Nat, j < i → g ((Bf.sN G S i).2.getD j 0) = false) (fun i => G.length + 1 - i) 0 ⟨q, by simp, H, by omega, fun j hj => absurd hj (Nat.not_lt_zero j)⟩ ?_
  clear H
  rintro J2 i _ h1 hJ2 ⟨q, rfl, H, hi, hnot⟩
  obtain ⟨bi, bd⟩ := Bf.sN_inv hn hS i
  have hle := bi.le
  have hql := H.sw1.rep.lt
  have hsu := Bf.sN_succ (next := G) (S := S) (n := i)
  have hnl := Bf.sN_le hn hS (show i ≤ i + 1 by omega)
  have hnoh := Bf.no_hit hn hS (g := g) (i := i)
  have hyes := Bf.fst_hit hn hS (g := g) (i := i)
  have hpe := fun {l} => Bf.path_eq hn hS (n := i) (a := (Bf.sN G S i).2.getD i 0) (l := l)
  simp -implicitDefEqProofs (disch:=first|omega|(simp only[LnZ];omega))[wrap64, H.sw1.rep.len]
  refine IteW.mk (fun hlt => ?_) (fun hge => ?_)
  · have hlt : i < (Bf.sN G S i).2.length := by omega
    have hsu := hsu hlt
    have hat := bi.at hlt
    have hrow := hn.row bi hlt
    obtain ⟨l, c1', c2', _⟩ := bi.chn i hlt
    have hyes := hyes hlt
    have hpe := hpe c1'
    obtain ⟨a, ha⟩ : ∃ a : Nat, (Bf.sN G S i).2.getD i 0 = a := ⟨_, (Int.toNat_of_nonneg hat.1).symm⟩
    have ha' : (Bf.sN G S i).2[i] = a := by rw [← ha]; simp [hlt]
    rw [ha, Int.toNat_natCast] at hat hsu hrow
    rw [ha] at hyes hpe c1'
    have haN : a < G.length := by omega
    have hgd : G.getD a [] = G[a] := by simp [haN]
    rw [hgd] at hsu hrow
    simp -implicitDefEqProofs (disch:=first|omega|(simp only[LnZ];omega))[wrap64, H.sw1.rep.I, ha', hf]
    refine (hp h1 H.base a haN).go ?_
    rintro _ h2 ⟨l2, rfl⟩
    have H := H.le l2
    cases q1 : g a with
    | true =>
      have hfnd : Bf.hitL G S g = l := by rw [Bf.hitL, hyes q1 hnot]; exact hpe
      rw [hfnd] at hk
      have hca := c1'.all
      simp -implicitDefEqProofs (disch:=first|omega|(simp only[LnZ];omega))[wrap64, q1]
      refine wp_while (σ := List Int × List Int × Int) (fun t e h' => ∃ u, e = [none, none, none, none, some o, none, none, none, none, some (.int .i64 t.2.2), some u, none, none, none, none, none, none, none, none, none] ∧ HS h [ow u t.2.1, ow o (Bf.sN G S i).1, ow q (Bf.sN G S i).2] h' ∧ Bf.Chn (Bf.sN G S i).1 t.2.2 t.1 ∧ t.1 ++ t.2.1.reverse = l) (fun t => t.1.length) (l, [], (a : Int)) ⟨.slice none 0 0, by simp, H.nil_ow, c1', by simp⟩ ?_
      clear H
      rintro J3 ⟨l1, l2', b⟩ _ h3 hJ3 ⟨u, rfl, H, c3, c4⟩
      simp only at c3 c4 H ⊢
      by_cases hb : 0 ≤ b
      · obtain ⟨l1', rfl, hbl, c5⟩ := c3.un hb
        obtain ⟨b', rfl⟩ : ∃ b' : Nat, b = b' := ⟨b.toNat, (Int.toNat_of_nonneg hb).symm⟩
        have hlen : l2'.length ≤ 65537 := by
          have := congrArg List.length c4
          simp at this
          omega
        have hbl' : b' < (Bf.sN G S i).1.length := by omega
        have hge2 := c5.ge
        have hbd : (Bf.sN G S i).1.getD b' 0 = (Bf.sN G S i).1[b'] := by simp [hbl']
        rw [Int.toNat_natCast, hbd] at c5
        have hok := H.sw1.rep.okI hbl'
        have hfl0 := bi.fl
        simp -implicitDefEqProofs (disch:=first|omega|(simp only[LnZ];omega))[wrap64, setC]
        refine HS.app1 (bytes := 8) H (b' : Int) rfl rfl rfl ⟨by omega, by omega⟩ rfl rfl (by omega) (by omega) fun u' h4 H => ?_
        simp -implicitDefEqProofs (disch:=first|omega|(simp only[LnZ];omega))[wrap64, H.sw1.rep.I]
        exact hJ3 (l1', l2' ++ [(b' : Int)], (Bf.sN G S i).1[b']) _ _ (by simp) ⟨u', by simp, H, c5, by rw [← c4]; simp⟩
      · have hb1 : b = -1 := by have := c3.ge; omega
        subst hb1
        have hl1 := c3.neg
        subst hl1
        simp -implicitDefEqProofs (disch:=first|omega|(simp only[LnZ];omega))[wrap64]
        refine (c_Reverse_int H).go ?_
        intro _ h4 H
        simp -implicitDefEqProofs (disch:=first|omega|(simp only[LnZ];omega))[wrap64]
        refine (c_Clip_int H).go ?_
        intro u' h5 H
        simp -implicitDefEqProofs (disch:=first|omega|(simp only[LnZ];omega))[wrap64]
        refine RetK.keep (hk _ _ ?_)
        have hfin : l = l2'.reverse := by rw [← c4]; simp
        rw [hfin]
        exact H.only1
    | false =>
      obtain ⟨u, hu, Ru⟩ := R.ldL haN
      have hu := hload_le H.base hu
      have hul := Ru.len
      have hull := Ru.lt
      simp -implicitDefEqProofs (disch:=first|omega|(simp only[LnZ];omega))[wrap64, q1, H.sw1.rep.I, ha', R.X (n := 1) rfl, hu, hul]
      refine wp_count G[a].length (fun m e h' => ∃ q, e = [some v, none, some fv, none, some o, none, some q, none, some (.int .i64 i), none, none, none, none, none, none, none, none, some u, some (.int .i64 G[a].length), some (.int .i64 m)] ∧ HS h [ow o (Bf.sF (G[a].take m) a (Bf.sN G S i)).1, ow q (Bf.sF (G[a].take m) a (Bf.sN G S i)).2] h') ⟨q, by simp, by simpa [Bf.sF] using H⟩ ?_
      clear H
      rintro J4 m _ h3 hJ4 hm ⟨q, rfl, H⟩
      simp -implicitDefEqProofs (disch:=first|omega|(simp only[LnZ];omega))[wrap64]
      refine IteW.mk (fun hlt4 => ?_) (fun hge4 => ?_)
      · have hm : m < G[a].length := by omega
        have hxr := hrow _ (List.getElem_mem hm)
        have hfo := bi.fold (i := i) hlt (l := G[a].take m) (fun y hy => by rw [ha]; exact hrow y (List.mem_of_mem_take hy))
        rw [ha] at hfo
        obtain ⟨f1, f2, _⟩ := hfo
        have hfs := Bf.sF_take (a := (a : Int)) (p := Bf.sN G S i) hm
        have hqi : (Bf.sF (G[a].take m) a (Bf.sN G S i)).2.getD i 0 = a := by rw [f2.at hlt, ha]
        have hil : i < (Bf.sF (G[a].take m) a (Bf.sN G S i)).2.length := by have := f2.len; omega
        have hfl := f1.fl
        have hfle := f1.le
        generalize Bf.sF (G[a].take m) a (Bf.sN G S i) = p at *
        obtain ⟨x, hx⟩ : ∃ x : Nat, G[a][m] = x := ⟨_, (Int.toNat_of_nonneg hxr.1).symm⟩
        rw [hx] at hxr
        have hxl : x < p.1.length := by omega
        have hqi' : p.2[i] = a := by rw [← hqi]; simp [hil]
        have hxd : p.1.getD x 0 = p.1[x] := by simp [hxl]
        rw [Bf.s1, hx, Int.toNat_natCast, hxd] at hfs
        have RuI := (Ru.on H).I
        by_cases q2 : p.1[x] = -2
        · rw [if_pos q2] at hfs
          simp -implicitDefEqProofs (disch:=first|omega|(simp only[LnZ];omega))[wrap64, RuI, hx, H.rep.I, q2, H.sw1.rep.I, hqi']
          refine H.storeF (a : Int) (i := x) hxl rfl rfl ⟨by omega, by omega⟩ rfl fun h4 H => ?_
          simp -implicitDefEqProofs (disch:=first|omega|(simp only[LnZ];omega))[wrap64, setC]
          refine HS.app1 (bytes := 8) H.sw1 (x : Int) rfl rfl rfl ⟨by omega, by omega⟩ rfl rfl (by omega) (by omega) fun q' h5 H => ?_
          simp -implicitDefEqProofs (disch:=first|omega|(simp only[LnZ];omega))[wrap64]
          exact hJ4 _ _ hm ⟨q', by simp, by rw [hfs]; exact H.sw1⟩
        · rw [if_neg q2] at hfs
          simp -implicitDefEqProofs (disch:=first|omega|(simp only[LnZ];omega))[wrap64, RuI, hx, H.rep.I, q2]
          exact hJ4 _ _ hm ⟨q, by simp, by rw [hfs]; exact H⟩
      simp -implicitDefEqProofs (disch:=first|omega|(simp only[LnZ];omega))[wrap64]
      have hmG : m = G[a].length := by omega
      subst hmG
      rw [List.take_length, ← hsu] at H
      have hlen := hnl.len
      refine hJ2 (i + 1) _ _ (by omega) ⟨q, by simp, H, by omega, fun j hj => ?_⟩
      rw [hnl.at (by omega)]
      by_cases hji : j = i
      · subst hji; rw [ha]; exact q1
      · exact hnot j (by omega)
  · have hno : Bf.hitL G S g = [] := by rw [Bf.hitL, hnoh (by omega) (fun j hj hj2 => hnot j hj)]
    rw [hno] at hk
    simp -implicitDefEqProofs (disch:=first|omega|(simp only[LnZ];omega))[wrap64]
    exact RetK.keep (hk _ _ (HS.nil_ow (Γ := []) H.base))
end Go.Proofs.YtglnelcmcimljaaGreat

namespace Go.Proofs.YtglnelcmcimljaaGreat
open Go
theorem c_around {h : Heap} {v : Value} {G : List (List Int)} {t : Nat} (R : Rep h v G) (hn : Bf.NOk G) (hGl : G.length ≤ 65536) (ht : t < G.length) : CallE Tryz.prog fn_impl_around [v, .int .i64 t] h (fun u h' => HS h [ow u (Bf.arn G t)] h') := by
  obtain ⟨u0, hu0, Ru⟩ := R.ldL ht
  have hg : G.getD (t : Int).toNat [] = G[t] := by simp [ht]
  refine CallE.gen fun k hk => EN_impl_around rfl ?_
  unfold Bf.arn at hk
  rw [hg] at hk
  simp -implicitDefEqProofs (disch:=first|omega|(simp only[LnZ];omega))[wrap64]
  refine HS.init.alloc rfl fun b2 h1 H => ?_
  have H : HS h [bx b2 [v]] h1 := by simpa [R.cells] using H
  simp -implicitDefEqProofs (disch:=first|omega|(simp only[LnZ];omega))[wrap64]
  refine H.alloc rfl fun b3 h2 H => ?_
  have H : HS h [bx b3 [.int .i64 t], bx b2 [v]] h2 := H
  have hX := (R.on H).X (n := 1) rfl
  simp -implicitDefEqProofs (disch:=first|omega|(simp only[LnZ];omega))[wrap64, H.sw1.bxld0, H.bxld0, hX, hload_le H.base hu0]
  refine (c_Contains_int (Ru.on H) (n := (t : Int))).go ?_
  rintro _ _ ⟨rfl, rfl⟩
  by_cases q : (t : Int) ∈ G[t]
  · rw [if_pos q] at hk
    simp -implicitDefEqProofs (disch:=first|omega|(simp only[LnZ];omega))[wrap64, q, H.bxld0]
    refine H.bls (α := Int) [(t : Int)] rfl rfl (ok_one (by omega)) (by decide) fun u h3 H => ?_
    simp -implicitDefEqProofs (disch:=first|omega|(simp only[LnZ];omega))[wrap64]
    exact RetK.keep (hk _ _ H.only1)
  rw [if_neg q] at hk
  simp -implicitDefEqProofs (disch:=first|omega|(simp only[LnZ];omega))[wrap64, q, H.bxld0, H.sw1.bxld0]
  refine H.bls (α := Int) [(t : Int)] rfl rfl (ok_one (by omega)) (by decide) fun u h3 H => ?_
  simp -implicitDefEqProofs (disch:=first|omega|(simp only[LnZ];omega))[wrap64]
  refine (c_shortestG hn (Bf.incr_one (by omega) (by omega)) hGl (R.on H) H.rep (Bf.back G t) (f := fn_impl_around_1) (c1 := []) (c2 := [.pointer (some ⟨b3, 0, none⟩), .pointer (some ⟨b2, 0, none⟩)]) rfl ?_).go ?_
  · intro h4 l4 a haN
    obtain ⟨ua, hua, Rua⟩ := R.ldL haN
    have hga : G.getD (a : Int).toNat [] = G[a] := by simp [haN]
    have l04 := H.base.trans l4
    have e2 := hload_le l4 H.sw2.bxld0
    have e3 := hload_le l4 H.sw1.bxld0
    have hXa := (R.le l04).X (n := 1) rfl
    have hL := R.lt
    refine CallE.gen fun k2 hk2 => EN_impl_around_1 rfl ?_
    unfold Bf.back at hk2
    rw [hga] at hk2
    by_cases q1 : (a : Int) = t
    · have q1' : a = t := by omega
      rw [decide_eq_false (fun hh : (a : Int) ≠ t => hh q1)] at hk2
      simp -implicitDefEqProofs (disch:=first|omega|(simp only[LnZ];omega))[wrap64, e2, e3, q1, q1']
      exact RetK.keep (hk2 _ _ ⟨Heap.le.refl _, by simp⟩)
    · have q1' : ¬ a = t := by omega
      rw [decide_eq_true (show (a : Int) ≠ t from q1)] at hk2
      simp -implicitDefEqProofs (disch:=first|omega|(simp only[LnZ];omega))[wrap64, e2, e3, q1, q1', hXa, hload_le l04 hua]
      refine (c_Contains_int (Rua.le l04) (n := (t : Int))).go ?_
      rintro _ _ ⟨rfl, rfl⟩
      simp -implicitDefEqProofs (disch:=first|omega|(simp only[LnZ];omega))[wrap64]
      exact RetK.keep (hk2 _ _ ⟨Heap.le.refl _, by simp⟩)
  · intro u2 h5 H5
    have H := H5.app H
    simp -implicitDefEqProofs (disch:=first|omega|(simp only[LnZ];omega))[wrap64]
    exact RetK.keep (hk _ _ H.only1)
noncomputable def Bf.lasS (G : List (List Int)) (S : List Int) (g : Int → Bool) : List Int := match (fin G S).2.find? g with
  | some t => (path G S t).dropLast
  | none => []
noncomputable def Bf.lasL (G : List (List Int)) (S : List Int) (g : Int → Bool) : List Int := match (fin G S).2.find? g with
  | some t => arn G t
  | none => []
theorem find_take {α : Type} {p : α → Bool} {l : List α} {i : Nat} (hi : i < l.length) (h : p l[i] = true) (hno : ∀ j (hj : j < i), p (l[j]'(by omega)) = false) : l.find? p = some l[i] := by
  rw [List.find?_eq_some_iff_getElem]
  exact ⟨h, i, hi, rfl, fun j hj => by rw [hno j hj]; rfl⟩
set_option maxHeartbeats 1000000 in
theorem c_lasso {h : Heap} {v w fv : Value} {G : List (List Int)} {S : List Int} {E : Nat → Nat → Prop} (hn : Bf.NOk G) (hE : ∀ x y : Nat, E x y ↔ x < G.length ∧ (y : Int) ∈ G.getD x []) (hS : incr G.length (-1) S) (hGl : G.length ≤ 65536) (R : Rep h v G) (Rs : Rep h w S) (ac : Int → Bool) {f : FuncId} {c1 c2 : List Value} (hf : fnOf fv = some (f, c1, c2))
    (hp : ∀ h1, h.le h1 → ∀ a : Nat, a < G.length → CallE Tryz.prog f (c1 ++ .int .i64 a :: c2) h1 (fun u h' => h1.le h' ∧ u = .bool (ac a))) (g : Int → Bool) (hg : ∀ a : Nat, a < G.length → (g a = true ↔ ac a = true ∧ Cyc E a)) :
    CallE Tryz.prog fn_impl_lasso [v, w, fv] h (fun u h' => ∃ u1 u2, u = .tuple #[u1, u2, .bool ((Bf.fin G S).2.find? g).isSome] ∧ HS h [ow u1 (Bf.lasS G S g), ow u2 (Bf.lasL G S g)] h') := by
  have hadj : Adj E G := by
    refine ⟨fun x y hxy => ?_, fun x hx z => ?_⟩
    · have h1 := (hE x y).1 hxy
      have h2 := hn.ent _ (Bf.row_mem h1.1) _ h1.2
      exact ⟨h1.1, by omega⟩
    · have e : G.getD x [] = G[x] := by simp [hx]
      constructor
      · intro hz
        have h2 := hn.ent _ (List.getElem_mem hx) z hz
        obtain ⟨y, rfl⟩ : ∃ y : Nat, z = y := ⟨z.toNat, by omega⟩
        exact ⟨y, rfl, (hE x y).2 ⟨hx, by rw [e]; exact hz⟩⟩
      · rintro ⟨y, rfl, hy⟩
        have := ((hE x y).1 hy).2
        rw [e] at this
        exact this
  have finv := (Bf.sN_inv hn hS G.length).1
  have hfin : Bf.sN G S G.length = Bf.fin G S := rfl
  rw [hfin] at finv
  refine CallE.gen fun k hk => EN_impl_lasso rfl ?_
  unfold Bf.lasS Bf.lasL at hk
  simp -implicitDefEqProofs (disch:=first|omega|(simp only[LnZ];omega))[wrap64]
  refine (c_cyclic R hadj (by omega)).go ?_
  rintro vc h1 ⟨C, H, hCl, hC⟩
  simp -implicitDefEqProofs (disch:=first|omega|(simp only[LnZ];omega))[wrap64]
  refine (c_order (R.on H) (Rs.on H) hn hS hGl).go ?_
  intro vo h2 H2
  have H := H2.app H
  clear H2
  have hple := finv.le
  have hord := H.rep.lt
  simp -implicitDefEqProofs (disch:=first|omega|(simp only[LnZ];omega))[wrap64, H.rep.len]
  have path_some := fun (t : Int) (ht : t ∈ (Bf.fin G S).2) => Bf.path_ok hn hS ht
  generalize hF : (Bf.fin G S).2 = F at *
  refine wp_count F.length (fun i e h' => e = [some v, some w, some fv, none, none, none, some vc, none, none, some vo, some (.int .i64 F.length), some (.int .i64 i)] ∧ HS h [ow vo F, ow vc C] h' ∧ ∀ (j : Nat) (hj : j < F.length), j < i → g F[j] = false) ⟨by simp, H, fun j _ hj => absurd hj (Nat.not_lt_zero j)⟩ ?_
  clear H
  rintro J i _ h3 hJ hi ⟨rfl, H, hno⟩
  simp -implicitDefEqProofs (disch:=first|omega|(simp only[LnZ];omega))[wrap64]
  refine IteW.mk (fun hlt => ?_) (fun hge => ?_)
  · have hix : i < F.length := by omega
    have hat := finv.inq F[i] (by rw [hF]; exact List.getElem_mem hix)
    obtain ⟨t, ht⟩ : ∃ t : Nat, F[i] = t := ⟨F[i].toNat, by omega⟩
    rw [ht] at hat
    have htN : t < G.length := by omega
    have hgt := hg t htN
    have hCt := hC t htN
    have tC : tru C t ↔ C[t]'(by omega) = true := tru_get (by omega)
    have next : g (t : Int) = false → ∀ (j : Nat) (hj : j < F.length), j < i + 1 → g F[j] = false := fun hh j hj hji => by
      by_cases e : j = i
      · subst e; rw [ht]; exact hh
      · exact hno j hj (by omega)
    simp -implicitDefEqProofs (disch:=first|omega|(simp only[LnZ];omega))[wrap64, H.rep.I, ht]
    refine H.alloc rfl fun b7 h4 H => ?_
    simp -implicitDefEqProofs (disch:=first|omega|(simp only[LnZ];omega))[wrap64]
    refine H.bxst (u := .int .i64 t) rfl rfl rfl rfl (by simp) fun h5 H => ?_
    have H : HS h [bx b7 [.int .i64 t], ow vo F, ow vc C] h5 := H
    simp -implicitDefEqProofs (disch:=first|omega|(simp only[LnZ];omega))[wrap64, H.bxld0, hf]
    refine (hp h5 H.base t htN).go ?_
    rintro _ h6 ⟨l6, rfl⟩
    have H := H.le l6
    cases q1 : ac t with
    | false =>
      simp -implicitDefEqProofs (disch:=first|omega|(simp only[LnZ];omega))[wrap64, q1]
      exact hJ _ _ hix ⟨by simp, H.drop, next (by
        cases q : g t with
        | false => rfl
        | true => have := (hgt.1 q).1; rw [q1] at this; exact absurd this (by decide))⟩
    | true =>
    cases q2 : C[t]'(by omega) with
    | false =>
      simp -implicitDefEqProofs (disch:=first|omega|(simp only[LnZ];omega))[wrap64, q1, H.bxld0, H.sw2.rep.B, q2]
      exact hJ _ _ hix ⟨by simp, H.drop, next (by
        cases q : g t with
        | false => rfl
        | true => have := tC.1 (hCt.2 (hgt.1 q).2); rw [q2] at this; exact absurd this (by decide))⟩
    | true =>
      have hcyc : Cyc E t := hCt.1 (tC.2 q2)
      have hgtt : g t = true := hgt.2 ⟨q1, hcyc⟩
      have hfd : F.find? g = some (t : Int) := by
        have := find_take (p := g) hix (by rw [ht]; exact hgtt) (fun j hj => hno j (by omega) hj)
        rw [this, ht]
      have hmem : (t : Int) ∈ F := by rw [← ht]; exact List.getElem_mem hix
      have hft : F.find? (fun n => decide (n = (t : Int))) = some (t : Int) := by
        cases hq : F.find? (fun n => decide (n = (t : Int))) with
        | none =>
          rw [List.find?_eq_none] at hq
          have := hq t hmem
          simp at this
        | some y =>
          have := List.find?_some hq
          simp only [decide_eq_true_eq] at this
          rw [this]
      have hpo := path_some t hmem
      have hhit : Bf.hitL G S (fun n => decide (n = (t : Int))) = Bf.path G S t := by
        unfold Bf.hitL
        rw [hF, hft]
      rw [hfd] at hk
      simp only [Option.isSome_some] at hk
      simp -implicitDefEqProofs (disch:=first|omega|(simp only[LnZ];omega))[wrap64, q1, H.bxld0, H.sw2.rep.B, q2]
      refine (c_shortestG hn hS hGl (R.on H) (Rs.on H) (fun n => decide (n = (t : Int))) (f := fn_impl_lasso_1) (c1 := []) (c2 := [.pointer (some ⟨b7, 0, none⟩)]) rfl ?_).go ?_
      · intro h8 l8 a haN
        have e7 := hload_le l8 H.bxld0
        refine CallE.gen fun k2 hk2 => EN_impl_lasso_1 rfl ?_
        by_cases q3 : (a : Int) = t
        · have q3' : a = t := by omega
          simp -implicitDefEqProofs (disch:=first|omega|(simp only[LnZ];omega))[wrap64, e7, q3, q3']
          exact RetK.keep (hk2 _ _ ⟨Heap.le.refl _, by simp [q3]⟩)
        · have q3' : ¬ a = t := by omega
          simp -implicitDefEqProofs (disch:=first|omega|(simp only[LnZ];omega))[wrap64, e7, q3, q3']
          exact RetK.keep (hk2 _ _ ⟨Heap.le.refl _, by rw [decide_eq_false q3]⟩)
      · intro up h9 H9
        rw [hhit] at H9
        have H := H9.app H
        obtain ⟨l0, hl0⟩ := hpo.2.2.last
        have hpl := hpo.2.1
        rw [hl0] at H hk hpl
        simp only [List.dropLast_concat] at hk
        simp only [List.length_append, List.length_singleton] at hpl
        obtain ⟨v', hv', H'⟩ := H.cut (n := l0.length) (esz := 1) (k := .i64) (by simp)
        rw [List.take_left' rfl] at H'
        have hlen := H.rep.len
        simp only [List.length_append, List.length_singleton] at hlen
        push_cast at hlen
        have hsub : (l0.length : Int) + 1 - 1 = l0.length := by omega
        simp -implicitDefEqProofs (disch:=first|omega|(simp only[LnZ];omega))[wrap64, hlen, hsub, hv', H.sw1.bxld0]
        refine (c_around (R.on H') hn hGl htN).go ?_
        intro ua h10 H10
        have H := H10.app H'
        simp -implicitDefEqProofs (disch:=first|omega|(simp only[LnZ];omega))[wrap64]
        exact RetK.keep (hk _ _ ⟨v', ua, rfl, (H.sw1.under fun _ H => H.only1)⟩)
  · have hfd : F.find? g = none := by
      rw [List.find?_eq_none]
      intro x hx
      obtain ⟨j, hj, rfl⟩ := List.mem_iff_getElem.1 hx
      rw [hno j hj (by omega)]; simp
    rw [hfd] at hk
    simp only [Option.isSome_none] at hk
    simp -implicitDefEqProofs (disch:=first|omega|(simp only[LnZ];omega))[wrap64]
    exact RetK.keep (hk _ _ ⟨_, _, rfl, (HS.nil_ow (Γ := []) H.base).nil_ow⟩)
end Go.Proofs.YtglnelcmcimljaaGreat

namespace Go.Proofs.YtglnelcmcimljaaGreat
open Go
theorem vals_take {a : Aut} {l : List Int} {i : Nat} (h1 : 1 ≤ i) (hi : i < l.length) : Bf.vals a (l.take (i + 1)) = Bf.vals a (l.take i) ++ [Bf.ev a (l[i - 1]'(by omega)) l[i]] := by
  obtain ⟨j, rfl⟩ : ∃ j, i = j + 1 := ⟨i - 1, by omega⟩
  have e1 : l.take (j + 1) = l.take j ++ [l[j]'(by omega)] := by
    rw [List.take_add_one, List.getElem?_eq_getElem (by omega)]; rfl
  have e2 : l.take (j + 1 + 1) = l.take j ++ [l[j]'(by omega)] ++ [l[j + 1]] := by
    rw [List.take_add_one, List.getElem?_eq_getElem hi, e1]; rfl
  rw [e2, Bf.vals_snoc, e1]
  rfl
theorem c_values {h : Heap} {v w : Value} {a : Aut} {l : List Int} (Ra : Rep h v a) (Rl : Rep h w l) (ha : a.Ok) (hl : l.length ≤ 1048576) (hj : Bf.Joined (Bf.Ed (Bf.nx a)) l) : CallE Tryz.prog fn_impl_Automaton_values [v, w] h (fun u h' => HS h [ow u (Bf.vals a l)] h') := by
  obtain ⟨v1, v2, v3, rfl, R1, R2, R3⟩ := Rep_Aut.1 Ra
  have he := ha.e
  refine CallE.gen fun k hk => EN_impl_Automaton_values rfl ?_
  simp -implicitDefEqProofs (disch:=first|omega|(simp only[LnZ];omega))[wrap64]
  refine HS.init.alloc rfl fun b3 h1 H => ?_
  have H : HS h [bx b3 [w]] h1 := by simpa [Rl.cells] using H
  simp -implicitDefEqProofs (disch:=first|omega|(simp only[LnZ];omega))[wrap64]
  refine H.alloc rfl fun b6 h2 H => ?_
  simp -implicitDefEqProofs (disch:=first|omega|(simp only[LnZ];omega))[wrap64]
  refine H.bxst (u := .int .i64 1) rfl rfl rfl rfl (by simp) fun h3 H => ?_
  have H : HS h [bx b6 [.int .i64 1], bx b3 [w]] h3 := H
  simp -implicitDefEqProofs (disch:=first|omega|(simp only[LnZ];omega))[wrap64]
  refine wp_while (σ := Nat) (fun i e h' => ∃ (b6 : Nat) (o : Value), e = [none, none, some (.agg #[v1, v2, v3]), some (.pointer (some ⟨b3, 0, none⟩)), none, some o, some (.pointer (some ⟨b6, 0, none⟩)), none, none] ∧ 1 ≤ i ∧ i ≤ l.length + 1 ∧ HS h [bx b6 [.int .i64 i], ow o (Bf.vals a (l.take i)), bx b3 [w]] h') (fun i => l.length + 1 - i) 1 ⟨b6, .slice none 0 0, by simp, by omega, by omega, by
    have e : Bf.vals a (l.take 1) = [] := by
      cases l with
      | nil => rfl
      | cons x l => rfl
    rw [e]
    exact (H.nil_ow (α := Int)).sw1⟩ ?_
  clear H
  rintro J i _ h4 hJ ⟨b6, o, rfl, hi1, hi2, H⟩
  have HP := H.sw2
  have hlw := (Rl.on H).len
  simp -implicitDefEqProofs (disch:=first|omega|(simp only[LnZ];omega))[wrap64, H.bxld0, HP.bxld0, hlw]
  refine IteW.mk (fun hlt => ?_) (fun hge => ?_)
  · have hil : i < l.length := by omega
    have hed := (Bf.nx_Ed ha).1 (hj.at (i - 1) (by omega))
    have hi' : i - 1 + 1 = i := by omega
    have hed : ∃ e ∈ a.edges, e.frm = l[i - 1]'(by omega) ∧ e.to = l[i] := by
      obtain ⟨e, he1, he2, he3⟩ := hed
      refine ⟨e, he1, he2, ?_⟩
      rw [he3]
      congr 1
    have hvt := vals_take (a := a) hi1 hil
    obtain ⟨P, hP⟩ : ∃ P : Tr → Bool, P = fun e => decide (e.frm = l[i - 1]'(by omega) ∧ e.to = l[i]) := ⟨_, rfl⟩
    have hlen2 := Bf.vals_len (a := a) (l := l.take i)
    rw [List.length_take] at hlen2
    simp -implicitDefEqProofs (disch:=first|omega|(simp only[LnZ];omega))[wrap64]
    refine (c_IndexFunc_impl_Transition (R3.on H) (f := fn_impl_Automaton_values_1) (c1 := []) (c2 := [.pointer (some ⟨b3, 0, none⟩), .pointer (some ⟨b6, 0, none⟩)]) rfl P ?_).go ?_
    · intro h5 l5 k hk2 u Ru
      have e6 := hload_le l5 H.bxld0
      have e3 := hload_le l5 HP.bxld0
      have RI := ((Rl.on H).le l5).I
      obtain ⟨hu, hok⟩ := Rep_Tr.1 Ru
      obtain ⟨j, hj2⟩ : ∃ j, i = j + 1 := ⟨i - 1, by omega⟩
      subst hj2
      have hsub : ((j + 1 : Nat) : Int) - 1 = (j : Int) := by omega
      have hw : l[j + 1 - 1]'(by omega) = l[j]'(by omega) := rfl
      rw [hP]
      simp only
      rw [hw]
      subst hu
      refine CallE.gen fun k2 hk3 => EN_impl_Automaton_values_1 rfl ?_
      have hlt63 := Rl.lt
      by_cases q1 : a.edges[k].frm = l[j]'(by omega)
      · by_cases q2 : a.edges[k].to = l[j + 1]
        · simp -implicitDefEqProofs (disch:=first|omega|(simp only[LnZ];omega))[wrap64, Tr.v, e6, e3, hsub, RI, q1, q2]
          exact RetK.keep (hk3 _ _ ⟨Heap.le.refl _, by rw [decide_eq_true ⟨q1, q2⟩]⟩)
        · simp -implicitDefEqProofs (disch:=first|omega|(simp only[LnZ];omega))[wrap64, Tr.v, e6, e3, hsub, RI, q1, q2]
          exact RetK.keep (hk3 _ _ ⟨Heap.le.refl _, by rw [decide_eq_false (fun hh : _ ∧ _ => q2 hh.2)]⟩)
      · simp -implicitDefEqProofs (disch:=first|omega|(simp only[LnZ];omega))[wrap64, Tr.v, e6, e3, hsub, RI, q1]
        exact RetK.keep (hk3 _ _ ⟨Heap.le.refl _, by rw [decide_eq_false (fun hh : _ ∧ _ => q1 hh.1)]⟩)
    · rintro _ h6 ⟨l6, rfl⟩
      have H := H.le l6
      cases hq : a.edges.findIdx? P with
      | none =>
        rw [List.findIdx?_eq_none_iff] at hq
        obtain ⟨e, he1, he2⟩ := hed
        have := hq e he1
        rw [hP] at this
        simp [he2] at this
      | some k =>
        obtain ⟨hkl, hk1, hk2⟩ := List.findIdx?_eq_some_iff_getElem.1 hq
        have hev : Bf.ev a (l[i - 1]'(by omega)) l[i] = a.edges[k].value := by
          unfold Bf.ev
          have : a.edges.find? (fun e => decide (e.frm = l[i - 1]'(by omega) ∧ e.to = l[i])) = some a.edges[k] := by
            rw [← hP]
            exact find_take hkl hk1 (fun j hj => by simpa using hk2 j hj)
          rw [this]
        have hok := (R3.okTr hkl)
        rw [hev] at hvt
        simp -implicitDefEqProofs (disch:=first|omega|(simp only[LnZ];omega))[wrap64, (R3.on H).xTr, (R3.on H).fTr]
        refine HS.app1 (bytes := 8) H.sw1 a.edges[k].value rfl rfl rfl hok.value rfl rfl (by omega) (by omega) fun o' h7 H => ?_
        simp -implicitDefEqProofs (disch:=first|omega|(simp only[LnZ];omega))[wrap64, H.sw1.bxld0]
        refine H.alloc rfl fun b6' h8 H => ?_
        simp -implicitDefEqProofs (disch:=first|omega|(simp only[LnZ];omega))[wrap64]
        refine H.bxst (u := .int .i64 i) rfl rfl rfl rfl (by simp) fun h9 H => ?_
        have H : HS h [bx b6' [.int .i64 i], ow o' (Bf.vals a (l.take i) ++ [a.edges[k].value]), bx b6 [.int .i64 i], bx b3 [w]] h9 := H
        simp -implicitDefEqProofs (disch:=first|omega|(simp only[LnZ];omega))[wrap64, H.bxld0]
        refine H.bxst (u := .int .i64 ((i : Int) + 1)) rfl rfl rfl rfl (by simp) fun h10 H => ?_
        have H : HS h [bx b6' [.int .i64 ((i : Int) + 1)], ow o' (Bf.vals a (l.take i) ++ [a.edges[k].value]), bx b6 [.int .i64 i], bx b3 [w]] h10 := H
        simp -implicitDefEqProofs (disch:=first|omega|(simp only[LnZ];omega))[wrap64]
        refine hJ (i + 1) _ _ (by omega) ⟨b6', o', by simp, by omega, by omega, ?_⟩
        rw [hvt]
        exact H.under fun _ H => H.under fun _ H => H.drop
  · have hall : l.take i = l := List.take_of_length_le (by omega)
    rw [hall] at H
    simp -implicitDefEqProofs (disch:=first|omega|(simp only[LnZ];omega))[wrap64]
    refine (c_Clip_int H.sw1).go ?_
    intro o' h5 H
    simp -implicitDefEqProofs (disch:=first|omega|(simp only[LnZ];omega))[wrap64]
    exact RetK.keep (hk _ _ H.only1)
end Go.Proofs.YtglnelcmcimljaaGreat

namespace Go.Proofs.YtglnelcmcimljaaGreat
open Go
theorem c_l6Letters {h : Heap} {w : Value} {W : List Int} (Rw : Rep h w W) : CallE Tryz.prog fn_spec_l6Letters [w] h (fun u h' => h' = h ∧ u = .bool (decide (∀ x ∈ W, 0 ≤ x ∧ x ≤ 7))) := by
  have hL := Rw.lt
  refine CallE.gen fun k hk => EN_spec_l6Letters rfl ?_
  simp -implicitDefEqProofs (disch:=first|omega|(simp only[LnZ];omega))[wrap64]
  refine wp_count W.length (fun i e h' => e = [some w, none, some (.int .i64 i)] ∧ h' = h ∧ ∀ (j : Nat) (hj : j < W.length), j < i → 0 ≤ W[j] ∧ W[j] ≤ 7) ⟨rfl, rfl, fun j _ hj => absurd hj (Nat.not_lt_zero j)⟩ ?_
  rintro J i _ h1 hJ hi ⟨rfl, rfl, hn⟩
  simp -implicitDefEqProofs (disch:=first|omega|(simp only[LnZ];omega))[wrap64, Rw.len]
  refine IteW.mk (fun hlt => ?_) (fun hge => ?_)
  · have hlx : i < W.length := by omega
    have hno : ¬ (0 ≤ W[i] ∧ W[i] ≤ 7) → k (.bool false) h1 := fun hx => hk _ _ ⟨rfl, by congr 1; rw [eq_comm, decide_eq_false_iff_not]; exact fun hh => hx (hh _ (List.getElem_mem hlx))⟩
    by_cases h1 : W[i] < 0
    · simp -implicitDefEqProofs (disch:=first|omega|(simp only[LnZ];omega))[wrap64, Rw.I, h1]
      exact RetK.keep (hno (by omega))
    by_cases h2 : 7 < W[i]
    · simp -implicitDefEqProofs (disch:=first|omega|(simp only[LnZ];omega))[wrap64, Rw.I, h1, h2]
      exact RetK.keep (hno (by omega))
    simp -implicitDefEqProofs (disch:=first|omega|(simp only[LnZ];omega))[wrap64, Rw.I, h1, h2]
    refine hJ _ _ hlx ⟨rfl, rfl, fun j hj hji => ?_⟩
    by_cases hji2 : j = i
    · subst hji2; omega
    · exact hn j hj (by omega)
  · simp -implicitDefEqProofs (disch:=first|omega|(simp only[LnZ];omega))[wrap64]
    refine RetK.keep (hk _ _ ⟨rfl, ?_⟩)
    congr 1
    rw [eq_comm, decide_eq_true_iff]
    intro x hx
    obtain ⟨j, hj, rfl⟩ := List.mem_iff_getElem.1 hx
    exact hn j hj (by omega)
theorem c_l12Word {h : Heap} {w : Value} {W : List Int} (Rw : Rep h w W) : CallE Tryz.prog fn_spec_l12Word [w] h (fun u h' => h' = h ∧ u = .bool (decide (Wok W))) := by
  have hL := Rw.lt
  refine CallE.gen fun k hk => EN_spec_l12Word rfl ?_
  simp -implicitDefEqProofs (disch:=first|omega|(simp only[LnZ];omega))[wrap64]
  refine (c_l6Letters Rw).go ?_
  rintro _ _ ⟨rfl, rfl⟩
  by_cases h1 : ∀ x ∈ W, 0 ≤ x ∧ x ≤ 7
  · rw [decide_eq_true h1]
    simp -implicitDefEqProofs (disch:=first|omega|(simp only[LnZ];omega))[wrap64, Rw.len]
    refine RetK.keep (hk _ _ ⟨rfl, ?_⟩)
    congr 1
    rw [Bool.eq_iff_iff, decide_eq_true_iff, decide_eq_true_iff]
    exact ⟨fun h => ⟨by omega, h1⟩, fun h => by have := h.1; omega⟩
  · rw [decide_eq_false h1]
    simp -implicitDefEqProofs (disch:=first|omega|(simp only[LnZ];omega))[wrap64]
    refine RetK.keep (hk _ _ ⟨rfl, ?_⟩)
    congr 1
    rw [eq_comm, decide_eq_false_iff_not]
    exact fun hh => h1 hh.2
theorem c_l12Only {h : Heap} {s l : Value} {S : List Int} {L : List Bool} (Rs : Rep h s S) (Rl : Rep h l L) (hS : ∀ x ∈ S, 0 ≤ x ∧ x < L.length) (hSl : S.length ≤ 1048576) : CallE Tryz.prog fn_spec_l12Only [s, l] h (fun u h' => HS h [ow u (S.filter fun x => L.getD x.toNat false)] h') := by
  have hll := Rl.lt
  refine CallE.gen fun k hk => EN_spec_l12Only rfl ?_
  simp -implicitDefEqProofs (disch:=first|omega|(simp only[LnZ];omega))[wrap64]
  refine HS.init.bls0 Int fun o h1 H => ?_
  simp -implicitDefEqProofs (disch:=first|omega|(simp only[LnZ];omega))[wrap64]
  refine wp_count S.length (fun i e h' => ∃ o, e = [some s, some l, none, some o, some (.int .i64 i)] ∧ HS h [ow o ((S.take i).filter fun x => L.getD x.toNat false)] h') ⟨o, by simp, by simpa using H⟩ ?_
  clear H
  rintro J i _ h2 hJ hi ⟨o, rfl, H⟩
  have hfl := List.length_filter_le (fun x : Int => L.getD x.toNat false) (S.take i)
  simp only [List.length_take] at hfl
  simp -implicitDefEqProofs (disch:=first|omega|(simp only[LnZ];omega))[wrap64, (Rs.on H).len]
  refine IteW.mk (fun hlt => ?_) (fun hge => ?_)
  · have hix : i < S.length := by omega
    have hx := hS _ (List.getElem_mem hix)
    obtain ⟨q, hq⟩ : ∃ q : Nat, S[i] = q := ⟨S[i].toNat, by omega⟩
    have hqn : q < L.length := by omega
    have hgd : L.getD q false = L[q] := by simp [hqn]
    have hfm : (S.take (i + 1)).filter (fun x => L.getD x.toNat false) = (S.take i).filter (fun x => L.getD x.toNat false) ++ if L[q] then [(q : Int)] else [] := by
      rw [List.take_add_one, List.getElem?_eq_getElem hix, List.filter_append]
      congr 1
      simp only [Option.toList_some, List.filter_cons, List.filter_nil, hq, Int.toNat_natCast, hgd]
    cases hb : L[q] with
    | true =>
      simp -implicitDefEqProofs (disch:=first|omega|(simp only[LnZ];omega))[wrap64, (Rs.on H).I, hq, (Rl.on H).B, hb]
      refine H.app1 (q : Int) rfl rfl rfl ⟨by omega, by omega⟩ rfl rfl (by omega) (by omega) fun o' h3 H => ?_
      simp -implicitDefEqProofs (disch:=first|omega|(simp only[LnZ];omega))[wrap64]
      refine hJ _ _ hix ⟨o', rfl, ?_⟩
      rw [hfm, hb]; exact H
    | false =>
      simp -implicitDefEqProofs (disch:=first|omega|(simp only[LnZ];omega))[wrap64, (Rs.on H).I, hq, (Rl.on H).B, hb]
      refine hJ _ _ hix ⟨o, rfl, ?_⟩
      rw [hfm, hb]; simpa using H
  simp -implicitDefEqProofs (disch:=first|omega|(simp only[LnZ];omega))[wrap64]
  rw [List.take_of_length_le (by omega)] at H
  exact RetK.keep (hk _ _ H)
theorem c_l12Step {h : Heap} {v s : Value} {a : Aut} {S : List Int} {letter : Int} (Ra : Rep h v a) (Rs : Rep h s S) (ha : a.Ok) : CallE Tryz.prog fn_spec_l12Step [v, s, .int .i64 letter] h (fun u h' => ∃ T, HS h [ow u T] h' ∧ incr a.acc.length (-1) T ∧ ∀ x, x ∈ T ↔ ∃ e ∈ a.edges, e.frm ∈ S ∧ e.on letter = true ∧ e.to = x) := by
  obtain ⟨v1, v2, v3, rfl, R1, R2, R3⟩ := Rep_Aut.1 Ra
  have hn := ha.n
  have he := ha.e
  refine CallE.gen fun k hk => EN_spec_l12Step rfl ?_
  simp -implicitDefEqProofs (disch:=first|omega|(simp only[LnZ];omega))[wrap64]
  refine HS.init.bls0 Int fun o h1 H => ?_
  simp -implicitDefEqProofs (disch:=first|omega|(simp only[LnZ];omega))[wrap64]
  refine wp_count a.edges.length (fun i e h' => ∃ o, e = [none, some s, some (.int .i64 letter), some (.agg #[v1, v2, v3]), none, some o, some (.int .i64 i)] ∧ ∃ T : List Int, HS h [ow o T] h' ∧ incr a.acc.length (-1) T ∧ ∀ x, x ∈ T ↔ ∃ e ∈ a.edges.take i, e.frm ∈ S ∧ e.on letter = true ∧ e.to = x) ⟨o, by simp, [], H, trivial, by simp⟩ ?_
  clear H
  rintro J i _ h2 hJ hi ⟨o, rfl, T, H, hT, hTm⟩
  simp -implicitDefEqProofs (disch:=first|omega|(simp only[LnZ];omega))[wrap64, (R3.on H).len]
  refine IteW.mk (fun hlt => ?_) (fun hge => ?_)
  · have hix : i < a.edges.length := by omega
    have hx := ha.t hix
    have hv := R3.okTr hix
    unfold Tr.Ok at hx
    have hstep : ∀ T' : List Int, (∀ x, x ∈ T' ↔ x ∈ T ∨ (a.edges[i].frm ∈ S ∧ a.edges[i].on letter = true ∧ a.edges[i].to = x)) → ∀ x, x ∈ T' ↔ ∃ e ∈ a.edges.take (i + 1), e.frm ∈ S ∧ e.on letter = true ∧ e.to = x := by
      intro T' hT' x
      rw [hT', hTm]
      constructor
      · rintro (⟨e, h1, h2⟩ | h1)
        · exact ⟨e, (take_mem_succ hix).2 (.inl h1), h2⟩
        · exact ⟨_, (take_mem_succ hix).2 (.inr rfl), h1⟩
      · rintro ⟨e, h1, h2⟩
        rcases (take_mem_succ hix).1 h1 with h1 | rfl
        · exact .inl ⟨e, h1, h2⟩
        · exact .inr h2
    simp -implicitDefEqProofs (disch:=first|omega|(simp only[LnZ];omega))[wrap64, (R3.on H).xTr, (R3.on H).fTr, Tr.v]
    refine (c_l4In (Rs.on H)).go ?_
    rintro _ _ ⟨rfl, rfl⟩
    by_cases h1 : a.edges[i].frm ∈ S
    case neg =>
      simp -implicitDefEqProofs (disch:=first|omega|(simp only[LnZ];omega))[wrap64, h1]
      exact hJ _ _ hix ⟨o, by simp, T, H, hT, hstep T fun x => ⟨.inl, fun hh => hh.elim id fun hh => absurd hh.1 h1⟩⟩
    simp -implicitDefEqProofs (disch:=first|omega|(simp only[LnZ];omega))[wrap64, h1, (R3.on H).xTr, Tr.v]
    refine (c_l7On (t := a.edges[i]) (Rep_Tr.2 ⟨by simp [Tr.v], hv⟩)).go ?_
    rintro _ _ ⟨rfl, rfl⟩
    by_cases h3 : a.edges[i].on letter = true
    case neg =>
      simp -implicitDefEqProofs (disch:=first|omega|(simp only[LnZ];omega))[wrap64, h3]
      exact hJ _ _ hix ⟨o, by simp, T, H, hT, hstep T fun x => ⟨.inl, fun hh => hh.elim id fun hh => absurd hh.2.1 h3⟩⟩
    simp -implicitDefEqProofs (disch:=first|omega|(simp only[LnZ];omega))[wrap64, h3, (R3.on H).xTr, (R3.on H).fTr, Tr.v]
    refine (c_l10Sorted H hT (by omega) (by omega)).go ?_
    rintro o' h4 ⟨T', H, hT', hTm'⟩
    simp -implicitDefEqProofs (disch:=first|omega|(simp only[LnZ];omega))[wrap64]
    refine hJ _ _ hix ⟨o', by simp, T', H, hT', hstep T' fun x => ?_⟩
    rw [hTm']
    constructor
    · rintro (h5 | h5)
      · exact .inl h5
      · exact .inr ⟨h1, h3, h5.symm⟩
    · rintro (h5 | h5)
      · exact .inl h5
      · exact .inr h5.2.2.symm
  simp -implicitDefEqProofs (disch:=first|omega|(simp only[LnZ];omega))[wrap64]
  rw [List.take_of_length_le (by omega)] at hTm
  exact RetK.keep (hk _ _ ⟨T, H, hT, hTm⟩)
theorem c_l12States {h : Heap} {v w : Value} {a : Aut} {W : List Int} (Ra : Rep h v a) (Rw : Rep h w W) (ha : a.Ok) : CallE Tryz.prog fn_spec_l12States [v, w] h (fun u h' => HS h [ow u (a.states W)] h') := by
  obtain ⟨v1, v2, v3, rfl, R1, R2, R3⟩ := Rep_Aut.1 Ra
  have hn := ha.n
  have hil := ha.il
  have hwl := Rw.lt
  have hfil : ∀ {L : List Bool} {S : List Int}, L.length = a.acc.length → (∀ q, tru L q ↔ q < a.acc.length ∧ a.Live q) → incr a.acc.length (-1) S → incr a.acc.length (-1) (S.filter fun x => L.getD x.toNat false) ∧ ∀ q : Nat, (q : Int) ∈ (S.filter fun x => L.getD x.toNat false) ↔ (q : Int) ∈ S ∧ a.Live q := by
    intro L S hLl hL hS
    refine ⟨incr_filter hS, fun q => ?_⟩
    rw [List.mem_filter]
    have := hL q
    simp only [tru] at this
    simp only [Int.toNat_natCast]
    rw [this]
    constructor
    · rintro ⟨h1, h2⟩; exact ⟨h1, h2.2⟩
    · rintro ⟨h1, h2⟩
      have := incr_mem hS _ h1
      exact ⟨h1, by omega, h2⟩
  refine CallE.gen fun k hk => EN_spec_l12States rfl ?_
  simp -implicitDefEqProofs (disch:=first|omega|(simp only[LnZ];omega))[wrap64]
  refine (c_spec_LiveStates Ra ha).go ?_
  rintro l h1 ⟨L, H, hLl, hL⟩
  simp -implicitDefEqProofs (disch:=first|omega|(simp only[LnZ];omega))[wrap64]
  refine (c_l12Only (R1.on H) H.rep (fun x hx => by have := incr_mem ha.i x hx; omega) (by omega)).go ?_
  intro s h2 H2
  have H := H2.app H
  obtain ⟨f1, f2⟩ := hfil hLl hL ha.i
  simp -implicitDefEqProofs (disch:=first|omega|(simp only[LnZ];omega))[wrap64]
  refine wp_count W.length (fun i e h' => ∃ s, e = [none, some w, some (.agg #[v1, v2, v3]), none, some l, some s, some (.int .i64 i)] ∧ ∃ S : List Int, HS h [ow s S, ow l L] h' ∧ incr a.acc.length (-1) S ∧ ∀ q : Nat, (q : Int) ∈ S ↔ a.behind (W.take i) q) ⟨s, by simp, _, H, f1, f2⟩ ?_
  clear H f1 f2
  rintro J i _ h3 hJ hi ⟨s, rfl, S, H, hS, hSm⟩
  have hSl := incr_len hS (by omega)
  simp -implicitDefEqProofs (disch:=first|omega|(simp only[LnZ];omega))[wrap64, (Rw.on H).len]
  refine IteW.mk (fun hlt => ?_) (fun hge => ?_)
  · have hix : i < W.length := by omega
    simp -implicitDefEqProofs (disch:=first|omega|(simp only[LnZ];omega))[wrap64, (Rw.on H).I]
    refine (c_l12Step (Ra.on H) H.rep ha).go ?_
    rintro t h4 ⟨T, H4, hT, hTm⟩
    have H := H4.app H
    have hTl := incr_len hT (by omega)
    simp -implicitDefEqProofs (disch:=first|omega|(simp only[LnZ];omega))[wrap64]
    refine (c_l12Only H.rep H.sw2.rep (fun x hx => by have := incr_mem hT x hx; omega) (by omega)).go ?_
    intro s' h5 H5
    have H := ((H5.app H).sw1.drop).sw1.drop
    obtain ⟨f1, f2⟩ := hfil hLl hL hT
    simp -implicitDefEqProofs (disch:=first|omega|(simp only[LnZ];omega))[wrap64]
    refine hJ _ _ hix ⟨s', by simp, _, H, f1, fun q => ?_⟩
    rw [f2, hTm, Aut.behind, foldl_take hix]
    constructor
    · rintro ⟨⟨e, h6, h7, h8, h9⟩, h10⟩
      have hx := ha.2.2.2 e h6
      unfold Tr.Ok at hx
      refine ⟨h10, e, h6, ?_, h9, h8⟩
      show a.behind (W.take i) _
      rw [← hSm, Int.toNat_of_nonneg hx.1]
      exact h7
    · rintro ⟨h10, e, h6, h7, h9, h8⟩
      have hx := ha.2.2.2 e h6
      unfold Tr.Ok at hx
      have h7 : a.behind (W.take i) _ := h7
      rw [← hSm, Int.toNat_of_nonneg hx.1] at h7
      exact ⟨⟨e, h6, h7, h8, h9⟩, h10⟩
  simp -implicitDefEqProofs (disch:=first|omega|(simp only[LnZ];omega))[wrap64]
  rw [List.take_of_length_le (by omega)] at hSm
  refine H.appPL (α := Int) (l2 := S) rfl rfl H.rep rfl rfl (by omega) fun o h4 H => ?_
  simp -implicitDefEqProofs (disch:=first|omega|(simp only[LnZ];omega))[wrap64]
  have he : S = a.states W := by
    refine Aut.states_eq hS fun q => ?_
    rw [hSm]
    constructor
    · intro h5
      have := incr_mem hS q ((hSm q).2 h5)
      exact ⟨by omega, h5⟩
    · exact fun h5 => h5.2
  rw [he] at H
  exact RetK.keep (hk _ _ H.only)
noncomputable def preV (a : Aut) (w : List Int) : List Int := if a.Ok ∧ Wok w then a.states w else []
theorem c_PrefixStates {h : Heap} {v w : Value} {a : Aut} {W : List Int} (Ra : Rep h v a) (Rw : Rep h w W) : CallE Tryz.prog fn_impl_PrefixStates [v, w] h (R2 (decide (a.Ok ∧ Wok W)) (preV a W) h) := by
  have Fa := Ra.aAut
  refine CallE.gen fun k hk => EN_impl_PrefixStates rfl ?_
  have hno : ¬ (a.Ok ∧ Wok W) → ∀ h', h.le h' → k (.tuple #[.slice none 0 0, .bool false]) h' := fun hn h' hl => hk _ _ ⟨_, by rw [decide_eq_false hn], by rw [preV, if_neg hn]; exact HS.nil_ow (Γ := []) hl⟩
  simp -implicitDefEqProofs (disch:=first|omega|(simp only[LnZ];omega))[wrap64, Fa]
  refine (c_AutomatonValid Ra).go ?_
  rintro _ h1 ⟨l1, rfl⟩
  by_cases ha : a.Ok
  case neg =>
    simp -implicitDefEqProofs (disch:=first|omega|(simp only[LnZ];omega))[wrap64, ha]
    exact RetK.keep (hno (fun hh => ha hh.1) _ l1)
  simp -implicitDefEqProofs (disch:=first|omega|(simp only[LnZ];omega))[wrap64, ha]
  refine (c_wordOk (Rw.le l1)).go ?_
  rintro _ h2 ⟨l2, rfl⟩
  have l2 := l1.trans l2
  by_cases hw : Wok W
  case neg =>
    simp -implicitDefEqProofs (disch:=first|omega|(simp only[LnZ];omega))[wrap64, hw]
    exact RetK.keep (hno (fun hh => hw hh.2) _ l2)
  simp -implicitDefEqProofs (disch:=first|omega|(simp only[LnZ];omega))[wrap64, hw, Fa]
  refine (c_prefix (Ra.le l2) (Rw.le l2) ha).go ?_
  intro u h3 H
  simp -implicitDefEqProofs (disch:=first|omega|(simp only[LnZ];omega))[wrap64]
  exact RetK.keep (hk _ _ ⟨_, by rw [decide_eq_true ⟨ha, hw⟩], by rw [preV, if_pos ⟨ha, hw⟩]; exact HS.app (Γ := []) H l2⟩)
theorem c_spec_PrefixStates {h : Heap} {v w : Value} {a : Aut} {W : List Int} (Ra : Rep h v a) (Rw : Rep h w W) : CallE Tryz.prog fn_spec_PrefixStates [v, w] h (R2 (decide (a.Ok ∧ Wok W)) (preV a W) h) := by
  have Fa := Ra.aAut
  refine CallE.gen fun k hk => EN_spec_PrefixStates rfl ?_
  simp -implicitDefEqProofs (disch:=first|omega|(simp only[LnZ];omega))[wrap64, Fa]
  refine (c_spec_AutomatonValid Ra).go ?_
  rintro _ _ ⟨rfl, rfl⟩
  by_cases ha : a.Ok
  case neg =>
    have hn : ¬ (a.Ok ∧ Wok W) := fun hh => ha hh.1
    simp -implicitDefEqProofs (disch:=first|omega|(simp only[LnZ];omega))[wrap64, ha]
    refine HS.init.bls0 Int fun o h1 H => ?_
    simp -implicitDefEqProofs (disch:=first|omega|(simp only[LnZ];omega))[wrap64]
    exact RetK.keep (hk _ _ ⟨_, by rw [decide_eq_false hn], by rw [preV, if_neg hn]; exact H⟩)
  simp -implicitDefEqProofs (disch:=first|omega|(simp only[LnZ];omega))[wrap64, ha]
  refine (c_l12Word Rw).go ?_
  rintro _ _ ⟨rfl, rfl⟩
  by_cases hw : Wok W
  case neg =>
    have hn : ¬ (a.Ok ∧ Wok W) := fun hh => hw hh.2
    simp -implicitDefEqProofs (disch:=first|omega|(simp only[LnZ];omega))[wrap64, hw]
    refine HS.init.bls0 Int fun o h1 H => ?_
    simp -implicitDefEqProofs (disch:=first|omega|(simp only[LnZ];omega))[wrap64]
    exact RetK.keep (hk _ _ ⟨_, by rw [decide_eq_false hn], by rw [preV, if_neg hn]; exact H⟩)
  simp -implicitDefEqProofs (disch:=first|omega|(simp only[LnZ];omega))[wrap64, hw, Fa]
  refine (c_l12States Ra Rw ha).go ?_
  intro u h3 H
  simp -implicitDefEqProofs (disch:=first|omega|(simp only[LnZ];omega))[wrap64]
  exact RetK.keep (hk _ _ ⟨_, by rw [decide_eq_true ⟨ha, hw⟩], by rw [preV, if_pos ⟨ha, hw⟩]; exact H⟩)
end Go.Proofs.YtglnelcmcimljaaGreat

namespace Go.Proofs.YtglnelcmcimljaaGreat
open Go
noncomputable def fwL (a : Aut) : Las := if a.Ok then (Bf.fw a).getD ⟨[], []⟩ else ⟨[], []⟩
noncomputable def fwO (a : Aut) : Bool := if a.Ok then (Bf.fw a).isSome else false
theorem zero_Las {g h : Heap} {Γ : List HP} (H : HS g Γ h) : HS g (ow (.agg #[.slice none 0 0, .slice none 0 0]) (⟨[], []⟩ : Las) :: Γ) h := HS.mkLas (a := ⟨[], []⟩) H.nil_ow.nil_ow
set_option maxHeartbeats 1000000 in
theorem c_FindWord {h : Heap} {v : Value} {a : Aut} (Ra : Rep h v a) : CallE Tryz.prog fn_impl_FindWord [v] h (fun u h' => ∃ w, u = .tuple #[w, .bool (fwO a)] ∧ HS h [ow w (fwL a)] h') := by
  obtain ⟨v1, v2, v3, rfl, R1, R2, R3⟩ := Rep_Aut.1 Ra
  have o1 := R1.one
  have o2 := R2.one
  have o3 := R3.one
  refine CallE.gen fun k hk => EN_impl_FindWord rfl ?_
  simp -implicitDefEqProofs (disch:=first|omega|(simp only[LnZ];omega))[wrap64]
  refine HS.init.alloc rfl fun b1 h1 H => ?_
  have H : HS h [bx b1 [v1, v2, v3]] h1 := H
  have hld := H.bxlds (o := 0) (n := 3) (by simp)
  simp -implicitDefEqProofs (disch:=first|omega|(simp only[LnZ];omega))[wrap64, hld]
  refine (c_AutomatonValid (Ra.on H)).go ?_
  rintro _ h2 ⟨l2, rfl⟩
  have H := H.le l2
  by_cases ha : a.Ok
  case neg =>
    have e1 : fwL a = ⟨[], []⟩ := if_neg ha
    have e2 : fwO a = false := if_neg ha
    simp -implicitDefEqProofs (disch:=first|omega|(simp only[LnZ];omega))[wrap64, ha, setC]
    exact RetK.keep (hk _ _ ⟨_, by rw [e2], by rw [e1]; exact zero_Las (Γ := []) H.base⟩)
  have e1 : fwL a = (Bf.fw a).getD ⟨[], []⟩ := if_pos ha
  have e2 : fwO a = (Bf.fw a).isSome := if_pos ha
  have hn := ha.n
  have hlen := Bf.nx_len (a := a)
  have hNO := Bf.nx_ok ha
  have hS : incr (Bf.nx a).length (-1) a.init := by rw [hlen]; exact ha.i
  have hld := H.bxlds (o := 0) (n := 3) (by simp)
  have hf0 := H.bxld (o := 0) (u := v1) rfl
  simp -implicitDefEqProofs (disch:=first|omega|(simp only[LnZ];omega))[wrap64, ha, hld, hf0]
  refine (c_nextX (Ra.on H) ha).go ?_
  intro vn h3 H3
  have H := H3.app H
  clear H3
  have hf0 := H.sw1.bxld (o := 0) (u := v1) rfl
  simp -implicitDefEqProofs (disch:=first|omega|(simp only[LnZ];omega))[wrap64, hf0]
  refine (c_lasso hNO (Bf.nx_E ha) hS (by omega) H.rep (R1.on H) (fun t => a.acc.getD t.toNat false) (f := fn_impl_FindWord_1) (c1 := []) (c2 := [.pointer (some ⟨b1, 0, none⟩)]) rfl ?_ (Bf.gA a) (fun t ht => by rw [Bf.gA_iff]; simp [tru])).go ?_
  · intro h4 l4 t ht
    have htn : t < a.acc.length := by omega
    have hf1 := hload_le l4 (H.sw1.bxld (o := 1) (u := v2) rfl)
    have RB := ((R2.on H).le l4).B
    have hgd : a.acc.getD (t : Int).toNat false = a.acc[t] := by simp [htn]
    refine CallE.gen fun k2 hk3 => EN_impl_FindWord_1 rfl ?_
    rw [hgd] at hk3
    simp -implicitDefEqProofs (disch:=first|omega|(simp only[LnZ];omega))[wrap64, hf1, RB]
    exact RetK.keep (hk3 _ _ ⟨Heap.le.refl _, rfl⟩)
  rintro _ h4 ⟨u1, u2, rfl, H4⟩
  have H := H4.app H
  clear H4
  unfold Bf.fw at e1 e2
  have hmem := fun t (hf : (Bf.fin (Bf.nx a) a.init).2.find? (Bf.gA a) = some t) => List.mem_of_find?_eq_some hf
  have hsat := fun t (hf : (Bf.fin (Bf.nx a) a.init).2.find? (Bf.gA a) = some t) => Bf.gA_iff.1 (List.find?_some hf)
  have hinq := (Bf.sN_inv hNO hS (Bf.nx a).length).1.inq
  have hfin : Bf.sN (Bf.nx a) a.init (Bf.nx a).length = Bf.fin (Bf.nx a) a.init := rfl
  rw [hfin] at hinq
  unfold Bf.lasS Bf.lasL at H
  cases hq : (Bf.fin (Bf.nx a) a.init).2.find? (Bf.gA a) with
  | none =>
    rw [hq] at e1 e2
    simp -implicitDefEqProofs (disch:=first|omega|(simp only[LnZ];omega))[wrap64, hq, setC]
    exact RetK.keep (hk _ _ ⟨_, by rw [e2]; rfl, by rw [e1]; exact zero_Las (Γ := []) H.base⟩)
  | some t0 =>
    rw [hq] at e1 e2 H
    simp only at e1 e2 H
    have hm := hmem t0 hq
    have hs := hsat t0 hq
    have hr := hinq t0 hm
    obtain ⟨t, rfl⟩ : ∃ t : Nat, t0 = t := ⟨t0.toNat, by omega⟩
    rw [Int.toNat_natCast] at hs
    obtain ⟨hp1, hp2, hp3⟩ := Bf.path_ok hNO hS hm
    obtain ⟨m, q1, q2, q3⟩ := Bf.arn_ok hNO (Bf.nx_E ha) (t := t) (by omega) hs.2
    obtain ⟨l0, hl0⟩ := hp3.last
    obtain ⟨s', hs', tl, htl⟩ := q1.head
    obtain rfl : s' = t := by simpa using hs'
    have hjp := hp3.joined
    have hjq := (q1.snoc q2).joined
    rw [hl0] at H hp2 hjp e1
    simp only [List.dropLast_concat] at H
    simp only [List.length_append, List.length_singleton] at hp2
    have hg0 : (Bf.arn (Bf.nx a) t)[0]'(by rw [htl]; simp) = (t : Int) := by simp [htl]
    have hq0 : 0 < (Bf.arn (Bf.nx a) t).length := by rw [htl]; simp
    have hld := H.sw3.bxlds (o := 0) (n := 3) (by simp)
    simp -implicitDefEqProofs (disch:=first|omega|(simp only[LnZ];omega))[wrap64, hq, hld, H.sw1.rep.I, hg0]
    refine (c_clone_int H.rep (by omega)).go ?_
    intro x1 h5 H5
    have H := H5.app H
    clear H5
    have hld := H.sw4.bxlds (o := 0) (n := 3) (by simp)
    simp -implicitDefEqProofs (disch:=first|omega|(simp only[LnZ];omega))[wrap64, H.sw2.rep.I, hg0, hld, setC]
    refine HS.app1 (bytes := 8) H (t : Int) rfl rfl rfl ⟨by omega, by omega⟩ rfl rfl (by omega) (by omega) fun x2 h6 H => ?_
    have hld := H.sw4.bxlds (o := 0) (n := 3) (by simp)
    simp -implicitDefEqProofs (disch:=first|omega|(simp only[LnZ];omega))[wrap64, H.sw2.rep.I, hg0, hld]
    refine (c_values (Ra.on H) H.rep ha (by simp; omega) hjp).go ?_
    intro x3 h7 H7
    have H := H7.app H
    clear H7
    have hld := H.sw5.bxlds (o := 0) (n := 3) (by simp)
    simp -implicitDefEqProofs (disch:=first|omega|(simp only[LnZ];omega))[wrap64, H.sw3.rep.I, hg0, hld]
    refine (c_clone_int H.sw3.rep (by omega)).go ?_
    intro x4 h8 H8
    have H := H8.app H
    clear H8
    have hld := H.sw6.bxlds (o := 0) (n := 3) (by simp)
    simp -implicitDefEqProofs (disch:=first|omega|(simp only[LnZ];omega))[wrap64, H.sw4.rep.I, hg0, hld, setC]
    refine HS.app1 (bytes := 8) H (t : Int) rfl rfl rfl ⟨by omega, by omega⟩ rfl rfl (by omega) (by omega) fun x5 h9 H => ?_
    have hld := H.sw6.bxlds (o := 0) (n := 3) (by simp)
    simp -implicitDefEqProofs (disch:=first|omega|(simp only[LnZ];omega))[wrap64, hld]
    refine (c_values (Ra.on H) H.rep ha (by simp; omega) hjq).go ?_
    intro x6 h10 H10
    have H := H10.app H
    clear H10
    have k1 := H.rep.one
    have k2 := H.sw2.rep.one
    simp -implicitDefEqProofs (disch:=first|omega|(simp only[LnZ];omega))[wrap64, setC, k1, k2, H.rep.cells, H.sw2.rep.cells]
    refine RetK.keep (hk _ _ ⟨_, by rw [e2]; rfl, ?_⟩)
    rw [e1]
    simp only [Option.getD_some]
    exact HS.mkLas (a := ⟨_, _⟩) (H.sw2.under fun _ H => H.only1)
end Go.Proofs.YtglnelcmcimljaaGreat

namespace Go.Proofs.YtglnelcmcimljaaGreat
open Go
noncomputable def stA (a : Aut) (w : List Int) : Aut := ⟨a.states w, a.acc, a.edges⟩
theorem stA_ok {a : Aut} {w : List Int} (ha : a.Ok) : (stA a w).Ok := ⟨ha.1, ha.2.1, (Aut.states_incr : incr a.acc.length (-1) (a.states w)), ha.2.2.2⟩
noncomputable def ext (a : Aut) (w : List Int) : Option Las :=
  if a.Ok ∧ Wok w ∧ a.states w ≠ [] then
    match Bf.fw (stA a w) with
    | some l => if (⟨w ++ l.stem, l.loop⟩ : Las).Ok then some ⟨w ++ l.stem, l.loop⟩ else none
    | none => none
  else none
set_option maxHeartbeats 1000000 in
theorem c_ExtendWord {h : Heap} {v w : Value} {a : Aut} {W : List Int} (Ra : Rep h v a) (Rw : Rep h w W) : CallE Tryz.prog fn_impl_ExtendWord [v, w] h (fun u h' => ∃ z, u = .tuple #[z, .bool (ext a W).isSome] ∧ HS h [ow z ((ext a W).getD ⟨[], []⟩)] h') := by
  have FA := Ra.aAut
  obtain ⟨v1, v2, v3, rfl, R1, R2', R3⟩ := Rep_Aut.1 Ra
  have o1 := R1.one
  have o2 := R2'.one
  have o3 := R3.one
  have c2 := R2'.cells
  have c3 := R3.cells
  refine CallE.gen fun k hk => EN_impl_ExtendWord rfl ?_
  simp -implicitDefEqProofs (disch:=first|omega|(simp only[LnZ];omega))[wrap64, FA]
  refine (c_PrefixStates Ra Rw).go ?_
  rintro _ h1 ⟨vs, rfl, H⟩
  have none_ : ∀ {h'}, h.le h' → ext a W = none → k (.tuple #[.agg #[.slice none 0 0, .slice none 0 0], .bool false]) h' := fun hl he => hk _ _ ⟨_, by rw [he]; rfl, by rw [he]; exact zero_Las (Γ := []) hl⟩
  by_cases q1 : a.Ok ∧ Wok W
  case neg =>
    have he : ext a W = none := if_neg fun hh => q1 ⟨hh.1, hh.2.1⟩
    simp -implicitDefEqProofs (disch:=first|omega|(simp only[LnZ];omega))[wrap64, q1, setC]
    exact RetK.keep (none_ H.base he)
  have hpv : preV a W = a.states W := if_pos q1
  rw [hpv] at H
  have ha := q1.1
  have hW := q1.2
  by_cases q2 : (a.states W).length = 0
  · have q2' : a.states W = [] := List.length_eq_zero_iff.1 q2
    have he : ext a W = none := if_neg fun hh => hh.2.2 q2'
    simp -implicitDefEqProofs (disch:=first|omega|(simp only[LnZ];omega))[wrap64, q1, H.rep.len, q2, q2', setC]
    exact RetK.keep (none_ H.base he)
  have q2' : ¬ a.states W = [] := fun e => q2 (by rw [e]; rfl)
  have q2i : ¬ ((a.states W).length : Int) = 0 := by omega
  have he : ext a W = match Bf.fw (stA a W) with
    | some l => if (⟨W ++ l.stem, l.loop⟩ : Las).Ok then some ⟨W ++ l.stem, l.loop⟩ else none
    | none => none := if_pos ⟨ha, hW, q2'⟩
  have RS : Rep h1 (.agg #[vs, v2, v3]) (stA a W) := Rep_Aut.2 ⟨vs, v2, v3, rfl, H.rep, R2'.on H, R3.on H⟩
  have os := H.rep.one
  have cs := H.rep.cells
  simp -implicitDefEqProofs (disch:=first|omega|(simp only[LnZ];omega))[wrap64, q1, H.rep.len, q2, q2', q2i, setC, o1, o2, o3, c2, c3, os, cs]
  refine (c_FindWord RS).go ?_
  rintro _ h2 ⟨vf, rfl, H2⟩
  have H := H2.app H
  clear H2
  have hst := stA_ok (w := W) ha
  have e1 : fwL (stA a W) = (Bf.fw (stA a W)).getD ⟨[], []⟩ := if_pos hst
  have e2 : fwO (stA a W) = (Bf.fw (stA a W)).isSome := if_pos hst
  have hbd : (fwL (stA a W)).stem.length ≤ 63 ∧ (fwL (stA a W)).loop.length ≤ 64 := by
    rw [e1]
    cases hq : Bf.fw (stA a W) with
    | none => simp
    | some l =>
      obtain ⟨_, _, _, g1, _, g2⟩ := Bf.fw_some hst hq
      exact ⟨g1, g2⟩
  obtain ⟨f1, f2, rfl, HF⟩ := H.unLas
  have RF1 := HF.rep
  have RF2 := HF.sw1.rep
  have p1 := RF1.one
  have p2 := RF2.one
  have d1 := RF1.cells
  have d2 := RF2.cells
  have lb := HF.base
  have Rw2 := Rw.on HF
  clear H
  rw [e2]
  obtain ⟨L, hL⟩ : ∃ L, L = fwL (stA a W) := ⟨_, rfl⟩
  rw [← hL] at RF1 RF2 hbd e1 HF
  have hW1 := hW.1
  simp -implicitDefEqProofs (disch:=first|omega|(simp only[LnZ];omega))[wrap64, setC, p1, p2]
  refine bls_two Rw2 RF1 (by simp [fillP, Rw2.cells, d1, Rw2.one, p1, reps, setC]) fun vb h3 l3 RB => ?_
  simp -implicitDefEqProofs (disch:=first|omega|(simp only[LnZ];omega))[wrap64]
  refine (c_Concat_int RB (by omega) (by omega)).go ?_
  intro vc h4 H4
  have H := H4.app (HF.le l3)
  clear H4 HF
  simp -implicitDefEqProofs (disch:=first|omega|(simp only[LnZ];omega))[wrap64]
  refine (c_Clip_int H).go ?_
  intro vd h5 H
  have lb5 := H.base
  have R5 : Rep h5 (.agg #[vd, f2]) (⟨W ++ L.stem, L.loop⟩ : Las) := Rep_Las.2 ⟨vd, f2, rfl, H.rep, H.sw2.rep⟩
  have oo := H.rep.one
  have cc := H.rep.cells
  cases hq : Bf.fw (stA a W) with
  | none =>
    rw [hq] at he
    simp -implicitDefEqProofs (disch:=first|omega|(simp only[LnZ];omega))[wrap64, setC, oo, cc, p2, d2, hq]
    exact RetK.keep (none_ lb5 he)
  | some l =>
    rw [hq] at he e1
    simp only [Option.getD_some] at e1
    subst e1
    simp only at he
    simp -implicitDefEqProofs (disch:=first|omega|(simp only[LnZ];omega))[wrap64, setC, oo, cc, p2, d2, hq]
    refine (c_LassoValid R5).go ?_
    rintro _ h6 ⟨l6, rfl⟩
    by_cases q3 : (⟨W ++ L.stem, L.loop⟩ : Las).Ok
    · rw [if_pos q3] at he
      simp -implicitDefEqProofs (disch:=first|omega|(simp only[LnZ];omega))[wrap64, q3, setC, oo, cc, p2, d2]
      refine RetK.keep (hk _ _ ⟨_, by rw [he]; rfl, ?_⟩)
      rw [he]
      have H := H.le l6
      exact HS.mkLas (a := ⟨W ++ L.stem, L.loop⟩) (H.under fun _ H => H.sw1.only1)
    · rw [if_neg q3] at he
      simp -implicitDefEqProofs (disch:=first|omega|(simp only[LnZ];omega))[wrap64, q3, setC]
      exact RetK.keep (none_ (lb5.trans l6) he)
end Go.Proofs.YtglnelcmcimljaaGreat

namespace Go.Proofs.YtglnelcmcimljaaGreat
open Go
theorem fold_LP {a : Aut} (ha : a.Ok) : ∀ {W : List Int} {P : Nat → Prop} {q : Nat}, W.foldl a.aft P q → ∃ s, P s ∧ LP a.edges s W q
  | [], P, q, h => ⟨q, h, .nil q⟩
  | x :: W, P, q, h => by
    obtain ⟨s, ⟨_, e, he, h1, h2, h3⟩, h4⟩ := fold_LP ha (W := W) (P := a.aft P x) h
    obtain ⟨f, g, k1, k2, _, _⟩ := ha.tr he
    rw [k1, Int.toNat_natCast] at h1
    exact ⟨f, h1, .cons ⟨e, he, k1, h2, h3⟩ h4⟩
theorem fold_live {a : Aut} : ∀ {W : List Int} {P : Nat → Prop} {q : Nat}, (∀ s, P s → a.Live s) → W.foldl a.aft P q → a.Live q
  | [], P, q, hP, h => hP q h
  | x :: W, P, q, hP, h => fold_live (W := W) (P := a.aft P x) (fun s hs => hs.1) h
theorem states_mem {a : Aut} {W : List Int} {x : Int} : x ∈ a.states W ↔ ∃ q : Nat, x = q ∧ q < a.acc.length ∧ a.behind W q := by
  unfold Aut.states
  rw [memL_mem]
  simp
theorem states_live {a : Aut} {W : List Int} {q : Nat} (h : (q : Int) ∈ a.states W) : q < a.acc.length ∧ a.Live q ∧ a.behind W q := by
  obtain ⟨p, h1, h2, h3⟩ := states_mem.1 h
  obtain rfl : q = p := by omega
  exact ⟨h2, fold_live (fun s hs => hs.2) h3, h3⟩
theorem ext_some {a : Aut} {W : List Int} {l : Las} (h : ext a W = some l) : a.Ok ∧ Wok W ∧ a.states W ≠ [] ∧ l.Ok ∧ a.Lang l.word ∧ ∃ r, l.stem = W ++ r := by
  unfold ext at h
  split at h
  case isFalse => simp at h
  rename_i hc
  obtain ⟨ha, hW, hne⟩ := hc
  split at h
  case h_2 => simp at h
  rename_i l0 hf
  split at h
  case isFalse => simp at h
  rename_i hok
  simp only [Option.some.injEq] at h
  subst h
  have hst := stA_ok (w := W) ha
  obtain ⟨⟨s, x, h1, h2, h3, h4⟩, _⟩ := Bf.fw_some hst hf
  obtain ⟨_, _, hb⟩ := states_live (a := a) (W := W) h1
  obtain ⟨s0, h5, h6⟩ := fold_LP ha (P := a.beg) hb
  refine ⟨ha, hW, hne, hok, lasso_lang hok.2.2.1 h5.1 (h6.append h2) h3 h4, l0.stem, rfl⟩
end Go.Proofs.YtglnelcmcimljaaGreat

namespace Go.Proofs.YtglnelcmcimljaaGreat
open Go
namespace Bf
def fe (a : Aut) (p q : Int) : Int := match a.edges.findIdx? (fun e => decide (e.frm = p ∧ e.to = q)) with
  | some k => k
  | none => -1
def viaOf (a : Aut) (f : List Int) : List Int := (List.range f.length).map fun (j : Nat) => if 0 ≤ f.getD j 0 then fe a (f.getD j 0) j else -1
theorem viaOf_len {a : Aut} {f : List Int} : (viaOf a f).length = f.length := by simp [viaOf]
theorem viaOf_at {a : Aut} {f : List Int} {j : Nat} (hj : j < f.length) : (viaOf a f)[j]'(by rw [viaOf_len]; exact hj) = if 0 ≤ f[j] then fe a f[j] j else -1 := by
  have : f.getD j 0 = f[j] := by simp [hj]
  simp only [viaOf, List.getElem_map, List.getElem_range, this]
theorem viaOf_set {a : Aut} {f : List Int} {t : Nat} {p : Int} (ht : t < f.length) (hp : 0 ≤ p) : viaOf a (f.set t p) = (viaOf a f).set t (fe a p t) := by
  refine List.ext_getElem (by simp [viaOf_len]) fun j h1 h2 => ?_
  rw [viaOf_len, List.length_set] at h1
  rw [viaOf_at (by simpa using h1)]
  by_cases e : t = j
  · subst e
    simp [hp]
  · have e1 : (f.set t p)[j]'(by simpa using h1) = f[j] := by simp [List.getElem_set, e]
    rw [e1, List.getElem_set, if_neg e, viaOf_at h1]
theorem viaOf_none {a : Aut} {n : Nat} {f : List Int} (hf : f.length = n) (h : ∀ x ∈ f, x < 0) : viaOf a f = List.replicate n (-1) := by
  refine List.ext_getElem (by simp [viaOf_len, hf]) fun j h1 h2 => ?_
  rw [viaOf_len] at h1
  rw [viaOf_at h1, if_neg (by have := h _ (List.getElem_mem h1); omega)]
  simp
theorem fe_some {a : Aut} {p q : Int} (h : ∃ e ∈ a.edges, e.frm = p ∧ e.to = q) : ∃ (k : Nat) (hk : k < a.edges.length), fe a p q = k ∧ a.edges[k].frm = p ∧ a.edges[k].to = q ∧ ev a p q = a.edges[k].value := by
  cases hq : a.edges.findIdx? (fun e => decide (e.frm = p ∧ e.to = q)) with
  | none =>
    rw [List.findIdx?_eq_none_iff] at hq
    obtain ⟨e, he1, he2⟩ := h
    have := hq e he1
    simp [he2] at this
  | some k =>
    obtain ⟨hkl, hk1, hk2⟩ := List.findIdx?_eq_some_iff_getElem.1 hq
    simp only [decide_eq_true_eq] at hk1
    refine ⟨k, hkl, by unfold fe; rw [hq], hk1.1, hk1.2, ?_⟩
    unfold ev
    have : a.edges.find? (fun e => decide (e.frm = p ∧ e.to = q)) = some a.edges[k] := find_take hkl (by simp [hk1]) (fun j hj => by simpa using hk2 j hj)
    rw [this]
theorem fe_first {a : Aut} {k : Nat} (hk : k < a.edges.length) (hno : ∀ (m : Nat) (hm : m < a.edges.length), m < k → ¬ (a.edges[m].frm = a.edges[k].frm ∧ a.edges[m].to = a.edges[k].to)) : fe a a.edges[k].frm a.edges[k].to = k := by
  unfold fe
  have : a.edges.findIdx? (fun e => decide (e.frm = a.edges[k].frm ∧ e.to = a.edges[k].to)) = some k := by
    rw [List.findIdx?_eq_some_iff_getElem]
    exact ⟨hk, by simp, fun j hj => by simpa using hno j (by omega) hj⟩
  rw [this]
theorem row_has {a : Aut} {k m : Nat} (hm : m < a.edges.length) (hk : m < k) : a.edges[m].to ∈ row a a.edges[m].frm k := by
  unfold row
  refine List.mem_map.2 ⟨a.edges[m], List.mem_filter.2 ⟨?_, by simp⟩, rfl⟩
  rw [List.mem_take_iff_getElem]
  exact ⟨m, by omega, rfl⟩
theorem s0_neg {n : Nat} {S : List Int} : ∀ x ∈ (s0 n S).1, x < 0 := by
  unfold s0
  simp only
  have : ∀ (T : List Int) (f : List Int), (∀ x ∈ f, x < 0) → ∀ x ∈ T.foldl (fun f s => f.set s.toNat (-1)) f, x < 0 := by
    intro T
    induction T with
    | nil => intro f h; exact h
    | cons y T ih =>
      intro f h
      refine ih _ fun x hx => ?_
      rcases List.mem_or_eq_of_mem_set hx with hx | rfl
      · exact h x hx
      · decide
  exact this S _ (fun x hx => by rw [List.eq_of_mem_replicate hx]; decide)
end Bf
set_option maxHeartbeats 2000000 in
theorem c_l7Tree {h : Heap} {v w : Value} {a : Aut} {S : List Int} (Ra : Rep h v a) (Rs : Rep h w S) (ha : a.Ok) (hS : incr a.acc.length (-1) S) : CallE Tryz.prog fn_spec_l7Tree [v, w] h (fun u h' => ∃ u1 u2, u = .tuple #[u1, u2] ∧ HS h [ow u1 (Bf.viaOf a (Bf.fin (Bf.nx a) S).1), ow u2 (Bf.fin (Bf.nx a) S).2] h') := by
  obtain ⟨v1, v2, v3, rfl, R1, R2, R3⟩ := Rep_Aut.1 Ra
  have hn := ha.n
  have he := ha.e
  have hlen := Bf.nx_len (a := a)
  have hNO := Bf.nx_ok ha
  have hS' : incr (Bf.nx a).length (-1) S := by rw [hlen]; exact hS
  have hSl := incr_len hS
  refine CallE.gen fun k hk => EN_spec_l7Tree rfl ?_
  simp -implicitDefEqProofs (disch:=first|omega|(simp only[LnZ];omega))[wrap64]
  refine HS.init.bls0 Int fun o h1 H => ?_
  simp -implicitDefEqProofs (disch:=first|omega|(simp only[LnZ];omega))[wrap64, (R2.on H).len]
  refine HS.mks (bytes := 1) (α := Bool) (z := false) (n := a.acc.length) (c := a.acc.length) H rfl rfl own_false (Nat.le_refl _) (by omega) (by omega) fun sn h2 H => ?_
  have osn := H.rep.one
  have csn := H.rep.cells
  simp -implicitDefEqProofs (disch:=first|omega|(simp only[LnZ];omega))[wrap64]
  refine wp_count a.acc.length (fun i e h' => ∃ o, e = [none, some w, some (.agg #[v1, v2, v3]), none, none, some o, some sn, some (.int .i64 i), none, none, none, none] ∧ HS h [ow sn (List.replicate a.acc.length false), ow o (List.replicate i (-1 : Int))] h') ⟨o, by simp, by simpa using H⟩ ?_
  clear H
  rintro J i _ h3 hJ hi ⟨o, rfl, H⟩
  simp -implicitDefEqProofs (disch:=first|omega|(simp only[LnZ];omega))[wrap64, (R2.on H).len]
  refine IteW.mk (fun hlt => ?_) (fun hge => ?_)
  · have hin : i < a.acc.length := by omega
    simp -implicitDefEqProofs (disch:=first|omega|(simp only[LnZ];omega))[wrap64, setC]
    refine HS.app1 (bytes := 8) H.sw1 (-1 : Int) rfl rfl rfl ⟨by omega, by omega⟩ rfl rfl (by simp; omega) (by simp; omega) fun o' h4 H => ?_
    simp -implicitDefEqProofs (disch:=first|omega|(simp only[LnZ];omega))[wrap64]
    exact hJ _ _ hin ⟨o', by simp, by rw [List.replicate_succ']; exact H.sw1⟩
  obtain rfl : i = a.acc.length := by omega
  simp -implicitDefEqProofs (disch:=first|omega|(simp only[LnZ];omega))[wrap64]
  refine H.appPL (α := Int) (l2 := S) rfl rfl (Rs.on H) rfl rfl (by omega) fun q h4 H => ?_
  simp -implicitDefEqProofs (disch:=first|omega|(simp only[LnZ];omega))[wrap64]
  refine wp_count S.length (fun i e h' => e = [none, some w, some (.agg #[v1, v2, v3]), none, none, some o, some sn, none, some q, some (.int .i64 i), none, none] ∧ HS h [ow sn (Bf.sen ((S.take i).foldl (fun f s => f.set s.toNat (-1)) (List.replicate a.acc.length (-2)))), ow q S, ow o (List.replicate a.acc.length (-1 : Int))] h') ⟨by simp, by
    have : Bf.sen (List.replicate a.acc.length (-2)) = List.replicate a.acc.length false := by simp [Bf.sen]
    simp only [List.take_zero, List.foldl_nil, this]
    exact H.sw1⟩ ?_
  clear H
  rintro J1 i _ h5 hJ1 hi ⟨rfl, H⟩
  simp -implicitDefEqProofs (disch:=first|omega|(simp only[LnZ];omega))[wrap64, (Rs.on H).len]
  refine IteW.mk (fun hlt1 => ?_) (fun hge1 => ?_)
  · have hix : i < S.length := by omega
    have hsx := incr_mem hS _ (List.getElem_mem hix)
    obtain ⟨x, hx⟩ : ∃ x : Nat, S[i] = x := ⟨S[i].toNat, by omega⟩
    have hfl : ∀ (T : List Int) (f : List Int), (T.foldl (fun f s => f.set s.toNat (-1)) f).length = f.length := by
      intro T
      induction T with
      | nil => intro f; rfl
      | cons y T ih => intro f; show (T.foldl _ (f.set y.toNat (-1))).length = _; rw [ih]; simp
    have hfl := hfl (S.take i) (List.replicate a.acc.length (-2))
    have hst : (S.take (i + 1)).foldl (fun f s => f.set s.toNat (-1)) (List.replicate a.acc.length (-2)) = ((S.take i).foldl (fun f s => f.set s.toNat (-1)) (List.replicate a.acc.length (-2))).set x (-1) := by
      rw [List.take_add_one, List.getElem?_eq_getElem hix, List.foldl_append, hx]
      show ((S.take i).foldl (fun f s => f.set s.toNat (-1)) (List.replicate a.acc.length (-2))).set ((x : Int)).toNat (-1) = _
      rw [Int.toNat_natCast]
    generalize (S.take i).foldl (fun f s => f.set s.toNat (-1)) (List.replicate a.acc.length (-2)) = F at *
    rw [List.length_replicate] at hfl
    have hsl := Bf.sen_len (f := F)
    simp -implicitDefEqProofs (disch:=first|omega|(simp only[LnZ];omega))[wrap64, (Rs.on H).I, hx, H.rep.B]
    refine H.storeF true (i := x) (by omega) rfl rfl trivial rfl fun h6 H => ?_
    simp -implicitDefEqProofs (disch:=first|omega|(simp only[LnZ];omega))[wrap64]
    exact hJ1 _ _ hix ⟨by simp, by rw [hst, Bf.sen_set (by decide)]; exact H⟩
  have hiS : i = S.length := by omega
  subst hiS
  have hv0 := Bf.viaOf_none (a := a) (n := a.acc.length) (f := (Bf.sN (Bf.nx a) S 0).1) (by rw [(Bf.sN_inv hNO hS' 0).1.fl, hlen]) Bf.s0_neg
  have H : HS h [ow sn (Bf.sen (Bf.sN (Bf.nx a) S 0).1), ow q (Bf.sN (Bf.nx a) S 0).2, ow o (Bf.viaOf a (Bf.sN (Bf.nx a) S 0).1)] h5 := by
    rw [hv0]
    rw [List.take_length] at H
    show HS h [ow sn (Bf.sen (Bf.s0 (Bf.nx a).length S).1), ow q S, _] h5
    rw [hlen]
    exact H
  clear hv0
  simp -implicitDefEqProofs (disch:=first|omega|(simp only[LnZ];omega))[wrap64]
  refine wp_while (σ := Nat) (fun i e h' => ∃ q, e = [none, none, some (.agg #[v1, v2, v3]), none, none, some o, some sn, none, some q, none, some (.int .i64 i), none] ∧ i ≤ (Bf.sN (Bf.nx a) S i).2.length ∧ HS h [ow sn (Bf.sen (Bf.sN (Bf.nx a) S i).1), ow q (Bf.sN (Bf.nx a) S i).2, ow o (Bf.viaOf a (Bf.sN (Bf.nx a) S i).1)] h') (fun i => a.acc.length + 1 - i) 0 ⟨q, by simp, by omega, H⟩ ?_
  clear H
  rintro J i _ h6 hJ ⟨q, rfl, hil, H⟩
  obtain ⟨bi, bd⟩ := Bf.sN_inv hNO hS' i
  have hle := bi.le
  have hsu := Bf.sN_succ (next := Bf.nx a) (S := S) (n := i)
  have hfe := Bf.fin_eq hNO hS' (n := i)
  have hnl := Bf.sN_le hNO hS' (show i ≤ i + 1 by omega)
  simp -implicitDefEqProofs (disch:=first|omega|(simp only[LnZ];omega))[wrap64, H.sw1.rep.len]
  refine IteW.mk (fun hlt => ?_) (fun hge => ?_)
  · have hlt : i < (Bf.sN (Bf.nx a) S i).2.length := by omega
    have hsu := hsu hlt
    have hat := bi.at hlt
    have hrow := hNO.row bi hlt
    obtain ⟨t, ht⟩ : ∃ t : Nat, (Bf.sN (Bf.nx a) S i).2.getD i 0 = t := ⟨_, (Int.toNat_of_nonneg hat.1).symm⟩
    rw [ht, Int.toNat_natCast] at hat hsu hrow
    have htn : t < a.acc.length := by omega
    rw [Bf.nx_getD htn] at hsu hrow
    have hfold := fun (l : List Int) (hl : ∀ y ∈ l, y ∈ Bf.row a t a.edges.length) => bi.fold (i := i) hlt (l := l) (fun y hy => by rw [ht]; exact hrow y (hl y hy))
    rw [ht] at hfold
    generalize hP0 : Bf.sN (Bf.nx a) S i = P0 at *
    simp -implicitDefEqProofs (disch:=first|omega|(simp only[LnZ];omega))[wrap64]
    refine wp_count a.edges.length (fun k e h' => ∃ q, e = [none, none, some (.agg #[v1, v2, v3]), none, none, some o, some sn, none, some q, none, some (.int .i64 i), some (.int .i64 k)] ∧ HS h [ow sn (Bf.sen (Bf.sF (Bf.row a t k) t P0).1), ow q (Bf.sF (Bf.row a t k) t P0).2, ow o (Bf.viaOf a (Bf.sF (Bf.row a t k) t P0).1)] h') ⟨q, by simp, by
      have : Bf.row a t 0 = [] := by simp [Bf.row]
      rw [this]; exact H⟩ ?_
    clear H
    rintro J2 k _ h7 hJ2 hk2 ⟨q, rfl, H⟩
    simp -implicitDefEqProofs (disch:=first|omega|(simp only[LnZ];omega))[wrap64, (R3.on H).len]
    refine IteW.mk (fun hlt2 => ?_) (fun hge2 => ?_)
    · have hkx : k < a.edges.length := by omega
      have hsub : ∀ y ∈ Bf.row a t k, y ∈ Bf.row a t a.edges.length := by
        intro y hy
        rw [Bf.row_mem']
        unfold Bf.row at hy
        obtain ⟨e, he1, rfl⟩ := List.mem_map.1 hy
        obtain ⟨he2, he3⟩ := List.mem_filter.1 he1
        exact ⟨e, List.mem_of_mem_take he2, by simpa using he3, rfl⟩
      obtain ⟨g1, g2, g3⟩ := hfold (Bf.row a t k) hsub
      have hrs := Bf.row_succ (q := (t : Int)) hkx
      have hfirst := fun hno => Bf.fe_first (a := a) hkx hno
      have hhas := fun (m : Nat) (hm : m < a.edges.length) (hmk : m < k) => Bf.row_has (a := a) hm hmk
      have hq := g2.at hlt
      rw [ht] at hq
      have hqi : i < (Bf.sF (Bf.row a t k) t P0).2.length := by have := g2.len; omega
      have hgl := g1.le
      have hgf := g1.fl
      generalize hPk : Bf.sF (Bf.row a t k) t P0 = P at *
      have hqi2 : P.2[i] = t := by rw [← hq]; simp [hqi]
      obtain ⟨f, g, hf, hg, hfn, hgn⟩ := ha.tr (List.getElem_mem hkx)
      by_cases e1 : f = t
      case neg =>
        have e1i : ¬ (f : Int) = t := by omega
        rw [if_neg (by rw [hf]; exact e1i)] at hrs
        simp -implicitDefEqProofs (disch:=first|omega|(simp only[LnZ];omega))[wrap64, (R3.on H).xTr, (R3.on H).fTr, hf, H.sw1.rep.I, hqi2, e1, e1i]
        exact hJ2 _ _ hkx ⟨q, by simp, by rw [hrs, hPk]; exact H⟩
      subst e1
      rw [if_pos hf, hg] at hrs
      have hs1 : Bf.sF (Bf.row a f (k + 1)) f P0 = Bf.s1 f P g := by rw [hrs, Bf.sF_snoc, hPk]
      have hgP : g < P.1.length := by omega
      have hsl := Bf.sen_len (f := P.1)
      have hsa := Bf.sen_at hgP
      have hgd : P.1.getD g 0 = P.1[g] := by simp [hgP]
      rw [Bf.s1, Int.toNat_natCast, hgd] at hs1
      by_cases q2 : P.1[g] = -2
      · rw [if_pos q2] at hs1
        have hsa2 : (Bf.sen P.1)[g]'(by omega) = false := by rw [hsa]; simp [q2]
        have hfirst := hfirst (fun m hm hmk hh => by
          have := g3 _ (by have h9 := hhas m hm hmk; rw [hh.1, hf] at h9; exact h9)
          rw [hh.2, hg, Int.toNat_natCast, hgd] at this
          exact this q2)
        rw [hf, hg] at hfirst
        have hvs := Bf.viaOf_set (a := a) (f := P.1) (t := g) (p := (f : Int)) hgP (by omega)
        rw [hfirst] at hvs
        have hvl := Bf.viaOf_len (a := a) (f := P.1)
        simp -implicitDefEqProofs (disch:=first|omega|(simp only[LnZ];omega))[wrap64, (R3.on H).xTr, (R3.on H).fTr, hf, hg, H.sw1.rep.I, hqi2, H.rep.B, hsa2]
        refine H.storeF true (i := g) (by omega) rfl rfl trivial rfl fun h8 H => ?_
        have H := H.sw2
        simp -implicitDefEqProofs (disch:=first|omega|(simp only[LnZ];omega))[wrap64, (R3.on H).xTr, (R3.on H).fTr, hg, H.rep.I]
        refine H.storeF (k : Int) (i := g) (by omega) rfl rfl ⟨by omega, by omega⟩ rfl fun h9 H => ?_
        simp -implicitDefEqProofs (disch:=first|omega|(simp only[LnZ];omega))[wrap64, (R3.on H).xTr, (R3.on H).fTr, hg, setC]
        refine HS.app1 (bytes := 8) H.sw2 (g : Int) rfl rfl rfl ⟨by omega, by omega⟩ rfl rfl (by omega) (by omega) fun q' h10 H => ?_
        simp -implicitDefEqProofs (disch:=first|omega|(simp only[LnZ];omega))[wrap64]
        refine hJ2 _ _ hkx ⟨q', by simp, ?_⟩
        rw [hs1]
        simp only
        rw [hvs, Bf.sen_set (by omega)]
        exact H.sw2
      · rw [if_neg q2] at hs1
        have hsa2 : (Bf.sen P.1)[g]'(by omega) = true := by rw [hsa]; simp [q2]
        simp -implicitDefEqProofs (disch:=first|omega|(simp only[LnZ];omega))[wrap64, (R3.on H).xTr, (R3.on H).fTr, hf, hg, H.sw1.rep.I, hqi2, H.rep.B, hsa2]
        exact hJ2 _ _ hkx ⟨q, by simp, by rw [hs1]; exact H⟩
    · obtain rfl : k = a.edges.length := by omega
      rw [← hsu] at H
      have hlen3 := hnl.len
      simp -implicitDefEqProofs (disch:=first|omega|(simp only[LnZ];omega))[wrap64]
      exact hJ (i + 1) _ _ (by omega) ⟨q, by simp, by omega, H⟩
  · rw [hfe (by omega)] at H
    simp -implicitDefEqProofs (disch:=first|omega|(simp only[LnZ];omega))[wrap64]
    exact RetK.keep (hk _ _ ⟨o, q, rfl, H.sw2.under fun _ H => H.sw1.only1⟩)
end Go.Proofs.YtglnelcmcimljaaGreat

namespace Go.Proofs.YtglnelcmcimljaaGreat
open Go
theorem fin_edge {a : Aut} (ha : a.Ok) {S : List Int} (hS : incr a.acc.length (-1) S) {j : Nat} (hj : j < a.acc.length) (h : 0 ≤ (Bf.fin (Bf.nx a) S).1.getD j 0) : ∃ e ∈ a.edges, e.frm = (Bf.fin (Bf.nx a) S).1.getD j 0 ∧ e.to = j := by
  have hlen := Bf.nx_len (a := a)
  have hNO := Bf.nx_ok ha
  have hS' : incr (Bf.nx a).length (-1) S := by rw [hlen]; exact hS
  have h1 := (Bf.sN_inv hNO hS' (Bf.nx a).length).1
  have hfin : Bf.sN (Bf.nx a) S (Bf.nx a).length = Bf.fin (Bf.nx a) S := rfl
  rw [hfin] at h1
  generalize Bf.fin (Bf.nx a) S = p at *
  have hm := h1.vis j (by omega) (by omega)
  obtain ⟨q, hq, e⟩ := List.mem_iff_getElem.1 hm
  have e2 : p.2.getD q 0 = j := by rw [← e]; simp [hq]
  obtain ⟨tp, hpre⟩ := h1.pre
  by_cases hqs : q < S.length
  · exfalso
    have hmem : (j : Int) ∈ S := by
      have : p.2[q] = S[q] := by simp [hpre, List.getElem_append_left hqs]
      rw [← e, this]
      exact List.getElem_mem hqs
    have := h1.st _ hmem
    rw [Int.toNat_natCast] at this
    omega
  · obtain ⟨r, _, e3, e4⟩ := h1.par q (by omega) hq
    rw [e2, Int.toNat_natCast] at e3
    rw [e2] at e4
    obtain ⟨f, hf, k1, k2⟩ := (Bf.nx_Ed ha).1 e4
    exact ⟨f, hf, by rw [k1, e3], k2⟩
theorem c_l7Letters {h : Heap} {v w : Value} {a : Aut} {f l : List Int} {t : Int} (Ra : Rep h v a) (Rv : Rep h w (Bf.viaOf a f)) (ha : a.Ok) (hf : f.length = a.acc.length) (hE : ∀ j : Nat, j < a.acc.length → 0 ≤ f.getD j 0 → ∃ e ∈ a.edges, e.frm = f.getD j 0 ∧ e.to = j) (hneg : ∀ j : Nat, j < a.acc.length → -2 ≤ f.getD j 0) (h0 : 0 ≤ t) (hc : Bf.Chn f t l) (hl : l.length ≤ 1048576) :
    CallE Tryz.prog fn_spec_l7Letters [v, w, .int .i64 t] h (fun u h' => HS h [ow u (Bf.vals a l)] h') := by
  obtain ⟨v1, v2, v3, rfl, R1, R2, R3⟩ := Rep_Aut.1 Ra
  have hn := ha.n
  have he := ha.e
  obtain ⟨l0, hl0, htl, hc0⟩ := hc.un h0
  have hvl := Bf.viaOf_len (a := a) (f := f)
  refine CallE.gen fun k hk => EN_spec_l7Letters rfl ?_
  simp -implicitDefEqProofs (disch:=first|omega|(simp only[LnZ];omega))[wrap64]
  refine HS.init.bls0 Int fun o h1 H => ?_
  simp -implicitDefEqProofs (disch:=first|omega|(simp only[LnZ];omega))[wrap64]
  refine wp_while (σ := List Int × Int × List Int) (fun s e h' => ∃ o, e = [none, some w, some (.int .i64 s.2.1), some (.agg #[v1, v2, v3]), none, some o, none] ∧ 0 ≤ s.2.1 ∧ Bf.Chn f s.2.1 s.1 ∧ l = s.1 ++ s.2.2 ∧ HS h [ow o (Bf.vals a (s.2.1 :: s.2.2))] h') (fun s => s.1.length) (l, t, []) ⟨o, by simp, h0, hc, by simp, H⟩ ?_
  clear H
  rintro J ⟨l1, b, rest⟩ _ h2 hJ ⟨o, rfl, hb0, hcb, hlr, H⟩
  simp only at hb0 hcb hlr H ⊢
  obtain ⟨l1', hl1, hbf, hcb'⟩ := hcb.un hb0
  obtain ⟨q, rfl⟩ : ∃ q : Nat, b = q := ⟨b.toNat, (Int.toNat_of_nonneg hb0).symm⟩
  have hqn : q < a.acc.length := by omega
  have hqf : q < f.length := by omega
  have hfd : f.getD q 0 = f[q] := by simp [hqf]
  rw [Int.toNat_natCast, hfd] at hcb'
  have hE := hE q hqn
  have hneg := hneg q hqn
  rw [hfd] at hE hneg
  have hva := Bf.viaOf_at (a := a) hqf
  have hge := hcb'.ge
  by_cases c : 0 ≤ f[q]
  · obtain ⟨k, hk1, hk2, hk3, hk4, hk5⟩ := Bf.fe_some (hE c)
    rw [if_pos c, hk2] at hva
    obtain ⟨l1'', hl1'', hpf, hcp⟩ := hcb'.un c
    have hok := Tr.ok_iff.1 ((R3.on H).okF hk1)
    have hvv : Bf.vals a (f[q] :: (q : Int) :: rest) = a.edges[k].value :: Bf.vals a ((q : Int) :: rest) := by
      show Bf.ev a f[q] q :: _ = _
      rw [hk5]
    have hrl : rest.length ≤ 1048576 := by
      have := congrArg List.length hlr
      simp at this; omega
    have hvlen := Bf.vals_len (a := a) (l := (q : Int) :: rest)
    simp only [List.length_cons, Nat.add_sub_cancel] at hvlen
    simp -implicitDefEqProofs (disch:=first|omega|(simp only[LnZ];omega))[wrap64, (Rv.on H).I, hva, (R3.on H).xTr, Tr.v, setC]
    refine H.bls [a.edges[k].value] rfl rfl (by intro y hy; obtain rfl : y = a.edges[k].value := by simpa using hy
                                                exact hok.value) (by decide) fun o2 h3 H => ?_
    simp -implicitDefEqProofs (disch:=first|omega|(simp only[LnZ];omega))[wrap64]
    refine HS.appL (bytes := 8) (l2 := Bf.vals a ((q : Int) :: rest)) H rfl rfl H.sw1.rep rfl rfl (by simp; omega) (by simp; omega) fun o3 h4 H => ?_
    simp -implicitDefEqProofs (disch:=first|omega|(simp only[LnZ];omega))[wrap64, setC, hk3]
    refine hJ (l1', f[q], (q : Int) :: rest) _ _ (by rw [hl1]; simp) ⟨o3, by simp, c, hcb', by rw [hlr, hl1]; simp, ?_⟩
    simp only
    rw [hvv]
    exact H.only1
  · rw [if_neg c] at hva
    have hm1 : f[q] = -1 := by omega
    rw [hm1] at hcb'
    have hnil := hcb'.neg
    subst hnil
    rw [List.nil_append] at hl1
    have hll : l = (q : Int) :: rest := by rw [hlr, hl1]; rfl
    simp -implicitDefEqProofs (disch:=first|omega|(simp only[LnZ];omega))[wrap64, (Rv.on H).I, hva]
    rw [← hll] at H
    exact RetK.keep (hk _ _ H)
noncomputable def cycO (a : Aut) (t : Int) : List Int := if @decide (Cyc a.E t.toNat) (Classical.propDecidable _) then Bf.vals a (Bf.arn (Bf.nx a) t ++ [t]) else []
set_option maxHeartbeats 2000000 in
theorem c_l7Cycle {h : Heap} {v : Value} {a : Aut} {t : Nat} (Ra : Rep h v a) (ha : a.Ok) (ht : t < a.acc.length) : CallE Tryz.prog fn_spec_l7Cycle [v, .int .i64 t] h (fun u h' => HS h [ow u (cycO a t)] h') := by
  have Ra0 := Ra
  obtain ⟨v1, v2, v3, rfl, R1, R2, R3⟩ := Rep_Aut.1 Ra
  have hn := ha.n
  have he := ha.e
  have hlen := Bf.nx_len (a := a)
  have hNO := Bf.nx_ok ha
  have o1 := R1.one
  have o2 := R2.one
  have o3 := R3.one
  have hgd := Bf.nx_getD ht
  have hcyes : ∀ {l : List Int}, Cyc a.E t → Bf.vals a (Bf.arn (Bf.nx a) t ++ [(t : Int)]) = l → cycO a t = l := fun {l} hc hl => by
    unfold cycO
    rw [if_pos (by simpa using hc)]
    exact hl
  have hcno : ¬ Cyc a.E t → cycO a t = [] := fun hc => by
    unfold cycO
    rw [if_neg (by simpa using hc)]
  refine CallE.gen fun k hk => EN_spec_l7Cycle rfl ?_
  simp -implicitDefEqProofs (disch:=first|omega|(simp only[LnZ];omega))[wrap64]
  refine wp_count a.edges.length (fun k e h' => e = [none, some (.int .i64 t), some (.agg #[v1, v2, v3]), none, some (.int .i64 k), none, none, none, none] ∧ h' = h ∧ ∀ (m : Nat) (hm : m < a.edges.length), m < k → ¬ (a.edges[m].frm = t ∧ a.edges[m].to = t)) ⟨by simp, rfl, fun m _ hm => absurd hm (Nat.not_lt_zero m)⟩ ?_
  rintro J k _ h1 hJ hk1 ⟨rfl, rfl, hno⟩
  simp -implicitDefEqProofs (disch:=first|omega|(simp only[LnZ];omega))[wrap64, R3.len]
  refine IteW.mk (fun hlt => ?_) (fun hge => ?_)
  · have hkx : k < a.edges.length := by omega
    obtain ⟨f, g, hf, hg, hfn, hgn⟩ := ha.tr (List.getElem_mem hkx)
    have hok := Tr.ok_iff.1 (R3.okF hkx)
    have next : ¬ (a.edges[k].frm = t ∧ a.edges[k].to = t) → ∀ (m : Nat) (hm : m < a.edges.length), m < k + 1 → ¬ (a.edges[m].frm = t ∧ a.edges[m].to = t) := fun hh m hm hmk => by
      by_cases e : m = k
      · subst e; exact hh
      · exact hno m hm (by omega)
    by_cases e1 : f = t
    case neg =>
      have e1i : ¬ (f : Int) = t := by omega
      simp -implicitDefEqProofs (disch:=first|omega|(simp only[LnZ];omega))[wrap64, R3.xTr, R3.fTr, hf, e1, e1i]
      exact hJ _ _ hkx ⟨by simp, rfl, next (fun hh => e1i (by rw [← hf]; exact hh.1))⟩
    by_cases e2 : g = t
    case neg =>
      have e2i : ¬ (g : Int) = t := by omega
      simp -implicitDefEqProofs (disch:=first|omega|(simp only[LnZ];omega))[wrap64, R3.xTr, R3.fTr, hf, e1, hg, e2, e2i]
      exact hJ _ _ hkx ⟨by simp, rfl, next (fun hh => e2i (by rw [← hg]; exact hh.2))⟩
    simp -implicitDefEqProofs (disch:=first|omega|(simp only[LnZ];omega))[wrap64, R3.xTr, R3.fTr, hf, e1, hg, e2]
    refine HS.init.bls [a.edges[k].value] rfl rfl (by intro y hy; obtain rfl : y = a.edges[k].value := by simpa using hy
                                                      exact hok.value) (by decide) fun u h2 H => ?_
    simp -implicitDefEqProofs (disch:=first|omega|(simp only[LnZ];omega))[wrap64]
    have hself : a.E t t := ⟨_, List.getElem_mem hkx, by rw [hf, e1], by rw [hg, e2]⟩
    have hmem : (t : Int) ∈ (Bf.nx a).getD (t : Int).toNat [] := by
      rw [Int.toNat_natCast, hgd, Bf.row_mem']
      exact ⟨_, List.getElem_mem hkx, by rw [hf, e1], by rw [hg, e2]⟩
    have hval : cycO a t = [a.edges[k].value] := by
      refine hcyes ⟨t, hself, .refl t⟩ ?_
      unfold Bf.arn
      rw [if_pos hmem]
      show [Bf.ev a t t] = _
      unfold Bf.ev
      have : a.edges.find? (fun e => decide (e.frm = (t : Int) ∧ e.to = (t : Int))) = some a.edges[k] := find_take hkx (by simp [hf, hg, e1, e2]) (fun j hj => by simpa using hno j (by omega) hj)
      rw [this]
    exact RetK.keep (hk _ _ (by rw [hval]; exact H))
  have hnself : ∀ e ∈ a.edges, ¬ (e.frm = t ∧ e.to = t) := by
    intro e he1
    obtain ⟨m, hm, rfl⟩ := List.mem_iff_getElem.1 he1
    exact hno m hm (by omega)
  have hnmem : ¬ (t : Int) ∈ (Bf.nx a).getD (t : Int).toNat [] := by
    rw [Int.toNat_natCast, hgd, Bf.row_mem']
    rintro ⟨e, he1, he2⟩
    exact hnself e he1 he2
  have hS : incr a.acc.length (-1) [(t : Int)] := Bf.incr_one (by omega) (by omega)
  have hS' : incr (Bf.nx a).length (-1) [(t : Int)] := by rw [hlen]; exact hS
  simp -implicitDefEqProofs (disch:=first|omega|(simp only[LnZ];omega))[wrap64, setC, o1, o2, o3]
  refine HS.init.bls (α := Int) [(t : Int)] rfl rfl (ok_one (by omega)) (by decide) fun us h2 H => ?_
  simp -implicitDefEqProofs (disch:=first|omega|(simp only[LnZ];omega))[wrap64]
  refine (c_l7Tree (Ra0.on H) H.rep ha hS).go ?_
  rintro _ h3 ⟨u1, u2, rfl, H3⟩
  have H := H3.app H
  clear H3
  have fi := (Bf.sN_inv hNO hS' (Bf.nx a).length).1
  have hfin : Bf.sN (Bf.nx a) [(t : Int)] (Bf.nx a).length = Bf.fin (Bf.nx a) [(t : Int)] := rfl
  rw [hfin] at fi
  have hfm := fun (x : Nat) => Bf.fin_mem hNO hS' (Bf.nx_E ha) (t := x)
  have hpo := fun x hx => Bf.path_ok (a := x) hNO hS' hx
  have hfe := fun (j : Nat) (hj : j < a.acc.length) => fin_edge ha hS hj
  have hbk : ∀ (x : Nat), x < a.acc.length → (Bf.back (Bf.nx a) t x = true ↔ ∃ e ∈ a.edges, e.frm = x ∧ e.to = t) := by
    intro x hx
    unfold Bf.back
    simp only [Bool.and_eq_true, decide_eq_true_eq]
    rw [Int.toNat_natCast, Bf.nx_getD hx, Bf.row_mem']
    exact ⟨fun hh => hh.2, fun hh => ⟨fun e => by
      obtain ⟨e', he1, he2⟩ := hh
      rw [e] at he2
      exact hnself e' he1 he2, hh⟩⟩
  have hfle := fi.le
  have hff := fi.fl
  have hinq := fi.inq
  have hval := fi.val
  have harn : Bf.arn (Bf.nx a) t = Bf.hitL (Bf.nx a) [(t : Int)] (Bf.back (Bf.nx a) t) := by
    unfold Bf.arn
    rw [if_neg hnmem]
  unfold Bf.hitL at harn
  obtain ⟨F, hF⟩ : ∃ F, F = Bf.fin (Bf.nx a) [(t : Int)] := ⟨_, rfl⟩
  rw [← hF] at H hfm hpo hfe harn hfle hff hinq hval
  simp -implicitDefEqProofs (disch:=first|omega|(simp only[LnZ];omega))[wrap64]
  refine wp_count F.2.length (fun i e h' => e = [none, some (.int .i64 t), some (.agg #[v1, v2, v3]), none, none, some u1, some u2, some (.int .i64 i), none] ∧ h' = h3 ∧ ∀ (j : Nat) (hj : j < F.2.length), j < i → Bf.back (Bf.nx a) t F.2[j] = false) ⟨by simp, rfl, fun j _ hj => absurd hj (Nat.not_lt_zero j)⟩ ?_
  rintro J i _ h4 hJ hi ⟨rfl, rfl, hnob⟩
  simp -implicitDefEqProofs (disch:=first|omega|(simp only[LnZ];omega))[wrap64, H.sw1.rep.len]
  refine IteW.mk (fun hlt2 => ?_) (fun hge2 => ?_)
  · have hix : i < F.2.length := by omega
    have hat := hinq F.2[i] (List.getElem_mem hix)
    obtain ⟨x, hx⟩ : ∃ x : Nat, F.2[i] = x := ⟨F.2[i].toNat, by omega⟩
    rw [hx] at hat
    have hxn : x < a.acc.length := by omega
    have hxm : (x : Int) ∈ F.2 := by rw [← hx]; exact List.getElem_mem hix
    simp -implicitDefEqProofs (disch:=first|omega|(simp only[LnZ];omega))[wrap64]
    refine wp_count a.edges.length (fun k e h' => e = [none, some (.int .i64 t), some (.agg #[v1, v2, v3]), none, none, some u1, some u2, some (.int .i64 i), some (.int .i64 k)] ∧ h' = h4 ∧ ∀ (m : Nat) (hm : m < a.edges.length), m < k → ¬ (a.edges[m].frm = x ∧ a.edges[m].to = t)) ⟨by simp, rfl, fun m _ hm => absurd hm (Nat.not_lt_zero m)⟩ ?_
    rintro J2 k _ h5 hJ2 hk2 ⟨rfl, rfl, hno2⟩
    simp -implicitDefEqProofs (disch:=first|omega|(simp only[LnZ];omega))[wrap64, (R3.on H).len]
    refine IteW.mk (fun hlt3 => ?_) (fun hge3 => ?_)
    · have hkx : k < a.edges.length := by omega
      obtain ⟨f, g, hf, hg, hfn, hgn⟩ := ha.tr (List.getElem_mem hkx)
      have hok := Tr.ok_iff.1 (R3.okF hkx)
      have next : ¬ (a.edges[k].frm = x ∧ a.edges[k].to = t) → ∀ (m : Nat) (hm : m < a.edges.length), m < k + 1 → ¬ (a.edges[m].frm = x ∧ a.edges[m].to = t) := fun hh m hm hmk => by
        by_cases e : m = k
        · subst e; exact hh
        · exact hno2 m hm (by omega)
      have RI := H.sw1.rep.I
      by_cases e1 : f = x
      case neg =>
        have e1i : ¬ (f : Int) = x := by omega
        simp -implicitDefEqProofs (disch:=first|omega|(simp only[LnZ];omega))[wrap64, (R3.on H).xTr, (R3.on H).fTr, hf, RI, hx, e1, e1i]
        exact hJ2 _ _ hkx ⟨by simp, rfl, next (fun hh => e1i (by rw [← hf]; exact hh.1))⟩
      by_cases e2 : g = t
      case neg =>
        have e2i : ¬ (g : Int) = t := by omega
        simp -implicitDefEqProofs (disch:=first|omega|(simp only[LnZ];omega))[wrap64, (R3.on H).xTr, (R3.on H).fTr, hf, RI, hx, e1, hg, e2, e2i]
        exact hJ2 _ _ hkx ⟨by simp, rfl, next (fun hh => e2i (by rw [← hg]; exact hh.2))⟩
      obtain ⟨c1, c2, c3⟩ := hpo x hxm
      have hback : Bf.back (Bf.nx a) t x = true := (hbk x hxn).2 ⟨_, List.getElem_mem hkx, by rw [hf, e1], by rw [hg, e2]⟩
      have hfd : F.2.find? (Bf.back (Bf.nx a) t) = some (x : Int) := by
        have := find_take (p := Bf.back (Bf.nx a) t) hix (by rw [hx]; exact hback) (fun j hj => hnob j (by omega) hj)
        rw [this, hx]
      rw [hfd] at harn
      simp only at harn
      obtain ⟨l0, hl0⟩ := c3.last
      have hev : Bf.ev a x t = a.edges[k].value := by
        unfold Bf.ev
        have : a.edges.find? (fun e => decide (e.frm = (x : Int) ∧ e.to = (t : Int))) = some a.edges[k] := find_take hkx (by simp [hf, hg, e1, e2]) (fun j hj => by simpa using hno2 j (by omega) hj)
        rw [this]
      have hcy : Cyc a.E t := by
        obtain ⟨s, hs, hr⟩ := (hfm x).1 hxm
        obtain rfl : s = t := by
          have : (s : Int) = t := by simpa using hs
          omega
        refine Cyc.iff.2 (.inr ⟨x, ?_, hr, .one ⟨_, List.getElem_mem hkx, by rw [hf, e1], by rw [hg, e2]⟩⟩)
        rintro rfl
        exact hnself _ (List.getElem_mem hkx) ⟨by rw [hf, e1], by rw [hg, e2]⟩
      have hfinal : cycO a t = Bf.vals a (Bf.path (Bf.nx a) [(t : Int)] x) ++ [a.edges[k].value] := by
        refine hcyes hcy ?_
        rw [harn, hl0, Bf.vals_snoc, hev]
      simp -implicitDefEqProofs (disch:=first|omega|(simp only[LnZ];omega))[wrap64, (R3.on H).xTr, (R3.on H).fTr, hf, RI, hx, e1, hg, e2, setC, o1, o2, o3]
      refine (c_l7Letters (f := F.1) (t := (x : Int)) (Ra0.on H) H.rep ha (by omega) hfe (fun j hj => by rcases hval j (by omega) with h | h | h <;> omega) (by omega) c1 (by omega)).go ?_
      intro ul h6 H6
      have H := H6.app H
      clear H6
      have hvlen := Bf.vals_len (a := a) (l := Bf.path (Bf.nx a) [(t : Int)] x)
      simp -implicitDefEqProofs (disch:=first|omega|(simp only[LnZ];omega))[wrap64, (R3.on H).xTr, (R3.on H).fTr]
      refine HS.app1 (bytes := 8) H a.edges[k].value rfl rfl rfl hok.value rfl rfl (by omega) (by omega) fun uf h7 H => ?_
      simp -implicitDefEqProofs (disch:=first|omega|(simp only[LnZ];omega))[wrap64]
      exact RetK.keep (hk _ _ (by rw [hfinal]; exact H.only1))
    · simp -implicitDefEqProofs (disch:=first|omega|(simp only[LnZ];omega))[wrap64]
      refine hJ _ _ hix ⟨by simp, rfl, fun j hj hji => ?_⟩
      by_cases e : j = i
      · subst e
        rw [hx]
        cases hq : Bf.back (Bf.nx a) t x with
        | false => rfl
        | true =>
          obtain ⟨e', he1, he2⟩ := (hbk x hxn).1 hq
          obtain ⟨m, hm, rfl⟩ := List.mem_iff_getElem.1 he1
          exact absurd he2 (hno2 m hm (by omega))
      · exact hnob j hj (by omega)
  · have hncy : ¬ Cyc a.E t := by
      rintro ⟨y, k1, k2⟩
      obtain ⟨m, k3, k4⟩ := Bf.Rch.last k1 k2
      have hm : (m : Int) ∈ F.2 := (hfm m).2 ⟨t, by simp, k3⟩
      obtain ⟨j, hj, e⟩ := List.mem_iff_getElem.1 hm
      have := hnob j hj (by omega)
      rw [e] at this
      have hml := (Aut.E_lt ha _ _ k4).1
      rw [(hbk m hml).2 k4] at this
      exact absurd this (by decide)
    simp -implicitDefEqProofs (disch:=first|omega|(simp only[LnZ];omega))[wrap64]
    refine H.bls0 Int fun u h5 H => ?_
    simp -implicitDefEqProofs (disch:=first|omega|(simp only[LnZ];omega))[wrap64]
    exact RetK.keep (hk _ _ (by rw [hcno hncy]; exact H.only1))
end Go.Proofs.YtglnelcmcimljaaGreat
