/-
  Texts of this proof, one behind the other.
-/
import Derived.Test.YtglnelcmcimljaaYF5
set_option linter.all false
set_option linter.unusedVariables false
set_option linter.unusedSimpArgs false
set_option linter.defProp false
set_option maxRecDepth 1000000
namespace Go.Proofs.Ytglnelcmcimljaa
open Go
namespace Bf
section
variable {S : List Int} {D : Int → Int → Prop}
theorem Pth.last {x : Int} {l : List Int} (h : Pth S D x l) : ∃ l0, l = l0 ++ [x] := by
  cases h with
  | one h => exact ⟨[], rfl⟩
  | snoc h e => exact ⟨_, rfl⟩
theorem Pth.head {x : Int} {l : List Int} (h : Pth S D x l) : ∃ s ∈ S, ∃ t, l = s :: t := by
  induction h with
  | one h => exact ⟨_, h, [], rfl⟩
  | snoc h e ih =>
    obtain ⟨s, hs, t, rfl⟩ := ih
    exact ⟨s, hs, t ++ [_], rfl⟩
def Joined (D : Int → Int → Prop) : List Int → Prop
  | x :: y :: l => D x y ∧ Joined D (y :: l)
  | _ => True
theorem Joined.snoc {x y : Int} : ∀ {l : List Int}, Joined D (l ++ [x]) → D x y → Joined D (l ++ [x] ++ [y])
  | [], _, h => ⟨h, trivial⟩
  | [z], h, h' => ⟨h.1, h', trivial⟩
  | z :: z2 :: l, h, h' => ⟨h.1, Joined.snoc (l := z2 :: l) h.2 h'⟩
theorem Pth.joined {x : Int} {l : List Int} (h : Pth S D x l) : Joined D l := by
  induction h with
  | one h => trivial
  | snoc h e ih =>
    obtain ⟨l0, rfl⟩ := h.last
    exact ih.snoc e
theorem Joined.at {D : Int → Int → Prop} : ∀ {l : List Int}, Joined D l → ∀ (i : Nat) (hi : i + 1 < l.length), D l[i] l[i + 1]
  | [], _, i, hi => absurd hi (by simp)
  | [x], _, i, hi => absurd hi (by simp)
  | x :: y :: l, h, 0, _ => h.1
  | x :: y :: l, h, i + 1, hi => Joined.at (l := y :: l) h.2 i (by simpa using hi)
end
noncomputable def hitL (G : List (List Int)) (S : List Int) (g : Int → Bool) : List Int := match (fin G S).2.find? g with
  | some t => path G S t
  | none => []
def back (G : List (List Int)) (t : Int) : Int → Bool := fun m => decide (m ≠ t) && decide (t ∈ G.getD m.toNat [])
noncomputable def arn (G : List (List Int)) (t : Int) : List Int := if t ∈ G.getD t.toNat [] then [t] else hitL G [t] (back G t)
theorem Rch.last {E : Nat → Nat → Prop} {x y z : Nat} (h : E x y) (k : Rch E y z) : ∃ m, Rch E x m ∧ E m z := by
  induction k generalizing x with
  | refl => exact ⟨x, .refl _, h⟩
  | step e _ ih =>
    obtain ⟨m, h1, h2⟩ := ih e
    exact ⟨m, .step h h1, h2⟩
theorem incr_one {n : Int} {t : Int} (h0 : 0 ≤ t) (h1 : t < n) : incr n (-1) [t] := ⟨by omega, h1, trivial⟩
theorem arn_ok {G : List (List Int)} (hn : NOk G) {E : Nat → Nat → Prop} (hE : ∀ x y : Nat, E x y ↔ x < G.length ∧ (y : Int) ∈ G.getD x []) {t : Nat} (ht : t < G.length) (hc : Cyc E t) :
    ∃ m : Int, Pth [(t : Int)] (Ed G) m (arn G t) ∧ Ed G m t ∧ (arn G t).length ≤ G.length := by
  unfold arn
  by_cases hs : (t : Int) ∈ G.getD (t : Int).toNat []
  · rw [if_pos hs]
    exact ⟨t, .one (by simp), ⟨by omega, by omega, hs⟩, by simp; omega⟩
  · rw [if_neg hs]
    have hS : incr G.length (-1) [(t : Int)] := incr_one (by omega) (by omega)
    obtain ⟨y, h1, h2⟩ := hc
    obtain ⟨m, h3, h4⟩ := Rch.last h1 h2
    have hm : (m : Int) ∈ (fin G [(t : Int)]).2 := (fin_mem hn hS hE).2 ⟨t, by simp, h3⟩
    have hmE := (hE m t).1 h4
    have hb : back G t m = true := by
      unfold back
      simp only [Int.toNat_natCast, Bool.and_eq_true, decide_eq_true_eq]
      refine ⟨fun e => hs ?_, hmE.2⟩
      have : m = t := by omega
      subst this
      rw [Int.toNat_natCast]
      exact hmE.2
    cases hf : (fin G [(t : Int)]).2.find? (back G t) with
    | none =>
      rw [List.find?_eq_none] at hf
      exact absurd hb (by simpa using hf m hm)
    | some q =>
      have hq := List.mem_of_find?_eq_some hf
      have hqb := List.find?_some hf
      have hp := path_ok hn hS hq
      have hin := (sN_inv hn hS G.length).1.inq q hq
      unfold back at hqb
      simp only [Bool.and_eq_true, decide_eq_true_eq] at hqb
      refine ⟨q, ?_, ⟨hin.1, hin.2.1, hqb.2⟩, ?_⟩
      · unfold hitL; rw [hf]; exact hp.2.2
      · unfold hitL; rw [hf]; exact hp.2.1
noncomputable def gA (a : Aut) : Int → Bool := fun t => a.acc.getD t.toNat false && @decide (Cyc a.E t.toNat) (Classical.propDecidable _)
theorem gA_iff {a : Aut} {t : Int} : gA a t = true ↔ tru a.acc t.toNat ∧ Cyc a.E t.toNat := by simp [gA, tru]
noncomputable def fw (a : Aut) : Option Las := match (fin (nx a) a.init).2.find? (gA a) with
  | some t => some ⟨vals a (path (nx a) a.init t), vals a (arn (nx a) t ++ [t])⟩
  | none => none
section
variable {a : Aut}
theorem LP_of (ha : a.Ok) {S : List Int} {x : Int} {l : List Int} (h : Pth S (Ed (nx a)) x l) (hS : ∀ s ∈ S, 0 ≤ s) : ∃ s ∈ S, 0 ≤ x ∧ LP a.edges s.toNat (vals a l) x.toNat ∧ ∀ y ∈ vals a l, 0 ≤ y ∧ y ≤ 7 := by
  induction h with
  | one h => exact ⟨_, h, hS _ h, .nil _, by simp [vals]⟩
  | snoc h e ih =>
    rename_i x y l
    obtain ⟨s, hs, h0, h1, h2⟩ := ih
    obtain ⟨l0, rfl⟩ := h.last
    rw [vals_snoc]
    obtain ⟨f, hf, k1, k2, k3, k4, k5, k6⟩ := ev_ok ha ((nx_Ed ha).1 e)
    obtain ⟨p, q, m1, m2, _, _⟩ := ha.tr hf
    refine ⟨s, hs, by omega, h1.append (.cons ⟨f, hf, by omega, by omega, k4⟩ (.nil _)), fun z hz => ?_⟩
    rcases List.mem_append.1 hz with hz | hz
    · exact h2 z hz
    · obtain rfl : z = ev a x y := by simpa using hz
      exact ⟨k5, k6⟩
theorem fw_some (ha : a.Ok) {l : Las} (h : fw a = some l) : (∃ (s x : Nat), (s : Int) ∈ a.init ∧ LP a.edges s l.stem x ∧ LP a.edges x l.loop x ∧ tru a.acc x) ∧ (∀ y ∈ l.stem, 0 ≤ y ∧ y ≤ 7) ∧ (∀ y ∈ l.loop, 0 ≤ y ∧ y ≤ 7) ∧ l.stem.length ≤ 63 ∧ 1 ≤ l.loop.length ∧ l.loop.length ≤ 64 := by
  have hn := nx_ok ha
  have hlen := nx_len (a := a)
  have hS : incr (nx a).length (-1) a.init := by rw [hlen]; exact ha.i
  have h64 := ha.n.2
  unfold fw at h
  split at h
  · rename_i t hf
    simp only [Option.some.injEq] at h
    subst h
    have ht := List.mem_of_find?_eq_some hf
    have htg := gA_iff.1 (List.find?_some hf)
    have hp := path_ok hn hS ht
    have hin := (sN_inv hn hS (nx a).length).1.inq t ht
    obtain ⟨q, rfl⟩ : ∃ q : Nat, t = q := ⟨t.toNat, by omega⟩
    rw [Int.toNat_natCast] at htg
    obtain ⟨m, c1, c2, c3⟩ := arn_ok hn (nx_E ha) (t := q) (by omega) htg.2
    have c4 := c1.snoc c2
    obtain ⟨s, hs, _, p1, p2⟩ := LP_of ha hp.2.2 (fun s hs => by have := incr_mem ha.i s hs; omega)
    obtain ⟨s', hs', _, p3, p4⟩ := LP_of ha c4 (fun s hs => by have : s = q := by simpa using hs
                                                               omega)
    obtain rfl : s' = q := by simpa using hs'
    rw [Int.toNat_natCast] at p1 p3
    have hs0 := incr_mem ha.i s hs
    have l1 := vals_len (a := a) (l := path (nx a) a.init q)
    have l2 := vals_len (a := a) (l := arn (nx a) q ++ [(q : Int)])
    have hne : 1 ≤ (arn (nx a) q).length := by
      obtain ⟨_, _, t, e⟩ := c1.head
      rw [e]; simp
    rw [List.length_append, List.length_singleton] at l2
    have l3 := hp.2.1
    refine ⟨⟨s.toNat, q, by rw [Int.toNat_of_nonneg (by omega)]; exact hs, p1, p3, htg.1⟩, p2, p4, ?_, ?_, ?_⟩
    · simp only; omega
    · simp only; omega
    · simp only; omega
  · simp at h
end
end Bf
end Go.Proofs.Ytglnelcmcimljaa

namespace Go.Proofs.Ytglnelcmcimljaa
open Go
theorem c_Reverse_int {g h : Heap} {Γ : List HP} {v : Value} {x : List Int} (H : HS g (ow v x :: Γ) h) : CallE Try.prog fn_slices_Reverse_S_int_int [v] h (fun _ h' => HS g (ow v x.reverse :: Γ) h') := by
  have hL := H.rep.lt
  have hok := fun {i : Nat} (hi : i < x.length) => H.rep.okI hi
  refine CallE.gen fun k hk => EN_slices_Reverse_S_int_int rfl ?_
  simp -implicitDefEqProofs (disch:=first|omega|(simp only[LnZ];omega))[wrap64, H.rep.len]
  refine wp_while (σ := Nat) (fun i e h' => e = [some v, some (.int .i64 i), some (.int .i64 ((x.length : Int) - 1 - i))] ∧ i ≤ x.length ∧ ∃ y, HS g (ow v y :: Γ) h' ∧ y.length = x.length ∧ (i = 0 ∨ 2 * i ≤ x.length) ∧ ∀ (k : Nat), k < x.length → y.getD k 0 = if k < i ∨ x.length - 1 - i < k then x.getD (x.length - 1 - k) 0 else x.getD k 0) (fun i => x.length - i) 0 ⟨by simp, by omega, x, H, rfl, .inl rfl, fun k hk => by rw [if_neg (by omega)]⟩ ?_
  clear H
  rintro J i _ h1 hJ ⟨rfl, hi, y, H, hl, h0, hy⟩
  simp -implicitDefEqProofs (disch:=first|omega|(simp only[LnZ];omega))[wrap64]
  refine IteW.mk (fun hlt => ?_) (fun hge => ?_)
  · have hin : 2 * i + 1 < x.length := by omega
    have hiy : i < y.length := by omega
    have hjy : x.length - 1 - i < y.length := by omega
    have hcast : (x.length : Int) - 1 - i = ((x.length - 1 - i : Nat) : Int) := by omega
    have o1 := H.rep.okI hiy
    have o2 := H.rep.okI hjy
    rw [hcast]
    simp -implicitDefEqProofs (disch:=first|omega|(simp only[LnZ];omega))[wrap64, H.rep.I]
    refine H.storeF y[x.length - 1 - i] (i := i) hiy rfl rfl ⟨o2.1, o2.2⟩ rfl fun h2 H => ?_
    simp -implicitDefEqProofs (disch:=first|omega|(simp only[LnZ];omega))[wrap64, H.rep.I]
    refine H.storeF y[i] (i := x.length - 1 - i) (by simpa using hjy) rfl rfl ⟨o1.1, o1.2⟩ rfl fun h3 H => ?_
    simp -implicitDefEqProofs (disch:=first|omega|(simp only[LnZ];omega))[wrap64]
    refine hJ (i + 1) _ _ (by omega) ⟨by simp; omega, by omega, _, H, by simp [hl], .inr (by omega), fun k hk => ?_⟩
    have e1 : y[i] = x.getD i 0 := by
      have := hy i (by omega)
      rw [if_neg (by omega)] at this
      rw [← this]; simp [hiy]
    have e2 : y[x.length - 1 - i] = x.getD (x.length - 1 - i) 0 := by
      have := hy (x.length - 1 - i) (by omega)
      rw [if_neg (by omega)] at this
      rw [← this]; simp [hjy]
    rw [Bf.set_getD (by simpa using hjy), Bf.set_getD hiy, e1, e2, hy k hk]
    by_cases c1 : x.length - 1 - i = k
    · rw [if_pos c1, if_pos (by omega)]
      congr 1; omega
    · rw [if_neg c1]
      by_cases c2 : i = k
      · rw [if_pos c2, if_pos (by omega)]
        congr 1; omega
      · rw [if_neg c2]
        by_cases c3 : k < i ∨ x.length - 1 - i < k
        · rw [if_pos c3, if_pos (by omega)]
        · rw [if_neg c3, if_neg (by omega)]
  · simp -implicitDefEqProofs (disch:=first|omega|(simp only[LnZ];omega))[wrap64]
    have he : y = x.reverse := by
      refine List.ext_getElem (by simp [hl]) fun k h1 h2 => ?_
      have hk : k < x.length := by omega
      have := hy k hk
      rw [List.getElem_reverse]
      have e1 : y.getD k 0 = y[k] := by simp [h1]
      rw [← e1, this]
      split
      · simp [show x.length - 1 - k < x.length by omega]
      · have e2 : k = x.length - 1 - k := by omega
        have e3 : x[x.length - 1 - k]'(by omega) = x.getD (x.length - 1 - k) 0 := by simp [show x.length - 1 - k < x.length by omega]
        rw [e3, ← e2]
    exact RetK.keep (hk _ _ (he ▸ H))
set_option maxHeartbeats 1000000 in
theorem c_shortestG {h : Heap} {v w fv : Value} {G : List (List Int)} {S : List Int} (hn : Bf.NOk G) (hS : incr G.length (-1) S) (hGl : G.length ≤ 65536) (R : Rep h v G) (Rs : Rep h w S) (g : Int → Bool) {f : FuncId} {c1 c2 : List Value} (hf : fnOf fv = some (f, c1, c2))
    (hp : ∀ h1, h.le h1 → ∀ a : Nat, a < G.length → CallE Try.prog f (c1 ++ .int .i64 a :: c2) h1 (fun u h' => h1.le h' ∧ u = .bool (g a))) :
    CallE Try.prog fn_impl_shortest [v, w, fv] h (fun u h' => HS h [ow u (Bf.hitL G S g)] h') := by
  have hL := R.lt
  have hSl := incr_len hS
  refine CallE.gen fun k hk => EN_impl_shortest rfl ?_
  simp -implicitDefEqProofs (disch:=first|omega|(simp only[LnZ];omega))[wrap64, R.len]
  refine HS.init.mks (α := Int) (z := (0 : Int)) rfl rfl (own_zero (by decide) (by decide)) (Nat.le_refl _) (by omega) (by omega) fun o h1 H => ?_
  simp -implicitDefEqProofs (disch:=first|omega|(simp only[LnZ];omega))[wrap64, H.rep.len]
  refine wp_count G.length (fun i e h' => e = [some v, some w, some fv, none, some o, none, none, none, none, none, none, none, some (.int .i64 G.length), some (.int .i64 i), none, none, none, none, none, none] ∧ ∃ y, HS h [ow o y] h' ∧ y.length = G.length ∧ y.take i = (List.replicate G.length (-2)).take i) ⟨by simp, _, H, by simp, by simp⟩ ?_
  clear H
  rintro J i _ h1 hJ hi ⟨rfl, y, H, hl, hy⟩
  simp -implicitDefEqProofs (disch:=first|omega|(simp only[LnZ];omega))[wrap64]
  refine IteW.mk (fun hlt => ?_) (fun hge => ?_)
  · have hlx : i < G.length := by omega
    simp -implicitDefEqProofs (disch:=first|omega|(simp only[LnZ];omega))[wrap64, H.rep.I]
    refine H.storeF (-2) (i := i) (by omega) rfl rfl ⟨by omega, by omega⟩ rfl fun h2 H => ?_
    simp -implicitDefEqProofs (disch:=first|omega|(simp only[LnZ];omega))[wrap64]
    refine hJ _ _ hlx ⟨by simp, _, H, by simp [hl], ?_⟩
    have := take_set_succ (x := List.replicate G.length (-2 : Int)) hy (by simpa using hlx) (by simpa using hl)
    simpa using this
  have he : y = List.replicate G.length (-2) := eq_of_take hy (by simp; omega) (by simpa using hl)
  subst he
  simp -implicitDefEqProofs (disch:=first|omega|(simp only[LnZ];omega))[wrap64, (Rs.on H).len]
  refine wp_count S.length (fun i e h' => ∃ q, e = [some v, none, some fv, none, some o, none, some q, none, none, none, none, none, none, none, some w, some (.int .i64 S.length), some (.int .i64 i), none, none, none] ∧ ∃ y, HS h [ow o y, ow q (S.take i)] h' ∧ y.length = G.length ∧ y = (S.take i).foldl (fun f s => f.set s.toNat (-1)) (List.replicate G.length (-2))) ⟨.slice none 0 0, by simp, _, (H.nil_ow (α := Int)).sw1, by simp, by simp⟩ ?_
  clear H hy hl
  rintro J1 i1 _ h1 hJ1 hi1 ⟨q, rfl, y, H, hyl, hy⟩
  simp -implicitDefEqProofs (disch:=first|omega|(simp only[LnZ];omega))[wrap64]
  refine IteW.mk (fun hlt1 => ?_) (fun hge1 => ?_)
  · have hix : i1 < S.length := by omega
    have hsx := incr_mem hS _ (List.getElem_mem hix)
    obtain ⟨x, hx⟩ : ∃ x : Nat, S[i1] = x := ⟨S[i1].toNat, by omega⟩
    simp -implicitDefEqProofs (disch:=first|omega|(simp only[LnZ];omega))[wrap64, (Rs.on H).I, hx, H.rep.I]
    refine H.storeF (-1) (i := x) (by omega) rfl rfl ⟨by omega, by omega⟩ rfl fun h2 H => ?_
    simp -implicitDefEqProofs (disch:=first|omega|(simp only[LnZ];omega))[wrap64, setC]
    refine HS.app1 (bytes := 8) H.sw1 (x : Int) rfl rfl rfl ⟨by omega, by omega⟩ rfl rfl (by simp; omega) (by simp; omega) fun q' h3 H => ?_
    simp -implicitDefEqProofs (disch:=first|omega|(simp only[LnZ];omega))[wrap64]
    refine hJ1 _ _ hix ⟨q', by simp, y.set x (-1), ?_, by simpa using hyl, ?_⟩
    · rw [List.take_add_one, List.getElem?_eq_getElem hix, hx]
      have H2 := H.sw1
      have he2 : S.take i1 ++ [(x : Int)] = S.take i1 ++ (some (x : Int)).toList := rfl
      rw [he2] at H2
      exact H2
    · rw [List.take_add_one, List.getElem?_eq_getElem hix, List.foldl_append, ← hy, hx]
      show y.set x (-1) = y.set (x : Int).toNat (-1)
      rw [Int.toNat_natCast]
  obtain rfl : i1 = S.length := by omega
  rw [List.take_length] at H hy
  have H : HS h [ow o (Bf.sN G S 0).1, ow q (Bf.sN G S 0).2] h1 := by subst hy; exact H
  clear hy hyl
  simp -implicitDefEqProofs (disch:=first|omega|(simp only[LnZ];omega))[wrap64]
  refine wp_while (σ := Nat) (fun i e h' => ∃ q, e = [some v, none, some fv, none, some o, none, some q, none, some (.int .i64 i), none, none, none, none, none, none, none, none, none, none, none] ∧ HS h [ow o (Bf.sN G S i).1, ow q (Bf.sN G S i).2] h' ∧ i ≤ (Bf.sN G S i).2.length ∧ ∀ j : Nat, j < i → g ((Bf.sN G S i).2.getD j 0) = false) (fun i => G.length + 1 - i) 0 ⟨q, by simp, H, by omega, fun j hj => absurd hj (Nat.not_lt_zero j)⟩ ?_
  clear H
  rintro J2 i _ h1 hJ2 ⟨q, rfl, H, hi, hnot⟩
  obtain ⟨bi, bd⟩ := Bf.sN_inv hn hS i
  have hle := bi.le
  have hql := H.sw1.rep.lt
  have hsu := Bf.sN_succ (next := G) (S := S) (n := i)
  have hnl := Bf.sN_le hn hS (show i ≤ i + 1 by omega)
  have hnoh := Bf.no_hit hn hS (g := g) (i := i)
  have hyes := Bf.fst_hit hn hS (g := g) (i := i)
  have hpe := fun {l} => Bf.path_eq hn hS (n := i) (a := (Bf.sN G S i).2.getD i 0) (l := l)
  simp -implicitDefEqProofs (disch:=first|omega|(simp only[LnZ];omega))[wrap64, H.sw1.rep.len]
  refine IteW.mk (fun hlt => ?_) (fun hge => ?_)
  · have hlt : i < (Bf.sN G S i).2.length := by omega
    have hsu := hsu hlt
    have hat := bi.at hlt
    have hrow := hn.row bi hlt
    obtain ⟨l, c1', c2', _⟩ := bi.chn i hlt
    have hyes := hyes hlt
    have hpe := hpe c1'
    obtain ⟨a, ha⟩ : ∃ a : Nat, (Bf.sN G S i).2.getD i 0 = a := ⟨_, (Int.toNat_of_nonneg hat.1).symm⟩
    have ha' : (Bf.sN G S i).2[i] = a := by rw [← ha]; simp [hlt]
    rw [ha, Int.toNat_natCast] at hat hsu hrow
    rw [ha] at hyes hpe c1'
    have haN : a < G.length := by omega
    have hgd : G.getD a [] = G[a] := by simp [haN]
    rw [hgd] at hsu hrow
    simp -implicitDefEqProofs (disch:=first|omega|(simp only[LnZ];omega))[wrap64, H.sw1.rep.I, ha', hf]
    refine (hp h1 H.base a haN).go ?_
    rintro _ h2 ⟨l2, rfl⟩
    have H := H.le l2
    cases q1 : g a with
    | true =>
      have hfnd : Bf.hitL G S g = l := by rw [Bf.hitL, hyes q1 hnot]; exact hpe
      rw [hfnd] at hk
      have hca := c1'.all
      simp -implicitDefEqProofs (disch:=first|omega|(simp only[LnZ];omega))[wrap64, q1]
      refine wp_while (σ := List Int × List Int × Int) (fun t e h' => ∃ u, e = [none, none, none, none, some o, none, none, none, none, some (.int .i64 t.2.2), some u, none, none, none, none, none, none, none, none, none] ∧ HS h [ow u t.2.1, ow o (Bf.sN G S i).1, ow q (Bf.sN G S i).2] h' ∧ Bf.Chn (Bf.sN G S i).1 t.2.2 t.1 ∧ t.1 ++ t.2.1.reverse = l) (fun t => t.1.length) (l, [], (a : Int)) ⟨.slice none 0 0, by simp, H.nil_ow, c1', by simp⟩ ?_
      clear H
      rintro J3 ⟨l1, l2', b⟩ _ h3 hJ3 ⟨u, rfl, H, c3, c4⟩
      simp only at c3 c4 H ⊢
      by_cases hb : 0 ≤ b
      · obtain ⟨l1', rfl, hbl, c5⟩ := c3.un hb
        obtain ⟨b', rfl⟩ : ∃ b' : Nat, b = b' := ⟨b.toNat, (Int.toNat_of_nonneg hb).symm⟩
        have hlen : l2'.length ≤ 65537 := by
          have := congrArg List.length c4
          simp at this
          omega
        have hbl' : b' < (Bf.sN G S i).1.length := by omega
        have hge2 := c5.ge
        have hbd : (Bf.sN G S i).1.getD b' 0 = (Bf.sN G S i).1[b'] := by simp [hbl']
        rw [Int.toNat_natCast, hbd] at c5
        have hok := H.sw1.rep.okI hbl'
        have hfl0 := bi.fl
        simp -implicitDefEqProofs (disch:=first|omega|(simp only[LnZ];omega))[wrap64, setC]
        refine HS.app1 (bytes := 8) H (b' : Int) rfl rfl rfl ⟨by omega, by omega⟩ rfl rfl (by omega) (by omega) fun u' h4 H => ?_
        simp -implicitDefEqProofs (disch:=first|omega|(simp only[LnZ];omega))[wrap64, H.sw1.rep.I]
        exact hJ3 (l1', l2' ++ [(b' : Int)], (Bf.sN G S i).1[b']) _ _ (by simp) ⟨u', by simp, H, c5, by rw [← c4]; simp⟩
      · have hb1 : b = -1 := by have := c3.ge; omega
        subst hb1
        have hl1 := c3.neg
        subst hl1
        simp -implicitDefEqProofs (disch:=first|omega|(simp only[LnZ];omega))[wrap64]
        refine (c_Reverse_int H).go ?_
        intro _ h4 H
        simp -implicitDefEqProofs (disch:=first|omega|(simp only[LnZ];omega))[wrap64]
        refine (c_Clip_int H).go ?_
        intro u' h5 H
        simp -implicitDefEqProofs (disch:=first|omega|(simp only[LnZ];omega))[wrap64]
        refine RetK.keep (hk _ _ ?_)
        have hfin : l = l2'.reverse := by rw [← c4]; simp
        rw [hfin]
        exact H.only1
    | false =>
      obtain ⟨u, hu, Ru⟩ := R.ldL haN
      have hu := hload_le H.base hu
      have hul := Ru.len
      have hull := Ru.lt
      simp -implicitDefEqProofs (disch:=first|omega|(simp only[LnZ];omega))[wrap64, q1, H.sw1.rep.I, ha', R.X (n := 1) rfl, hu, hul]
      refine wp_count G[a].length (fun m e h' => ∃ q, e = [some v, none, some fv, none, some o, none, some q, none, some (.int .i64 i), none, none, none, none, none, none, none, none, some u, some (.int .i64 G[a].length), some (.int .i64 m)] ∧ HS h [ow o (Bf.sF (G[a].take m) a (Bf.sN G S i)).1, ow q (Bf.sF (G[a].take m) a (Bf.sN G S i)).2] h') ⟨q, by simp, by simpa [Bf.sF] using H⟩ ?_
      clear H
      rintro J4 m _ h3 hJ4 hm ⟨q, rfl, H⟩
      simp -implicitDefEqProofs (disch:=first|omega|(simp only[LnZ];omega))[wrap64]
      refine IteW.mk (fun hlt4 => ?_) (fun hge4 => ?_)
      · have hm : m < G[a].length := by omega
        have hxr := hrow _ (List.getElem_mem hm)
        have hfo := bi.fold (i := i) hlt (l := G[a].take m) (fun y hy => by rw [ha]; exact hrow y (List.mem_of_mem_take hy))
        rw [ha] at hfo
        obtain ⟨f1, f2, _⟩ := hfo
        have hfs := Bf.sF_take (a := (a : Int)) (p := Bf.sN G S i) hm
        have hqi : (Bf.sF (G[a].take m) a (Bf.sN G S i)).2.getD i 0 = a := by rw [f2.at hlt, ha]
        have hil : i < (Bf.sF (G[a].take m) a (Bf.sN G S i)).2.length := by have := f2.len; omega
        have hfl := f1.fl
        have hfle := f1.le
        generalize Bf.sF (G[a].take m) a (Bf.sN G S i) = p at *
        obtain ⟨x, hx⟩ : ∃ x : Nat, G[a][m] = x := ⟨_, (Int.toNat_of_nonneg hxr.1).symm⟩
        rw [hx] at hxr
        have hxl : x < p.1.length := by omega
        have hqi' : p.2[i] = a := by rw [← hqi]; simp [hil]
        have hxd : p.1.getD x 0 = p.1[x] := by simp [hxl]
        rw [Bf.s1, hx, Int.toNat_natCast, hxd] at hfs
        have RuI := (Ru.on H).I
        by_cases q2 : p.1[x] = -2
        · rw [if_pos q2] at hfs
          simp -implicitDefEqProofs (disch:=first|omega|(simp only[LnZ];omega))[wrap64, RuI, hx, H.rep.I, q2, H.sw1.rep.I, hqi']
          refine H.storeF (a : Int) (i := x) hxl rfl rfl ⟨by omega, by omega⟩ rfl fun h4 H => ?_
          simp -implicitDefEqProofs (disch:=first|omega|(simp only[LnZ];omega))[wrap64, setC]
          refine HS.app1 (bytes := 8) H.sw1 (x : Int) rfl rfl rfl ⟨by omega, by omega⟩ rfl rfl (by omega) (by omega) fun q' h5 H => ?_
          simp -implicitDefEqProofs (disch:=first|omega|(simp only[LnZ];omega))[wrap64]
          exact hJ4 _ _ hm ⟨q', by simp, by rw [hfs]; exact H.sw1⟩
        · rw [if_neg q2] at hfs
          simp -implicitDefEqProofs (disch:=first|omega|(simp only[LnZ];omega))[wrap64, RuI, hx, H.rep.I, q2]
          exact hJ4 _ _ hm ⟨q, by simp, by rw [hfs]; exact H⟩
      simp -implicitDefEqProofs (disch:=first|omega|(simp only[LnZ];omega))[wrap64]
      have hmG : m = G[a].length := by omega
      subst hmG
      rw [List.take_length, ← hsu] at H
      have hlen := hnl.len
      refine hJ2 (i + 1) _ _ (by omega) ⟨q, by simp, H, by omega, fun j hj => ?_⟩
      rw [hnl.at (by omega)]
      by_cases hji : j = i
      · subst hji; rw [ha]; exact q1
      · exact hnot j (by omega)
  · have hno : Bf.hitL G S g = [] := by rw [Bf.hitL, hnoh (by omega) (fun j hj hj2 => hnot j hj)]
    rw [hno] at hk
    simp -implicitDefEqProofs (disch:=first|omega|(simp only[LnZ];omega))[wrap64]
    exact RetK.keep (hk _ _ (HS.nil_ow (Γ := []) H.base))
end Go.Proofs.Ytglnelcmcimljaa

namespace Go.Proofs.Ytglnelcmcimljaa
open Go
def H_impl_LassoValid : Hint := ⟨[(0, false), (1, true), (2, false)], []⟩
def K74_1 : Pl := .x 22 (.pick (.v 17) (.v 21) (.c (.bool false))) <|
 .m 2 22 .done
@[simp] def W74_1 := Pl.w K74_1.eq_1
def K74_2 : Pl := .x 10 (.pick (.v 6) (.v 9) (.c (.bool false))) <|
 .m 11 10 <|
 .y 11 (.als 12 none 1) <|
 .y 11 (.pget (some 13) (some 12) 1 0 none) <|
 .y 11 (.px (some 14) (.lenV (.v 13))) <|
 .y 11 (.px (some 15) (.bin .leq (.v 14) (.c (.int .i64 80)))) <|
 .x 16 (.pick (.v 11) (.v 15) (.c (.bool false))) <|
 .m 17 16 <|
 .y 17 (.als 18 none 1) <|
 .y 17 (.pget (some 19) (some 18) 1 1 none) <|
 .y 17 (.px (some 20) (.lenV (.v 19))) <|
 .st (.act (some (.v 17, true)) (.ex (some 21) (.call fn_impl_in [.v 20, .c (.int .i64 1), .c (.int .i64 80)]))) K74_1
@[simp] def W74_2 := Pl.w K74_2.eq_1
def K74_3 : Pl := .m 6 5 <|
 .y 6 (.als 7 none 1) <|
 .y 6 (.pget (some 8) (some 7) 1 1 none) <|
 .st (.act (some (.v 6, true)) (.ex (some 9) (.call fn_impl_letters [.v 8]))) K74_2
@[simp] def W74_3 := Pl.w K74_3.eq_1
def K74_4 : C := .seq (.pl <| .e 3 20 <|
 .a 3 1 <|
 .g 4 3 1 0 <|
 .c 5 (.call fn_impl_letters [.v 4]) K74_3) (.ret)
@[simp] def W74_4 := C.w K74_4.eq_1
def B_impl_LassoValid : C := .seq (.pl <| .e 3 0 <|
 .o (.pnew 1 (.v 0) []) <|
 .x 2 (.mv (.c (.bool false))) .done) K74_4
@[simp] def WB_impl_LassoValid := C.w B_impl_LassoValid.eq_1
def R_impl_LassoValid : FIR := ⟨B_impl_LassoValid, 3, [(2, none)]⟩
theorem IR_impl_LassoValid : cfun Try.prog H_impl_LassoValid Try.f74 = some R_impl_LassoValid := by kernel_rfl
theorem EN_impl_LassoValid : ENT Try.prog B_impl_LassoValid [(2, none)] 1 3 fn_impl_LassoValid := fun hargs hw => enter Try.func74 rfl IR_impl_LassoValid hargs hw
def H_slices_Concat_S_int_int : Hint := ⟨[(0, false), (2, false), (3, false), (5, false), (6, false), (8, false), (9, false), (10, false), (11, false), (25, false), (26, false), (27, false)], [[1, 3, 4, 5, 9, 10, 11], [0, 1, 2, 3, 5, 6, 7, 8]]⟩
def K73_1 : C := .seq (.pl <| .e 12 1 <|
 .m 12 4 <|
 .m 1 12 .done) (.ret)
@[simp] def W73_1 := C.w K73_1.eq_1
def K73_2 : C := .pl <| .e 12 1 <|
 .x 12 (.bin .add (.v 11) (.c (.int .i64 1))) <|
 .m 11 12 .done
@[simp] def W73_2 := C.w K73_2.eq_1
def K73_3 : Pl := .m 4 14 .done
@[simp] def W73_3 := Pl.w K73_3.eq_1
def K73_4 : C := .pl <| .e 12 3 <|
 .m 12 4 <|
 .m 13 5 <|
 .c 14 (.app 8 1 [.int .i64 0] (.o (.v 12)) (.o (.v 13))) K73_3
@[simp] def W73_4 := C.w K73_4.eq_1
def K73_5 : C := .seq (.block 3 (.seq (.pl <| .e 12 2 <|
 .x 12 (.ia 1 (.v 9) (.v 11)) <|
 .l 13 12 <|
 .m 5 13 .done) K73_4)) K73_2
@[simp] def W73_5 := C.w K73_5.eq_1
def K73_6 : C := .seq (.cond 12 (.v 12) (.skip) (.exit 2)) K73_5
@[simp] def W73_6 := C.w K73_6.eq_1
def K73_7 : C := .seq (.pl <| .e 12 1 <|
 .x 12 (.bin .lss (.v 11) (.v 10)) .done) K73_6
@[simp] def W73_7 := C.w K73_7.eq_1
def K73_8 : C := .block 2 (.loop 12 [0, 1, 2, 3, 5, 6, 7, 8] K73_7)
@[simp] def W73_8 := C.w K73_8.eq_1
def K73_9 : C := .seq (.seq (.pl <| .e 12 0 <|
 .m 9 0 <|
 .x 10 (.lenV (.v 9)) <|
 .x 11 (.mv (.c (.int .i64 0))) .done) K73_8) K73_1
@[simp] def W73_9 := C.w K73_9.eq_1
def K73_10 : Pl := .m 4 13 .done
@[simp] def W73_10 := Pl.w K73_10.eq_1
def K73_11 : C := .seq (.pl <| .e 12 2 <|
 .m 12 2 <|
 .c 13 (.call fn_slices_Grow_S_int_int [.c (.slice none 0 0), .v 12]) K73_10) K73_9
@[simp] def W73_11 := C.w K73_11.eq_1
def K73_12 : C := .pl <| .e 12 1 <|
 .x 12 (.bin .add (.v 8) (.c (.int .i64 1))) <|
 .m 8 12 .done
@[simp] def W73_12 := C.w K73_12.eq_1
def K73_13 : C := .pl <| .e 12 1 <|
 .o (.px none (.extract 0 (.c (.tuple #[])))) <|
 .o (.px none (.extract 0 (.c (.tuple #[])))) .done
@[simp] def W73_13 := C.w K73_13.eq_1
def K73_14 : C := .cond 12 (.v 13) K73_13 (.skip)
@[simp] def W73_14 := C.w K73_14.eq_1
def K73_15 : C := .seq (.pl <| .e 12 2 <|
 .m 12 2 <|
 .x 13 (.bin .lss (.v 12) (.c (.int .i64 0))) .done) K73_14
@[simp] def W73_15 := C.w K73_15.eq_1
def K73_16 : C := .seq (.pl <| .e 12 4 <|
 .m 12 2 <|
 .m 13 3 <|
 .x 14 (.lenV (.v 13)) <|
 .x 15 (.bin .add (.v 12) (.v 14)) <|
 .m 2 15 .done) K73_15
@[simp] def W73_16 := C.w K73_16.eq_1
def K73_17 : C := .seq (.block 1 (.seq (.pl <| .e 12 2 <|
 .x 12 (.ia 1 (.v 6) (.v 8)) <|
 .l 13 12 <|
 .m 3 13 .done) K73_16)) K73_12
@[simp] def W73_17 := C.w K73_17.eq_1
def K73_18 : C := .seq (.cond 12 (.v 12) (.skip) (.exit 0)) K73_17
@[simp] def W73_18 := C.w K73_18.eq_1
def K73_19 : C := .seq (.pl <| .e 12 1 <|
 .x 12 (.bin .lss (.v 8) (.v 7)) .done) K73_18
@[simp] def W73_19 := C.w K73_19.eq_1
def K73_20 : C := .block 0 (.loop 12 [1, 3, 4, 5, 9, 10, 11] K73_19)
@[simp] def W73_20 := C.w K73_20.eq_1
def K73_21 : C := .seq (.seq (.pl <| .e 12 0 <|
 .m 6 0 <|
 .x 7 (.lenV (.v 6)) <|
 .x 8 (.mv (.c (.int .i64 0))) .done) K73_20) K73_11
@[simp] def W73_21 := C.w K73_21.eq_1
def K73_22 : C := .seq (.pl <| .e 12 0 <|
 .x 2 (.mv (.c (.int .i64 0))) .done) K73_21
@[simp] def W73_22 := C.w K73_22.eq_1
def B_slices_Concat_S_int_int : C := .seq (.pl <| .e 12 0 <|
 .x 1 (.mv (.c (.slice none 0 0))) .done) K73_22
@[simp] def WB_slices_Concat_S_int_int := C.w B_slices_Concat_S_int_int.eq_1
def R_slices_Concat_S_int_int : FIR := ⟨B_slices_Concat_S_int_int, 12, [(1, none)]⟩
theorem IR_slices_Concat_S_int_int : cfun Try.prog H_slices_Concat_S_int_int Try.f73 = some R_slices_Concat_S_int_int := by kernel_rfl
theorem EN_slices_Concat_S_int_int : ENT Try.prog B_slices_Concat_S_int_int [(1, none)] 1 12 fn_slices_Concat_S_int_int := fun hargs hw => enter Try.func73 rfl IR_slices_Concat_S_int_int hargs hw
def H_slices_Grow_S_int_int : Hint := ⟨[(0, false), (1, false), (4, false)], []⟩
def K130_1 : C := .seq (.pl <| .e 3 1 <|
 .m 3 0 <|
 .m 2 3 .done) (.ret)
@[simp] def W130_1 := C.w K130_1.eq_1
def K130_2 : Pl := .m 9 0 <|
 .x 10 (.lenV (.v 9)) <|
 .x 11 (.sliceV 1 (.v 8) none (some (.v 10)) none) <|
 .m 0 11 .done
@[simp] def W130_2 := Pl.w K130_2.eq_1
def K130_3 : C := .pl <| .e 3 9 <|
 .m 3 0 <|
 .m 4 0 <|
 .x 5 (.capV (.v 4)) <|
 .x 6 (.sliceV 1 (.v 3) none (some (.v 5)) none) <|
 .m 7 1 <|
 .c 8 (.app 8 1 [.int .i64 0] (.o (.v 6)) (.z (.v 7) 8 [.int .i64 0])) K130_2
@[simp] def W130_3 := C.w K130_3.eq_1
def K130_4 : C := .cond 3 (.v 4) K130_3 (.skip)
@[simp] def W130_4 := C.w K130_4.eq_1
def K130_5 : C := .seq (.pl <| .e 3 2 <|
 .m 3 1 <|
 .x 4 (.bin .gtr (.v 3) (.c (.int .i64 0))) .done) K130_4
@[simp] def W130_5 := C.w K130_5.eq_1
def K130_6 : C := .seq (.seq (.pl <| .e 3 7 <|
 .m 3 1 <|
 .m 4 0 <|
 .x 5 (.capV (.v 4)) <|
 .m 6 0 <|
 .x 7 (.lenV (.v 6)) <|
 .x 8 (.bin .sub (.v 5) (.v 7)) <|
 .x 9 (.bin .sub (.v 3) (.v 8)) <|
 .m 1 9 .done) K130_5) K130_1
@[simp] def W130_6 := C.w K130_6.eq_1
def K130_7 : C := .pl <| .e 3 1 <|
 .o (.px none (.extract 0 (.c (.tuple #[])))) <|
 .o (.px none (.extract 0 (.c (.tuple #[])))) .done
@[simp] def W130_7 := C.w K130_7.eq_1
def K130_8 : C := .cond 3 (.v 4) K130_7 (.skip)
@[simp] def W130_8 := C.w K130_8.eq_1
def K130_9 : C := .seq (.seq (.pl <| .e 3 2 <|
 .m 3 1 <|
 .x 4 (.bin .lss (.v 3) (.c (.int .i64 0))) .done) K130_8) K130_6
@[simp] def W130_9 := C.w K130_9.eq_1
def B_slices_Grow_S_int_int : C := .seq (.pl <| .e 3 0 <|
 .x 2 (.mv (.c (.slice none 0 0))) .done) K130_9
@[simp] def WB_slices_Grow_S_int_int := C.w B_slices_Grow_S_int_int.eq_1
def R_slices_Grow_S_int_int : FIR := ⟨B_slices_Grow_S_int_int, 3, [(2, none)]⟩
theorem IR_slices_Grow_S_int_int : cfun Try.prog H_slices_Grow_S_int_int Try.f130 = some R_slices_Grow_S_int_int := by kernel_rfl
theorem EN_slices_Grow_S_int_int : ENT Try.prog B_slices_Grow_S_int_int [(2, none)] 2 3 fn_slices_Grow_S_int_int := fun hargs hw => enter Try.func130 rfl IR_slices_Grow_S_int_int hargs hw
end Go.Proofs.Ytglnelcmcimljaa

namespace Go.Proofs.Ytglnelcmcimljaa
open Go
def H_impl_Automaton_after : Hint := ⟨[(0, false), (1, false), (2, false), (3, false), (4, true), (8, false), (9, false), (11, true), (16, false), (17, false), (18, false)], [[0, 4, 5, 7]]⟩
def K106_1 : C := .seq (.pl <| .e 11 1 <|
 .m 11 6 <|
 .m 5 11 .done) (.ret)
@[simp] def W106_1 := C.w K106_1.eq_1
def K106_2 : C := .pl <| .e 11 1 <|
 .x 11 (.bin .add (.v 10) (.c (.int .i64 1))) <|
 .m 10 11 .done
@[simp] def W106_2 := C.w K106_2.eq_1
def K106_3 : C := .pl <| .e 11 4 <|
 .m 11 6 <|
 .a 12 7 <|
 .g 13 12 7 3 <|
 .x 14 (.ia 1 (.v 11) (.v 13)) <|
 .o (.ex none (.store 1 (.v 14) (.c (.bool true)))) .done
@[simp] def W106_3 := C.w K106_3.eq_1
def K106_4 : C := .cond 11 (.v 27) K106_3 (.skip)
@[simp] def W106_4 := C.w K106_4.eq_1
def K106_5 : Pl := .x 27 (.pick (.v 23) (.v 26) (.c (.bool false))) .done
@[simp] def W106_5 := Pl.w K106_5.eq_1
def K106_6 : C := .seq (.pl <| .e 11 17 <|
 .m 11 2 <|
 .a 12 7 <|
 .g 13 12 7 0 <|
 .x 14 (.ia 1 (.v 11) (.v 13)) <|
 .l 15 14 <|
 .m 16 15 <|
 .y 16 (.px (some 17) (.mv (.v 1))) <|
 .y 16 (.als 18 none 7) <|
 .y 16 (.pget (some 19) (some 18) 7 3 none) <|
 .y 16 (.px (some 20) (.ia 1 (.v 17) (.v 19))) <|
 .y 16 (.ld (some 21) (.v 20) none) <|
 .x 22 (.pick (.v 16) (.v 21) (.c (.bool false))) <|
 .m 23 22 <|
 .y 23 (.pget (some 24) none 7 0 (some 4)) <|
 .y 23 (.px (some 25) (.mv (.v 3))) <|
 .st (.act (some (.v 23, true)) (.ex (some 26) (.call fn_impl_Transition_takes [.v 24, .v 25]))) K106_5) K106_4
@[simp] def W106_6 := C.w K106_6.eq_1
def K106_7 : C := .seq (.block 1 (.seq (.pl <| .e 11 2 <|
 .x 11 (.ia 4 (.v 8) (.v 10)) <|
 .o (.ld (some 12) (.v 11) (some 4)) <|
 .o (.pnew 7 (.c (.agg #[.int .i64 0, .int .i64 0, .int .i64 0, .int .i64 0])) []) <|
 .o (.pset none 7 0 4 (.v 12)) .done) K106_6)) K106_2
@[simp] def W106_7 := C.w K106_7.eq_1
def K106_8 : C := .seq (.cond 11 (.v 11) (.skip) (.exit 0)) K106_7
@[simp] def W106_8 := C.w K106_8.eq_1
def K106_9 : C := .seq (.pl <| .e 11 1 <|
 .x 11 (.bin .lss (.v 10) (.v 9)) .done) K106_8
@[simp] def W106_9 := C.w K106_9.eq_1
def K106_10 : C := .block 0 (.loop 11 [0, 4, 5, 7] K106_9)
@[simp] def W106_10 := C.w K106_10.eq_1
def K106_11 : C := .seq (.seq (.pl <| .e 11 1 <|
 .a 11 4 <|
 .g 8 11 4 2 <|
 .x 9 (.lenV (.v 8)) <|
 .x 10 (.mv (.c (.int .i64 0))) .done) K106_10) K106_1
@[simp] def W106_11 := C.w K106_11.eq_1
def K106_12 : Pl := .m 6 13 .done
@[simp] def W106_12 := Pl.w K106_12.eq_1
def K106_13 : C := .seq (.pl <| .e 11 3 <|
 .m 11 1 <|
 .x 12 (.lenV (.v 11)) <|
 .c 13 (.mks 1 1 [.bool false] (.v 12) (.v 12)) K106_12) K106_11
@[simp] def W106_13 := C.w K106_13.eq_1
def B_impl_Automaton_after : C := .seq (.pl <| .e 11 0 <|
 .o (.pnew 4 (.v 0) []) <|
 .x 5 (.mv (.c (.slice none 0 0))) .done) K106_13
@[simp] def WB_impl_Automaton_after := C.w B_impl_Automaton_after.eq_1
def R_impl_Automaton_after : FIR := ⟨B_impl_Automaton_after, 11, [(5, none)]⟩
theorem IR_impl_Automaton_after : cfun Try.prog H_impl_Automaton_after Try.f106 = some R_impl_Automaton_after := by kernel_rfl
theorem EN_impl_Automaton_after : ENT Try.prog B_impl_Automaton_after [(5, none)] 4 11 fn_impl_Automaton_after := fun hargs hw => enter Try.func106 rfl IR_impl_Automaton_after hargs hw
def H_impl_Automaton_begin : Hint := ⟨[(0, false), (1, false), (2, true), (4, false), (5, false), (7, false), (12, false), (13, false), (14, false)], [[0, 2, 3, 5]]⟩
def K105_1 : C := .seq (.pl <| .e 9 1 <|
 .m 9 4 <|
 .m 3 9 .done) (.ret)
@[simp] def W105_1 := C.w K105_1.eq_1
def K105_2 : C := .pl <| .e 9 1 <|
 .x 9 (.bin .add (.v 8) (.c (.int .i64 1))) <|
 .m 8 9 .done
@[simp] def W105_2 := C.w K105_2.eq_1
def K105_3 : C := .pl <| .e 9 7 <|
 .m 9 4 <|
 .m 10 5 <|
 .m 11 1 <|
 .m 12 5 <|
 .x 13 (.ia 1 (.v 11) (.v 12)) <|
 .l 14 13 <|
 .x 15 (.ia 1 (.v 9) (.v 10)) <|
 .o (.ex none (.store 1 (.v 15) (.v 14))) .done
@[simp] def W105_3 := C.w K105_3.eq_1
def K105_4 : C := .seq (.block 1 (.seq (.pl <| .e 9 2 <|
 .x 9 (.ia 1 (.v 6) (.v 8)) <|
 .l 10 9 <|
 .m 5 10 .done) K105_3)) K105_2
@[simp] def W105_4 := C.w K105_4.eq_1
def K105_5 : C := .seq (.cond 9 (.v 9) (.skip) (.exit 0)) K105_4
@[simp] def W105_5 := C.w K105_5.eq_1
def K105_6 : C := .seq (.pl <| .e 9 1 <|
 .x 9 (.bin .lss (.v 8) (.v 7)) .done) K105_5
@[simp] def W105_6 := C.w K105_6.eq_1
def K105_7 : C := .block 0 (.loop 9 [0, 2, 3, 5] K105_6)
@[simp] def W105_7 := C.w K105_7.eq_1
def K105_8 : C := .seq (.seq (.pl <| .e 9 1 <|
 .a 9 2 <|
 .g 6 9 2 0 <|
 .x 7 (.lenV (.v 6)) <|
 .x 8 (.mv (.c (.int .i64 0))) .done) K105_7) K105_1
@[simp] def W105_8 := C.w K105_8.eq_1
def K105_9 : Pl := .m 4 11 .done
@[simp] def W105_9 := Pl.w K105_9.eq_1
def K105_10 : C := .seq (.pl <| .e 9 3 <|
 .m 9 1 <|
 .x 10 (.lenV (.v 9)) <|
 .c 11 (.mks 1 1 [.bool false] (.v 10) (.v 10)) K105_9) K105_8
@[simp] def W105_10 := C.w K105_10.eq_1
def B_impl_Automaton_begin : C := .seq (.pl <| .e 9 0 <|
 .o (.pnew 2 (.v 0) []) <|
 .x 3 (.mv (.c (.slice none 0 0))) .done) K105_10
@[simp] def WB_impl_Automaton_begin := C.w B_impl_Automaton_begin.eq_1
def R_impl_Automaton_begin : FIR := ⟨B_impl_Automaton_begin, 9, [(3, none)]⟩
theorem IR_impl_Automaton_begin : cfun Try.prog H_impl_Automaton_begin Try.f105 = some R_impl_Automaton_begin := by kernel_rfl
theorem EN_impl_Automaton_begin : ENT Try.prog B_impl_Automaton_begin [(3, none)] 2 9 fn_impl_Automaton_begin := fun hargs hw => enter Try.func105 rfl IR_impl_Automaton_begin hargs hw
def H_impl_Automaton_prefix : Hint := ⟨[(0, false), (1, false), (2, true), (4, false), (5, false), (6, false), (8, false), (14, false), (15, false), (16, false)], [[0, 1, 3, 6]]⟩
def K55_1 : Pl := .m 3 11 .done
@[simp] def W55_1 := Pl.w K55_1.eq_1
def K55_2 : C := .seq (.pl <| .e 10 2 <|
 .m 10 5 <|
 .c 11 (.call fn_impl_members [.v 10]) K55_1) (.ret)
@[simp] def W55_2 := C.w K55_2.eq_1
def K55_3 : C := .pl <| .e 10 1 <|
 .x 10 (.bin .add (.v 9) (.c (.int .i64 1))) <|
 .m 9 10 .done
@[simp] def W55_3 := C.w K55_3.eq_1
def K55_4 : Pl := .m 5 14 .done
@[simp] def W55_4 := Pl.w K55_4.eq_1
def K55_5 : C := .pl <| .e 10 5 <|
 .o (.pget (some 10) none 2 0 (some 3)) <|
 .m 11 4 <|
 .m 12 5 <|
 .m 13 6 <|
 .c 14 (.call fn_impl_Automaton_after [.v 10, .v 11, .v 12, .v 13]) K55_4
@[simp] def W55_5 := C.w K55_5.eq_1
def K55_6 : C := .seq (.block 1 (.seq (.pl <| .e 10 2 <|
 .x 10 (.ia 1 (.v 7) (.v 9)) <|
 .l 11 10 <|
 .m 6 11 .done) K55_5)) K55_3
@[simp] def W55_6 := C.w K55_6.eq_1
def K55_7 : C := .seq (.cond 10 (.v 10) (.skip) (.exit 0)) K55_6
@[simp] def W55_7 := C.w K55_7.eq_1
def K55_8 : C := .seq (.pl <| .e 10 1 <|
 .x 10 (.bin .lss (.v 9) (.v 8)) .done) K55_7
@[simp] def W55_8 := C.w K55_8.eq_1
def K55_9 : C := .block 0 (.loop 10 [0, 1, 3, 6] K55_8)
@[simp] def W55_9 := C.w K55_9.eq_1
def K55_10 : C := .seq (.seq (.pl <| .e 10 0 <|
 .m 7 1 <|
 .x 8 (.lenV (.v 7)) <|
 .x 9 (.mv (.c (.int .i64 0))) .done) K55_9) K55_2
@[simp] def W55_10 := C.w K55_10.eq_1
def K55_11 : Pl := .m 5 12 .done
@[simp] def W55_11 := Pl.w K55_11.eq_1
def K55_12 : C := .seq (.pl <| .e 10 3 <|
 .o (.pget (some 10) none 2 0 (some 3)) <|
 .m 11 4 <|
 .c 12 (.call fn_impl_Automaton_begin [.v 10, .v 11]) K55_11) K55_10
@[simp] def W55_12 := C.w K55_12.eq_1
def K55_13 : Pl := .m 4 11 .done
@[simp] def W55_13 := Pl.w K55_13.eq_1
def K55_14 : C := .seq (.pl <| .e 10 2 <|
 .o (.pget (some 10) none 2 0 (some 3)) <|
 .c 11 (.call fn_impl_Automaton_live [.v 10]) K55_13) K55_12
@[simp] def W55_14 := C.w K55_14.eq_1
def B_impl_Automaton_prefix : C := .seq (.pl <| .e 10 0 <|
 .o (.pnew 2 (.v 0) []) <|
 .x 3 (.mv (.c (.slice none 0 0))) .done) K55_14
@[simp] def WB_impl_Automaton_prefix := C.w B_impl_Automaton_prefix.eq_1
def R_impl_Automaton_prefix : FIR := ⟨B_impl_Automaton_prefix, 10, [(3, none)]⟩
theorem IR_impl_Automaton_prefix : cfun Try.prog H_impl_Automaton_prefix Try.f55 = some R_impl_Automaton_prefix := by kernel_rfl
theorem EN_impl_Automaton_prefix : ENT Try.prog B_impl_Automaton_prefix [(3, none)] 2 10 fn_impl_Automaton_prefix := fun hargs hw => enter Try.func55 rfl IR_impl_Automaton_prefix hargs hw
def H_impl_PrefixStates : Hint := ⟨[(0, false), (1, false), (2, true), (4, false), (5, false)], []⟩
def K17_1 : Pl := .m 3 7 <|
 .x 4 (.mv (.c (.bool true))) .done
@[simp] def W17_1 := Pl.w K17_1.eq_1
def K17_2 : C := .seq (.pl <| .e 5 3 <|
 .o (.pget (some 5) none 2 0 (some 3)) <|
 .m 6 1 <|
 .c 7 (.call fn_impl_Automaton_prefix [.v 5, .v 6]) K17_1) (.ret)
@[simp] def W17_2 := C.w K17_2.eq_1
def K17_3 : C := .seq (.pl <| .e 5 0 <|
 .x 3 (.mv (.c (.slice none 0 0))) <|
 .x 4 (.mv (.c (.bool false))) .done) (.ret)
@[simp] def W17_3 := C.w K17_3.eq_1
def K17_4 : C := .cond 5 (.v 12) K17_3 (.skip)
@[simp] def W17_4 := C.w K17_4.eq_1
def K17_5 : Pl := .n 8 (.px (some 11) (.un .not (.v 10))) <|
 .x 12 (.pick (.v 8) (.c (.bool true)) (.v 11)) .done
@[simp] def W17_5 := Pl.w K17_5.eq_1
def K17_6 : Pl := .x 7 (.un .not (.v 6)) <|
 .m 8 7 <|
 .n 8 (.px (some 9) (.mv (.v 1))) <|
 .st (.act (some (.v 8, false)) (.ex (some 10) (.call fn_impl_wordOk [.v 9]))) K17_5
@[simp] def W17_6 := Pl.w K17_6.eq_1
def K17_7 : C := .seq (.seq (.pl <| .e 5 8 <|
 .o (.pget (some 5) none 2 0 (some 3)) <|
 .c 6 (.call fn_impl_AutomatonValid [.v 5]) K17_6) K17_4) K17_2
@[simp] def W17_7 := C.w K17_7.eq_1
def B_impl_PrefixStates : C := .seq (.pl <| .e 5 0 <|
 .o (.pnew 2 (.v 0) []) <|
 .x 3 (.mv (.c (.slice none 0 0))) <|
 .x 4 (.mv (.c (.bool false))) .done) K17_7
@[simp] def WB_impl_PrefixStates := C.w B_impl_PrefixStates.eq_1
def R_impl_PrefixStates : FIR := ⟨B_impl_PrefixStates, 5, [(3, none), (4, none)]⟩
theorem IR_impl_PrefixStates : cfun Try.prog H_impl_PrefixStates Try.f17 = some R_impl_PrefixStates := by kernel_rfl
theorem EN_impl_PrefixStates : ENT Try.prog B_impl_PrefixStates [(3, none), (4, none)] 2 5 fn_impl_PrefixStates := fun hargs hw => enter Try.func17 rfl IR_impl_PrefixStates hargs hw
def H_impl_members : Hint := ⟨[(0, false), (2, false), (3, false), (4, false), (5, false), (6, false), (7, false), (8, false)], [[0, 1, 3, 4]]⟩
def K107_1 : Pl := .m 1 9 .done
@[simp] def W107_1 := Pl.w K107_1.eq_1
def K107_2 : C := .seq (.pl <| .e 8 2 <|
 .m 8 2 <|
 .c 9 (.call fn_slices_Clip_S_int_int [.v 8]) K107_1) (.ret)
@[simp] def W107_2 := C.w K107_2.eq_1
def K107_3 : C := .pl <| .e 8 1 <|
 .x 8 (.bin .add (.v 7) (.c (.int .i64 1))) <|
 .m 7 8 .done
@[simp] def W107_3 := C.w K107_3.eq_1
def K107_4 : Pl := .m 2 11 .done
@[simp] def W107_4 := Pl.w K107_4.eq_1
def K107_5 : C := .pl <| .e 8 4 <|
 .m 8 2 <|
 .m 9 3 <|
 .o (.psl 10 [.int .i64 0] [(0, 1, .v 9)]) <|
 .c 11 (.app 8 1 [.int .i64 0] (.o (.v 8)) (.p 1 10)) K107_4
@[simp] def W107_5 := C.w K107_5.eq_1
def K107_6 : C := .cond 8 (.v 8) K107_5 (.skip)
@[simp] def W107_6 := C.w K107_6.eq_1
def K107_7 : C := .seq (.pl <| .e 8 1 <|
 .m 8 4 .done) K107_6
@[simp] def W107_7 := C.w K107_7.eq_1
def K107_8 : C := .seq (.block 1 (.seq (.pl <| .e 8 3 <|
 .m 8 7 <|
 .x 9 (.ia 1 (.v 5) (.v 7)) <|
 .l 10 9 <|
 .m 3 8 <|
 .m 4 10 .done) K107_7)) K107_3
@[simp] def W107_8 := C.w K107_8.eq_1
def K107_9 : C := .seq (.cond 8 (.v 8) (.skip) (.exit 0)) K107_8
@[simp] def W107_9 := C.w K107_9.eq_1
def K107_10 : C := .seq (.pl <| .e 8 1 <|
 .x 8 (.bin .lss (.v 7) (.v 6)) .done) K107_9
@[simp] def W107_10 := C.w K107_10.eq_1
def K107_11 : C := .block 0 (.loop 8 [0, 1, 3, 4] K107_10)
@[simp] def W107_11 := C.w K107_11.eq_1
def K107_12 : C := .seq (.seq (.pl <| .e 8 0 <|
 .m 5 0 <|
 .x 6 (.lenV (.v 5)) <|
 .x 7 (.mv (.c (.int .i64 0))) .done) K107_11) K107_2
@[simp] def W107_12 := C.w K107_12.eq_1
def K107_13 : C := .seq (.pl <| .e 8 0 <|
 .x 2 (.mv (.c (.slice none 0 0))) .done) K107_12
@[simp] def W107_13 := C.w K107_13.eq_1
def B_impl_members : C := .seq (.pl <| .e 8 0 <|
 .x 1 (.mv (.c (.slice none 0 0))) .done) K107_13
@[simp] def WB_impl_members := C.w B_impl_members.eq_1
def R_impl_members : FIR := ⟨B_impl_members, 8, [(1, none)]⟩
theorem IR_impl_members : cfun Try.prog H_impl_members Try.f107 = some R_impl_members := by kernel_rfl
theorem EN_impl_members : ENT Try.prog B_impl_members [(1, none)] 1 8 fn_impl_members := fun hargs hw => enter Try.func107 rfl IR_impl_members hargs hw
def H_impl_wordOk : Hint := ⟨[(0, false), (2, false)], []⟩
def K54_1 : Pl := .x 8 (.pick (.v 5) (.v 7) (.c (.bool false))) <|
 .m 1 8 .done
@[simp] def W54_1 := Pl.w K54_1.eq_1
def K54_2 : C := .seq (.pl <| .e 2 7 <|
 .m 2 0 <|
 .x 3 (.lenV (.v 2)) <|
 .x 4 (.bin .leq (.v 3) (.c (.int .i64 200))) <|
 .m 5 4 <|
 .y 5 (.px (some 6) (.mv (.v 0))) <|
 .st (.act (some (.v 5, true)) (.ex (some 7) (.call fn_impl_letters [.v 6]))) K54_1) (.ret)
@[simp] def W54_2 := C.w K54_2.eq_1
def B_impl_wordOk : C := .seq (.pl <| .e 2 0 <|
 .x 1 (.mv (.c (.bool false))) .done) K54_2
@[simp] def WB_impl_wordOk := C.w B_impl_wordOk.eq_1
def R_impl_wordOk : FIR := ⟨B_impl_wordOk, 2, [(1, none)]⟩
theorem IR_impl_wordOk : cfun Try.prog H_impl_wordOk Try.f54 = some R_impl_wordOk := by kernel_rfl
theorem EN_impl_wordOk : ENT Try.prog B_impl_wordOk [(1, none)] 1 2 fn_impl_wordOk := fun hargs hw => enter Try.func54 rfl IR_impl_wordOk hargs hw
def H_spec_PrefixStates : Hint := ⟨[(0, false), (1, false), (2, true), (4, false), (5, false)], []⟩
def K18_1 : Pl := .m 3 7 <|
 .x 4 (.mv (.c (.bool true))) .done
@[simp] def W18_1 := Pl.w K18_1.eq_1
def K18_2 : C := .seq (.pl <| .e 5 3 <|
 .o (.pget (some 5) none 2 0 (some 3)) <|
 .m 6 1 <|
 .c 7 (.call fn_spec_l12States [.v 5, .v 6]) K18_1) (.ret)
@[simp] def W18_2 := C.w K18_2.eq_1
def K18_3 : Pl := .m 3 5 <|
 .x 4 (.mv (.c (.bool false))) .done
@[simp] def W18_3 := Pl.w K18_3.eq_1
def K18_4 : C := .seq (.pl <| .e 5 1 <|
 .c 5 (.bls 1 0 [.int .i64 0] []) K18_3) (.ret)
@[simp] def W18_4 := C.w K18_4.eq_1
def K18_5 : C := .cond 5 (.v 12) K18_4 (.skip)
@[simp] def W18_5 := C.w K18_5.eq_1
def K18_6 : Pl := .n 8 (.px (some 11) (.un .not (.v 10))) <|
 .x 12 (.pick (.v 8) (.c (.bool true)) (.v 11)) .done
@[simp] def W18_6 := Pl.w K18_6.eq_1
def K18_7 : Pl := .x 7 (.un .not (.v 6)) <|
 .m 8 7 <|
 .n 8 (.px (some 9) (.mv (.v 1))) <|
 .st (.act (some (.v 8, false)) (.ex (some 10) (.call fn_spec_l12Word [.v 9]))) K18_6
@[simp] def W18_7 := Pl.w K18_7.eq_1
def K18_8 : C := .seq (.seq (.pl <| .e 5 8 <|
 .o (.pget (some 5) none 2 0 (some 3)) <|
 .c 6 (.call fn_spec_AutomatonValid [.v 5]) K18_7) K18_5) K18_2
@[simp] def W18_8 := C.w K18_8.eq_1
def B_spec_PrefixStates : C := .seq (.pl <| .e 5 0 <|
 .o (.pnew 2 (.v 0) []) <|
 .x 3 (.mv (.c (.slice none 0 0))) <|
 .x 4 (.mv (.c (.bool false))) .done) K18_8
@[simp] def WB_spec_PrefixStates := C.w B_spec_PrefixStates.eq_1
def R_spec_PrefixStates : FIR := ⟨B_spec_PrefixStates, 5, [(3, none), (4, none)]⟩
theorem IR_spec_PrefixStates : cfun Try.prog H_spec_PrefixStates Try.f18 = some R_spec_PrefixStates := by kernel_rfl
theorem EN_spec_PrefixStates : ENT Try.prog B_spec_PrefixStates [(3, none), (4, none)] 2 5 fn_spec_PrefixStates := fun hargs hw => enter Try.func18 rfl IR_spec_PrefixStates hargs hw
def H_spec_l12Only : Hint := ⟨[(0, false), (1, false), (4, false), (5, false), (6, false)], [[2]]⟩
def K110_1 : C := .seq (.pl <| .e 5 1 <|
 .m 5 3 <|
 .m 2 5 .done) (.ret)
@[simp] def W110_1 := C.w K110_1.eq_1
def K110_2 : C := .pl <| .e 5 2 <|
 .m 5 4 <|
 .x 6 (.bin .add (.v 5) (.c (.int .i64 1))) <|
 .m 4 6 .done
@[simp] def W110_2 := C.w K110_2.eq_1
def K110_3 : Pl := .m 3 11 .done
@[simp] def W110_3 := Pl.w K110_3.eq_1
def K110_4 : C := .pl <| .e 5 7 <|
 .m 5 3 <|
 .m 6 0 <|
 .m 7 4 <|
 .x 8 (.ia 1 (.v 6) (.v 7)) <|
 .l 9 8 <|
 .o (.psl 10 [.int .i64 0] [(0, 1, .v 9)]) <|
 .c 11 (.app 8 1 [.int .i64 0] (.o (.v 5)) (.p 1 10)) K110_3
@[simp] def W110_4 := C.w K110_4.eq_1
def K110_5 : C := .cond 5 (.v 11) K110_4 (.skip)
@[simp] def W110_5 := C.w K110_5.eq_1
def K110_6 : C := .seq (.block 1 (.seq (.pl <| .e 5 7 <|
 .m 5 1 <|
 .m 6 0 <|
 .m 7 4 <|
 .x 8 (.ia 1 (.v 6) (.v 7)) <|
 .l 9 8 <|
 .x 10 (.ia 1 (.v 5) (.v 9)) <|
 .l 11 10 .done) K110_5)) K110_2
@[simp] def W110_6 := C.w K110_6.eq_1
def K110_7 : C := .cond 5 (.v 8) (.skip) (.exit 0)
@[simp] def W110_7 := C.w K110_7.eq_1
def K110_8 : C := .seq (.seq (.pl <| .e 5 4 <|
 .m 5 4 <|
 .m 6 0 <|
 .x 7 (.lenV (.v 6)) <|
 .x 8 (.bin .lss (.v 5) (.v 7)) .done) K110_7) K110_6
@[simp] def W110_8 := C.w K110_8.eq_1
def K110_9 : C := .block 0 (.loop 5 [2] K110_8)
@[simp] def W110_9 := C.w K110_9.eq_1
def K110_10 : C := .seq (.seq (.pl <| .e 5 0 <|
 .x 4 (.mv (.c (.int .i64 0))) .done) K110_9) K110_1
@[simp] def W110_10 := C.w K110_10.eq_1
def K110_11 : Pl := .m 3 5 .done
@[simp] def W110_11 := Pl.w K110_11.eq_1
def K110_12 : C := .seq (.pl <| .e 5 1 <|
 .c 5 (.bls 1 0 [.int .i64 0] []) K110_11) K110_10
@[simp] def W110_12 := C.w K110_12.eq_1
def B_spec_l12Only : C := .seq (.pl <| .e 5 0 <|
 .x 2 (.mv (.c (.slice none 0 0))) .done) K110_12
@[simp] def WB_spec_l12Only := C.w B_spec_l12Only.eq_1
def R_spec_l12Only : FIR := ⟨B_spec_l12Only, 5, [(2, none)]⟩
theorem IR_spec_l12Only : cfun Try.prog H_spec_l12Only Try.f110 = some R_spec_l12Only := by kernel_rfl
theorem EN_spec_l12Only : ENT Try.prog B_spec_l12Only [(2, none)] 2 5 fn_spec_l12Only := fun hargs hw => enter Try.func110 rfl IR_spec_l12Only hargs hw
def H_spec_l12States : Hint := ⟨[(0, false), (1, false), (2, true), (4, false), (5, false), (6, false), (7, false)], [[0, 3]]⟩
def K57_1 : Pl := .m 3 9 .done
@[simp] def W57_1 := Pl.w K57_1.eq_1
def K57_2 : C := .seq (.pl <| .e 7 3 <|
 .o (.psl 7 [] []) <|
 .m 8 5 <|
 .c 9 (.app 8 1 [.int .i64 0] (.p 0 7) (.o (.v 8))) K57_1) (.ret)
@[simp] def W57_2 := C.w K57_2.eq_1
def K57_3 : C := .pl <| .e 7 2 <|
 .m 7 6 <|
 .x 8 (.bin .add (.v 7) (.c (.int .i64 1))) <|
 .m 6 8 .done
@[simp] def W57_3 := C.w K57_3.eq_1
def K57_4 : Pl := .m 5 15 .done
@[simp] def W57_4 := Pl.w K57_4.eq_1
def K57_5 : Pl := .c 15 (.call fn_spec_l12Only [.v 13, .v 14]) K57_4
@[simp] def W57_5 := Pl.w K57_5.eq_1
def K57_6 : C := .seq (.block 1 (.pl <| .e 7 9 <|
 .o (.pget (some 7) none 2 0 (some 3)) <|
 .m 8 5 <|
 .m 9 1 <|
 .m 10 6 <|
 .x 11 (.ia 1 (.v 9) (.v 10)) <|
 .l 12 11 <|
 .m 14 4 <|
 .c 13 (.call fn_spec_l12Step [.v 7, .v 8, .v 12]) K57_5)) K57_3
@[simp] def W57_6 := C.w K57_6.eq_1
def K57_7 : C := .cond 7 (.v 10) (.skip) (.exit 0)
@[simp] def W57_7 := C.w K57_7.eq_1
def K57_8 : C := .seq (.seq (.pl <| .e 7 4 <|
 .m 7 6 <|
 .m 8 1 <|
 .x 9 (.lenV (.v 8)) <|
 .x 10 (.bin .lss (.v 7) (.v 9)) .done) K57_7) K57_6
@[simp] def W57_8 := C.w K57_8.eq_1
def K57_9 : C := .block 0 (.loop 7 [0, 3] K57_8)
@[simp] def W57_9 := C.w K57_9.eq_1
def K57_10 : C := .seq (.seq (.pl <| .e 7 0 <|
 .x 6 (.mv (.c (.int .i64 0))) .done) K57_9) K57_2
@[simp] def W57_10 := C.w K57_10.eq_1
def K57_11 : Pl := .m 5 10 .done
@[simp] def W57_11 := Pl.w K57_11.eq_1
def K57_12 : C := .seq (.pl <| .e 7 4 <|
 .a 7 2 <|
 .g 8 7 2 0 <|
 .m 9 4 <|
 .c 10 (.call fn_spec_l12Only [.v 8, .v 9]) K57_11) K57_10
@[simp] def W57_12 := C.w K57_12.eq_1
def K57_13 : Pl := .m 4 8 .done
@[simp] def W57_13 := Pl.w K57_13.eq_1
def K57_14 : C := .seq (.pl <| .e 7 2 <|
 .o (.pget (some 7) none 2 0 (some 3)) <|
 .c 8 (.call fn_spec_LiveStates [.v 7]) K57_13) K57_12
@[simp] def W57_14 := C.w K57_14.eq_1
def B_spec_l12States : C := .seq (.pl <| .e 7 0 <|
 .o (.pnew 2 (.v 0) []) <|
 .x 3 (.mv (.c (.slice none 0 0))) .done) K57_14
@[simp] def WB_spec_l12States := C.w B_spec_l12States.eq_1
def R_spec_l12States : FIR := ⟨B_spec_l12States, 7, [(3, none)]⟩
theorem IR_spec_l12States : cfun Try.prog H_spec_l12States Try.f57 = some R_spec_l12States := by kernel_rfl
theorem EN_spec_l12States : ENT Try.prog B_spec_l12States [(3, none)] 2 7 fn_spec_l12States := fun hargs hw => enter Try.func57 rfl IR_spec_l12States hargs hw
def H_spec_l12Step : Hint := ⟨[(0, false), (1, false), (2, false), (3, true), (6, false), (7, false), (8, false)], [[0, 4]]⟩
def K111_1 : C := .seq (.pl <| .e 7 1 <|
 .m 7 5 <|
 .m 4 7 .done) (.ret)
@[simp] def W111_1 := C.w K111_1.eq_1
def K111_2 : C := .pl <| .e 7 2 <|
 .m 7 6 <|
 .x 8 (.bin .add (.v 7) (.c (.int .i64 1))) <|
 .m 6 8 .done
@[simp] def W111_2 := C.w K111_2.eq_1
def K111_3 : Pl := .m 5 14 .done
@[simp] def W111_3 := Pl.w K111_3.eq_1
def K111_4 : C := .pl <| .e 7 8 <|
 .m 7 5 <|
 .a 8 3 <|
 .g 9 8 3 2 <|
 .m 10 6 <|
 .x 11 (.ia 4 (.v 9) (.v 10)) <|
 .x 12 (.fa 3 (.v 11)) <|
 .l 13 12 <|
 .c 14 (.call fn_spec_l10Sorted [.v 7, .v 13]) K111_3
@[simp] def W111_4 := C.w K111_4.eq_1
def K111_5 : C := .cond 7 (.v 23) K111_4 (.skip)
@[simp] def W111_5 := C.w K111_5.eq_1
def K111_6 : Pl := .x 23 (.pick (.v 15) (.v 22) (.c (.bool false))) .done
@[simp] def W111_6 := Pl.w K111_6.eq_1
def K111_7 : Pl := .m 15 14 <|
 .y 15 (.als 16 none 3) <|
 .y 15 (.pget (some 17) (some 16) 3 2 none) <|
 .y 15 (.px (some 18) (.mv (.v 6))) <|
 .y 15 (.px (some 19) (.ia 4 (.v 17) (.v 18))) <|
 .y 15 (.ld (some 20) (.v 19) (some 4)) <|
 .y 15 (.px (some 21) (.mv (.v 2))) <|
 .st (.act (some (.v 15, true)) (.ex (some 22) (.call fn_spec_l7On [.v 20, .v 21]))) K111_6
@[simp] def W111_7 := Pl.w K111_7.eq_1
def K111_8 : C := .seq (.block 1 (.seq (.pl <| .e 7 17 <|
 .m 7 1 <|
 .a 8 3 <|
 .g 9 8 3 2 <|
 .m 10 6 <|
 .x 11 (.ia 4 (.v 9) (.v 10)) <|
 .x 12 (.fa 0 (.v 11)) <|
 .l 13 12 <|
 .c 14 (.call fn_spec_l4In [.v 7, .v 13]) K111_7) K111_5)) K111_2
@[simp] def W111_8 := C.w K111_8.eq_1
def K111_9 : C := .cond 7 (.v 11) (.skip) (.exit 0)
@[simp] def W111_9 := C.w K111_9.eq_1
def K111_10 : C := .seq (.seq (.pl <| .e 7 5 <|
 .m 7 6 <|
 .a 8 3 <|
 .g 9 8 3 2 <|
 .x 10 (.lenV (.v 9)) <|
 .x 11 (.bin .lss (.v 7) (.v 10)) .done) K111_9) K111_8
@[simp] def W111_10 := C.w K111_10.eq_1
def K111_11 : C := .block 0 (.loop 7 [0, 4] K111_10)
@[simp] def W111_11 := C.w K111_11.eq_1
def K111_12 : C := .seq (.seq (.pl <| .e 7 0 <|
 .x 6 (.mv (.c (.int .i64 0))) .done) K111_11) K111_1
@[simp] def W111_12 := C.w K111_12.eq_1
def K111_13 : Pl := .m 5 7 .done
@[simp] def W111_13 := Pl.w K111_13.eq_1
def K111_14 : C := .seq (.pl <| .e 7 1 <|
 .c 7 (.bls 1 0 [.int .i64 0] []) K111_13) K111_12
@[simp] def W111_14 := C.w K111_14.eq_1
def B_spec_l12Step : C := .seq (.pl <| .e 7 0 <|
 .o (.pnew 3 (.v 0) []) <|
 .x 4 (.mv (.c (.slice none 0 0))) .done) K111_14
@[simp] def WB_spec_l12Step := C.w B_spec_l12Step.eq_1
def R_spec_l12Step : FIR := ⟨B_spec_l12Step, 7, [(4, none)]⟩
theorem IR_spec_l12Step : cfun Try.prog H_spec_l12Step Try.f111 = some R_spec_l12Step := by kernel_rfl
theorem EN_spec_l12Step : ENT Try.prog B_spec_l12Step [(4, none)] 3 7 fn_spec_l12Step := fun hargs hw => enter Try.func111 rfl IR_spec_l12Step hargs hw
def H_spec_l12Word : Hint := ⟨[(0, false), (2, false)], []⟩
def K56_1 : Pl := .m 4 3 <|
 .y 4 (.px (some 5) (.mv (.v 0))) <|
 .y 4 (.px (some 6) (.lenV (.v 5))) <|
 .y 4 (.px (some 7) (.bin .leq (.v 6) (.c (.int .i64 200)))) <|
 .x 8 (.pick (.v 4) (.v 7) (.c (.bool false))) <|
 .m 1 8 .done
@[simp] def W56_1 := Pl.w K56_1.eq_1
def K56_2 : C := .seq (.pl <| .e 2 7 <|
 .m 2 0 <|
 .c 3 (.call fn_spec_l6Letters [.v 2]) K56_1) (.ret)
@[simp] def W56_2 := C.w K56_2.eq_1
def B_spec_l12Word : C := .seq (.pl <| .e 2 0 <|
 .x 1 (.mv (.c (.bool false))) .done) K56_2
@[simp] def WB_spec_l12Word := C.w B_spec_l12Word.eq_1
def R_spec_l12Word : FIR := ⟨B_spec_l12Word, 2, [(1, none)]⟩
theorem IR_spec_l12Word : cfun Try.prog H_spec_l12Word Try.f56 = some R_spec_l12Word := by kernel_rfl
theorem EN_spec_l12Word : ENT Try.prog B_spec_l12Word [(1, none)] 1 2 fn_spec_l12Word := fun hargs hw => enter Try.func56 rfl IR_spec_l12Word hargs hw
def H_spec_l6Letters : Hint := ⟨[(0, false), (2, false), (3, false)], [[1]]⟩
def K108_1 : C := .seq (.pl <| .e 3 0 <|
 .x 1 (.mv (.c (.bool true))) .done) (.ret)
@[simp] def W108_1 := C.w K108_1.eq_1
def K108_2 : C := .pl <| .e 3 2 <|
 .m 3 2 <|
 .x 4 (.bin .add (.v 3) (.c (.int .i64 1))) <|
 .m 2 4 .done
@[simp] def W108_2 := C.w K108_2.eq_1
def K108_3 : C := .seq (.pl <| .e 3 0 <|
 .x 1 (.mv (.c (.bool false))) .done) (.ret)
@[simp] def W108_3 := C.w K108_3.eq_1
def K108_4 : C := .cond 3 (.v 14) K108_3 (.skip)
@[simp] def W108_4 := C.w K108_4.eq_1
def K108_5 : C := .seq (.block 1 (.seq (.pl <| .e 3 12 <|
 .m 3 0 <|
 .m 4 2 <|
 .x 5 (.ia 1 (.v 3) (.v 4)) <|
 .l 6 5 <|
 .x 7 (.bin .lss (.v 6) (.c (.int .i64 0))) <|
 .m 8 7 <|
 .n 8 (.px (some 9) (.mv (.v 0))) <|
 .n 8 (.px (some 10) (.mv (.v 2))) <|
 .n 8 (.px (some 11) (.ia 1 (.v 9) (.v 10))) <|
 .n 8 (.ld (some 12) (.v 11) none) <|
 .n 8 (.px (some 13) (.bin .gtr (.v 12) (.c (.int .i64 7)))) <|
 .x 14 (.pick (.v 8) (.c (.bool true)) (.v 13)) .done) K108_4)) K108_2
@[simp] def W108_5 := C.w K108_5.eq_1
def K108_6 : C := .cond 3 (.v 6) (.skip) (.exit 0)
@[simp] def W108_6 := C.w K108_6.eq_1
def K108_7 : C := .seq (.seq (.pl <| .e 3 4 <|
 .m 3 2 <|
 .m 4 0 <|
 .x 5 (.lenV (.v 4)) <|
 .x 6 (.bin .lss (.v 3) (.v 5)) .done) K108_6) K108_5
@[simp] def W108_7 := C.w K108_7.eq_1
def K108_8 : C := .block 0 (.loop 3 [1] K108_7)
@[simp] def W108_8 := C.w K108_8.eq_1
def K108_9 : C := .seq (.seq (.pl <| .e 3 0 <|
 .x 2 (.mv (.c (.int .i64 0))) .done) K108_8) K108_1
@[simp] def W108_9 := C.w K108_9.eq_1
def B_spec_l6Letters : C := .seq (.pl <| .e 3 0 <|
 .x 1 (.mv (.c (.bool false))) .done) K108_9
@[simp] def WB_spec_l6Letters := C.w B_spec_l6Letters.eq_1
def R_spec_l6Letters : FIR := ⟨B_spec_l6Letters, 3, [(1, none)]⟩
theorem IR_spec_l6Letters : cfun Try.prog H_spec_l6Letters Try.f108 = some R_spec_l6Letters := by kernel_rfl
theorem EN_spec_l6Letters : ENT Try.prog B_spec_l6Letters [(1, none)] 1 3 fn_spec_l6Letters := fun hargs hw => enter Try.func108 rfl IR_spec_l6Letters hargs hw
end Go.Proofs.Ytglnelcmcimljaa

namespace Go.Proofs.Ytglnelcmcimljaa
open Go
end Go.Proofs.Ytglnelcmcimljaa

namespace Go.Proofs.Ytglnelcmcimljaa
open Go
end Go.Proofs.Ytglnelcmcimljaa

namespace Go.Proofs.Ytglnelcmcimljaa
open Go
def okR (f : Aut → Aut) (h : Heap) (a : Aut) (u : Value) (h' : Heap) : Prop := ∃ v, u = .tuple #[v, .bool (decide a.Ok)] ∧ HS h [ow v (if a.Ok then f a else Aut.empty)] h'
theorem okR.no {f : Aut → Aut} {h h' : Heap} {a : Aut} (hn : ¬ a.Ok) (H : HS h [] h') : okR f h a (.tuple #[.agg #[.slice none 0 0, .slice none 0 0, .slice none 0 0], .bool false]) h' :=
  ⟨_, by rw [decide_eq_false hn], by rw [if_neg hn]; exact empty_ow H⟩
theorem okR.yes {f : Aut → Aut} {h h' : Heap} {a : Aut} {v : Value} (hn : a.Ok) (H : HS h [ow v (f a)] h') : okR f h a (.tuple #[v, .bool true]) h' :=
  ⟨_, by rw [decide_eq_true hn], by rw [if_pos hn]; exact H⟩
end Go.Proofs.Ytglnelcmcimljaa

namespace Go.Proofs.Ytglnelcmcimljaa
open Go
theorem sz_aut {a : Aut} : Sz.sz a = a.init.length + a.acc.length + a.edges.length := by
  show Sz.sz a.init + Sz.sz a.acc + Sz.sz a.edges = _
  rw [sz_list, sz_list, sz_list, szL_zero (fun _ => rfl), szL_zero (fun _ => rfl), szL_zero (fun _ => rfl)]; omega
theorem cnt_ints (l : List Int) : Mk.cnt l = l.length := by
  induction l with
  | nil => rfl
  | cons b r ih => show 1 + cntL r = _; have : cntL r = Mk.cnt r := rfl; rw [this, ih]; simp; omega
theorem cnt_bools (l : List Bool) : Mk.cnt l = l.length := by
  induction l with
  | nil => rfl
  | cons b r ih => show 1 + cntL r = _; have : cntL r = Mk.cnt r := rfl; rw [this, ih]; simp; omega
theorem cnt_trs (l : List Tr) : Mk.cnt l = 4 * l.length := by
  induction l with
  | nil => rfl
  | cons b r ih => show 4 + cntL r = _; have : cntL r = Mk.cnt r := rfl; rw [this, ih]; simp; omega
theorem cnt_aut (b : Aut) : Mk.cnt b = b.init.length + b.acc.length + 4 * b.edges.length := by
  show Mk.cnt b.init + Mk.cnt b.acc + Mk.cnt b.edges = _
  rw [cnt_ints, cnt_bools, cnt_trs]
theorem cnt_Automaton {x : Aut} (h : Sz.sz x ≤ 1048576) : Mk.cnt x ≤ 4194304 := by
  rw [sz_aut] at h; rw [cnt_aut]; omega
theorem cnt_IntS {x : List Int} (h : Sz.sz x ≤ 1048576) : Mk.cnt x ≤ 4194304 := by
  rw [sz_list, szL_zero (fun _ => rfl)] at h; rw [cnt_ints]; omega
end Go.Proofs.Ytglnelcmcimljaa

namespace Go.Proofs.Ytglnelcmcimljaa
open Go
theorem c_IndexFunc_int {h : Heap} {a fv : Value} {x : List Int} (Ra : Rep h a x) {f : FuncId} {c1 c2 : List Value} (hf : fnOf fv = some (f, c1, c2)) (p : Int → Bool)
    (hp : ∀ h1, h.le h1 → ∀ (i : Nat) (hi : i < x.length) (u : Value), Rep h1 u x[i] → CallE Try.prog f (c1 ++ u :: c2) h1 (fun v h' => h1.le h' ∧ v = .bool (p x[i]))) :
    CallE Try.prog fn_slices_IndexFunc_S_int_int [a, fv] h (fun v h' => h.le h' ∧ v = .int .i64 (match x.findIdx? p with | some i => (i : Int) | none => -1)) := by
  refine CallE.gen fun k hk => EN_slices_IndexFunc_S_int_int rfl ?_
  have hL := Ra.lt
  simp -implicitDefEqProofs (disch:=first|omega|(simp only[LnZ];omega))[wrap64, Ra.len]
  refine wp_count x.length (fun i e h' => e = [some a, some fv, none, none, some (.int .i64 x.length), some (.int .i64 i)] ∧ h.le h' ∧ ∀ (j : Nat) (hj : j < x.length), j < i → p x[j] = false) ⟨rfl, Heap.le.refl h, fun j _ hj => absurd hj (Nat.not_lt_zero j)⟩ ?_
  rintro J i _ h1 hJ hi ⟨rfl, hl, hn⟩
  simp -implicitDefEqProofs (disch:=first|omega|(simp only[LnZ];omega))[wrap64]
  refine IteW.mk (fun hlt => ?_) (fun hge => ?_)
  · have hlx : i < x.length := by omega
    obtain ⟨u, hu, Ru⟩ := (Ra.le hl).ld hlx
    change hload _ (some (elp 1 a i)) none = some u at hu
    simp -implicitDefEqProofs (disch:=first|omega|(simp only[LnZ];omega))[wrap64, (Ra.le hl).X (n := 1) rfl, hu, hf]
    refine (hp h1 hl i hlx u Ru).go ?_
    rintro _ h2 ⟨hl2, rfl⟩
    simp -implicitDefEqProofs (disch:=first|omega|(simp only[LnZ];omega))[wrap64]
    refine IteW.mk (fun hq => ?_) (fun hq => ?_)
    · simp -implicitDefEqProofs (disch:=first|omega|(simp only[LnZ];omega))[wrap64]
      refine RetK.keep (hk _ _ ⟨hl.trans hl2, ?_⟩)
      have h3 : x.findIdx? p = some i := by
        rw [List.findIdx?_eq_some_iff_getElem]
        exact ⟨hlx, hq, fun j hj => by rw [hn j (by omega) hj]; simp⟩
      rw [h3]
    · simp -implicitDefEqProofs (disch:=first|omega|(simp only[LnZ];omega))[wrap64]
      refine hJ _ _ hlx ⟨rfl, hl.trans hl2, fun j hj hji => ?_⟩
      by_cases hji2 : j = i
      · subst hji2; simpa using hq
      · exact hn j hj (by omega)
  · simp -implicitDefEqProofs (disch:=first|omega|(simp only[LnZ];omega))[wrap64]
    refine RetK.keep (hk _ _ ⟨hl, ?_⟩)
    have h3 : x.findIdx? p = none := by
      rw [List.findIdx?_eq_none_iff]
      intro y hy
      obtain ⟨j, hj, rfl⟩ := List.mem_iff_getElem.1 hy
      exact hn j hj (by omega)
    rw [h3]
theorem c_ContainsFunc_int {h : Heap} {a fv : Value} {x : List Int} (Ra : Rep h a x) {f : FuncId} {c1 c2 : List Value} (hf : fnOf fv = some (f, c1, c2)) (p : Int → Bool)
    (hp : ∀ h1, h.le h1 → ∀ (i : Nat) (hi : i < x.length) (u : Value), Rep h1 u x[i] → CallE Try.prog f (c1 ++ u :: c2) h1 (fun v h' => h1.le h' ∧ v = .bool (p x[i]))) :
    CallE Try.prog fn_slices_ContainsFunc_S_int_int [a, fv] h (fun v h' => h.le h' ∧ v = .bool (x.any p)) := by
  refine CallE.gen fun k hk => EN_slices_ContainsFunc_S_int_int rfl ?_
  simp -implicitDefEqProofs (disch:=first|omega|(simp only[LnZ];omega))[wrap64]
  refine (c_IndexFunc_int Ra hf p hp).go ?_
  rintro _ h1 ⟨hl, rfl⟩
  simp -implicitDefEqProofs (disch:=first|omega|(simp only[LnZ];omega))[wrap64]
  refine RetK.keep (hk _ _ ⟨hl, ?_⟩)
  congr 1
  rw [← List.findIdx?_isSome]
  cases x.findIdx? p <;> simp
end Go.Proofs.Ytglnelcmcimljaa

namespace Go.Proofs.Ytglnelcmcimljaa
open Go
def H_spec_l7On : Hint := ⟨[(0, false), (1, false), (2, true), (4, false)], []⟩
def K139_1 : C := .seq (.pl <| .e 4 7 <|
 .m 4 1 <|
 .a 5 2 <|
 .g 6 5 2 1 <|
 .x 7 (.bin .and (.v 4) (.v 6)) <|
 .a 8 2 <|
 .g 9 8 2 2 <|
 .x 10 (.bin .eql (.v 7) (.v 9)) <|
 .m 3 10 .done) (.ret)
@[simp] def W139_1 := C.w K139_1.eq_1
def B_spec_l7On : C := .seq (.pl <| .e 4 0 <|
 .o (.pnew 2 (.v 0) []) <|
 .x 3 (.mv (.c (.bool false))) .done) K139_1
@[simp] def WB_spec_l7On := C.w B_spec_l7On.eq_1
def R_spec_l7On : FIR := ⟨B_spec_l7On, 4, [(3, none)]⟩
theorem IR_spec_l7On : cfun Try.prog H_spec_l7On Try.f139 = some R_spec_l7On := by kernel_rfl
theorem EN_spec_l7On : ENT Try.prog B_spec_l7On [(3, none)] 2 4 fn_spec_l7On := fun hargs hw => enter Try.func139 rfl IR_spec_l7On hargs hw
end Go.Proofs.Ytglnelcmcimljaa

namespace Go.Proofs.Ytglnelcmcimljaa
open Go
theorem c_takes {h : Heap} {v : Value} {t : Tr} (Rt : Rep h v t) {n : Int} : CallE Try.prog fn_impl_Transition_takes [v, .int .i64 n] h (fun u h' => h' = h ∧ u = .bool (t.on n)) := by
  rw [(Rep_Tr.1 Rt).1]
  refine CallE.gen fun k hk => EN_impl_Transition_takes rfl ?_
  simp -implicitDefEqProofs (disch:=first|omega|(simp only[LnZ];omega))[wrap64, Tr.v]
  exact RetK.keep (hk _ _ ⟨rfl, rfl⟩)
theorem c_l7On {h : Heap} {v : Value} {t : Tr} (Rt : Rep h v t) {n : Int} : CallE Try.prog fn_spec_l7On [v, .int .i64 n] h (fun u h' => h' = h ∧ u = .bool (t.on n)) := by
  rw [(Rep_Tr.1 Rt).1]
  refine CallE.gen fun k hk => EN_spec_l7On rfl ?_
  simp -implicitDefEqProofs (disch:=first|omega|(simp only[LnZ];omega))[wrap64, Tr.v]
  exact RetK.keep (hk _ _ ⟨rfl, rfl⟩)
end Go.Proofs.Ytglnelcmcimljaa

namespace Go.Proofs.Ytglnelcmcimljaa
open Go
theorem tru_set2 {B : List Bool} {i : Nat} (hi : i < B.length) {b : Bool} {x : Nat} : tru (B.set i b) x ↔ if x = i then b = true else tru B x := by
  simp only [tru, List.getD_eq_getElem?_getD, List.getElem?_set]
  by_cases e : i = x
  · subst e; simp [hi]
  · simp [e, Ne.symm e]
theorem c_begin {h : Heap} {v l : Value} {a : Aut} {L : List Bool} (Ra : Rep h v a) (Rl : Rep h l L) (ha : a.Ok) (hLl : L.length = a.acc.length) (hL : ∀ q, tru L q ↔ q < a.acc.length ∧ a.Live q) :
    CallE Try.prog fn_impl_Automaton_begin [v, l] h (fun u h' => ∃ B : List Bool, HS h [ow u B] h' ∧ B.length = a.acc.length ∧ ∀ q, tru B q ↔ a.beg q) := by
  obtain ⟨v1, v2, v3, rfl, R1, R2, R3⟩ := Rep_Aut.1 Ra
  have hn := ha.n
  have hil := ha.il
  refine CallE.gen fun k hk => EN_impl_Automaton_begin rfl ?_
  simp -implicitDefEqProofs (disch:=first|omega|(simp only[LnZ];omega))[wrap64, Rl.len]
  refine HS.init.mks (α := Bool) (z := false) rfl rfl own_false (Nat.le_refl _) (by omega) (by omega) fun b h1 H => ?_
  simp -implicitDefEqProofs (disch:=first|omega|(simp only[LnZ];omega))[wrap64, (R1.on H).len]
  refine wp_count a.init.length (fun i e h' => e = [none, some l, none, none, some b, none, some v1, some (.int .i64 a.init.length), some (.int .i64 i)] ∧ ∃ B : List Bool, HS h [ow b B] h' ∧ B.length = a.acc.length ∧ ∀ q : Nat, tru B q ↔ (q : Int) ∈ a.init.take i ∧ a.Live q) ⟨by simp, _, H, by simp [hLl], fun q => by simp [tru_replicate]⟩ ?_
  clear H
  rintro J i _ h2 hJ hi ⟨rfl, B, H, hBl, hB⟩
  simp -implicitDefEqProofs (disch:=first|omega|(simp only[LnZ];omega))[wrap64]
  refine IteW.mk (fun hlt => ?_) (fun hge => ?_)
  · have hix : i < a.init.length := by omega
    have hx := ha.im hix
    obtain ⟨q, hq⟩ : ∃ q : Nat, a.init[i] = q := ⟨a.init[i].toNat, by omega⟩
    have hqn : q < a.acc.length := by omega
    simp -implicitDefEqProofs (disch:=first|omega|(simp only[LnZ];omega))[wrap64, (R1.on H).I, hq, (Rl.on H).B, H.rep.B]
    refine H.storeF (L[q]'(by omega)) (i := q) (by omega) rfl rfl trivial rfl fun h3 H => ?_
    simp -implicitDefEqProofs (disch:=first|omega|(simp only[LnZ];omega))[wrap64]
    refine hJ _ _ hix ⟨rfl, _, H, by simpa using hBl, fun x => ?_⟩
    rw [tru_set2 (by omega), take_mem_succ hix, hq]
    have hLq := hL q
    rw [tru_get (by omega)] at hLq
    split
    · rename_i e
      subst e
      rw [hLq]
      simp [hqn]
    · rename_i e
      rw [hB]
      have e2 : ¬ ((x : Int) = q) := by omega
      simp [e2]
  simp -implicitDefEqProofs (disch:=first|omega|(simp only[LnZ];omega))[wrap64]
  rw [List.take_of_length_le (by omega)] at hB
  exact RetK.keep (hk _ _ ⟨B, H, hBl, hB⟩)
theorem c_after {h : Heap} {v l s : Value} {a : Aut} {L S : List Bool} {letter : Int} (Ra : Rep h v a) (Rl : Rep h l L) (Rs : Rep h s S) (ha : a.Ok) (hLl : L.length = a.acc.length) (hSl : S.length = a.acc.length) (hL : ∀ q, tru L q ↔ q < a.acc.length ∧ a.Live q) :
    CallE Try.prog fn_impl_Automaton_after [v, l, s, .int .i64 letter] h (fun u h' => ∃ B : List Bool, HS h [ow u B] h' ∧ B.length = a.acc.length ∧ ∀ q, tru B q ↔ a.aft (tru S) letter q) := by
  obtain ⟨v1, v2, v3, rfl, R1, R2, R3⟩ := Rep_Aut.1 Ra
  have hn := ha.n
  have he := ha.e
  refine CallE.gen fun k hk => EN_impl_Automaton_after rfl ?_
  simp -implicitDefEqProofs (disch:=first|omega|(simp only[LnZ];omega))[wrap64, Rl.len]
  refine HS.init.mks (α := Bool) (z := false) rfl rfl own_false (Nat.le_refl _) (by omega) (by omega) fun b h1 H => ?_
  simp -implicitDefEqProofs (disch:=first|omega|(simp only[LnZ];omega))[wrap64, (R3.on H).len]
  refine wp_count a.edges.length (fun i e h' => e = [none, some l, some s, some (.int .i64 letter), none, none, some b, none, some v3, some (.int .i64 a.edges.length), some (.int .i64 i)] ∧ ∃ B : List Bool, HS h [ow b B] h' ∧ B.length = a.acc.length ∧ ∀ q : Nat, tru B q ↔ a.Live q ∧ ∃ e ∈ a.edges.take i, tru S e.frm.toNat ∧ e.to = q ∧ e.on letter = true) ⟨by simp, _, H, by simp [hLl], fun q => by simp [tru_replicate]⟩ ?_
  clear H
  rintro J i _ h2 hJ hi ⟨rfl, B, H, hBl, hB⟩
  simp -implicitDefEqProofs (disch:=first|omega|(simp only[LnZ];omega))[wrap64]
  refine IteW.mk (fun hlt => ?_) (fun hge => ?_)
  · have hix : i < a.edges.length := by omega
    have hx := ha.t hix
    have hv := R3.okTr hix
    unfold Tr.Ok at hx
    obtain ⟨f, hf⟩ : ∃ f : Nat, a.edges[i].frm = f := ⟨a.edges[i].frm.toNat, by omega⟩
    obtain ⟨t, ht⟩ : ∃ t : Nat, a.edges[i].to = t := ⟨a.edges[i].to.toNat, by omega⟩
    have hLt := hL t
    rw [tru_get (by omega)] at hLt
    have hSf := tru_get (B := S) (i := f) (by omega)
    have hstep : ∀ B' : List Bool, (∀ q : Nat, tru B' q ↔ tru B q ∨ (q = t ∧ a.Live q ∧ tru S f ∧ a.edges[i].on letter = true)) → ∀ q : Nat, tru B' q ↔ a.Live q ∧ ∃ e ∈ a.edges.take (i + 1), tru S e.frm.toNat ∧ e.to = q ∧ e.on letter = true := by
      intro B' hB' q
      rw [hB', hB]
      constructor
      · rintro (⟨h1, e, h2, h3⟩ | ⟨rfl, h1, h2, h3⟩)
        · exact ⟨h1, e, (take_mem_succ hix).2 (.inl h2), h3⟩
        · exact ⟨h1, _, (take_mem_succ hix).2 (.inr rfl), by rw [hf]; simpa using h2, ht, h3⟩
      · rintro ⟨h1, e, h2, h3, h4, h5⟩
        rcases (take_mem_succ hix).1 h2 with h2 | rfl
        · exact .inl ⟨h1, e, h2, h3, h4, h5⟩
        · rw [hf] at h3
          exact .inr ⟨by omega, h1, by simpa using h3, h5⟩
    have hkeep : ¬ (a.Live t ∧ tru S f ∧ a.edges[i].on letter = true) → ∀ h3, HS h [ow b B] h3 → J [none, some l, some s, some (.int .i64 letter), none, none, some b, none, some v3, some (.int .i64 a.edges.length), some (.int .i64 ((i + 1 : Nat) : Int))] h3 :=
      fun hno h3 H => hJ _ _ hix ⟨by simp, B, H, hBl, hstep B fun q => ⟨.inl, fun hh => hh.elim id fun ⟨e, h1, h2⟩ => absurd (e ▸ ⟨h1, h2⟩) hno⟩⟩
    by_cases e1 : S[f]'(by omega) = true
    case neg =>
      simp -implicitDefEqProofs (disch:=first|omega|(simp only[LnZ];omega))[wrap64, (R3.on H).xTr, Tr.v, setC, hf, (Rs.on H).B, e1]
      exact hkeep (fun hh => e1 (hSf.1 hh.2.1)) _ H
    by_cases e2 : L[t]'(by omega) = true
    case neg =>
      simp -implicitDefEqProofs (disch:=first|omega|(simp only[LnZ];omega))[wrap64, (R3.on H).xTr, Tr.v, setC, hf, ht, (Rs.on H).B, (Rl.on H).B, e1, e2]
      exact hkeep (fun hh => e2 (hLt.2 ⟨by omega, hh.1⟩)) _ H
    simp -implicitDefEqProofs (disch:=first|omega|(simp only[LnZ];omega))[wrap64, (R3.on H).xTr, Tr.v, setC, hf, ht, (Rs.on H).B, (Rl.on H).B, e1, e2]
    refine (c_takes (t := a.edges[i]) (Rep_Tr.2 ⟨by simp [Tr.v, hf, ht], hv⟩)).go ?_
    rintro _ _ ⟨rfl, rfl⟩
    by_cases e3 : a.edges[i].on letter = true
    case neg =>
      simp -implicitDefEqProofs (disch:=first|omega|(simp only[LnZ];omega))[wrap64, e3]
      exact hkeep (fun hh => e3 hh.2.2) _ H
    simp -implicitDefEqProofs (disch:=first|omega|(simp only[LnZ];omega))[wrap64, e3, H.rep.B]
    refine H.storeF true (i := t) (by omega) rfl rfl trivial rfl fun h3 H => ?_
    simp -implicitDefEqProofs (disch:=first|omega|(simp only[LnZ];omega))[wrap64]
    refine hJ _ _ hix ⟨by simp, _, H, by simpa using hBl, hstep _ fun q => ?_⟩
    rw [tru_set (by omega)]
    constructor
    · rintro (h1 | rfl)
      · exact .inl h1
      · exact .inr ⟨rfl, (hLt.1 e2).2, hSf.2 e1, e3⟩
    · rintro (h1 | h1)
      · exact .inl h1
      · exact .inr h1.1
  simp -implicitDefEqProofs (disch:=first|omega|(simp only[LnZ];omega))[wrap64]
  rw [List.take_of_length_le (by omega)] at hB
  exact RetK.keep (hk _ _ ⟨B, H, hBl, hB⟩)
theorem c_members {h : Heap} {s : Value} {S : List Bool} (Rs : Rep h s S) (hl : S.length ≤ 1048576) : CallE Try.prog fn_impl_members [s] h (fun u h' => HS h [ow u (memL (fun q => S.getD q false) S.length)] h') := by
  refine CallE.gen fun k hk => EN_impl_members rfl ?_
  simp -implicitDefEqProofs (disch:=first|omega|(simp only[LnZ];omega))[wrap64, Rs.len]
  have H := (HS.init (h := h)).nil_ow (α := Int)
  refine wp_count S.length (fun i e h' => ∃ o, e = [none, none, some o, none, none, some s, some (.int .i64 S.length), some (.int .i64 i)] ∧ HS h [ow o (memL (fun q => S.getD q false) i)] h') ⟨.slice none 0 0, by simp, by simpa [memL] using H⟩ ?_
  clear H
  rintro J i _ h2 hJ hi ⟨o, rfl, H⟩
  simp -implicitDefEqProofs (disch:=first|omega|(simp only[LnZ];omega))[wrap64]
  refine IteW.mk (fun hlt => ?_) (fun hge => ?_)
  · have hix : i < S.length := by omega
    have hml := memL_length (K := fun q => S.getD q false) (i := i)
    have hgd : S.getD i false = S[i] := by simp [hix]
    cases hb : S[i] with
    | true =>
      simp -implicitDefEqProofs (disch:=first|omega|(simp only[LnZ];omega))[wrap64, (Rs.on H).B, hb]
      refine H.app1 (i : Int) rfl rfl rfl ⟨by omega, by omega⟩ rfl rfl (by omega) (by omega) fun o' h3 H => ?_
      simp -implicitDefEqProofs (disch:=first|omega|(simp only[LnZ];omega))[wrap64]
      refine hJ _ _ hix ⟨o', rfl, ?_⟩
      rw [memL_succ, hgd, hb]; exact H
    | false =>
      simp -implicitDefEqProofs (disch:=first|omega|(simp only[LnZ];omega))[wrap64, (Rs.on H).B, hb]
      refine hJ _ _ hix ⟨o, rfl, ?_⟩
      rw [memL_succ, hgd, hb]; simpa using H
  have hii : i = S.length := by omega
  subst hii
  simp -implicitDefEqProofs (disch:=first|omega|(simp only[LnZ];omega))[wrap64]
  refine (c_Clip_int H).go ?_
  intro o' h3 H
  simp -implicitDefEqProofs (disch:=first|omega|(simp only[LnZ];omega))[wrap64]
  exact RetK.keep (hk _ _ H)
theorem c_letters_1 {h : Heap} {n : Int} : CallE Try.prog fn_impl_letters_1 [.int .i64 n] h (fun u h' => h' = h ∧ u = .bool (!decide (0 ≤ n ∧ n ≤ 7))) := by
  refine CallE.gen fun k hk => EN_impl_letters_1 rfl ?_
  simp -implicitDefEqProofs (disch:=first|omega|(simp only[LnZ];omega))[wrap64]
  refine c_in.go ?_
  rintro _ _ ⟨rfl, rfl⟩
  simp -implicitDefEqProofs (disch:=first|omega|(simp only[LnZ];omega))[wrap64]
  exact RetK.keep (hk _ _ ⟨rfl, by simp⟩)
theorem c_letters {h : Heap} {w : Value} {W : List Int} (Rw : Rep h w W) : CallE Try.prog fn_impl_letters [w] h (fun u h' => h.le h' ∧ u = .bool (decide (∀ x ∈ W, 0 ≤ x ∧ x ≤ 7))) := by
  refine CallE.gen fun k hk => EN_impl_letters rfl ?_
  simp -implicitDefEqProofs (disch:=first|omega|(simp only[LnZ];omega))[wrap64]
  refine (c_ContainsFunc_int Rw (c1 := []) (c2 := []) (f := fn_impl_letters_1) rfl (fun n => !decide (0 ≤ n ∧ n ≤ 7)) ?_).go ?_
  · intro h3 hl j hj u Ru
    obtain ⟨rfl, _⟩ := Rep_int.1 Ru
    exact (c_letters_1 (n := W[j])).to fun _ _ ⟨h4, h5⟩ => ⟨h4 ▸ Heap.le.refl _, h5⟩
  · rintro _ h3 ⟨hl, rfl⟩
    simp -implicitDefEqProofs (disch:=first|omega|(simp only[LnZ];omega))[wrap64]
    refine RetK.keep (hk _ _ ⟨hl, ?_⟩)
    congr 1
    rw [Bool.eq_iff_iff]
    simp
theorem c_wordOk {h : Heap} {w : Value} {W : List Int} (Rw : Rep h w W) : CallE Try.prog fn_impl_wordOk [w] h (fun u h' => h.le h' ∧ u = .bool (decide (Wok W))) := by
  have hL := Rw.lt
  refine CallE.gen fun k hk => EN_impl_wordOk rfl ?_
  simp -implicitDefEqProofs (disch:=first|omega|(simp only[LnZ];omega))[wrap64, Rw.len]
  by_cases h1 : (W.length : Int) ≤ 200
  · simp -implicitDefEqProofs (disch:=first|omega|(simp only[LnZ];omega))[wrap64, h1]
    refine (c_letters Rw).go ?_
    rintro _ h2 ⟨hl, rfl⟩
    simp -implicitDefEqProofs (disch:=first|omega|(simp only[LnZ];omega))[wrap64]
    refine RetK.keep (hk _ _ ⟨hl, ?_⟩)
    congr 1
    rw [Bool.eq_iff_iff]
    have : W.length ≤ 200 := by omega
    simp [Wok, this]
  · simp -implicitDefEqProofs (disch:=first|omega|(simp only[LnZ];omega))[wrap64, h1]
    refine RetK.keep (hk _ _ ⟨Heap.le.refl _, ?_⟩)
    congr 1
    rw [eq_comm, decide_eq_false_iff_not]
    intro hh
    have := hh.1
    omega
theorem c_prefix {h : Heap} {v w : Value} {a : Aut} {W : List Int} (Ra : Rep h v a) (Rw : Rep h w W) (ha : a.Ok) : CallE Try.prog fn_impl_Automaton_prefix [v, w] h (fun u h' => HS h [ow u (a.states W)] h') := by
  have hn := ha.n
  have hwl := Rw.lt
  have Fa := Ra.aAut
  refine CallE.gen fun k hk => EN_impl_Automaton_prefix rfl ?_
  simp -implicitDefEqProofs (disch:=first|omega|(simp only[LnZ];omega))[wrap64, Fa]
  refine (c_live Ra ha).go ?_
  rintro l h1 ⟨L, H, hLl, hL⟩
  simp -implicitDefEqProofs (disch:=first|omega|(simp only[LnZ];omega))[wrap64, Fa]
  refine (c_begin (Ra.on H) H.rep ha hLl hL).go ?_
  rintro b h2 ⟨B, H2, hBl, hB⟩
  have H := H2.app H
  simp -implicitDefEqProofs (disch:=first|omega|(simp only[LnZ];omega))[wrap64, Fa, (Rw.on H).len]
  refine wp_count W.length (fun i e h' => ∃ b, e = [none, none, some v, none, some l, some b, none, some w, some (.int .i64 W.length), some (.int .i64 i)] ∧ ∃ B : List Bool, HS h [ow b B, ow l L] h' ∧ B.length = a.acc.length ∧ ∀ q : Nat, tru B q ↔ a.behind (W.take i) q) ⟨b, by simp, B, H, hBl, hB⟩ ?_
  clear H hB hBl
  rintro J i _ h3 hJ hi ⟨b, rfl, B, H, hBl, hB⟩
  simp -implicitDefEqProofs (disch:=first|omega|(simp only[LnZ];omega))[wrap64]
  refine IteW.mk (fun hlt => ?_) (fun hge => ?_)
  · have hix : i < W.length := by omega
    simp -implicitDefEqProofs (disch:=first|omega|(simp only[LnZ];omega))[wrap64, Fa, (Rw.on H).I]
    refine (c_after (Ra.on H) H.sw1.rep H.rep ha hLl hBl hL).go ?_
    rintro b' h4 ⟨B', H4, hBl', hB'⟩
    have H := (H4.app H).sw1.drop
    simp -implicitDefEqProofs (disch:=first|omega|(simp only[LnZ];omega))[wrap64, Fa]
    refine hJ _ _ hix ⟨b', rfl, B', H, hBl', fun q => ?_⟩
    rw [hB', Aut.behind, foldl_take hix, funext fun q => propext (hB q)]
    exact Iff.rfl
  simp -implicitDefEqProofs (disch:=first|omega|(simp only[LnZ];omega))[wrap64]
  rw [List.take_of_length_le (by omega)] at hB
  refine (c_members H.rep (by omega)).go ?_
  intro o h4 H4
  have H := (H4.app H).only
  simp -implicitDefEqProofs (disch:=first|omega|(simp only[LnZ];omega))[wrap64]
  have he : memL (fun q => B.getD q false) B.length = a.states W := by
    refine Aut.states_eq (by rw [hBl]; exact memL_incr (Nat.le_refl _)) fun q => ?_
    rw [memL_mem, ← hB, ← hBl]
    constructor
    · rintro ⟨q', e, h5, h6⟩
      obtain rfl : q = q' := by omega
      exact ⟨h5, h6⟩
    · rintro ⟨h5, h6⟩; exact ⟨q, rfl, h5, h6⟩
  rw [he] at H
  exact RetK.keep (hk _ _ H)
end Go.Proofs.Ytglnelcmcimljaa

namespace Go.Proofs.Ytglnelcmcimljaa
open Go
section
variable {P : Program} {k : Env → Heap → Prop} {e : Env} {g h : Heap} {Γ : List HP} {v : Value} {α : Type}
theorem HS.appZ [Ty α] [Flat α] {l : List α} (H : HS g (ow v l :: Γ) h) {z : α} {n : Nat} {bytes esz : Nat} {zero zero' : List Value} {a x : O} {dst : Nat} {kd : IntKind} (ha : a.get e = some v) (hx : x.get e = some (.int kd (n : Int))) (hzz : zero' = Flat.enc z) (hok : Flat.ok z) (hsz : esz = Ty.sz α) (hz : zero.length = Ty.sz α)
    (hb : (l.length + n) * bytes ≤ 140737488355328) (hn : l.length + n < 2 ^ 62)
    (K : ∀ v' h', HS g (ow v' (l ++ List.replicate n z) :: Γ) h' → k (eset e dst (some v')) h') : (A.ex (some dst) (.app bytes esz zero (.o a) (.z x bytes zero'))).wp P k e h := by
  obtain ⟨g', r, rfl, d, O, H⟩ := H
  subst hsz hzz
  have hall : ∀ x ∈ List.replicate n z, Flat.ok x := fun x hx => by rw [List.eq_of_mem_replicate hx]; exact hok
  have henc : ∀ m, reps m (Flat.enc z) = encL (List.replicate m z) := fun m => by
    simp [reps, encL]
  have hle : n * bytes ≤ (l.length + n) * bytes := Nat.mul_le_mul_right _ (by omega)
  refine a_app (rs := Heap.nil) (l2 := List.replicate n z) O ha ?_ (encL_len hall) (ownL_enc hall) d Dj_nil (by simp) rfl hz (by simpa using hb) (by simpa using hn) fun v' r' d' O' => K _ _ ⟨g', r', rfl, d', O', H⟩
  simp only [AO.src, hx]
  rw [if_pos ⟨by omega, by omega, by simp; omega, flat_len hok⟩]
  simp [henc]
theorem bls_two [Ty α] {u1 u2 : Value} {y1 y2 : α} (R1 : Rep h u1 y1) (R2 : Rep h u2 y2) {esz : Nat} {zero : List Value} {parts : List (Nat × Nat × O)} {dst : Nat} (hf : fillP e (reps 2 zero) parts = some (u1.cells.toList ++ u2.cells.toList))
    (K : ∀ v' h', h.le h' → Rep h' v' [y1, y2] → k (eset e dst (some v')) h') : (A.ex (some dst) (.bls esz 2 zero parts)).wp P k e h := by
  obtain ⟨c1, rfl, r1⟩ := R1
  obtain ⟨c2, rfl, r2⟩ := R2
  rw [rep_cells r1, rep_cells r2] at hf
  have l1 := Ty.len r1
  have l2 := Ty.len r2
  refine ⟨_, hf, fun b el hb => Fgt.keep ?_⟩
  rw [set_new hb]
  have hd : Dj h (Heap.one b (.cells (c1 ++ c2).toArray el (0, 0))) := Dj_one.2 hb
  have hbb : (h.add (Heap.one b (.cells (c1 ++ c2).toArray el (0, 0)))) b = some (.cells (c1 ++ c2).toArray el (0, 0)) := by simp [Heap.add, Heap.one, hb]
  refine K _ _ (le_add hd) (Rep_list.2 ⟨some ⟨b, 0, none⟩, 2, rfl, ⟨Nat.le_refl _, by simp⟩, trivial, fun i hi => ?_⟩)
  refine ⟨b, 0, ((c1 ++ c2).drop (0 + i * Ty.sz α)).take (Ty.sz α), rfl, ?_, ?_⟩
  · rw [hcells_mk hbb (by simp at hi ⊢; rcases (by omega : i = 0 ∨ i = 1) with rfl | rfl <;> simp <;> omega)]
  · simp only [List.length_cons, List.length_nil] at hi
    rcases (by omega : i = 0 ∨ i = 1) with rfl | rfl
    · have e1 : ((c1 ++ c2).drop (0 + 0 * Ty.sz α)).take (Ty.sz α) = c1 := by simp [← l1]
      rw [e1]
      exact Ty.mono (le_add hd) r1
    · have e1 : ((c1 ++ c2).drop (0 + 1 * Ty.sz α)).take (Ty.sz α) = c2 := by
        rw [show 0 + 1 * Ty.sz α = c1.length by omega, List.drop_left, List.take_of_length_le (by omega)]
      rw [e1]
      exact Ty.mono (le_add hd) r2
end
end Go.Proofs.Ytglnelcmcimljaa

namespace Go.Proofs.Ytglnelcmcimljaa
open Go
theorem c_Grow_int {h : Heap} {m : Int} (hm : 0 ≤ m) (hn : m ≤ 1048576) : CallE Try.prog fn_slices_Grow_S_int_int [.slice none 0 0, .int .i64 m] h (fun u h' => HS h [ow u ([] : List Int)] h') := by
  obtain ⟨n, rfl⟩ : ∃ n : Nat, m = n := ⟨m.toNat, (Int.toNat_of_nonneg hm).symm⟩
  have H : HS h [ow (.slice none 0 0) ([] : List Int)] h := HS.init.nil_ow
  refine CallE.gen fun k hk => EN_slices_Grow_S_int_int rfl ?_
  have hng : ¬ ((n : Int) < 0) := by omega
  have hcap : capVV (.slice none 0 0) = some (.int .i64 0) := rfl
  have hln : lenVV (.slice none 0 0) = some (.int .i64 0) := rfl
  have hsl : sliceVV 1 (.slice none 0 0) none (some (some (.int .i64 0))) none = some (.slice none 0 0) := rfl
  by_cases h0 : (0 : Int) < n
  · have h0' : 0 < n := by omega
    simp -implicitDefEqProofs (disch:=first|omega|(simp only[LnZ];omega))[wrap64, h0, h0', hng, hcap, hln, hsl]
    refine HS.appZ (bytes := 8) (α := Int) (z := 0) (n := n) H rfl rfl rfl ⟨by decide, by decide⟩ rfl rfl (by simp; omega) (by simp; omega) fun v' h1 H => ?_
    obtain ⟨v2, hv2, H⟩ := H.cut (n := 0) (esz := 1) (k := .i64) (by simp)
    simp only [List.take_zero] at H
    have hv2' : sliceVV 1 v' none (some (some (.int .i64 0))) none = some v2 := hv2
    simp -implicitDefEqProofs (disch:=first|omega|(simp only[LnZ];omega))[wrap64, hln, hv2']
    exact RetK.keep (hk _ _ H)
  · have h0' : ¬ 0 < n := by omega
    simp -implicitDefEqProofs (disch:=first|omega|(simp only[LnZ];omega))[wrap64, h0, h0', hng, hcap, hln, hsl]
    exact RetK.keep (hk _ _ H)
theorem c_Concat_int {h : Heap} {v : Value} {x y : List Int} (R : Rep h v [x, y]) (hx : x.length ≤ 65536) (hy : y.length ≤ 65536) : CallE Try.prog fn_slices_Concat_S_int_int [v] h (fun u h' => HS h [ow u (x ++ y)] h') := by
  have hL : ([x, y] : List (List Int)).length = 2 := rfl
  obtain ⟨u0, hu0, R0⟩ := R.ldL (i := 0) (by simp)
  obtain ⟨u1, hu1, R1⟩ := R.ldL (i := 1) (by simp)
  simp only [List.getElem_cons_zero, List.getElem_cons_succ] at R0 R1
  have hX := R.X (n := 1) rfl
  have hn1 : ¬ (x.length : Int) < 0 := by omega
  have hn2 : ¬ (x.length : Int) + y.length < 0 := by omega
  refine CallE.gen fun k hk => EN_slices_Concat_S_int_int rfl ?_
  simp -implicitDefEqProofs (disch:=first|omega|(simp only[LnZ];omega))[wrap64, R.len]
  refine wp_count 2 (fun i e h' => e = [some v, none, some (.int .i64 (if i = 0 then 0 else if i = 1 then x.length else x.length + y.length)), none, none, none, some v, some (.int .i64 2), some (.int .i64 i), none, none, none] ∧ h' = h) ⟨by simp, rfl⟩ ?_
  rintro J i _ h1 hJ hi ⟨rfl, rfl⟩
  simp -implicitDefEqProofs (disch:=first|omega|(simp only[LnZ];omega))[wrap64]
  refine IteW.mk (fun hlt => ?_) (fun hge => ?_)
  · obtain rfl | rfl : i = 0 ∨ i = 1 := by omega
    · simp -implicitDefEqProofs (disch:=first|omega|(simp only[LnZ];omega))[wrap64, hX, hu0, R0.len, hn1]
      exact hJ _ _ (by omega) ⟨by simp, rfl⟩
    · simp -implicitDefEqProofs (disch:=first|omega|(simp only[LnZ];omega))[wrap64, hX, hu1, R1.len, hn1, hn2]
      exact hJ _ _ (by omega) ⟨by simp, rfl⟩
  obtain rfl : i = 2 := by omega
  simp -implicitDefEqProofs (disch:=first|omega|(simp only[LnZ];omega))[wrap64]
  refine (c_Grow_int (m := (x.length : Int) + y.length) (by omega) (by omega)).go ?_
  intro o h2 H
  simp -implicitDefEqProofs (disch:=first|omega|(simp only[LnZ];omega))[wrap64, (R.on H).len]
  refine wp_count 2 (fun i e h' => ∃ o, e = [none, none, none, none, some o, none, none, none, none, some v, some (.int .i64 2), some (.int .i64 i)] ∧ HS h1 [ow o (if i = 0 then [] else if i = 1 then x else x ++ y)] h') ⟨o, by simp, by simpa using H⟩ ?_
  clear H
  rintro J2 i _ h3 hJ2 hi ⟨o, rfl, H⟩
  simp -implicitDefEqProofs (disch:=first|omega|(simp only[LnZ];omega))[wrap64]
  refine IteW.mk (fun hlt2 => ?_) (fun hge2 => ?_)
  · obtain rfl | rfl : i = 0 ∨ i = 1 := by omega
    · simp only [if_true] at H
      simp -implicitDefEqProofs (disch:=first|omega|(simp only[LnZ];omega))[wrap64, hX, hload_le H.base hu0]
      refine HS.appL (bytes := 8) (l2 := x) H rfl rfl (R0.on H) rfl rfl (by simp; omega) (by simp; omega) fun o' h4 H => ?_
      simp -implicitDefEqProofs (disch:=first|omega|(simp only[LnZ];omega))[wrap64]
      exact hJ2 _ _ (by omega) ⟨o', by simp, by simpa using H⟩
    · simp only [Nat.one_ne_zero, if_true, if_false] at H
      simp -implicitDefEqProofs (disch:=first|omega|(simp only[LnZ];omega))[wrap64, hX, hload_le H.base hu1]
      refine HS.appL (bytes := 8) (l2 := y) H rfl rfl (R1.on H) rfl rfl (by omega) (by omega) fun o' h4 H => ?_
      simp -implicitDefEqProofs (disch:=first|omega|(simp only[LnZ];omega))[wrap64]
      exact hJ2 _ _ (by omega) ⟨o', by simp, by simpa using H⟩
  obtain rfl : i = 2 := by omega
  simp -implicitDefEqProofs (disch:=first|omega|(simp only[LnZ];omega))[wrap64]
  exact RetK.keep (hk _ _ (by simpa using H))
theorem c_LassoValid {h : Heap} {v : Value} {l : Las} (R : Rep h v l) : CallE Try.prog fn_impl_LassoValid [v] h (fun u h' => h.le h' ∧ u = .bool (decide l.Ok)) := by
  obtain ⟨v1, v2, rfl, R1, R2⟩ := Rep_Las.1 R
  have hL1 := R1.lt
  have hL2 := R2.lt
  refine CallE.gen fun k hk => EN_impl_LassoValid rfl ?_
  simp -implicitDefEqProofs (disch:=first|omega|(simp only[LnZ];omega))[wrap64]
  refine (c_letters R1).go ?_
  rintro _ h1 ⟨l1, rfl⟩
  by_cases q1 : ∀ x ∈ l.stem, 0 ≤ x ∧ x ≤ 7
  case neg =>
    have d1 : decide (∀ x ∈ l.stem, 0 ≤ x ∧ x ≤ 7) = false := decide_eq_false q1
    simp -implicitDefEqProofs (disch:=first|omega|(simp only[LnZ];omega))[wrap64, d1]
    exact RetK.keep (hk _ _ ⟨l1, by rw [decide_eq_false (fun hh : l.Ok => q1 hh.1.1)]⟩)
  have d1 : decide (∀ x ∈ l.stem, 0 ≤ x ∧ x ≤ 7) = true := decide_eq_true q1
  simp -implicitDefEqProofs (disch:=first|omega|(simp only[LnZ];omega))[wrap64, d1]
  refine (c_letters (R2.le l1)).go ?_
  rintro _ h2 ⟨l2, rfl⟩
  by_cases q2 : ∀ x ∈ l.loop, 0 ≤ x ∧ x ≤ 7
  case neg =>
    have d2 : decide (∀ x ∈ l.loop, 0 ≤ x ∧ x ≤ 7) = false := decide_eq_false q2
    simp -implicitDefEqProofs (disch:=first|omega|(simp only[LnZ];omega))[wrap64, d2]
    exact RetK.keep (hk _ _ ⟨l1.trans l2, by rw [decide_eq_false (fun hh : l.Ok => q2 hh.1.2)]⟩)
  have d2 : decide (∀ x ∈ l.loop, 0 ≤ x ∧ x ≤ 7) = true := decide_eq_true q2
  by_cases q3 : (l.stem.length : Int) ≤ 80
  case neg =>
    simp -implicitDefEqProofs (disch:=first|omega|(simp only[LnZ];omega))[wrap64, d2, R1.len, q3]
    exact RetK.keep (hk _ _ ⟨l1.trans l2, by rw [decide_eq_false (fun hh : l.Ok => q3 (by have := hh.2.1; omega))]⟩)
  simp -implicitDefEqProofs (disch:=first|omega|(simp only[LnZ];omega))[wrap64, d2, R1.len, q3, R2.len]
  refine c_in.go ?_
  rintro _ h2 ⟨rfl, rfl⟩
  simp -implicitDefEqProofs (disch:=first|omega|(simp only[LnZ];omega))[wrap64]
  refine RetK.keep (hk _ _ ⟨l1.trans l2, ?_⟩)
  congr 1
  rw [← Bool.decide_and]
  refine decide_eq_decide.2 ⟨fun hh => ⟨⟨q1, q2⟩, by omega, by omega, by omega⟩, fun hh => ⟨by have := hh.2.2.1; omega, by have := hh.2.2.2; omega⟩⟩
structure GI (N B : Nat) (E : Nat → Nat → Prop) (G : List (List Int)) : Prop where
  len : G.length = N
  mem : ∀ x (hx : x < G.length) z, z ∈ G[x] ↔ ∃ y : Nat, z = y ∧ E x y
  row : ∀ x (hx : x < G.length), G[x].length ≤ B
theorem GI.zero {N : Nat} : GI N 0 (fun _ _ => False) (List.replicate N []) := ⟨by simp, by simp, by simp⟩
theorem GI.add {N B : Nat} {E : Nat → Nat → Prop} {G : List (List Int)} (h : GI N B E G) {f t : Nat} (hf : f < G.length) : GI N (B + 1) (fun x y => E x y ∨ (x = f ∧ y = t)) (G.set f (G[f] ++ [(t : Int)])) := by
  refine ⟨by simp [h.len], fun x hx z => ?_, fun x hx => ?_⟩
  · simp only [List.length_set] at hx
    rw [List.getElem_set]
    split
    · rename_i e
      subst e
      rw [List.mem_append, h.mem f hf z, List.mem_singleton]
      constructor
      · rintro (⟨y, h1, h2⟩ | h1)
        · exact ⟨y, h1, .inl h2⟩
        · exact ⟨t, h1, .inr ⟨rfl, rfl⟩⟩
      · rintro ⟨y, h1, h2 | ⟨_, h2⟩⟩
        · exact .inl ⟨y, h1, h2⟩
        · subst h2; exact .inr h1
    · rename_i e
      rw [h.mem x hx z]
      constructor
      · rintro ⟨y, h1, h2⟩; exact ⟨y, h1, .inl h2⟩
      · rintro ⟨y, h1, h2 | ⟨h2, _⟩⟩
        · exact ⟨y, h1, h2⟩
        · exact absurd h2.symm e
  · simp only [List.length_set] at hx
    rw [List.getElem_set]
    have h1 := h.row f hf
    have h2 := h.row x hx
    split
    · simp; omega
    · omega
theorem GI.congr {N B B' : Nat} {E E' : Nat → Nat → Prop} {G : List (List Int)} (h : GI N B E G) (hB : B ≤ B') (he : ∀ x y, E x y ↔ E' x y) : GI N B' E' G :=
  ⟨h.len, fun x hx z => by rw [h.mem x hx z]; exact ⟨fun ⟨y, h1, h2⟩ => ⟨y, h1, (he x y).1 h2⟩, fun ⟨y, h1, h2⟩ => ⟨y, h1, (he x y).2 h2⟩⟩, fun x hx => Nat.le_trans (h.row x hx) hB⟩
end Go.Proofs.Ytglnelcmcimljaa

namespace Go.Proofs.Ytglnelcmcimljaa
open Go
theorem c_around {h : Heap} {v : Value} {G : List (List Int)} {t : Nat} (R : Rep h v G) (hn : Bf.NOk G) (hGl : G.length ≤ 65536) (ht : t < G.length) : CallE Try.prog fn_impl_around [v, .int .i64 t] h (fun u h' => HS h [ow u (Bf.arn G t)] h') := by
  obtain ⟨u0, hu0, Ru⟩ := R.ldL ht
  have hg : G.getD (t : Int).toNat [] = G[t] := by simp [ht]
  refine CallE.gen fun k hk => EN_impl_around rfl ?_
  unfold Bf.arn at hk
  rw [hg] at hk
  simp -implicitDefEqProofs (disch:=first|omega|(simp only[LnZ];omega))[wrap64]
  refine HS.init.alloc rfl fun b2 h1 H => ?_
  have H : HS h [bx b2 [v]] h1 := by simpa [R.cells] using H
  simp -implicitDefEqProofs (disch:=first|omega|(simp only[LnZ];omega))[wrap64]
  refine H.alloc rfl fun b3 h2 H => ?_
  have H : HS h [bx b3 [.int .i64 t], bx b2 [v]] h2 := H
  have hX := (R.on H).X (n := 1) rfl
  simp -implicitDefEqProofs (disch:=first|omega|(simp only[LnZ];omega))[wrap64, H.sw1.bxld0, H.bxld0, hX, hload_le H.base hu0]
  refine (c_Contains_int (Ru.on H) (n := (t : Int))).go ?_
  rintro _ _ ⟨rfl, rfl⟩
  by_cases q : (t : Int) ∈ G[t]
  · rw [if_pos q] at hk
    simp -implicitDefEqProofs (disch:=first|omega|(simp only[LnZ];omega))[wrap64, q, H.bxld0]
    refine H.bls (α := Int) [(t : Int)] rfl rfl (ok_one (by omega)) (by decide) fun u h3 H => ?_
    simp -implicitDefEqProofs (disch:=first|omega|(simp only[LnZ];omega))[wrap64]
    exact RetK.keep (hk _ _ H.only1)
  rw [if_neg q] at hk
  simp -implicitDefEqProofs (disch:=first|omega|(simp only[LnZ];omega))[wrap64, q, H.bxld0, H.sw1.bxld0]
  refine H.bls (α := Int) [(t : Int)] rfl rfl (ok_one (by omega)) (by decide) fun u h3 H => ?_
  simp -implicitDefEqProofs (disch:=first|omega|(simp only[LnZ];omega))[wrap64]
  refine (c_shortestG hn (Bf.incr_one (by omega) (by omega)) hGl (R.on H) H.rep (Bf.back G t) (f := fn_impl_around_1) (c1 := []) (c2 := [.pointer (some ⟨b3, 0, none⟩), .pointer (some ⟨b2, 0, none⟩)]) rfl ?_).go ?_
  · intro h4 l4 a haN
    obtain ⟨ua, hua, Rua⟩ := R.ldL haN
    have hga : G.getD (a : Int).toNat [] = G[a] := by simp [haN]
    have l04 := H.base.trans l4
    have e2 := hload_le l4 H.sw2.bxld0
    have e3 := hload_le l4 H.sw1.bxld0
    have hXa := (R.le l04).X (n := 1) rfl
    have hL := R.lt
    refine CallE.gen fun k2 hk2 => EN_impl_around_1 rfl ?_
    unfold Bf.back at hk2
    rw [hga] at hk2
    by_cases q1 : (a : Int) = t
    · have q1' : a = t := by omega
      rw [decide_eq_false (fun hh : (a : Int) ≠ t => hh q1)] at hk2
      simp -implicitDefEqProofs (disch:=first|omega|(simp only[LnZ];omega))[wrap64, e2, e3, q1, q1']
      exact RetK.keep (hk2 _ _ ⟨Heap.le.refl _, by simp⟩)
    · have q1' : ¬ a = t := by omega
      rw [decide_eq_true (show (a : Int) ≠ t from q1)] at hk2
      simp -implicitDefEqProofs (disch:=first|omega|(simp only[LnZ];omega))[wrap64, e2, e3, q1, q1', hXa, hload_le l04 hua]
      refine (c_Contains_int (Rua.le l04) (n := (t : Int))).go ?_
      rintro _ _ ⟨rfl, rfl⟩
      simp -implicitDefEqProofs (disch:=first|omega|(simp only[LnZ];omega))[wrap64]
      exact RetK.keep (hk2 _ _ ⟨Heap.le.refl _, by simp⟩)
  · intro u2 h5 H5
    have H := H5.app H
    simp -implicitDefEqProofs (disch:=first|omega|(simp only[LnZ];omega))[wrap64]
    exact RetK.keep (hk _ _ H.only1)
noncomputable def Bf.lasS (G : List (List Int)) (S : List Int) (g : Int → Bool) : List Int := match (fin G S).2.find? g with
  | some t => (path G S t).dropLast
  | none => []
noncomputable def Bf.lasL (G : List (List Int)) (S : List Int) (g : Int → Bool) : List Int := match (fin G S).2.find? g with
  | some t => arn G t
  | none => []
theorem find_take {α : Type} {p : α → Bool} {l : List α} {i : Nat} (hi : i < l.length) (h : p l[i] = true) (hno : ∀ j (hj : j < i), p (l[j]'(by omega)) = false) : l.find? p = some l[i] := by
  rw [List.find?_eq_some_iff_getElem]
  exact ⟨h, i, hi, rfl, fun j hj => by rw [hno j hj]; rfl⟩
set_option maxHeartbeats 1000000 in
theorem c_lasso {h : Heap} {v w fv : Value} {G : List (List Int)} {S : List Int} {E : Nat → Nat → Prop} (hn : Bf.NOk G) (hE : ∀ x y : Nat, E x y ↔ x < G.length ∧ (y : Int) ∈ G.getD x []) (hS : incr G.length (-1) S) (hGl : G.length ≤ 65536) (R : Rep h v G) (Rs : Rep h w S) (ac : Int → Bool) {f : FuncId} {c1 c2 : List Value} (hf : fnOf fv = some (f, c1, c2))
    (hp : ∀ h1, h.le h1 → ∀ a : Nat, a < G.length → CallE Try.prog f (c1 ++ .int .i64 a :: c2) h1 (fun u h' => h1.le h' ∧ u = .bool (ac a))) (g : Int → Bool) (hg : ∀ a : Nat, a < G.length → (g a = true ↔ ac a = true ∧ Cyc E a)) :
    CallE Try.prog fn_impl_lasso [v, w, fv] h (fun u h' => ∃ u1 u2, u = .tuple #[u1, u2, .bool ((Bf.fin G S).2.find? g).isSome] ∧ HS h [ow u1 (Bf.lasS G S g), ow u2 (Bf.lasL G S g)] h') := by
  have hadj : Adj E G := by
    refine ⟨fun x y hxy => ?_, fun x hx z => ?_⟩
    · have h1 := (hE x y).1 hxy
      have h2 := hn.ent _ (Bf.row_mem h1.1) _ h1.2
      exact ⟨h1.1, by omega⟩
    · have e : G.getD x [] = G[x] := by simp [hx]
      constructor
      · intro hz
        have h2 := hn.ent _ (List.getElem_mem hx) z hz
        obtain ⟨y, rfl⟩ : ∃ y : Nat, z = y := ⟨z.toNat, by omega⟩
        exact ⟨y, rfl, (hE x y).2 ⟨hx, by rw [e]; exact hz⟩⟩
      · rintro ⟨y, rfl, hy⟩
        have := ((hE x y).1 hy).2
        rw [e] at this
        exact this
  have finv := (Bf.sN_inv hn hS G.length).1
  have hfin : Bf.sN G S G.length = Bf.fin G S := rfl
  rw [hfin] at finv
  refine CallE.gen fun k hk => EN_impl_lasso rfl ?_
  unfold Bf.lasS Bf.lasL at hk
  simp -implicitDefEqProofs (disch:=first|omega|(simp only[LnZ];omega))[wrap64]
  refine (c_cyclic R hadj (by omega)).go ?_
  rintro vc h1 ⟨C, H, hCl, hC⟩
  simp -implicitDefEqProofs (disch:=first|omega|(simp only[LnZ];omega))[wrap64]
  refine (c_order (R.on H) (Rs.on H) hn hS hGl).go ?_
  intro vo h2 H2
  have H := H2.app H
  clear H2
  have hple := finv.le
  have hord := H.rep.lt
  simp -implicitDefEqProofs (disch:=first|omega|(simp only[LnZ];omega))[wrap64, H.rep.len]
  have path_some := fun (t : Int) (ht : t ∈ (Bf.fin G S).2) => Bf.path_ok hn hS ht
  generalize hF : (Bf.fin G S).2 = F at *
  refine wp_count F.length (fun i e h' => e = [some v, some w, some fv, none, none, none, some vc, none, none, some vo, some (.int .i64 F.length), some (.int .i64 i)] ∧ HS h [ow vo F, ow vc C] h' ∧ ∀ (j : Nat) (hj : j < F.length), j < i → g F[j] = false) ⟨by simp, H, fun j _ hj => absurd hj (Nat.not_lt_zero j)⟩ ?_
  clear H
  rintro J i _ h3 hJ hi ⟨rfl, H, hno⟩
  simp -implicitDefEqProofs (disch:=first|omega|(simp only[LnZ];omega))[wrap64]
  refine IteW.mk (fun hlt => ?_) (fun hge => ?_)
  · have hix : i < F.length := by omega
    have hat := finv.inq F[i] (by rw [hF]; exact List.getElem_mem hix)
    obtain ⟨t, ht⟩ : ∃ t : Nat, F[i] = t := ⟨F[i].toNat, by omega⟩
    rw [ht] at hat
    have htN : t < G.length := by omega
    have hgt := hg t htN
    have hCt := hC t htN
    have tC : tru C t ↔ C[t]'(by omega) = true := tru_get (by omega)
    have next : g (t : Int) = false → ∀ (j : Nat) (hj : j < F.length), j < i + 1 → g F[j] = false := fun hh j hj hji => by
      by_cases e : j = i
      · subst e; rw [ht]; exact hh
      · exact hno j hj (by omega)
    simp -implicitDefEqProofs (disch:=first|omega|(simp only[LnZ];omega))[wrap64, H.rep.I, ht]
    refine H.alloc rfl fun b7 h4 H => ?_
    simp -implicitDefEqProofs (disch:=first|omega|(simp only[LnZ];omega))[wrap64]
    refine H.bxst (u := .int .i64 t) rfl rfl rfl rfl (by simp) fun h5 H => ?_
    have H : HS h [bx b7 [.int .i64 t], ow vo F, ow vc C] h5 := H
    simp -implicitDefEqProofs (disch:=first|omega|(simp only[LnZ];omega))[wrap64, H.bxld0, hf]
    refine (hp h5 H.base t htN).go ?_
    rintro _ h6 ⟨l6, rfl⟩
    have H := H.le l6
    cases q1 : ac t with
    | false =>
      simp -implicitDefEqProofs (disch:=first|omega|(simp only[LnZ];omega))[wrap64, q1]
      exact hJ _ _ hix ⟨by simp, H.drop, next (by
        cases q : g t with
        | false => rfl
        | true => have := (hgt.1 q).1; rw [q1] at this; exact absurd this (by decide))⟩
    | true =>
    cases q2 : C[t]'(by omega) with
    | false =>
      simp -implicitDefEqProofs (disch:=first|omega|(simp only[LnZ];omega))[wrap64, q1, H.bxld0, H.sw2.rep.B, q2]
      exact hJ _ _ hix ⟨by simp, H.drop, next (by
        cases q : g t with
        | false => rfl
        | true => have := tC.1 (hCt.2 (hgt.1 q).2); rw [q2] at this; exact absurd this (by decide))⟩
    | true =>
      have hcyc : Cyc E t := hCt.1 (tC.2 q2)
      have hgtt : g t = true := hgt.2 ⟨q1, hcyc⟩
      have hfd : F.find? g = some (t : Int) := by
        have := find_take (p := g) hix (by rw [ht]; exact hgtt) (fun j hj => hno j (by omega) hj)
        rw [this, ht]
      have hmem : (t : Int) ∈ F := by rw [← ht]; exact List.getElem_mem hix
      have hft : F.find? (fun n => decide (n = (t : Int))) = some (t : Int) := by
        cases hq : F.find? (fun n => decide (n = (t : Int))) with
        | none =>
          rw [List.find?_eq_none] at hq
          have := hq t hmem
          simp at this
        | some y =>
          have := List.find?_some hq
          simp only [decide_eq_true_eq] at this
          rw [this]
      have hpo := path_some t hmem
      have hhit : Bf.hitL G S (fun n => decide (n = (t : Int))) = Bf.path G S t := by
        unfold Bf.hitL
        rw [hF, hft]
      rw [hfd] at hk
      simp only [Option.isSome_some] at hk
      simp -implicitDefEqProofs (disch:=first|omega|(simp only[LnZ];omega))[wrap64, q1, H.bxld0, H.sw2.rep.B, q2]
      refine (c_shortestG hn hS hGl (R.on H) (Rs.on H) (fun n => decide (n = (t : Int))) (f := fn_impl_lasso_1) (c1 := []) (c2 := [.pointer (some ⟨b7, 0, none⟩)]) rfl ?_).go ?_
      · intro h8 l8 a haN
        have e7 := hload_le l8 H.bxld0
        refine CallE.gen fun k2 hk2 => EN_impl_lasso_1 rfl ?_
        by_cases q3 : (a : Int) = t
        · have q3' : a = t := by omega
          simp -implicitDefEqProofs (disch:=first|omega|(simp only[LnZ];omega))[wrap64, e7, q3, q3']
          exact RetK.keep (hk2 _ _ ⟨Heap.le.refl _, by simp [q3]⟩)
        · have q3' : ¬ a = t := by omega
          simp -implicitDefEqProofs (disch:=first|omega|(simp only[LnZ];omega))[wrap64, e7, q3, q3']
          exact RetK.keep (hk2 _ _ ⟨Heap.le.refl _, by rw [decide_eq_false q3]⟩)
      · intro up h9 H9
        rw [hhit] at H9
        have H := H9.app H
        obtain ⟨l0, hl0⟩ := hpo.2.2.last
        have hpl := hpo.2.1
        rw [hl0] at H hk hpl
        simp only [List.dropLast_concat] at hk
        simp only [List.length_append, List.length_singleton] at hpl
        obtain ⟨v', hv', H'⟩ := H.cut (n := l0.length) (esz := 1) (k := .i64) (by simp)
        rw [List.take_left' rfl] at H'
        have hlen := H.rep.len
        simp only [List.length_append, List.length_singleton] at hlen
        push_cast at hlen
        have hsub : (l0.length : Int) + 1 - 1 = l0.length := by omega
        simp -implicitDefEqProofs (disch:=first|omega|(simp only[LnZ];omega))[wrap64, hlen, hsub, hv', H.sw1.bxld0]
        refine (c_around (R.on H') hn hGl htN).go ?_
        intro ua h10 H10
        have H := H10.app H'
        simp -implicitDefEqProofs (disch:=first|omega|(simp only[LnZ];omega))[wrap64]
        exact RetK.keep (hk _ _ ⟨v', ua, rfl, (H.sw1.under fun _ H => H.only1)⟩)
  · have hfd : F.find? g = none := by
      rw [List.find?_eq_none]
      intro x hx
      obtain ⟨j, hj, rfl⟩ := List.mem_iff_getElem.1 hx
      rw [hno j hj (by omega)]; simp
    rw [hfd] at hk
    simp only [Option.isSome_none] at hk
    simp -implicitDefEqProofs (disch:=first|omega|(simp only[LnZ];omega))[wrap64]
    exact RetK.keep (hk _ _ ⟨_, _, rfl, (HS.nil_ow (Γ := []) H.base).nil_ow⟩)
end Go.Proofs.Ytglnelcmcimljaa

namespace Go.Proofs.Ytglnelcmcimljaa
open Go
theorem vals_take {a : Aut} {l : List Int} {i : Nat} (h1 : 1 ≤ i) (hi : i < l.length) : Bf.vals a (l.take (i + 1)) = Bf.vals a (l.take i) ++ [Bf.ev a (l[i - 1]'(by omega)) l[i]] := by
  obtain ⟨j, rfl⟩ : ∃ j, i = j + 1 := ⟨i - 1, by omega⟩
  have e1 : l.take (j + 1) = l.take j ++ [l[j]'(by omega)] := by
    rw [List.take_add_one, List.getElem?_eq_getElem (by omega)]; rfl
  have e2 : l.take (j + 1 + 1) = l.take j ++ [l[j]'(by omega)] ++ [l[j + 1]] := by
    rw [List.take_add_one, List.getElem?_eq_getElem hi, e1]; rfl
  rw [e2, Bf.vals_snoc, e1]
  rfl
theorem c_values {h : Heap} {v w : Value} {a : Aut} {l : List Int} (Ra : Rep h v a) (Rl : Rep h w l) (ha : a.Ok) (hl : l.length ≤ 1048576) (hj : Bf.Joined (Bf.Ed (Bf.nx a)) l) : CallE Try.prog fn_impl_Automaton_values [v, w] h (fun u h' => HS h [ow u (Bf.vals a l)] h') := by
  obtain ⟨v1, v2, v3, rfl, R1, R2, R3⟩ := Rep_Aut.1 Ra
  have he := ha.e
  refine CallE.gen fun k hk => EN_impl_Automaton_values rfl ?_
  simp -implicitDefEqProofs (disch:=first|omega|(simp only[LnZ];omega))[wrap64]
  refine HS.init.alloc rfl fun b3 h1 H => ?_
  have H : HS h [bx b3 [w]] h1 := by simpa [Rl.cells] using H
  simp -implicitDefEqProofs (disch:=first|omega|(simp only[LnZ];omega))[wrap64]
  refine H.alloc rfl fun b6 h2 H => ?_
  simp -implicitDefEqProofs (disch:=first|omega|(simp only[LnZ];omega))[wrap64]
  refine H.bxst (u := .int .i64 1) rfl rfl rfl rfl (by simp) fun h3 H => ?_
  have H : HS h [bx b6 [.int .i64 1], bx b3 [w]] h3 := H
  simp -implicitDefEqProofs (disch:=first|omega|(simp only[LnZ];omega))[wrap64]
  refine wp_while (σ := Nat) (fun i e h' => ∃ (b6 : Nat) (o : Value), e = [none, none, some (.agg #[v1, v2, v3]), some (.pointer (some ⟨b3, 0, none⟩)), none, some o, some (.pointer (some ⟨b6, 0, none⟩)), none, none] ∧ 1 ≤ i ∧ i ≤ l.length + 1 ∧ HS h [bx b6 [.int .i64 i], ow o (Bf.vals a (l.take i)), bx b3 [w]] h') (fun i => l.length + 1 - i) 1 ⟨b6, .slice none 0 0, by simp, by omega, by omega, by
    have e : Bf.vals a (l.take 1) = [] := by
      cases l with
      | nil => rfl
      | cons x l => rfl
    rw [e]
    exact (H.nil_ow (α := Int)).sw1⟩ ?_
  clear H
  rintro J i _ h4 hJ ⟨b6, o, rfl, hi1, hi2, H⟩
  have HP := H.sw2
  have hlw := (Rl.on H).len
  simp -implicitDefEqProofs (disch:=first|omega|(simp only[LnZ];omega))[wrap64, H.bxld0, HP.bxld0, hlw]
  refine IteW.mk (fun hlt => ?_) (fun hge => ?_)
  · have hil : i < l.length := by omega
    have hed := (Bf.nx_Ed ha).1 (hj.at (i - 1) (by omega))
    have hi' : i - 1 + 1 = i := by omega
    have hed : ∃ e ∈ a.edges, e.frm = l[i - 1]'(by omega) ∧ e.to = l[i] := by
      obtain ⟨e, he1, he2, he3⟩ := hed
      refine ⟨e, he1, he2, ?_⟩
      rw [he3]
      congr 1
    have hvt := vals_take (a := a) hi1 hil
    obtain ⟨P, hP⟩ : ∃ P : Tr → Bool, P = fun e => decide (e.frm = l[i - 1]'(by omega) ∧ e.to = l[i]) := ⟨_, rfl⟩
    have hlen2 := Bf.vals_len (a := a) (l := l.take i)
    rw [List.length_take] at hlen2
    simp -implicitDefEqProofs (disch:=first|omega|(simp only[LnZ];omega))[wrap64]
    refine (c_IndexFunc_impl_Transition (R3.on H) (f := fn_impl_Automaton_values_1) (c1 := []) (c2 := [.pointer (some ⟨b3, 0, none⟩), .pointer (some ⟨b6, 0, none⟩)]) rfl P ?_).go ?_
    · intro h5 l5 k hk2 u Ru
      have e6 := hload_le l5 H.bxld0
      have e3 := hload_le l5 HP.bxld0
      have RI := ((Rl.on H).le l5).I
      obtain ⟨hu, hok⟩ := Rep_Tr.1 Ru
      obtain ⟨j, hj2⟩ : ∃ j, i = j + 1 := ⟨i - 1, by omega⟩
      subst hj2
      have hsub : ((j + 1 : Nat) : Int) - 1 = (j : Int) := by omega
      have hw : l[j + 1 - 1]'(by omega) = l[j]'(by omega) := rfl
      rw [hP]
      simp only
      rw [hw]
      subst hu
      refine CallE.gen fun k2 hk3 => EN_impl_Automaton_values_1 rfl ?_
      have hlt63 := Rl.lt
      by_cases q1 : a.edges[k].frm = l[j]'(by omega)
      · by_cases q2 : a.edges[k].to = l[j + 1]
        · simp -implicitDefEqProofs (disch:=first|omega|(simp only[LnZ];omega))[wrap64, Tr.v, e6, e3, hsub, RI, q1, q2]
          exact RetK.keep (hk3 _ _ ⟨Heap.le.refl _, by rw [decide_eq_true ⟨q1, q2⟩]⟩)
        · simp -implicitDefEqProofs (disch:=first|omega|(simp only[LnZ];omega))[wrap64, Tr.v, e6, e3, hsub, RI, q1, q2]
          exact RetK.keep (hk3 _ _ ⟨Heap.le.refl _, by rw [decide_eq_false (fun hh : _ ∧ _ => q2 hh.2)]⟩)
      · simp -implicitDefEqProofs (disch:=first|omega|(simp only[LnZ];omega))[wrap64, Tr.v, e6, e3, hsub, RI, q1]
        exact RetK.keep (hk3 _ _ ⟨Heap.le.refl _, by rw [decide_eq_false (fun hh : _ ∧ _ => q1 hh.1)]⟩)
    · rintro _ h6 ⟨l6, rfl⟩
      have H := H.le l6
      cases hq : a.edges.findIdx? P with
      | none =>
        rw [List.findIdx?_eq_none_iff] at hq
        obtain ⟨e, he1, he2⟩ := hed
        have := hq e he1
        rw [hP] at this
        simp [he2] at this
      | some k =>
        obtain ⟨hkl, hk1, hk2⟩ := List.findIdx?_eq_some_iff_getElem.1 hq
        have hev : Bf.ev a (l[i - 1]'(by omega)) l[i] = a.edges[k].value := by
          unfold Bf.ev
          have : a.edges.find? (fun e => decide (e.frm = l[i - 1]'(by omega) ∧ e.to = l[i])) = some a.edges[k] := by
            rw [← hP]
            exact find_take hkl hk1 (fun j hj => by simpa using hk2 j hj)
          rw [this]
        have hok := (R3.okTr hkl)
        rw [hev] at hvt
        simp -implicitDefEqProofs (disch:=first|omega|(simp only[LnZ];omega))[wrap64, (R3.on H).xTr, (R3.on H).fTr]
        refine HS.app1 (bytes := 8) H.sw1 a.edges[k].value rfl rfl rfl hok.value rfl rfl (by omega) (by omega) fun o' h7 H => ?_
        simp -implicitDefEqProofs (disch:=first|omega|(simp only[LnZ];omega))[wrap64, H.sw1.bxld0]
        refine H.alloc rfl fun b6' h8 H => ?_
        simp -implicitDefEqProofs (disch:=first|omega|(simp only[LnZ];omega))[wrap64]
        refine H.bxst (u := .int .i64 i) rfl rfl rfl rfl (by simp) fun h9 H => ?_
        have H : HS h [bx b6' [.int .i64 i], ow o' (Bf.vals a (l.take i) ++ [a.edges[k].value]), bx b6 [.int .i64 i], bx b3 [w]] h9 := H
        simp -implicitDefEqProofs (disch:=first|omega|(simp only[LnZ];omega))[wrap64, H.bxld0]
        refine H.bxst (u := .int .i64 ((i : Int) + 1)) rfl rfl rfl rfl (by simp) fun h10 H => ?_
        have H : HS h [bx b6' [.int .i64 ((i : Int) + 1)], ow o' (Bf.vals a (l.take i) ++ [a.edges[k].value]), bx b6 [.int .i64 i], bx b3 [w]] h10 := H
        simp -implicitDefEqProofs (disch:=first|omega|(simp only[LnZ];omega))[wrap64]
        refine hJ (i + 1) _ _ (by omega) ⟨b6', o', by simp, by omega, by omega, ?_⟩
        rw [hvt]
        exact H.under fun _ H => H.under fun _ H => H.drop
  · have hall : l.take i = l := List.take_of_length_le (by omega)
    rw [hall] at H
    simp -implicitDefEqProofs (disch:=first|omega|(simp only[LnZ];omega))[wrap64]
    refine (c_Clip_int H.sw1).go ?_
    intro o' h5 H
    simp -implicitDefEqProofs (disch:=first|omega|(simp only[LnZ];omega))[wrap64]
    exact RetK.keep (hk _ _ H.only1)
end Go.Proofs.Ytglnelcmcimljaa

namespace Go.Proofs.Ytglnelcmcimljaa
open Go
namespace Bf
def fe (a : Aut) (p q : Int) : Int := match a.edges.findIdx? (fun e => decide (e.frm = p ∧ e.to = q)) with
  | some k => k
  | none => -1
def viaOf (a : Aut) (f : List Int) : List Int := (List.range f.length).map fun (j : Nat) => if 0 ≤ f.getD j 0 then fe a (f.getD j 0) j else -1
theorem viaOf_len {a : Aut} {f : List Int} : (viaOf a f).length = f.length := by simp [viaOf]
theorem viaOf_at {a : Aut} {f : List Int} {j : Nat} (hj : j < f.length) : (viaOf a f)[j]'(by rw [viaOf_len]; exact hj) = if 0 ≤ f[j] then fe a f[j] j else -1 := by
  have : f.getD j 0 = f[j] := by simp [hj]
  simp only [viaOf, List.getElem_map, List.getElem_range, this]
theorem viaOf_set {a : Aut} {f : List Int} {t : Nat} {p : Int} (ht : t < f.length) (hp : 0 ≤ p) : viaOf a (f.set t p) = (viaOf a f).set t (fe a p t) := by
  refine List.ext_getElem (by simp [viaOf_len]) fun j h1 h2 => ?_
  rw [viaOf_len, List.length_set] at h1
  rw [viaOf_at (by simpa using h1)]
  by_cases e : t = j
  · subst e
    simp [hp]
  · have e1 : (f.set t p)[j]'(by simpa using h1) = f[j] := by simp [List.getElem_set, e]
    rw [e1, List.getElem_set, if_neg e, viaOf_at h1]
theorem viaOf_none {a : Aut} {n : Nat} {f : List Int} (hf : f.length = n) (h : ∀ x ∈ f, x < 0) : viaOf a f = List.replicate n (-1) := by
  refine List.ext_getElem (by simp [viaOf_len, hf]) fun j h1 h2 => ?_
  rw [viaOf_len] at h1
  rw [viaOf_at h1, if_neg (by have := h _ (List.getElem_mem h1); omega)]
  simp
theorem fe_some {a : Aut} {p q : Int} (h : ∃ e ∈ a.edges, e.frm = p ∧ e.to = q) : ∃ (k : Nat) (hk : k < a.edges.length), fe a p q = k ∧ a.edges[k].frm = p ∧ a.edges[k].to = q ∧ ev a p q = a.edges[k].value := by
  cases hq : a.edges.findIdx? (fun e => decide (e.frm = p ∧ e.to = q)) with
  | none =>
    rw [List.findIdx?_eq_none_iff] at hq
    obtain ⟨e, he1, he2⟩ := h
    have := hq e he1
    simp [he2] at this
  | some k =>
    obtain ⟨hkl, hk1, hk2⟩ := List.findIdx?_eq_some_iff_getElem.1 hq
    simp only [decide_eq_true_eq] at hk1
    refine ⟨k, hkl, by unfold fe; rw [hq], hk1.1, hk1.2, ?_⟩
    unfold ev
    have : a.edges.find? (fun e => decide (e.frm = p ∧ e.to = q)) = some a.edges[k] := find_take hkl (by simp [hk1]) (fun j hj => by simpa using hk2 j hj)
    rw [this]
theorem fe_first {a : Aut} {k : Nat} (hk : k < a.edges.length) (hno : ∀ (m : Nat) (hm : m < a.edges.length), m < k → ¬ (a.edges[m].frm = a.edges[k].frm ∧ a.edges[m].to = a.edges[k].to)) : fe a a.edges[k].frm a.edges[k].to = k := by
  unfold fe
  have : a.edges.findIdx? (fun e => decide (e.frm = a.edges[k].frm ∧ e.to = a.edges[k].to)) = some k := by
    rw [List.findIdx?_eq_some_iff_getElem]
    exact ⟨hk, by simp, fun j hj => by simpa using hno j (by omega) hj⟩
  rw [this]
theorem row_has {a : Aut} {k m : Nat} (hm : m < a.edges.length) (hk : m < k) : a.edges[m].to ∈ row a a.edges[m].frm k := by
  unfold row
  refine List.mem_map.2 ⟨a.edges[m], List.mem_filter.2 ⟨?_, by simp⟩, rfl⟩
  rw [List.mem_take_iff_getElem]
  exact ⟨m, by omega, rfl⟩
theorem s0_neg {n : Nat} {S : List Int} : ∀ x ∈ (s0 n S).1, x < 0 := by
  unfold s0
  simp only
  have : ∀ (T : List Int) (f : List Int), (∀ x ∈ f, x < 0) → ∀ x ∈ T.foldl (fun f s => f.set s.toNat (-1)) f, x < 0 := by
    intro T
    induction T with
    | nil => intro f h; exact h
    | cons y T ih =>
      intro f h
      refine ih _ fun x hx => ?_
      rcases List.mem_or_eq_of_mem_set hx with hx | rfl
      · exact h x hx
      · decide
  exact this S _ (fun x hx => by rw [List.eq_of_mem_replicate hx]; decide)
end Bf
set_option maxHeartbeats 2000000 in
theorem c_l7Tree {h : Heap} {v w : Value} {a : Aut} {S : List Int} (Ra : Rep h v a) (Rs : Rep h w S) (ha : a.Ok) (hS : incr a.acc.length (-1) S) : CallE Try.prog fn_spec_l7Tree [v, w] h (fun u h' => ∃ u1 u2, u = .tuple #[u1, u2] ∧ HS h [ow u1 (Bf.viaOf a (Bf.fin (Bf.nx a) S).1), ow u2 (Bf.fin (Bf.nx a) S).2] h') := by
  obtain ⟨v1, v2, v3, rfl, R1, R2, R3⟩ := Rep_Aut.1 Ra
  have hn := ha.n
  have he := ha.e
  have hlen := Bf.nx_len (a := a)
  have hNO := Bf.nx_ok ha
  have hS' : incr (Bf.nx a).length (-1) S := by rw [hlen]; exact hS
  have hSl := incr_len hS
  refine CallE.gen fun k hk => EN_spec_l7Tree rfl ?_
  simp -implicitDefEqProofs (disch:=first|omega|(simp only[LnZ];omega))[wrap64]
  refine HS.init.bls0 Int fun o h1 H => ?_
  simp -implicitDefEqProofs (disch:=first|omega|(simp only[LnZ];omega))[wrap64, (R2.on H).len]
  refine HS.mks (bytes := 1) (α := Bool) (z := false) (n := a.acc.length) (c := a.acc.length) H rfl rfl own_false (Nat.le_refl _) (by omega) (by omega) fun sn h2 H => ?_
  have osn := H.rep.one
  have csn := H.rep.cells
  simp -implicitDefEqProofs (disch:=first|omega|(simp only[LnZ];omega))[wrap64]
  refine wp_count a.acc.length (fun i e h' => ∃ o, e = [none, some w, some (.agg #[v1, v2, v3]), none, none, some o, some sn, some (.int .i64 i), none, none, none, none] ∧ HS h [ow sn (List.replicate a.acc.length false), ow o (List.replicate i (-1 : Int))] h') ⟨o, by simp, by simpa using H⟩ ?_
  clear H
  rintro J i _ h3 hJ hi ⟨o, rfl, H⟩
  simp -implicitDefEqProofs (disch:=first|omega|(simp only[LnZ];omega))[wrap64, (R2.on H).len]
  refine IteW.mk (fun hlt => ?_) (fun hge => ?_)
  · have hin : i < a.acc.length := by omega
    simp -implicitDefEqProofs (disch:=first|omega|(simp only[LnZ];omega))[wrap64, setC]
    refine HS.app1 (bytes := 8) H.sw1 (-1 : Int) rfl rfl rfl ⟨by omega, by omega⟩ rfl rfl (by simp; omega) (by simp; omega) fun o' h4 H => ?_
    simp -implicitDefEqProofs (disch:=first|omega|(simp only[LnZ];omega))[wrap64]
    exact hJ _ _ hin ⟨o', by simp, by rw [List.replicate_succ']; exact H.sw1⟩
  obtain rfl : i = a.acc.length := by omega
  simp -implicitDefEqProofs (disch:=first|omega|(simp only[LnZ];omega))[wrap64]
  refine H.appPL (α := Int) (l2 := S) rfl rfl (Rs.on H) rfl rfl (by omega) fun q h4 H => ?_
  simp -implicitDefEqProofs (disch:=first|omega|(simp only[LnZ];omega))[wrap64]
  refine wp_count S.length (fun i e h' => e = [none, some w, some (.agg #[v1, v2, v3]), none, none, some o, some sn, none, some q, some (.int .i64 i), none, none] ∧ HS h [ow sn (Bf.sen ((S.take i).foldl (fun f s => f.set s.toNat (-1)) (List.replicate a.acc.length (-2)))), ow q S, ow o (List.replicate a.acc.length (-1 : Int))] h') ⟨by simp, by
    have : Bf.sen (List.replicate a.acc.length (-2)) = List.replicate a.acc.length false := by simp [Bf.sen]
    simp only [List.take_zero, List.foldl_nil, this]
    exact H.sw1⟩ ?_
  clear H
  rintro J1 i _ h5 hJ1 hi ⟨rfl, H⟩
  simp -implicitDefEqProofs (disch:=first|omega|(simp only[LnZ];omega))[wrap64, (Rs.on H).len]
  refine IteW.mk (fun hlt1 => ?_) (fun hge1 => ?_)
  · have hix : i < S.length := by omega
    have hsx := incr_mem hS _ (List.getElem_mem hix)
    obtain ⟨x, hx⟩ : ∃ x : Nat, S[i] = x := ⟨S[i].toNat, by omega⟩
    have hfl : ∀ (T : List Int) (f : List Int), (T.foldl (fun f s => f.set s.toNat (-1)) f).length = f.length := by
      intro T
      induction T with
      | nil => intro f; rfl
      | cons y T ih => intro f; show (T.foldl _ (f.set y.toNat (-1))).length = _; rw [ih]; simp
    have hfl := hfl (S.take i) (List.replicate a.acc.length (-2))
    have hst : (S.take (i + 1)).foldl (fun f s => f.set s.toNat (-1)) (List.replicate a.acc.length (-2)) = ((S.take i).foldl (fun f s => f.set s.toNat (-1)) (List.replicate a.acc.length (-2))).set x (-1) := by
      rw [List.take_add_one, List.getElem?_eq_getElem hix, List.foldl_append, hx]
      show ((S.take i).foldl (fun f s => f.set s.toNat (-1)) (List.replicate a.acc.length (-2))).set ((x : Int)).toNat (-1) = _
      rw [Int.toNat_natCast]
    generalize (S.take i).foldl (fun f s => f.set s.toNat (-1)) (List.replicate a.acc.length (-2)) = F at *
    rw [List.length_replicate] at hfl
    have hsl := Bf.sen_len (f := F)
    simp -implicitDefEqProofs (disch:=first|omega|(simp only[LnZ];omega))[wrap64, (Rs.on H).I, hx, H.rep.B]
    refine H.storeF true (i := x) (by omega) rfl rfl trivial rfl fun h6 H => ?_
    simp -implicitDefEqProofs (disch:=first|omega|(simp only[LnZ];omega))[wrap64]
    exact hJ1 _ _ hix ⟨by simp, by rw [hst, Bf.sen_set (by decide)]; exact H⟩
  have hiS : i = S.length := by omega
  subst hiS
  have hv0 := Bf.viaOf_none (a := a) (n := a.acc.length) (f := (Bf.sN (Bf.nx a) S 0).1) (by rw [(Bf.sN_inv hNO hS' 0).1.fl, hlen]) Bf.s0_neg
  have H : HS h [ow sn (Bf.sen (Bf.sN (Bf.nx a) S 0).1), ow q (Bf.sN (Bf.nx a) S 0).2, ow o (Bf.viaOf a (Bf.sN (Bf.nx a) S 0).1)] h5 := by
    rw [hv0]
    rw [List.take_length] at H
    show HS h [ow sn (Bf.sen (Bf.s0 (Bf.nx a).length S).1), ow q S, _] h5
    rw [hlen]
    exact H
  clear hv0
  simp -implicitDefEqProofs (disch:=first|omega|(simp only[LnZ];omega))[wrap64]
  refine wp_while (σ := Nat) (fun i e h' => ∃ q, e = [none, none, some (.agg #[v1, v2, v3]), none, none, some o, some sn, none, some q, none, some (.int .i64 i), none] ∧ i ≤ (Bf.sN (Bf.nx a) S i).2.length ∧ HS h [ow sn (Bf.sen (Bf.sN (Bf.nx a) S i).1), ow q (Bf.sN (Bf.nx a) S i).2, ow o (Bf.viaOf a (Bf.sN (Bf.nx a) S i).1)] h') (fun i => a.acc.length + 1 - i) 0 ⟨q, by simp, by omega, H⟩ ?_
  clear H
  rintro J i _ h6 hJ ⟨q, rfl, hil, H⟩
  obtain ⟨bi, bd⟩ := Bf.sN_inv hNO hS' i
  have hle := bi.le
  have hsu := Bf.sN_succ (next := Bf.nx a) (S := S) (n := i)
  have hfe := Bf.fin_eq hNO hS' (n := i)
  have hnl := Bf.sN_le hNO hS' (show i ≤ i + 1 by omega)
  simp -implicitDefEqProofs (disch:=first|omega|(simp only[LnZ];omega))[wrap64, H.sw1.rep.len]
  refine IteW.mk (fun hlt => ?_) (fun hge => ?_)
  · have hlt : i < (Bf.sN (Bf.nx a) S i).2.length := by omega
    have hsu := hsu hlt
    have hat := bi.at hlt
    have hrow := hNO.row bi hlt
    obtain ⟨t, ht⟩ : ∃ t : Nat, (Bf.sN (Bf.nx a) S i).2.getD i 0 = t := ⟨_, (Int.toNat_of_nonneg hat.1).symm⟩
    rw [ht, Int.toNat_natCast] at hat hsu hrow
    have htn : t < a.acc.length := by omega
    rw [Bf.nx_getD htn] at hsu hrow
    have hfold := fun (l : List Int) (hl : ∀ y ∈ l, y ∈ Bf.row a t a.edges.length) => bi.fold (i := i) hlt (l := l) (fun y hy => by rw [ht]; exact hrow y (hl y hy))
    rw [ht] at hfold
    generalize hP0 : Bf.sN (Bf.nx a) S i = P0 at *
    simp -implicitDefEqProofs (disch:=first|omega|(simp only[LnZ];omega))[wrap64]
    refine wp_count a.edges.length (fun k e h' => ∃ q, e = [none, none, some (.agg #[v1, v2, v3]), none, none, some o, some sn, none, some q, none, some (.int .i64 i), some (.int .i64 k)] ∧ HS h [ow sn (Bf.sen (Bf.sF (Bf.row a t k) t P0).1), ow q (Bf.sF (Bf.row a t k) t P0).2, ow o (Bf.viaOf a (Bf.sF (Bf.row a t k) t P0).1)] h') ⟨q, by simp, by
      have : Bf.row a t 0 = [] := by simp [Bf.row]
      rw [this]; exact H⟩ ?_
    clear H
    rintro J2 k _ h7 hJ2 hk2 ⟨q, rfl, H⟩
    simp -implicitDefEqProofs (disch:=first|omega|(simp only[LnZ];omega))[wrap64, (R3.on H).len]
    refine IteW.mk (fun hlt2 => ?_) (fun hge2 => ?_)
    · have hkx : k < a.edges.length := by omega
      have hsub : ∀ y ∈ Bf.row a t k, y ∈ Bf.row a t a.edges.length := by
        intro y hy
        rw [Bf.row_mem']
        unfold Bf.row at hy
        obtain ⟨e, he1, rfl⟩ := List.mem_map.1 hy
        obtain ⟨he2, he3⟩ := List.mem_filter.1 he1
        exact ⟨e, List.mem_of_mem_take he2, by simpa using he3, rfl⟩
      obtain ⟨g1, g2, g3⟩ := hfold (Bf.row a t k) hsub
      have hrs := Bf.row_succ (q := (t : Int)) hkx
      have hfirst := fun hno => Bf.fe_first (a := a) hkx hno
      have hhas := fun (m : Nat) (hm : m < a.edges.length) (hmk : m < k) => Bf.row_has (a := a) hm hmk
      have hq := g2.at hlt
      rw [ht] at hq
      have hqi : i < (Bf.sF (Bf.row a t k) t P0).2.length := by have := g2.len; omega
      have hgl := g1.le
      have hgf := g1.fl
      generalize hPk : Bf.sF (Bf.row a t k) t P0 = P at *
      have hqi2 : P.2[i] = t := by rw [← hq]; simp [hqi]
      obtain ⟨f, g, hf, hg, hfn, hgn⟩ := ha.tr (List.getElem_mem hkx)
      by_cases e1 : f = t
      case neg =>
        have e1i : ¬ (f : Int) = t := by omega
        rw [if_neg (by rw [hf]; exact e1i)] at hrs
        simp -implicitDefEqProofs (disch:=first|omega|(simp only[LnZ];omega))[wrap64, (R3.on H).xTr, (R3.on H).fTr, hf, H.sw1.rep.I, hqi2, e1, e1i]
        exact hJ2 _ _ hkx ⟨q, by simp, by rw [hrs, hPk]; exact H⟩
      subst e1
      rw [if_pos hf, hg] at hrs
      have hs1 : Bf.sF (Bf.row a f (k + 1)) f P0 = Bf.s1 f P g := by rw [hrs, Bf.sF_snoc, hPk]
      have hgP : g < P.1.length := by omega
      have hsl := Bf.sen_len (f := P.1)
      have hsa := Bf.sen_at hgP
      have hgd : P.1.getD g 0 = P.1[g] := by simp [hgP]
      rw [Bf.s1, Int.toNat_natCast, hgd] at hs1
      by_cases q2 : P.1[g] = -2
      · rw [if_pos q2] at hs1
        have hsa2 : (Bf.sen P.1)[g]'(by omega) = false := by rw [hsa]; simp [q2]
        have hfirst := hfirst (fun m hm hmk hh => by
          have := g3 _ (by have h9 := hhas m hm hmk; rw [hh.1, hf] at h9; exact h9)
          rw [hh.2, hg, Int.toNat_natCast, hgd] at this
          exact this q2)
        rw [hf, hg] at hfirst
        have hvs := Bf.viaOf_set (a := a) (f := P.1) (t := g) (p := (f : Int)) hgP (by omega)
        rw [hfirst] at hvs
        have hvl := Bf.viaOf_len (a := a) (f := P.1)
        simp -implicitDefEqProofs (disch:=first|omega|(simp only[LnZ];omega))[wrap64, (R3.on H).xTr, (R3.on H).fTr, hf, hg, H.sw1.rep.I, hqi2, H.rep.B, hsa2]
        refine H.storeF true (i := g) (by omega) rfl rfl trivial rfl fun h8 H => ?_
        have H := H.sw2
        simp -implicitDefEqProofs (disch:=first|omega|(simp only[LnZ];omega))[wrap64, (R3.on H).xTr, (R3.on H).fTr, hg, H.rep.I]
        refine H.storeF (k : Int) (i := g) (by omega) rfl rfl ⟨by omega, by omega⟩ rfl fun h9 H => ?_
        simp -implicitDefEqProofs (disch:=first|omega|(simp only[LnZ];omega))[wrap64, (R3.on H).xTr, (R3.on H).fTr, hg, setC]
        refine HS.app1 (bytes := 8) H.sw2 (g : Int) rfl rfl rfl ⟨by omega, by omega⟩ rfl rfl (by omega) (by omega) fun q' h10 H => ?_
        simp -implicitDefEqProofs (disch:=first|omega|(simp only[LnZ];omega))[wrap64]
        refine hJ2 _ _ hkx ⟨q', by simp, ?_⟩
        rw [hs1]
        simp only
        rw [hvs, Bf.sen_set (by omega)]
        exact H.sw2
      · rw [if_neg q2] at hs1
        have hsa2 : (Bf.sen P.1)[g]'(by omega) = true := by rw [hsa]; simp [q2]
        simp -implicitDefEqProofs (disch:=first|omega|(simp only[LnZ];omega))[wrap64, (R3.on H).xTr, (R3.on H).fTr, hf, hg, H.sw1.rep.I, hqi2, H.rep.B, hsa2]
        exact hJ2 _ _ hkx ⟨q, by simp, by rw [hs1]; exact H⟩
    · obtain rfl : k = a.edges.length := by omega
      rw [← hsu] at H
      have hlen3 := hnl.len
      simp -implicitDefEqProofs (disch:=first|omega|(simp only[LnZ];omega))[wrap64]
      exact hJ (i + 1) _ _ (by omega) ⟨q, by simp, by omega, H⟩
  · rw [hfe (by omega)] at H
    simp -implicitDefEqProofs (disch:=first|omega|(simp only[LnZ];omega))[wrap64]
    exact RetK.keep (hk _ _ ⟨o, q, rfl, H.sw2.under fun _ H => H.sw1.only1⟩)
end Go.Proofs.Ytglnelcmcimljaa

namespace Go.Proofs.Ytglnelcmcimljaa
open Go
def H_spec_l10Sorted : Hint := ⟨[(0, false), (1, false), (4, false), (5, false), (6, false), (7, false)], [[2]]⟩
def K121_1 : C := .seq (.pl <| .e 6 1 <|
 .m 6 3 <|
 .m 2 6 .done) (.ret)
@[simp] def W121_1 := C.w K121_1.eq_1
def K121_2 : Pl := .m 3 9 .done
@[simp] def W121_2 := Pl.w K121_2.eq_1
def K121_3 : C := .pl <| .e 6 4 <|
 .m 6 3 <|
 .m 7 1 <|
 .o (.psl 8 [.int .i64 0] [(0, 1, .v 7)]) <|
 .c 9 (.app 8 1 [.int .i64 0] (.o (.v 6)) (.p 1 8)) K121_2
@[simp] def W121_3 := C.w K121_3.eq_1
def K121_4 : C := .cond 6 (.v 7) K121_3 (.skip)
@[simp] def W121_4 := C.w K121_4.eq_1
def K121_5 : C := .seq (.seq (.pl <| .e 6 2 <|
 .m 6 4 <|
 .x 7 (.un .not (.v 6)) .done) K121_4) K121_1
@[simp] def W121_5 := C.w K121_5.eq_1
def K121_6 : C := .pl <| .e 6 2 <|
 .m 6 5 <|
 .x 7 (.bin .add (.v 6) (.c (.int .i64 1))) <|
 .m 5 7 .done
@[simp] def W121_6 := C.w K121_6.eq_1
def K121_7 : Pl := .m 3 12 .done
@[simp] def W121_7 := Pl.w K121_7.eq_1
def K121_8 : C := .pl <| .e 6 7 <|
 .m 6 3 <|
 .m 7 0 <|
 .m 8 5 <|
 .x 9 (.ia 1 (.v 7) (.v 8)) <|
 .l 10 9 <|
 .o (.psl 11 [.int .i64 0] [(0, 1, .v 10)]) <|
 .c 12 (.app 8 1 [.int .i64 0] (.o (.v 6)) (.p 1 11)) K121_7
@[simp] def W121_8 := C.w K121_8.eq_1
def K121_9 : C := .pl <| .e 6 0 <|
 .x 4 (.mv (.c (.bool true))) .done
@[simp] def W121_9 := C.w K121_9.eq_1
def K121_10 : Pl := .m 3 9 .done
@[simp] def W121_10 := Pl.w K121_10.eq_1
def K121_11 : C := .seq (.pl <| .e 6 4 <|
 .m 6 3 <|
 .m 7 1 <|
 .o (.psl 8 [.int .i64 0] [(0, 1, .v 7)]) <|
 .c 9 (.app 8 1 [.int .i64 0] (.o (.v 6)) (.p 1 8)) K121_10) K121_9
@[simp] def W121_11 := C.w K121_11.eq_1
def K121_12 : C := .cond 6 (.v 15) K121_11 (.skip)
@[simp] def W121_12 := C.w K121_12.eq_1
def K121_13 : C := .seq (.seq (.pl <| .e 6 10 <|
 .m 6 0 <|
 .m 7 5 <|
 .x 8 (.ia 1 (.v 6) (.v 7)) <|
 .l 9 8 <|
 .m 10 1 <|
 .x 11 (.bin .gtr (.v 9) (.v 10)) <|
 .m 12 11 <|
 .y 12 (.px (some 13) (.mv (.v 4))) <|
 .y 12 (.px (some 14) (.un .not (.v 13))) <|
 .x 15 (.pick (.v 12) (.v 14) (.c (.bool false))) .done) K121_12) K121_8
@[simp] def W121_13 := C.w K121_13.eq_1
def K121_14 : C := .seq (.pl <| .e 6 1 <|
 .m 6 0 <|
 .m 2 6 .done) (.ret)
@[simp] def W121_14 := C.w K121_14.eq_1
def K121_15 : C := .cond 6 (.v 11) K121_14 (.skip)
@[simp] def W121_15 := C.w K121_15.eq_1
def K121_16 : C := .seq (.block 1 (.seq (.seq (.pl <| .e 6 6 <|
 .m 6 0 <|
 .m 7 5 <|
 .x 8 (.ia 1 (.v 6) (.v 7)) <|
 .l 9 8 <|
 .m 10 1 <|
 .x 11 (.bin .eql (.v 9) (.v 10)) .done) K121_15) K121_13)) K121_6
@[simp] def W121_16 := C.w K121_16.eq_1
def K121_17 : C := .cond 6 (.v 9) (.skip) (.exit 0)
@[simp] def W121_17 := C.w K121_17.eq_1
def K121_18 : C := .seq (.seq (.pl <| .e 6 4 <|
 .m 6 5 <|
 .m 7 0 <|
 .x 8 (.lenV (.v 7)) <|
 .x 9 (.bin .lss (.v 6) (.v 8)) .done) K121_17) K121_16
@[simp] def W121_18 := C.w K121_18.eq_1
def K121_19 : C := .block 0 (.loop 6 [2] K121_18)
@[simp] def W121_19 := C.w K121_19.eq_1
def K121_20 : C := .seq (.seq (.pl <| .e 6 0 <|
 .x 5 (.mv (.c (.int .i64 0))) .done) K121_19) K121_5
@[simp] def W121_20 := C.w K121_20.eq_1
def K121_21 : C := .seq (.pl <| .e 6 0 <|
 .x 4 (.mv (.c (.bool false))) .done) K121_20
@[simp] def W121_21 := C.w K121_21.eq_1
def K121_22 : Pl := .m 3 6 .done
@[simp] def W121_22 := Pl.w K121_22.eq_1
def K121_23 : C := .seq (.pl <| .e 6 1 <|
 .c 6 (.bls 1 0 [.int .i64 0] []) K121_22) K121_21
@[simp] def W121_23 := C.w K121_23.eq_1
def B_spec_l10Sorted : C := .seq (.pl <| .e 6 0 <|
 .x 2 (.mv (.c (.slice none 0 0))) .done) K121_23
@[simp] def WB_spec_l10Sorted := C.w B_spec_l10Sorted.eq_1
def R_spec_l10Sorted : FIR := ⟨B_spec_l10Sorted, 6, [(2, none)]⟩
theorem IR_spec_l10Sorted : cfun Try.prog H_spec_l10Sorted Try.f121 = some R_spec_l10Sorted := by kernel_rfl
theorem EN_spec_l10Sorted : ENT Try.prog B_spec_l10Sorted [(2, none)] 2 6 fn_spec_l10Sorted := fun hargs hw => enter Try.func121 rfl IR_spec_l10Sorted hargs hw
end Go.Proofs.Ytglnelcmcimljaa

namespace Go.Proofs.Ytglnelcmcimljaa
open Go
theorem c_l10Sorted {g h : Heap} {Γ : List HP} {v : Value} {l : List Int} {n y : Int} (H : HS g (ow v l :: Γ) h) (hl : incr n (-1) l) (hy : -1 < y ∧ y < n) (hn : n ≤ 1048576) : CallE Try.prog fn_spec_l10Sorted [v, .int .i64 y] h (fun u h' => ∃ l', HS g (ow u l' :: Γ) h' ∧ incr n (-1) l' ∧ ∀ x, x ∈ l' ↔ x ∈ l ∨ x = y) := by
  have hll := incr_len hl (by omega)
  have hp := (incr_iff.1 hl).1
  refine CallE.gen fun k hk => EN_spec_l10Sorted rfl ?_
  simp -implicitDefEqProofs (disch:=first|omega|(simp only[LnZ];omega))[wrap64]
  refine H.bls0 Int fun o h1 H => ?_
  simp -implicitDefEqProofs (disch:=first|omega|(simp only[LnZ];omega))[wrap64]
  refine wp_count l.length (fun i e h' => ∃ o dn, e = [some v, some (.int .i64 y), none, some o, some (.bool dn), some (.int .i64 i)] ∧ ∃ O : List Int, HS g (ow o O :: ow v l :: Γ) h' ∧ InsI l y i dn O) ⟨o, false, by simp, [], H, InsI.zero⟩ ?_
  clear H
  rintro J i _ h2 hJ hi ⟨o, dn, rfl, O, H, hI⟩
  have hol := hI.len
  simp -implicitDefEqProofs (disch:=first|omega|(simp only[LnZ];omega))[wrap64, H.sw1.rep.len]
  refine IteW.mk (fun hlt => ?_) (fun hge => ?_)
  · have hix : i < l.length := by omega
    have hxb := H.sw1.rep.okI hix
    by_cases h1 : l[i] = y
    · simp -implicitDefEqProofs (disch:=first|omega|(simp only[LnZ];omega))[wrap64, H.sw1.rep.I, h1]
      refine RetK.keep (hk _ _ ⟨l, H.drop, hl, fun x => ⟨.inl, fun hh => hh.elim id fun e => ?_⟩⟩)
      rw [e, ← h1]; exact List.getElem_mem hix
    by_cases h2 : y < l[i]
    · cases dn with
      | false =>
        simp -implicitDefEqProofs (disch:=first|omega|(simp only[LnZ];omega))[wrap64, H.sw1.rep.I, h1, h2]
        refine H.app1 y rfl rfl rfl ⟨by omega, by omega⟩ rfl rfl (by omega) (by omega) fun o1 h3 H => ?_
        simp -implicitDefEqProofs (disch:=first|omega|(simp only[LnZ];omega))[wrap64, H.sw1.rep.I]
        refine H.app1 l[i] rfl rfl rfl hxb rfl rfl (by simp; omega) (by simp; omega) fun o2 h4 H => ?_
        simp -implicitDefEqProofs (disch:=first|omega|(simp only[LnZ];omega))[wrap64]
        exact hJ _ _ hix ⟨o2, true, rfl, _, H, hI.big hp hix h2⟩
      | true =>
        simp -implicitDefEqProofs (disch:=first|omega|(simp only[LnZ];omega))[wrap64, H.sw1.rep.I, h1, h2]
        refine H.app1 l[i] rfl rfl rfl hxb rfl rfl (by omega) (by omega) fun o2 h4 H => ?_
        simp -implicitDefEqProofs (disch:=first|omega|(simp only[LnZ];omega))[wrap64]
        exact hJ _ _ hix ⟨o2, true, rfl, _, H, hI.more hix h1⟩
    · simp -implicitDefEqProofs (disch:=first|omega|(simp only[LnZ];omega))[wrap64, H.sw1.rep.I, h1, h2]
      refine H.app1 l[i] rfl rfl rfl hxb rfl rfl (by omega) (by omega) fun o2 h4 H => ?_
      simp -implicitDefEqProofs (disch:=first|omega|(simp only[LnZ];omega))[wrap64]
      refine hJ _ _ hix ⟨o2, dn, rfl, _, H, ?_⟩
      cases dn with
      | false => exact hI.small hix (by omega)
      | true => exact hI.more hix h1
  · obtain ⟨r1, r2⟩ := hI.result hl hy (by omega)
    cases dn with
    | false =>
      simp -implicitDefEqProofs (disch:=first|omega|(simp only[LnZ];omega))[wrap64]
      refine H.app1 y rfl rfl rfl ⟨by omega, by omega⟩ rfl rfl (by omega) (by omega) fun o1 h3 H => ?_
      simp -implicitDefEqProofs (disch:=first|omega|(simp only[LnZ];omega))[wrap64]
      exact RetK.keep (hk _ _ ⟨_, H.sw1.drop, r1, r2⟩)
    | true =>
      simp -implicitDefEqProofs (disch:=first|omega|(simp only[LnZ];omega))[wrap64]
      exact RetK.keep (hk _ _ ⟨_, H.sw1.drop, r1, r2⟩)
def R2 {α : Type} [Ty α] (b : Bool) (y : α) (h : Heap) (u : Value) (h' : Heap) : Prop := ∃ v, u = .tuple #[v, .bool b] ∧ HS h [ow v y] h'
end Go.Proofs.Ytglnelcmcimljaa

namespace Go.Proofs.Ytglnelcmcimljaa
open Go
theorem c_l6Letters {h : Heap} {w : Value} {W : List Int} (Rw : Rep h w W) : CallE Try.prog fn_spec_l6Letters [w] h (fun u h' => h' = h ∧ u = .bool (decide (∀ x ∈ W, 0 ≤ x ∧ x ≤ 7))) := by
  have hL := Rw.lt
  refine CallE.gen fun k hk => EN_spec_l6Letters rfl ?_
  simp -implicitDefEqProofs (disch:=first|omega|(simp only[LnZ];omega))[wrap64]
  refine wp_count W.length (fun i e h' => e = [some w, none, some (.int .i64 i)] ∧ h' = h ∧ ∀ (j : Nat) (hj : j < W.length), j < i → 0 ≤ W[j] ∧ W[j] ≤ 7) ⟨rfl, rfl, fun j _ hj => absurd hj (Nat.not_lt_zero j)⟩ ?_
  rintro J i _ h1 hJ hi ⟨rfl, rfl, hn⟩
  simp -implicitDefEqProofs (disch:=first|omega|(simp only[LnZ];omega))[wrap64, Rw.len]
  refine IteW.mk (fun hlt => ?_) (fun hge => ?_)
  · have hlx : i < W.length := by omega
    have hno : ¬ (0 ≤ W[i] ∧ W[i] ≤ 7) → k (.bool false) h1 := fun hx => hk _ _ ⟨rfl, by congr 1; rw [eq_comm, decide_eq_false_iff_not]; exact fun hh => hx (hh _ (List.getElem_mem hlx))⟩
    by_cases h1 : W[i] < 0
    · simp -implicitDefEqProofs (disch:=first|omega|(simp only[LnZ];omega))[wrap64, Rw.I, h1]
      exact RetK.keep (hno (by omega))
    by_cases h2 : 7 < W[i]
    · simp -implicitDefEqProofs (disch:=first|omega|(simp only[LnZ];omega))[wrap64, Rw.I, h1, h2]
      exact RetK.keep (hno (by omega))
    simp -implicitDefEqProofs (disch:=first|omega|(simp only[LnZ];omega))[wrap64, Rw.I, h1, h2]
    refine hJ _ _ hlx ⟨rfl, rfl, fun j hj hji => ?_⟩
    by_cases hji2 : j = i
    · subst hji2; omega
    · exact hn j hj (by omega)
  · simp -implicitDefEqProofs (disch:=first|omega|(simp only[LnZ];omega))[wrap64]
    refine RetK.keep (hk _ _ ⟨rfl, ?_⟩)
    congr 1
    rw [eq_comm, decide_eq_true_iff]
    intro x hx
    obtain ⟨j, hj, rfl⟩ := List.mem_iff_getElem.1 hx
    exact hn j hj (by omega)
theorem c_l12Word {h : Heap} {w : Value} {W : List Int} (Rw : Rep h w W) : CallE Try.prog fn_spec_l12Word [w] h (fun u h' => h' = h ∧ u = .bool (decide (Wok W))) := by
  have hL := Rw.lt
  refine CallE.gen fun k hk => EN_spec_l12Word rfl ?_
  simp -implicitDefEqProofs (disch:=first|omega|(simp only[LnZ];omega))[wrap64]
  refine (c_l6Letters Rw).go ?_
  rintro _ _ ⟨rfl, rfl⟩
  by_cases h1 : ∀ x ∈ W, 0 ≤ x ∧ x ≤ 7
  · rw [decide_eq_true h1]
    simp -implicitDefEqProofs (disch:=first|omega|(simp only[LnZ];omega))[wrap64, Rw.len]
    refine RetK.keep (hk _ _ ⟨rfl, ?_⟩)
    congr 1
    rw [Bool.eq_iff_iff, decide_eq_true_iff, decide_eq_true_iff]
    exact ⟨fun h => ⟨by omega, h1⟩, fun h => by have := h.1; omega⟩
  · rw [decide_eq_false h1]
    simp -implicitDefEqProofs (disch:=first|omega|(simp only[LnZ];omega))[wrap64]
    refine RetK.keep (hk _ _ ⟨rfl, ?_⟩)
    congr 1
    rw [eq_comm, decide_eq_false_iff_not]
    exact fun hh => h1 hh.2
theorem c_l12Only {h : Heap} {s l : Value} {S : List Int} {L : List Bool} (Rs : Rep h s S) (Rl : Rep h l L) (hS : ∀ x ∈ S, 0 ≤ x ∧ x < L.length) (hSl : S.length ≤ 1048576) : CallE Try.prog fn_spec_l12Only [s, l] h (fun u h' => HS h [ow u (S.filter fun x => L.getD x.toNat false)] h') := by
  have hll := Rl.lt
  refine CallE.gen fun k hk => EN_spec_l12Only rfl ?_
  simp -implicitDefEqProofs (disch:=first|omega|(simp only[LnZ];omega))[wrap64]
  refine HS.init.bls0 Int fun o h1 H => ?_
  simp -implicitDefEqProofs (disch:=first|omega|(simp only[LnZ];omega))[wrap64]
  refine wp_count S.length (fun i e h' => ∃ o, e = [some s, some l, none, some o, some (.int .i64 i)] ∧ HS h [ow o ((S.take i).filter fun x => L.getD x.toNat false)] h') ⟨o, by simp, by simpa using H⟩ ?_
  clear H
  rintro J i _ h2 hJ hi ⟨o, rfl, H⟩
  have hfl := List.length_filter_le (fun x : Int => L.getD x.toNat false) (S.take i)
  simp only [List.length_take] at hfl
  simp -implicitDefEqProofs (disch:=first|omega|(simp only[LnZ];omega))[wrap64, (Rs.on H).len]
  refine IteW.mk (fun hlt => ?_) (fun hge => ?_)
  · have hix : i < S.length := by omega
    have hx := hS _ (List.getElem_mem hix)
    obtain ⟨q, hq⟩ : ∃ q : Nat, S[i] = q := ⟨S[i].toNat, by omega⟩
    have hqn : q < L.length := by omega
    have hgd : L.getD q false = L[q] := by simp [hqn]
    have hfm : (S.take (i + 1)).filter (fun x => L.getD x.toNat false) = (S.take i).filter (fun x => L.getD x.toNat false) ++ if L[q] then [(q : Int)] else [] := by
      rw [List.take_add_one, List.getElem?_eq_getElem hix, List.filter_append]
      congr 1
      simp only [Option.toList_some, List.filter_cons, List.filter_nil, hq, Int.toNat_natCast, hgd]
    cases hb : L[q] with
    | true =>
      simp -implicitDefEqProofs (disch:=first|omega|(simp only[LnZ];omega))[wrap64, (Rs.on H).I, hq, (Rl.on H).B, hb]
      refine H.app1 (q : Int) rfl rfl rfl ⟨by omega, by omega⟩ rfl rfl (by omega) (by omega) fun o' h3 H => ?_
      simp -implicitDefEqProofs (disch:=first|omega|(simp only[LnZ];omega))[wrap64]
      refine hJ _ _ hix ⟨o', rfl, ?_⟩
      rw [hfm, hb]; exact H
    | false =>
      simp -implicitDefEqProofs (disch:=first|omega|(simp only[LnZ];omega))[wrap64, (Rs.on H).I, hq, (Rl.on H).B, hb]
      refine hJ _ _ hix ⟨o, rfl, ?_⟩
      rw [hfm, hb]; simpa using H
  simp -implicitDefEqProofs (disch:=first|omega|(simp only[LnZ];omega))[wrap64]
  rw [List.take_of_length_le (by omega)] at H
  exact RetK.keep (hk _ _ H)
theorem c_l12Step {h : Heap} {v s : Value} {a : Aut} {S : List Int} {letter : Int} (Ra : Rep h v a) (Rs : Rep h s S) (ha : a.Ok) : CallE Try.prog fn_spec_l12Step [v, s, .int .i64 letter] h (fun u h' => ∃ T, HS h [ow u T] h' ∧ incr a.acc.length (-1) T ∧ ∀ x, x ∈ T ↔ ∃ e ∈ a.edges, e.frm ∈ S ∧ e.on letter = true ∧ e.to = x) := by
  obtain ⟨v1, v2, v3, rfl, R1, R2, R3⟩ := Rep_Aut.1 Ra
  have hn := ha.n
  have he := ha.e
  refine CallE.gen fun k hk => EN_spec_l12Step rfl ?_
  simp -implicitDefEqProofs (disch:=first|omega|(simp only[LnZ];omega))[wrap64]
  refine HS.init.bls0 Int fun o h1 H => ?_
  simp -implicitDefEqProofs (disch:=first|omega|(simp only[LnZ];omega))[wrap64]
  refine wp_count a.edges.length (fun i e h' => ∃ o, e = [none, some s, some (.int .i64 letter), some (.agg #[v1, v2, v3]), none, some o, some (.int .i64 i)] ∧ ∃ T : List Int, HS h [ow o T] h' ∧ incr a.acc.length (-1) T ∧ ∀ x, x ∈ T ↔ ∃ e ∈ a.edges.take i, e.frm ∈ S ∧ e.on letter = true ∧ e.to = x) ⟨o, by simp, [], H, trivial, by simp⟩ ?_
  clear H
  rintro J i _ h2 hJ hi ⟨o, rfl, T, H, hT, hTm⟩
  simp -implicitDefEqProofs (disch:=first|omega|(simp only[LnZ];omega))[wrap64, (R3.on H).len]
  refine IteW.mk (fun hlt => ?_) (fun hge => ?_)
  · have hix : i < a.edges.length := by omega
    have hx := ha.t hix
    have hv := R3.okTr hix
    unfold Tr.Ok at hx
    have hstep : ∀ T' : List Int, (∀ x, x ∈ T' ↔ x ∈ T ∨ (a.edges[i].frm ∈ S ∧ a.edges[i].on letter = true ∧ a.edges[i].to = x)) → ∀ x, x ∈ T' ↔ ∃ e ∈ a.edges.take (i + 1), e.frm ∈ S ∧ e.on letter = true ∧ e.to = x := by
      intro T' hT' x
      rw [hT', hTm]
      constructor
      · rintro (⟨e, h1, h2⟩ | h1)
        · exact ⟨e, (take_mem_succ hix).2 (.inl h1), h2⟩
        · exact ⟨_, (take_mem_succ hix).2 (.inr rfl), h1⟩
      · rintro ⟨e, h1, h2⟩
        rcases (take_mem_succ hix).1 h1 with h1 | rfl
        · exact .inl ⟨e, h1, h2⟩
        · exact .inr h2
    simp -implicitDefEqProofs (disch:=first|omega|(simp only[LnZ];omega))[wrap64, (R3.on H).xTr, (R3.on H).fTr, Tr.v]
    refine (c_l4In (Rs.on H)).go ?_
    rintro _ _ ⟨rfl, rfl⟩
    by_cases h1 : a.edges[i].frm ∈ S
    case neg =>
      simp -implicitDefEqProofs (disch:=first|omega|(simp only[LnZ];omega))[wrap64, h1]
      exact hJ _ _ hix ⟨o, by simp, T, H, hT, hstep T fun x => ⟨.inl, fun hh => hh.elim id fun hh => absurd hh.1 h1⟩⟩
    simp -implicitDefEqProofs (disch:=first|omega|(simp only[LnZ];omega))[wrap64, h1, (R3.on H).xTr, Tr.v]
    refine (c_l7On (t := a.edges[i]) (Rep_Tr.2 ⟨by simp [Tr.v], hv⟩)).go ?_
    rintro _ _ ⟨rfl, rfl⟩
    by_cases h3 : a.edges[i].on letter = true
    case neg =>
      simp -implicitDefEqProofs (disch:=first|omega|(simp only[LnZ];omega))[wrap64, h3]
      exact hJ _ _ hix ⟨o, by simp, T, H, hT, hstep T fun x => ⟨.inl, fun hh => hh.elim id fun hh => absurd hh.2.1 h3⟩⟩
    simp -implicitDefEqProofs (disch:=first|omega|(simp only[LnZ];omega))[wrap64, h3, (R3.on H).xTr, (R3.on H).fTr, Tr.v]
    refine (c_l10Sorted H hT (by omega) (by omega)).go ?_
    rintro o' h4 ⟨T', H, hT', hTm'⟩
    simp -implicitDefEqProofs (disch:=first|omega|(simp only[LnZ];omega))[wrap64]
    refine hJ _ _ hix ⟨o', by simp, T', H, hT', hstep T' fun x => ?_⟩
    rw [hTm']
    constructor
    · rintro (h5 | h5)
      · exact .inl h5
      · exact .inr ⟨h1, h3, h5.symm⟩
    · rintro (h5 | h5)
      · exact .inl h5
      · exact .inr h5.2.2.symm
  simp -implicitDefEqProofs (disch:=first|omega|(simp only[LnZ];omega))[wrap64]
  rw [List.take_of_length_le (by omega)] at hTm
  exact RetK.keep (hk _ _ ⟨T, H, hT, hTm⟩)
theorem c_l12States {h : Heap} {v w : Value} {a : Aut} {W : List Int} (Ra : Rep h v a) (Rw : Rep h w W) (ha : a.Ok) : CallE Try.prog fn_spec_l12States [v, w] h (fun u h' => HS h [ow u (a.states W)] h') := by
  obtain ⟨v1, v2, v3, rfl, R1, R2, R3⟩ := Rep_Aut.1 Ra
  have hn := ha.n
  have hil := ha.il
  have hwl := Rw.lt
  have hfil : ∀ {L : List Bool} {S : List Int}, L.length = a.acc.length → (∀ q, tru L q ↔ q < a.acc.length ∧ a.Live q) → incr a.acc.length (-1) S → incr a.acc.length (-1) (S.filter fun x => L.getD x.toNat false) ∧ ∀ q : Nat, (q : Int) ∈ (S.filter fun x => L.getD x.toNat false) ↔ (q : Int) ∈ S ∧ a.Live q := by
    intro L S hLl hL hS
    refine ⟨incr_filter hS, fun q => ?_⟩
    rw [List.mem_filter]
    have := hL q
    simp only [tru] at this
    simp only [Int.toNat_natCast]
    rw [this]
    constructor
    · rintro ⟨h1, h2⟩; exact ⟨h1, h2.2⟩
    · rintro ⟨h1, h2⟩
      have := incr_mem hS _ h1
      exact ⟨h1, by omega, h2⟩
  refine CallE.gen fun k hk => EN_spec_l12States rfl ?_
  simp -implicitDefEqProofs (disch:=first|omega|(simp only[LnZ];omega))[wrap64]
  refine (c_spec_LiveStates Ra ha).go ?_
  rintro l h1 ⟨L, H, hLl, hL⟩
  simp -implicitDefEqProofs (disch:=first|omega|(simp only[LnZ];omega))[wrap64]
  refine (c_l12Only (R1.on H) H.rep (fun x hx => by have := incr_mem ha.i x hx; omega) (by omega)).go ?_
  intro s h2 H2
  have H := H2.app H
  obtain ⟨f1, f2⟩ := hfil hLl hL ha.i
  simp -implicitDefEqProofs (disch:=first|omega|(simp only[LnZ];omega))[wrap64]
  refine wp_count W.length (fun i e h' => ∃ s, e = [none, some w, some (.agg #[v1, v2, v3]), none, some l, some s, some (.int .i64 i)] ∧ ∃ S : List Int, HS h [ow s S, ow l L] h' ∧ incr a.acc.length (-1) S ∧ ∀ q : Nat, (q : Int) ∈ S ↔ a.behind (W.take i) q) ⟨s, by simp, _, H, f1, f2⟩ ?_
  clear H f1 f2
  rintro J i _ h3 hJ hi ⟨s, rfl, S, H, hS, hSm⟩
  have hSl := incr_len hS (by omega)
  simp -implicitDefEqProofs (disch:=first|omega|(simp only[LnZ];omega))[wrap64, (Rw.on H).len]
  refine IteW.mk (fun hlt => ?_) (fun hge => ?_)
  · have hix : i < W.length := by omega
    simp -implicitDefEqProofs (disch:=first|omega|(simp only[LnZ];omega))[wrap64, (Rw.on H).I]
    refine (c_l12Step (Ra.on H) H.rep ha).go ?_
    rintro t h4 ⟨T, H4, hT, hTm⟩
    have H := H4.app H
    have hTl := incr_len hT (by omega)
    simp -implicitDefEqProofs (disch:=first|omega|(simp only[LnZ];omega))[wrap64]
    refine (c_l12Only H.rep H.sw2.rep (fun x hx => by have := incr_mem hT x hx; omega) (by omega)).go ?_
    intro s' h5 H5
    have H := ((H5.app H).sw1.drop).sw1.drop
    obtain ⟨f1, f2⟩ := hfil hLl hL hT
    simp -implicitDefEqProofs (disch:=first|omega|(simp only[LnZ];omega))[wrap64]
    refine hJ _ _ hix ⟨s', by simp, _, H, f1, fun q => ?_⟩
    rw [f2, hTm, Aut.behind, foldl_take hix]
    constructor
    · rintro ⟨⟨e, h6, h7, h8, h9⟩, h10⟩
      have hx := ha.2.2.2 e h6
      unfold Tr.Ok at hx
      refine ⟨h10, e, h6, ?_, h9, h8⟩
      show a.behind (W.take i) _
      rw [← hSm, Int.toNat_of_nonneg hx.1]
      exact h7
    · rintro ⟨h10, e, h6, h7, h9, h8⟩
      have hx := ha.2.2.2 e h6
      unfold Tr.Ok at hx
      have h7 : a.behind (W.take i) _ := h7
      rw [← hSm, Int.toNat_of_nonneg hx.1] at h7
      exact ⟨⟨e, h6, h7, h8, h9⟩, h10⟩
  simp -implicitDefEqProofs (disch:=first|omega|(simp only[LnZ];omega))[wrap64]
  rw [List.take_of_length_le (by omega)] at hSm
  refine H.appPL (α := Int) (l2 := S) rfl rfl H.rep rfl rfl (by omega) fun o h4 H => ?_
  simp -implicitDefEqProofs (disch:=first|omega|(simp only[LnZ];omega))[wrap64]
  have he : S = a.states W := by
    refine Aut.states_eq hS fun q => ?_
    rw [hSm]
    constructor
    · intro h5
      have := incr_mem hS q ((hSm q).2 h5)
      exact ⟨by omega, h5⟩
    · exact fun h5 => h5.2
  rw [he] at H
  exact RetK.keep (hk _ _ H.only)
noncomputable def preV (a : Aut) (w : List Int) : List Int := if a.Ok ∧ Wok w then a.states w else []
theorem c_PrefixStates {h : Heap} {v w : Value} {a : Aut} {W : List Int} (Ra : Rep h v a) (Rw : Rep h w W) : CallE Try.prog fn_impl_PrefixStates [v, w] h (R2 (decide (a.Ok ∧ Wok W)) (preV a W) h) := by
  have Fa := Ra.aAut
  refine CallE.gen fun k hk => EN_impl_PrefixStates rfl ?_
  have hno : ¬ (a.Ok ∧ Wok W) → ∀ h', h.le h' → k (.tuple #[.slice none 0 0, .bool false]) h' := fun hn h' hl => hk _ _ ⟨_, by rw [decide_eq_false hn], by rw [preV, if_neg hn]; exact HS.nil_ow (Γ := []) hl⟩
  simp -implicitDefEqProofs (disch:=first|omega|(simp only[LnZ];omega))[wrap64, Fa]
  refine (c_AutomatonValid Ra).go ?_
  rintro _ h1 ⟨l1, rfl⟩
  by_cases ha : a.Ok
  case neg =>
    simp -implicitDefEqProofs (disch:=first|omega|(simp only[LnZ];omega))[wrap64, ha]
    exact RetK.keep (hno (fun hh => ha hh.1) _ l1)
  simp -implicitDefEqProofs (disch:=first|omega|(simp only[LnZ];omega))[wrap64, ha]
  refine (c_wordOk (Rw.le l1)).go ?_
  rintro _ h2 ⟨l2, rfl⟩
  have l2 := l1.trans l2
  by_cases hw : Wok W
  case neg =>
    simp -implicitDefEqProofs (disch:=first|omega|(simp only[LnZ];omega))[wrap64, hw]
    exact RetK.keep (hno (fun hh => hw hh.2) _ l2)
  simp -implicitDefEqProofs (disch:=first|omega|(simp only[LnZ];omega))[wrap64, hw, Fa]
  refine (c_prefix (Ra.le l2) (Rw.le l2) ha).go ?_
  intro u h3 H
  simp -implicitDefEqProofs (disch:=first|omega|(simp only[LnZ];omega))[wrap64]
  exact RetK.keep (hk _ _ ⟨_, by rw [decide_eq_true ⟨ha, hw⟩], by rw [preV, if_pos ⟨ha, hw⟩]; exact HS.app (Γ := []) H l2⟩)
theorem c_spec_PrefixStates {h : Heap} {v w : Value} {a : Aut} {W : List Int} (Ra : Rep h v a) (Rw : Rep h w W) : CallE Try.prog fn_spec_PrefixStates [v, w] h (R2 (decide (a.Ok ∧ Wok W)) (preV a W) h) := by
  have Fa := Ra.aAut
  refine CallE.gen fun k hk => EN_spec_PrefixStates rfl ?_
  simp -implicitDefEqProofs (disch:=first|omega|(simp only[LnZ];omega))[wrap64, Fa]
  refine (c_spec_AutomatonValid Ra).go ?_
  rintro _ _ ⟨rfl, rfl⟩
  by_cases ha : a.Ok
  case neg =>
    have hn : ¬ (a.Ok ∧ Wok W) := fun hh => ha hh.1
    simp -implicitDefEqProofs (disch:=first|omega|(simp only[LnZ];omega))[wrap64, ha]
    refine HS.init.bls0 Int fun o h1 H => ?_
    simp -implicitDefEqProofs (disch:=first|omega|(simp only[LnZ];omega))[wrap64]
    exact RetK.keep (hk _ _ ⟨_, by rw [decide_eq_false hn], by rw [preV, if_neg hn]; exact H⟩)
  simp -implicitDefEqProofs (disch:=first|omega|(simp only[LnZ];omega))[wrap64, ha]
  refine (c_l12Word Rw).go ?_
  rintro _ _ ⟨rfl, rfl⟩
  by_cases hw : Wok W
  case neg =>
    have hn : ¬ (a.Ok ∧ Wok W) := fun hh => hw hh.2
    simp -implicitDefEqProofs (disch:=first|omega|(simp only[LnZ];omega))[wrap64, hw]
    refine HS.init.bls0 Int fun o h1 H => ?_
    simp -implicitDefEqProofs (disch:=first|omega|(simp only[LnZ];omega))[wrap64]
    exact RetK.keep (hk _ _ ⟨_, by rw [decide_eq_false hn], by rw [preV, if_neg hn]; exact H⟩)
  simp -implicitDefEqProofs (disch:=first|omega|(simp only[LnZ];omega))[wrap64, hw, Fa]
  refine (c_l12States Ra Rw ha).go ?_
  intro u h3 H
  simp -implicitDefEqProofs (disch:=first|omega|(simp only[LnZ];omega))[wrap64]
  exact RetK.keep (hk _ _ ⟨_, by rw [decide_eq_true ⟨ha, hw⟩], by rw [preV, if_pos ⟨ha, hw⟩]; exact H⟩)
end Go.Proofs.Ytglnelcmcimljaa

namespace Go.Proofs.Ytglnelcmcimljaa
open Go
noncomputable def fwL (a : Aut) : Las := if a.Ok then (Bf.fw a).getD ⟨[], []⟩ else ⟨[], []⟩
noncomputable def fwO (a : Aut) : Bool := if a.Ok then (Bf.fw a).isSome else false
theorem zero_Las {g h : Heap} {Γ : List HP} (H : HS g Γ h) : HS g (ow (.agg #[.slice none 0 0, .slice none 0 0]) (⟨[], []⟩ : Las) :: Γ) h := HS.mkLas (a := ⟨[], []⟩) H.nil_ow.nil_ow
set_option maxHeartbeats 1000000 in
theorem c_FindWord {h : Heap} {v : Value} {a : Aut} (Ra : Rep h v a) : CallE Try.prog fn_impl_FindWord [v] h (fun u h' => ∃ w, u = .tuple #[w, .bool (fwO a)] ∧ HS h [ow w (fwL a)] h') := by
  obtain ⟨v1, v2, v3, rfl, R1, R2, R3⟩ := Rep_Aut.1 Ra
  have o1 := R1.one
  have o2 := R2.one
  have o3 := R3.one
  refine CallE.gen fun k hk => EN_impl_FindWord rfl ?_
  simp -implicitDefEqProofs (disch:=first|omega|(simp only[LnZ];omega))[wrap64]
  refine HS.init.alloc rfl fun b1 h1 H => ?_
  have H : HS h [bx b1 [v1, v2, v3]] h1 := H
  have hld := H.bxlds (o := 0) (n := 3) (by simp)
  simp -implicitDefEqProofs (disch:=first|omega|(simp only[LnZ];omega))[wrap64, hld]
  refine (c_AutomatonValid (Ra.on H)).go ?_
  rintro _ h2 ⟨l2, rfl⟩
  have H := H.le l2
  by_cases ha : a.Ok
  case neg =>
    have e1 : fwL a = ⟨[], []⟩ := if_neg ha
    have e2 : fwO a = false := if_neg ha
    simp -implicitDefEqProofs (disch:=first|omega|(simp only[LnZ];omega))[wrap64, ha, setC]
    exact RetK.keep (hk _ _ ⟨_, by rw [e2], by rw [e1]; exact zero_Las (Γ := []) H.base⟩)
  have e1 : fwL a = (Bf.fw a).getD ⟨[], []⟩ := if_pos ha
  have e2 : fwO a = (Bf.fw a).isSome := if_pos ha
  have hn := ha.n
  have hlen := Bf.nx_len (a := a)
  have hNO := Bf.nx_ok ha
  have hS : incr (Bf.nx a).length (-1) a.init := by rw [hlen]; exact ha.i
  have hld := H.bxlds (o := 0) (n := 3) (by simp)
  have hf0 := H.bxld (o := 0) (u := v1) rfl
  simp -implicitDefEqProofs (disch:=first|omega|(simp only[LnZ];omega))[wrap64, ha, hld, hf0]
  refine (c_nextX (Ra.on H) ha).go ?_
  intro vn h3 H3
  have H := H3.app H
  clear H3
  have hf0 := H.sw1.bxld (o := 0) (u := v1) rfl
  simp -implicitDefEqProofs (disch:=first|omega|(simp only[LnZ];omega))[wrap64, hf0]
  refine (c_lasso hNO (Bf.nx_E ha) hS (by omega) H.rep (R1.on H) (fun t => a.acc.getD t.toNat false) (f := fn_impl_FindWord_1) (c1 := []) (c2 := [.pointer (some ⟨b1, 0, none⟩)]) rfl ?_ (Bf.gA a) (fun t ht => by rw [Bf.gA_iff]; simp [tru])).go ?_
  · intro h4 l4 t ht
    have htn : t < a.acc.length := by omega
    have hf1 := hload_le l4 (H.sw1.bxld (o := 1) (u := v2) rfl)
    have RB := ((R2.on H).le l4).B
    have hgd : a.acc.getD (t : Int).toNat false = a.acc[t] := by simp [htn]
    refine CallE.gen fun k2 hk3 => EN_impl_FindWord_1 rfl ?_
    rw [hgd] at hk3
    simp -implicitDefEqProofs (disch:=first|omega|(simp only[LnZ];omega))[wrap64, hf1, RB]
    exact RetK.keep (hk3 _ _ ⟨Heap.le.refl _, rfl⟩)
  rintro _ h4 ⟨u1, u2, rfl, H4⟩
  have H := H4.app H
  clear H4
  unfold Bf.fw at e1 e2
  have hmem := fun t (hf : (Bf.fin (Bf.nx a) a.init).2.find? (Bf.gA a) = some t) => List.mem_of_find?_eq_some hf
  have hsat := fun t (hf : (Bf.fin (Bf.nx a) a.init).2.find? (Bf.gA a) = some t) => Bf.gA_iff.1 (List.find?_some hf)
  have hinq := (Bf.sN_inv hNO hS (Bf.nx a).length).1.inq
  have hfin : Bf.sN (Bf.nx a) a.init (Bf.nx a).length = Bf.fin (Bf.nx a) a.init := rfl
  rw [hfin] at hinq
  unfold Bf.lasS Bf.lasL at H
  cases hq : (Bf.fin (Bf.nx a) a.init).2.find? (Bf.gA a) with
  | none =>
    rw [hq] at e1 e2
    simp -implicitDefEqProofs (disch:=first|omega|(simp only[LnZ];omega))[wrap64, hq, setC]
    exact RetK.keep (hk _ _ ⟨_, by rw [e2]; rfl, by rw [e1]; exact zero_Las (Γ := []) H.base⟩)
  | some t0 =>
    rw [hq] at e1 e2 H
    simp only at e1 e2 H
    have hm := hmem t0 hq
    have hs := hsat t0 hq
    have hr := hinq t0 hm
    obtain ⟨t, rfl⟩ : ∃ t : Nat, t0 = t := ⟨t0.toNat, by omega⟩
    rw [Int.toNat_natCast] at hs
    obtain ⟨hp1, hp2, hp3⟩ := Bf.path_ok hNO hS hm
    obtain ⟨m, q1, q2, q3⟩ := Bf.arn_ok hNO (Bf.nx_E ha) (t := t) (by omega) hs.2
    obtain ⟨l0, hl0⟩ := hp3.last
    obtain ⟨s', hs', tl, htl⟩ := q1.head
    obtain rfl : s' = t := by simpa using hs'
    have hjp := hp3.joined
    have hjq := (q1.snoc q2).joined
    rw [hl0] at H hp2 hjp e1
    simp only [List.dropLast_concat] at H
    simp only [List.length_append, List.length_singleton] at hp2
    have hg0 : (Bf.arn (Bf.nx a) t)[0]'(by rw [htl]; simp) = (t : Int) := by simp [htl]
    have hq0 : 0 < (Bf.arn (Bf.nx a) t).length := by rw [htl]; simp
    have hld := H.sw3.bxlds (o := 0) (n := 3) (by simp)
    simp -implicitDefEqProofs (disch:=first|omega|(simp only[LnZ];omega))[wrap64, hq, hld, H.sw1.rep.I, hg0]
    refine (c_clone_int H.rep (by omega)).go ?_
    intro x1 h5 H5
    have H := H5.app H
    clear H5
    have hld := H.sw4.bxlds (o := 0) (n := 3) (by simp)
    simp -implicitDefEqProofs (disch:=first|omega|(simp only[LnZ];omega))[wrap64, H.sw2.rep.I, hg0, hld, setC]
    refine HS.app1 (bytes := 8) H (t : Int) rfl rfl rfl ⟨by omega, by omega⟩ rfl rfl (by omega) (by omega) fun x2 h6 H => ?_
    have hld := H.sw4.bxlds (o := 0) (n := 3) (by simp)
    simp -implicitDefEqProofs (disch:=first|omega|(simp only[LnZ];omega))[wrap64, H.sw2.rep.I, hg0, hld]
    refine (c_values (Ra.on H) H.rep ha (by simp; omega) hjp).go ?_
    intro x3 h7 H7
    have H := H7.app H
    clear H7
    have hld := H.sw5.bxlds (o := 0) (n := 3) (by simp)
    simp -implicitDefEqProofs (disch:=first|omega|(simp only[LnZ];omega))[wrap64, H.sw3.rep.I, hg0, hld]
    refine (c_clone_int H.sw3.rep (by omega)).go ?_
    intro x4 h8 H8
    have H := H8.app H
    clear H8
    have hld := H.sw6.bxlds (o := 0) (n := 3) (by simp)
    simp -implicitDefEqProofs (disch:=first|omega|(simp only[LnZ];omega))[wrap64, H.sw4.rep.I, hg0, hld, setC]
    refine HS.app1 (bytes := 8) H (t : Int) rfl rfl rfl ⟨by omega, by omega⟩ rfl rfl (by omega) (by omega) fun x5 h9 H => ?_
    have hld := H.sw6.bxlds (o := 0) (n := 3) (by simp)
    simp -implicitDefEqProofs (disch:=first|omega|(simp only[LnZ];omega))[wrap64, hld]
    refine (c_values (Ra.on H) H.rep ha (by simp; omega) hjq).go ?_
    intro x6 h10 H10
    have H := H10.app H
    clear H10
    have k1 := H.rep.one
    have k2 := H.sw2.rep.one
    simp -implicitDefEqProofs (disch:=first|omega|(simp only[LnZ];omega))[wrap64, setC, k1, k2, H.rep.cells, H.sw2.rep.cells]
    refine RetK.keep (hk _ _ ⟨_, by rw [e2]; rfl, ?_⟩)
    rw [e1]
    simp only [Option.getD_some]
    exact HS.mkLas (a := ⟨_, _⟩) (H.sw2.under fun _ H => H.only1)
end Go.Proofs.Ytglnelcmcimljaa

namespace Go.Proofs.Ytglnelcmcimljaa
open Go
noncomputable def stA (a : Aut) (w : List Int) : Aut := ⟨a.states w, a.acc, a.edges⟩
theorem stA_ok {a : Aut} {w : List Int} (ha : a.Ok) : (stA a w).Ok := ⟨ha.1, ha.2.1, (Aut.states_incr : incr a.acc.length (-1) (a.states w)), ha.2.2.2⟩
noncomputable def ext (a : Aut) (w : List Int) : Option Las :=
  if a.Ok ∧ Wok w ∧ a.states w ≠ [] then
    match Bf.fw (stA a w) with
    | some l => if (⟨w ++ l.stem, l.loop⟩ : Las).Ok then some ⟨w ++ l.stem, l.loop⟩ else none
    | none => none
  else none
set_option maxHeartbeats 1000000 in
theorem c_ExtendWord {h : Heap} {v w : Value} {a : Aut} {W : List Int} (Ra : Rep h v a) (Rw : Rep h w W) : CallE Try.prog fn_impl_ExtendWord [v, w] h (fun u h' => ∃ z, u = .tuple #[z, .bool (ext a W).isSome] ∧ HS h [ow z ((ext a W).getD ⟨[], []⟩)] h') := by
  have FA := Ra.aAut
  obtain ⟨v1, v2, v3, rfl, R1, R2', R3⟩ := Rep_Aut.1 Ra
  have o1 := R1.one
  have o2 := R2'.one
  have o3 := R3.one
  have c2 := R2'.cells
  have c3 := R3.cells
  refine CallE.gen fun k hk => EN_impl_ExtendWord rfl ?_
  simp -implicitDefEqProofs (disch:=first|omega|(simp only[LnZ];omega))[wrap64, FA]
  refine (c_PrefixStates Ra Rw).go ?_
  rintro _ h1 ⟨vs, rfl, H⟩
  have none_ : ∀ {h'}, h.le h' → ext a W = none → k (.tuple #[.agg #[.slice none 0 0, .slice none 0 0], .bool false]) h' := fun hl he => hk _ _ ⟨_, by rw [he]; rfl, by rw [he]; exact zero_Las (Γ := []) hl⟩
  by_cases q1 : a.Ok ∧ Wok W
  case neg =>
    have he : ext a W = none := if_neg fun hh => q1 ⟨hh.1, hh.2.1⟩
    simp -implicitDefEqProofs (disch:=first|omega|(simp only[LnZ];omega))[wrap64, q1, setC]
    exact RetK.keep (none_ H.base he)
  have hpv : preV a W = a.states W := if_pos q1
  rw [hpv] at H
  have ha := q1.1
  have hW := q1.2
  by_cases q2 : (a.states W).length = 0
  · have q2' : a.states W = [] := List.length_eq_zero_iff.1 q2
    have he : ext a W = none := if_neg fun hh => hh.2.2 q2'
    simp -implicitDefEqProofs (disch:=first|omega|(simp only[LnZ];omega))[wrap64, q1, H.rep.len, q2, q2', setC]
    exact RetK.keep (none_ H.base he)
  have q2' : ¬ a.states W = [] := fun e => q2 (by rw [e]; rfl)
  have q2i : ¬ ((a.states W).length : Int) = 0 := by omega
  have he : ext a W = match Bf.fw (stA a W) with
    | some l => if (⟨W ++ l.stem, l.loop⟩ : Las).Ok then some ⟨W ++ l.stem, l.loop⟩ else none
    | none => none := if_pos ⟨ha, hW, q2'⟩
  have RS : Rep h1 (.agg #[vs, v2, v3]) (stA a W) := Rep_Aut.2 ⟨vs, v2, v3, rfl, H.rep, R2'.on H, R3.on H⟩
  have os := H.rep.one
  have cs := H.rep.cells
  simp -implicitDefEqProofs (disch:=first|omega|(simp only[LnZ];omega))[wrap64, q1, H.rep.len, q2, q2', q2i, setC, o1, o2, o3, c2, c3, os, cs]
  refine (c_FindWord RS).go ?_
  rintro _ h2 ⟨vf, rfl, H2⟩
  have H := H2.app H
  clear H2
  have hst := stA_ok (w := W) ha
  have e1 : fwL (stA a W) = (Bf.fw (stA a W)).getD ⟨[], []⟩ := if_pos hst
  have e2 : fwO (stA a W) = (Bf.fw (stA a W)).isSome := if_pos hst
  have hbd : (fwL (stA a W)).stem.length ≤ 63 ∧ (fwL (stA a W)).loop.length ≤ 64 := by
    rw [e1]
    cases hq : Bf.fw (stA a W) with
    | none => simp
    | some l =>
      obtain ⟨_, _, _, g1, _, g2⟩ := Bf.fw_some hst hq
      exact ⟨g1, g2⟩
  obtain ⟨f1, f2, rfl, HF⟩ := H.unLas
  have RF1 := HF.rep
  have RF2 := HF.sw1.rep
  have p1 := RF1.one
  have p2 := RF2.one
  have d1 := RF1.cells
  have d2 := RF2.cells
  have lb := HF.base
  have Rw2 := Rw.on HF
  clear H
  rw [e2]
  obtain ⟨L, hL⟩ : ∃ L, L = fwL (stA a W) := ⟨_, rfl⟩
  rw [← hL] at RF1 RF2 hbd e1 HF
  have hW1 := hW.1
  simp -implicitDefEqProofs (disch:=first|omega|(simp only[LnZ];omega))[wrap64, setC, p1, p2]
  refine bls_two Rw2 RF1 (by simp [fillP, Rw2.cells, d1, Rw2.one, p1, reps, setC]) fun vb h3 l3 RB => ?_
  simp -implicitDefEqProofs (disch:=first|omega|(simp only[LnZ];omega))[wrap64]
  refine (c_Concat_int RB (by omega) (by omega)).go ?_
  intro vc h4 H4
  have H := H4.app (HF.le l3)
  clear H4 HF
  simp -implicitDefEqProofs (disch:=first|omega|(simp only[LnZ];omega))[wrap64]
  refine (c_Clip_int H).go ?_
  intro vd h5 H
  have lb5 := H.base
  have R5 : Rep h5 (.agg #[vd, f2]) (⟨W ++ L.stem, L.loop⟩ : Las) := Rep_Las.2 ⟨vd, f2, rfl, H.rep, H.sw2.rep⟩
  have oo := H.rep.one
  have cc := H.rep.cells
  cases hq : Bf.fw (stA a W) with
  | none =>
    rw [hq] at he
    simp -implicitDefEqProofs (disch:=first|omega|(simp only[LnZ];omega))[wrap64, setC, oo, cc, p2, d2, hq]
    exact RetK.keep (none_ lb5 he)
  | some l =>
    rw [hq] at he e1
    simp only [Option.getD_some] at e1
    subst e1
    simp only at he
    simp -implicitDefEqProofs (disch:=first|omega|(simp only[LnZ];omega))[wrap64, setC, oo, cc, p2, d2, hq]
    refine (c_LassoValid R5).go ?_
    rintro _ h6 ⟨l6, rfl⟩
    by_cases q3 : (⟨W ++ L.stem, L.loop⟩ : Las).Ok
    · rw [if_pos q3] at he
      simp -implicitDefEqProofs (disch:=first|omega|(simp only[LnZ];omega))[wrap64, q3, setC, oo, cc, p2, d2]
      refine RetK.keep (hk _ _ ⟨_, by rw [he]; rfl, ?_⟩)
      rw [he]
      have H := H.le l6
      exact HS.mkLas (a := ⟨W ++ L.stem, L.loop⟩) (H.under fun _ H => H.sw1.only1)
    · rw [if_neg q3] at he
      simp -implicitDefEqProofs (disch:=first|omega|(simp only[LnZ];omega))[wrap64, q3, setC]
      exact RetK.keep (none_ (lb5.trans l6) he)
end Go.Proofs.Ytglnelcmcimljaa

namespace Go.Proofs.Ytglnelcmcimljaa
open Go
theorem fin_edge {a : Aut} (ha : a.Ok) {S : List Int} (hS : incr a.acc.length (-1) S) {j : Nat} (hj : j < a.acc.length) (h : 0 ≤ (Bf.fin (Bf.nx a) S).1.getD j 0) : ∃ e ∈ a.edges, e.frm = (Bf.fin (Bf.nx a) S).1.getD j 0 ∧ e.to = j := by
  have hlen := Bf.nx_len (a := a)
  have hNO := Bf.nx_ok ha
  have hS' : incr (Bf.nx a).length (-1) S := by rw [hlen]; exact hS
  have h1 := (Bf.sN_inv hNO hS' (Bf.nx a).length).1
  have hfin : Bf.sN (Bf.nx a) S (Bf.nx a).length = Bf.fin (Bf.nx a) S := rfl
  rw [hfin] at h1
  generalize Bf.fin (Bf.nx a) S = p at *
  have hm := h1.vis j (by omega) (by omega)
  obtain ⟨q, hq, e⟩ := List.mem_iff_getElem.1 hm
  have e2 : p.2.getD q 0 = j := by rw [← e]; simp [hq]
  obtain ⟨tp, hpre⟩ := h1.pre
  by_cases hqs : q < S.length
  · exfalso
    have hmem : (j : Int) ∈ S := by
      have : p.2[q] = S[q] := by simp [hpre, List.getElem_append_left hqs]
      rw [← e, this]
      exact List.getElem_mem hqs
    have := h1.st _ hmem
    rw [Int.toNat_natCast] at this
    omega
  · obtain ⟨r, _, e3, e4⟩ := h1.par q (by omega) hq
    rw [e2, Int.toNat_natCast] at e3
    rw [e2] at e4
    obtain ⟨f, hf, k1, k2⟩ := (Bf.nx_Ed ha).1 e4
    exact ⟨f, hf, by rw [k1, e3], k2⟩
theorem c_l7Letters {h : Heap} {v w : Value} {a : Aut} {f l : List Int} {t : Int} (Ra : Rep h v a) (Rv : Rep h w (Bf.viaOf a f)) (ha : a.Ok) (hf : f.length = a.acc.length) (hE : ∀ j : Nat, j < a.acc.length → 0 ≤ f.getD j 0 → ∃ e ∈ a.edges, e.frm = f.getD j 0 ∧ e.to = j) (hneg : ∀ j : Nat, j < a.acc.length → -2 ≤ f.getD j 0) (h0 : 0 ≤ t) (hc : Bf.Chn f t l) (hl : l.length ≤ 1048576) :
    CallE Try.prog fn_spec_l7Letters [v, w, .int .i64 t] h (fun u h' => HS h [ow u (Bf.vals a l)] h') := by
  obtain ⟨v1, v2, v3, rfl, R1, R2, R3⟩ := Rep_Aut.1 Ra
  have hn := ha.n
  have he := ha.e
  obtain ⟨l0, hl0, htl, hc0⟩ := hc.un h0
  have hvl := Bf.viaOf_len (a := a) (f := f)
  refine CallE.gen fun k hk => EN_spec_l7Letters rfl ?_
  simp -implicitDefEqProofs (disch:=first|omega|(simp only[LnZ];omega))[wrap64]
  refine HS.init.bls0 Int fun o h1 H => ?_
  simp -implicitDefEqProofs (disch:=first|omega|(simp only[LnZ];omega))[wrap64]
  refine wp_while (σ := List Int × Int × List Int) (fun s e h' => ∃ o, e = [none, some w, some (.int .i64 s.2.1), some (.agg #[v1, v2, v3]), none, some o, none] ∧ 0 ≤ s.2.1 ∧ Bf.Chn f s.2.1 s.1 ∧ l = s.1 ++ s.2.2 ∧ HS h [ow o (Bf.vals a (s.2.1 :: s.2.2))] h') (fun s => s.1.length) (l, t, []) ⟨o, by simp, h0, hc, by simp, H⟩ ?_
  clear H
  rintro J ⟨l1, b, rest⟩ _ h2 hJ ⟨o, rfl, hb0, hcb, hlr, H⟩
  simp only at hb0 hcb hlr H ⊢
  obtain ⟨l1', hl1, hbf, hcb'⟩ := hcb.un hb0
  obtain ⟨q, rfl⟩ : ∃ q : Nat, b = q := ⟨b.toNat, (Int.toNat_of_nonneg hb0).symm⟩
  have hqn : q < a.acc.length := by omega
  have hqf : q < f.length := by omega
  have hfd : f.getD q 0 = f[q] := by simp [hqf]
  rw [Int.toNat_natCast, hfd] at hcb'
  have hE := hE q hqn
  have hneg := hneg q hqn
  rw [hfd] at hE hneg
  have hva := Bf.viaOf_at (a := a) hqf
  have hge := hcb'.ge
  by_cases c : 0 ≤ f[q]
  · obtain ⟨k, hk1, hk2, hk3, hk4, hk5⟩ := Bf.fe_some (hE c)
    rw [if_pos c, hk2] at hva
    obtain ⟨l1'', hl1'', hpf, hcp⟩ := hcb'.un c
    have hok := Tr.ok_iff.1 ((R3.on H).okF hk1)
    have hvv : Bf.vals a (f[q] :: (q : Int) :: rest) = a.edges[k].value :: Bf.vals a ((q : Int) :: rest) := by
      show Bf.ev a f[q] q :: _ = _
      rw [hk5]
    have hrl : rest.length ≤ 1048576 := by
      have := congrArg List.length hlr
      simp at this; omega
    have hvlen := Bf.vals_len (a := a) (l := (q : Int) :: rest)
    simp only [List.length_cons, Nat.add_sub_cancel] at hvlen
    simp -implicitDefEqProofs (disch:=first|omega|(simp only[LnZ];omega))[wrap64, (Rv.on H).I, hva, (R3.on H).xTr, Tr.v, setC]
    refine H.bls [a.edges[k].value] rfl rfl (by intro y hy; obtain rfl : y = a.edges[k].value := by simpa using hy
                                                exact hok.value) (by decide) fun o2 h3 H => ?_
    simp -implicitDefEqProofs (disch:=first|omega|(simp only[LnZ];omega))[wrap64]
    refine HS.appL (bytes := 8) (l2 := Bf.vals a ((q : Int) :: rest)) H rfl rfl H.sw1.rep rfl rfl (by simp; omega) (by simp; omega) fun o3 h4 H => ?_
    simp -implicitDefEqProofs (disch:=first|omega|(simp only[LnZ];omega))[wrap64, setC, hk3]
    refine hJ (l1', f[q], (q : Int) :: rest) _ _ (by rw [hl1]; simp) ⟨o3, by simp, c, hcb', by rw [hlr, hl1]; simp, ?_⟩
    simp only
    rw [hvv]
    exact H.only1
  · rw [if_neg c] at hva
    have hm1 : f[q] = -1 := by omega
    rw [hm1] at hcb'
    have hnil := hcb'.neg
    subst hnil
    rw [List.nil_append] at hl1
    have hll : l = (q : Int) :: rest := by rw [hlr, hl1]; rfl
    simp -implicitDefEqProofs (disch:=first|omega|(simp only[LnZ];omega))[wrap64, (Rv.on H).I, hva]
    rw [← hll] at H
    exact RetK.keep (hk _ _ H)
noncomputable def cycO (a : Aut) (t : Int) : List Int := if @decide (Cyc a.E t.toNat) (Classical.propDecidable _) then Bf.vals a (Bf.arn (Bf.nx a) t ++ [t]) else []
set_option maxHeartbeats 2000000 in
theorem c_l7Cycle {h : Heap} {v : Value} {a : Aut} {t : Nat} (Ra : Rep h v a) (ha : a.Ok) (ht : t < a.acc.length) : CallE Try.prog fn_spec_l7Cycle [v, .int .i64 t] h (fun u h' => HS h [ow u (cycO a t)] h') := by
  have Ra0 := Ra
  obtain ⟨v1, v2, v3, rfl, R1, R2, R3⟩ := Rep_Aut.1 Ra
  have hn := ha.n
  have he := ha.e
  have hlen := Bf.nx_len (a := a)
  have hNO := Bf.nx_ok ha
  have o1 := R1.one
  have o2 := R2.one
  have o3 := R3.one
  have hgd := Bf.nx_getD ht
  have hcyes : ∀ {l : List Int}, Cyc a.E t → Bf.vals a (Bf.arn (Bf.nx a) t ++ [(t : Int)]) = l → cycO a t = l := fun {l} hc hl => by
    unfold cycO
    rw [if_pos (by simpa using hc)]
    exact hl
  have hcno : ¬ Cyc a.E t → cycO a t = [] := fun hc => by
    unfold cycO
    rw [if_neg (by simpa using hc)]
  refine CallE.gen fun k hk => EN_spec_l7Cycle rfl ?_
  simp -implicitDefEqProofs (disch:=first|omega|(simp only[LnZ];omega))[wrap64]
  refine wp_count a.edges.length (fun k e h' => e = [none, some (.int .i64 t), some (.agg #[v1, v2, v3]), none, some (.int .i64 k), none, none, none, none] ∧ h' = h ∧ ∀ (m : Nat) (hm : m < a.edges.length), m < k → ¬ (a.edges[m].frm = t ∧ a.edges[m].to = t)) ⟨by simp, rfl, fun m _ hm => absurd hm (Nat.not_lt_zero m)⟩ ?_
  rintro J k _ h1 hJ hk1 ⟨rfl, rfl, hno⟩
  simp -implicitDefEqProofs (disch:=first|omega|(simp only[LnZ];omega))[wrap64, R3.len]
  refine IteW.mk (fun hlt => ?_) (fun hge => ?_)
  · have hkx : k < a.edges.length := by omega
    obtain ⟨f, g, hf, hg, hfn, hgn⟩ := ha.tr (List.getElem_mem hkx)
    have hok := Tr.ok_iff.1 (R3.okF hkx)
    have next : ¬ (a.edges[k].frm = t ∧ a.edges[k].to = t) → ∀ (m : Nat) (hm : m < a.edges.length), m < k + 1 → ¬ (a.edges[m].frm = t ∧ a.edges[m].to = t) := fun hh m hm hmk => by
      by_cases e : m = k
      · subst e; exact hh
      · exact hno m hm (by omega)
    by_cases e1 : f = t
    case neg =>
      have e1i : ¬ (f : Int) = t := by omega
      simp -implicitDefEqProofs (disch:=first|omega|(simp only[LnZ];omega))[wrap64, R3.xTr, R3.fTr, hf, e1, e1i]
      exact hJ _ _ hkx ⟨by simp, rfl, next (fun hh => e1i (by rw [← hf]; exact hh.1))⟩
    by_cases e2 : g = t
    case neg =>
      have e2i : ¬ (g : Int) = t := by omega
      simp -implicitDefEqProofs (disch:=first|omega|(simp only[LnZ];omega))[wrap64, R3.xTr, R3.fTr, hf, e1, hg, e2, e2i]
      exact hJ _ _ hkx ⟨by simp, rfl, next (fun hh => e2i (by rw [← hg]; exact hh.2))⟩
    simp -implicitDefEqProofs (disch:=first|omega|(simp only[LnZ];omega))[wrap64, R3.xTr, R3.fTr, hf, e1, hg, e2]
    refine HS.init.bls [a.edges[k].value] rfl rfl (by intro y hy; obtain rfl : y = a.edges[k].value := by simpa using hy
                                                      exact hok.value) (by decide) fun u h2 H => ?_
    simp -implicitDefEqProofs (disch:=first|omega|(simp only[LnZ];omega))[wrap64]
    have hself : a.E t t := ⟨_, List.getElem_mem hkx, by rw [hf, e1], by rw [hg, e2]⟩
    have hmem : (t : Int) ∈ (Bf.nx a).getD (t : Int).toNat [] := by
      rw [Int.toNat_natCast, hgd, Bf.row_mem']
      exact ⟨_, List.getElem_mem hkx, by rw [hf, e1], by rw [hg, e2]⟩
    have hval : cycO a t = [a.edges[k].value] := by
      refine hcyes ⟨t, hself, .refl t⟩ ?_
      unfold Bf.arn
      rw [if_pos hmem]
      show [Bf.ev a t t] = _
      unfold Bf.ev
      have : a.edges.find? (fun e => decide (e.frm = (t : Int) ∧ e.to = (t : Int))) = some a.edges[k] := find_take hkx (by simp [hf, hg, e1, e2]) (fun j hj => by simpa using hno j (by omega) hj)
      rw [this]
    exact RetK.keep (hk _ _ (by rw [hval]; exact H))
  have hnself : ∀ e ∈ a.edges, ¬ (e.frm = t ∧ e.to = t) := by
    intro e he1
    obtain ⟨m, hm, rfl⟩ := List.mem_iff_getElem.1 he1
    exact hno m hm (by omega)
  have hnmem : ¬ (t : Int) ∈ (Bf.nx a).getD (t : Int).toNat [] := by
    rw [Int.toNat_natCast, hgd, Bf.row_mem']
    rintro ⟨e, he1, he2⟩
    exact hnself e he1 he2
  have hS : incr a.acc.length (-1) [(t : Int)] := Bf.incr_one (by omega) (by omega)
  have hS' : incr (Bf.nx a).length (-1) [(t : Int)] := by rw [hlen]; exact hS
  simp -implicitDefEqProofs (disch:=first|omega|(simp only[LnZ];omega))[wrap64, setC, o1, o2, o3]
  refine HS.init.bls (α := Int) [(t : Int)] rfl rfl (ok_one (by omega)) (by decide) fun us h2 H => ?_
  simp -implicitDefEqProofs (disch:=first|omega|(simp only[LnZ];omega))[wrap64]
  refine (c_l7Tree (Ra0.on H) H.rep ha hS).go ?_
  rintro _ h3 ⟨u1, u2, rfl, H3⟩
  have H := H3.app H
  clear H3
  have fi := (Bf.sN_inv hNO hS' (Bf.nx a).length).1
  have hfin : Bf.sN (Bf.nx a) [(t : Int)] (Bf.nx a).length = Bf.fin (Bf.nx a) [(t : Int)] := rfl
  rw [hfin] at fi
  have hfm := fun (x : Nat) => Bf.fin_mem hNO hS' (Bf.nx_E ha) (t := x)
  have hpo := fun x hx => Bf.path_ok (a := x) hNO hS' hx
  have hfe := fun (j : Nat) (hj : j < a.acc.length) => fin_edge ha hS hj
  have hbk : ∀ (x : Nat), x < a.acc.length → (Bf.back (Bf.nx a) t x = true ↔ ∃ e ∈ a.edges, e.frm = x ∧ e.to = t) := by
    intro x hx
    unfold Bf.back
    simp only [Bool.and_eq_true, decide_eq_true_eq]
    rw [Int.toNat_natCast, Bf.nx_getD hx, Bf.row_mem']
    exact ⟨fun hh => hh.2, fun hh => ⟨fun e => by
      obtain ⟨e', he1, he2⟩ := hh
      rw [e] at he2
      exact hnself e' he1 he2, hh⟩⟩
  have hfle := fi.le
  have hff := fi.fl
  have hinq := fi.inq
  have hval := fi.val
  have harn : Bf.arn (Bf.nx a) t = Bf.hitL (Bf.nx a) [(t : Int)] (Bf.back (Bf.nx a) t) := by
    unfold Bf.arn
    rw [if_neg hnmem]
  unfold Bf.hitL at harn
  obtain ⟨F, hF⟩ : ∃ F, F = Bf.fin (Bf.nx a) [(t : Int)] := ⟨_, rfl⟩
  rw [← hF] at H hfm hpo hfe harn hfle hff hinq hval
  simp -implicitDefEqProofs (disch:=first|omega|(simp only[LnZ];omega))[wrap64]
  refine wp_count F.2.length (fun i e h' => e = [none, some (.int .i64 t), some (.agg #[v1, v2, v3]), none, none, some u1, some u2, some (.int .i64 i), none] ∧ h' = h3 ∧ ∀ (j : Nat) (hj : j < F.2.length), j < i → Bf.back (Bf.nx a) t F.2[j] = false) ⟨by simp, rfl, fun j _ hj => absurd hj (Nat.not_lt_zero j)⟩ ?_
  rintro J i _ h4 hJ hi ⟨rfl, rfl, hnob⟩
  simp -implicitDefEqProofs (disch:=first|omega|(simp only[LnZ];omega))[wrap64, H.sw1.rep.len]
  refine IteW.mk (fun hlt2 => ?_) (fun hge2 => ?_)
  · have hix : i < F.2.length := by omega
    have hat := hinq F.2[i] (List.getElem_mem hix)
    obtain ⟨x, hx⟩ : ∃ x : Nat, F.2[i] = x := ⟨F.2[i].toNat, by omega⟩
    rw [hx] at hat
    have hxn : x < a.acc.length := by omega
    have hxm : (x : Int) ∈ F.2 := by rw [← hx]; exact List.getElem_mem hix
    simp -implicitDefEqProofs (disch:=first|omega|(simp only[LnZ];omega))[wrap64]
    refine wp_count a.edges.length (fun k e h' => e = [none, some (.int .i64 t), some (.agg #[v1, v2, v3]), none, none, some u1, some u2, some (.int .i64 i), some (.int .i64 k)] ∧ h' = h4 ∧ ∀ (m : Nat) (hm : m < a.edges.length), m < k → ¬ (a.edges[m].frm = x ∧ a.edges[m].to = t)) ⟨by simp, rfl, fun m _ hm => absurd hm (Nat.not_lt_zero m)⟩ ?_
    rintro J2 k _ h5 hJ2 hk2 ⟨rfl, rfl, hno2⟩
    simp -implicitDefEqProofs (disch:=first|omega|(simp only[LnZ];omega))[wrap64, (R3.on H).len]
    refine IteW.mk (fun hlt3 => ?_) (fun hge3 => ?_)
    · have hkx : k < a.edges.length := by omega
      obtain ⟨f, g, hf, hg, hfn, hgn⟩ := ha.tr (List.getElem_mem hkx)
      have hok := Tr.ok_iff.1 (R3.okF hkx)
      have next : ¬ (a.edges[k].frm = x ∧ a.edges[k].to = t) → ∀ (m : Nat) (hm : m < a.edges.length), m < k + 1 → ¬ (a.edges[m].frm = x ∧ a.edges[m].to = t) := fun hh m hm hmk => by
        by_cases e : m = k
        · subst e; exact hh
        · exact hno2 m hm (by omega)
      have RI := H.sw1.rep.I
      by_cases e1 : f = x
      case neg =>
        have e1i : ¬ (f : Int) = x := by omega
        simp -implicitDefEqProofs (disch:=first|omega|(simp only[LnZ];omega))[wrap64, (R3.on H).xTr, (R3.on H).fTr, hf, RI, hx, e1, e1i]
        exact hJ2 _ _ hkx ⟨by simp, rfl, next (fun hh => e1i (by rw [← hf]; exact hh.1))⟩
      by_cases e2 : g = t
      case neg =>
        have e2i : ¬ (g : Int) = t := by omega
        simp -implicitDefEqProofs (disch:=first|omega|(simp only[LnZ];omega))[wrap64, (R3.on H).xTr, (R3.on H).fTr, hf, RI, hx, e1, hg, e2, e2i]
        exact hJ2 _ _ hkx ⟨by simp, rfl, next (fun hh => e2i (by rw [← hg]; exact hh.2))⟩
      obtain ⟨c1, c2, c3⟩ := hpo x hxm
      have hback : Bf.back (Bf.nx a) t x = true := (hbk x hxn).2 ⟨_, List.getElem_mem hkx, by rw [hf, e1], by rw [hg, e2]⟩
      have hfd : F.2.find? (Bf.back (Bf.nx a) t) = some (x : Int) := by
        have := find_take (p := Bf.back (Bf.nx a) t) hix (by rw [hx]; exact hback) (fun j hj => hnob j (by omega) hj)
        rw [this, hx]
      rw [hfd] at harn
      simp only at harn
      obtain ⟨l0, hl0⟩ := c3.last
      have hev : Bf.ev a x t = a.edges[k].value := by
        unfold Bf.ev
        have : a.edges.find? (fun e => decide (e.frm = (x : Int) ∧ e.to = (t : Int))) = some a.edges[k] := find_take hkx (by simp [hf, hg, e1, e2]) (fun j hj => by simpa using hno2 j (by omega) hj)
        rw [this]
      have hcy : Cyc a.E t := by
        obtain ⟨s, hs, hr⟩ := (hfm x).1 hxm
        obtain rfl : s = t := by
          have : (s : Int) = t := by simpa using hs
          omega
        refine Cyc.iff.2 (.inr ⟨x, ?_, hr, .one ⟨_, List.getElem_mem hkx, by rw [hf, e1], by rw [hg, e2]⟩⟩)
        rintro rfl
        exact hnself _ (List.getElem_mem hkx) ⟨by rw [hf, e1], by rw [hg, e2]⟩
      have hfinal : cycO a t = Bf.vals a (Bf.path (Bf.nx a) [(t : Int)] x) ++ [a.edges[k].value] := by
        refine hcyes hcy ?_
        rw [harn, hl0, Bf.vals_snoc, hev]
      simp -implicitDefEqProofs (disch:=first|omega|(simp only[LnZ];omega))[wrap64, (R3.on H).xTr, (R3.on H).fTr, hf, RI, hx, e1, hg, e2, setC, o1, o2, o3]
      refine (c_l7Letters (f := F.1) (t := (x : Int)) (Ra0.on H) H.rep ha (by omega) hfe (fun j hj => by rcases hval j (by omega) with h | h | h <;> omega) (by omega) c1 (by omega)).go ?_
      intro ul h6 H6
      have H := H6.app H
      clear H6
      have hvlen := Bf.vals_len (a := a) (l := Bf.path (Bf.nx a) [(t : Int)] x)
      simp -implicitDefEqProofs (disch:=first|omega|(simp only[LnZ];omega))[wrap64, (R3.on H).xTr, (R3.on H).fTr]
      refine HS.app1 (bytes := 8) H a.edges[k].value rfl rfl rfl hok.value rfl rfl (by omega) (by omega) fun uf h7 H => ?_
      simp -implicitDefEqProofs (disch:=first|omega|(simp only[LnZ];omega))[wrap64]
      exact RetK.keep (hk _ _ (by rw [hfinal]; exact H.only1))
    · simp -implicitDefEqProofs (disch:=first|omega|(simp only[LnZ];omega))[wrap64]
      refine hJ _ _ hix ⟨by simp, rfl, fun j hj hji => ?_⟩
      by_cases e : j = i
      · subst e
        rw [hx]
        cases hq : Bf.back (Bf.nx a) t x with
        | false => rfl
        | true =>
          obtain ⟨e', he1, he2⟩ := (hbk x hxn).1 hq
          obtain ⟨m, hm, rfl⟩ := List.mem_iff_getElem.1 he1
          exact absurd he2 (hno2 m hm (by omega))
      · exact hnob j hj (by omega)
  · have hncy : ¬ Cyc a.E t := by
      rintro ⟨y, k1, k2⟩
      obtain ⟨m, k3, k4⟩ := Bf.Rch.last k1 k2
      have hm : (m : Int) ∈ F.2 := (hfm m).2 ⟨t, by simp, k3⟩
      obtain ⟨j, hj, e⟩ := List.mem_iff_getElem.1 hm
      have := hnob j hj (by omega)
      rw [e] at this
      have hml := (Aut.E_lt ha _ _ k4).1
      rw [(hbk m hml).2 k4] at this
      exact absurd this (by decide)
    simp -implicitDefEqProofs (disch:=first|omega|(simp only[LnZ];omega))[wrap64]
    refine H.bls0 Int fun u h5 H => ?_
    simp -implicitDefEqProofs (disch:=first|omega|(simp only[LnZ];omega))[wrap64]
    exact RetK.keep (hk _ _ (by rw [hcno hncy]; exact H.only1))
end Go.Proofs.Ytglnelcmcimljaa

namespace Go.Proofs.Ytglnelcmcimljaa
open Go
theorem gA_cyc {a : Aut} {t : Nat} : Bf.gA a t = true ↔ tru a.acc t ∧ Cyc a.E t := by
  have := Bf.gA_iff (a := a) (t := (t : Int))
  rw [Int.toNat_natCast] at this
  exact this
theorem cycO_len {a : Aut} (ha : a.Ok) {t : Nat} (ht : t < a.acc.length) : (Cyc a.E t → 1 ≤ (cycO a t).length ∧ (cycO a t).length ≤ 64 ∧ cycO a t = Bf.vals a (Bf.arn (Bf.nx a) t ++ [(t : Int)])) ∧ (¬ Cyc a.E t → cycO a t = []) := by
  have hlen := Bf.nx_len (a := a)
  have hn := ha.n
  refine ⟨fun hc => ?_, fun hc => by unfold cycO; rw [if_neg (by simpa using hc)]⟩
  obtain ⟨m, c1, c2, c3⟩ := Bf.arn_ok (Bf.nx_ok ha) (Bf.nx_E ha) (t := t) (by omega) hc
  have hv := Bf.vals_len (a := a) (l := Bf.arn (Bf.nx a) t ++ [(t : Int)])
  have hne : 1 ≤ (Bf.arn (Bf.nx a) t).length := by
    obtain ⟨_, _, tl, e⟩ := c1.head
    rw [e]; simp
  rw [List.length_append, List.length_singleton] at hv
  have e : cycO a t = Bf.vals a (Bf.arn (Bf.nx a) t ++ [(t : Int)]) := by
    unfold cycO
    rw [if_pos (by simpa using hc)]
  rw [e]
  exact ⟨by omega, by omega, rfl⟩
set_option maxHeartbeats 1000000 in
theorem c_spec_FindWord {h : Heap} {v : Value} {a : Aut} (Ra : Rep h v a) : CallE Try.prog fn_spec_FindWord [v] h (fun u h' => ∃ w, u = .tuple #[w, .bool (fwO a)] ∧ HS h [ow w (fwL a)] h') := by
  have Ra0 := Ra
  obtain ⟨v1, v2, v3, rfl, R1, R2, R3⟩ := Rep_Aut.1 Ra
  have o1 := R1.one
  have o2 := R2.one
  have o3 := R3.one
  refine CallE.gen fun k hk => EN_spec_FindWord rfl ?_
  simp -implicitDefEqProofs (disch:=first|omega|(simp only[LnZ];omega))[wrap64, setC, o1, o2, o3]
  refine (c_spec_AutomatonValid Ra0).go ?_
  rintro _ h ⟨rfl, rfl⟩
  by_cases ha : a.Ok
  case neg =>
    have e1 : fwL a = ⟨[], []⟩ := if_neg ha
    have e2 : fwO a = false := if_neg ha
    simp -implicitDefEqProofs (disch:=first|omega|(simp only[LnZ];omega))[wrap64, ha, setC]
    exact RetK.keep (hk _ _ ⟨_, by rw [e2], by rw [e1]; exact zero_Las (Γ := []) (Heap.le.refl _)⟩)
  have e1 : fwL a = (Bf.fw a).getD ⟨[], []⟩ := if_pos ha
  have e2 : fwO a = (Bf.fw a).isSome := if_pos ha
  have hn := ha.n
  have hlen := Bf.nx_len (a := a)
  have hNO := Bf.nx_ok ha
  have hS : incr (Bf.nx a).length (-1) a.init := by rw [hlen]; exact ha.i
  unfold Bf.fw at e1 e2
  simp -implicitDefEqProofs (disch:=first|omega|(simp only[LnZ];omega))[wrap64, ha, setC, o1, o2, o3]
  refine (c_l7Tree Ra0 R1 ha ha.i).go ?_
  rintro _ h3 ⟨u1, u2, rfl, H⟩
  have fi := (Bf.sN_inv hNO hS (Bf.nx a).length).1
  have hfin : Bf.sN (Bf.nx a) a.init (Bf.nx a).length = Bf.fin (Bf.nx a) a.init := rfl
  rw [hfin] at fi
  have hpo := fun x hx => Bf.path_ok (a := x) hNO hS hx
  have hfe := fun (j : Nat) (hj : j < a.acc.length) => fin_edge ha ha.i hj
  have hff := fi.fl
  have hfle := fi.le
  have hinq := fi.inq
  have hval := fi.val
  obtain ⟨F, hF⟩ : ∃ F, F = Bf.fin (Bf.nx a) a.init := ⟨_, rfl⟩
  rw [← hF] at H hpo hfe hff hfle hinq hval e1 e2
  simp -implicitDefEqProofs (disch:=first|omega|(simp only[LnZ];omega))[wrap64]
  refine wp_count F.2.length (fun i e h' => e = [none, some (.agg #[v1, v2, v3]), some (.agg #[.slice none 0 0, .slice none 0 0]), none, some u1, some u2, some (.int .i64 i), none] ∧ HS h [ow u1 (Bf.viaOf a F.1), ow u2 F.2] h' ∧ ∀ (j : Nat) (hj : j < F.2.length), j < i → Bf.gA a F.2[j] = false) ⟨by simp, H, fun j _ hj => absurd hj (Nat.not_lt_zero j)⟩ ?_
  clear H
  rintro J i _ h4 hJ hi ⟨rfl, H, hno⟩
  simp -implicitDefEqProofs (disch:=first|omega|(simp only[LnZ];omega))[wrap64, H.sw1.rep.len]
  refine IteW.mk (fun hlt => ?_) (fun hge => ?_)
  · have hix : i < F.2.length := by omega
    have hat := hinq F.2[i] (List.getElem_mem hix)
    obtain ⟨x, hx⟩ : ∃ x : Nat, F.2[i] = x := ⟨F.2[i].toNat, by omega⟩
    rw [hx] at hat
    have hxn : x < a.acc.length := by omega
    have hxm : (x : Int) ∈ F.2 := by rw [← hx]; exact List.getElem_mem hix
    have tA : tru a.acc x ↔ a.acc[x] = true := tru_get hxn
    obtain ⟨hc1, hc2⟩ := cycO_len ha hxn
    have next : Bf.gA a x = false → ∀ (j : Nat) (hj : j < F.2.length), j < i + 1 → Bf.gA a F.2[j] = false := fun hh j hj hji => by
      by_cases e : j = i
      · subst e; rw [hx]; exact hh
      · exact hno j hj (by omega)
    cases b1 : a.acc[x] with
    | false =>
      simp -implicitDefEqProofs (disch:=first|omega|(simp only[LnZ];omega))[wrap64, H.sw1.rep.I, hx, (R2.on H).B, b1]
      exact hJ _ _ hix ⟨by simp, H, next (by
        cases q : Bf.gA a x with
        | false => rfl
        | true => have := tA.1 (gA_cyc.1 q).1; rw [b1] at this; exact absurd this (by decide))⟩
    | true =>
    simp -implicitDefEqProofs (disch:=first|omega|(simp only[LnZ];omega))[wrap64, H.sw1.rep.I, hx, (R2.on H).B, b1, setC, o1, o2, o3]
    refine (c_l7Cycle (Ra0.on H) ha hxn).go ?_
    intro uc h5 H5
    have H := H5.app H
    clear H5
    by_cases hcy : Cyc a.E x
    case neg =>
      have e0 := hc2 hcy
      rw [e0] at H
      have hl0 := H.rep.len
      simp only [List.length_nil] at hl0
      simp -implicitDefEqProofs (disch:=first|omega|(simp only[LnZ];omega))[wrap64, hl0]
      exact hJ _ _ hix ⟨by simp, H.drop, next (by
        cases q : Bf.gA a x with
        | false => rfl
        | true => exact absurd (gA_cyc.1 q).2 hcy)⟩
    obtain ⟨d1, d2, d3⟩ := hc1 hcy
    have hfd : F.2.find? (Bf.gA a) = some (x : Int) := by
      have := find_take (p := Bf.gA a) hix (by rw [hx]; exact gA_cyc.2 ⟨tA.2 b1, hcy⟩) (fun j hj => hno j (by omega) hj)
      rw [this, hx]
    rw [hfd] at e1 e2
    simp only at e1 e2
    obtain ⟨c1, c2, c3⟩ := hpo x hxm
    have hlc := H.rep.len
    have hd1i : (0 : Int) < (cycO a x).length := by omega
    have hd1n : 0 < (cycO a x).length := by omega
    have hne : ¬ cycO a x = [] := fun e => by rw [e] at hd1n; simp at hd1n
    simp -implicitDefEqProofs (disch:=first|omega|(simp only[LnZ];omega))[wrap64, hlc, hd1i, hd1n, hne, H.sw2.rep.I, hx, setC, o1, o2, o3]
    refine (c_l7Letters (f := F.1) (t := (x : Int)) (Ra0.on H) H.sw1.rep ha (by omega) hfe (fun j hj => by rcases hval j (by omega) with h | h | h <;> omega) (by omega) c1 (by omega)).go ?_
    intro ul h6 H6
    have H := H6.app H
    clear H6
    simp -implicitDefEqProofs (disch:=first|omega|(simp only[LnZ];omega))[wrap64, setC, H.rep.one, H.rep.cells, H.sw1.rep.one, H.sw1.rep.cells]
    refine RetK.keep (hk _ _ ⟨_, by rw [e2]; rfl, ?_⟩)
    rw [e1]
    simp only [Option.getD_some]
    rw [d3] at H
    exact HS.mkLas (a := ⟨_, _⟩) (H.under fun _ H => H.only1)
  · have hfd : F.2.find? (Bf.gA a) = none := by
      rw [List.find?_eq_none]
      intro x hx
      obtain ⟨j, hj, rfl⟩ := List.mem_iff_getElem.1 hx
      rw [hno j hj (by omega)]; simp
    rw [hfd] at e1 e2
    simp -implicitDefEqProofs (disch:=first|omega|(simp only[LnZ];omega))[wrap64, setC]
    exact RetK.keep (hk _ _ ⟨_, by rw [e2]; rfl, by rw [e1]; exact zero_Las (Γ := []) H.base⟩)
theorem c_spec_LassoValid {h : Heap} {v : Value} {l : Las} (R : Rep h v l) : CallE Try.prog fn_spec_LassoValid [v] h (fun u h' => h' = h ∧ u = .bool (decide l.Ok)) := by
  obtain ⟨v1, v2, rfl, R1, R2⟩ := Rep_Las.1 R
  refine CallE.gen fun k hk => EN_spec_LassoValid rfl ?_
  simp -implicitDefEqProofs (disch:=first|omega|(simp only[LnZ];omega))[wrap64]
  refine (c_l6Letters R1).go ?_
  rintro _ _ ⟨rfl, rfl⟩
  by_cases q1 : ∀ x ∈ l.stem, 0 ≤ x ∧ x ≤ 7
  case neg =>
    have d1 : decide (∀ x ∈ l.stem, 0 ≤ x ∧ x ≤ 7) = false := decide_eq_false q1
    simp -implicitDefEqProofs (disch:=first|omega|(simp only[LnZ];omega))[wrap64, d1]
    exact RetK.keep (hk _ _ ⟨rfl, by rw [decide_eq_false (fun hh : l.Ok => q1 hh.1.1)]⟩)
  have d1 : decide (∀ x ∈ l.stem, 0 ≤ x ∧ x ≤ 7) = true := decide_eq_true q1
  simp -implicitDefEqProofs (disch:=first|omega|(simp only[LnZ];omega))[wrap64, d1]
  refine (c_l6Letters R2).go ?_
  rintro _ _ ⟨rfl, rfl⟩
  by_cases q2 : ∀ x ∈ l.loop, 0 ≤ x ∧ x ≤ 7
  case neg =>
    have d2 : decide (∀ x ∈ l.loop, 0 ≤ x ∧ x ≤ 7) = false := decide_eq_false q2
    simp -implicitDefEqProofs (disch:=first|omega|(simp only[LnZ];omega))[wrap64, d2]
    exact RetK.keep (hk _ _ ⟨rfl, by rw [decide_eq_false (fun hh : l.Ok => q2 hh.1.2)]⟩)
  have d2 : decide (∀ x ∈ l.loop, 0 ≤ x ∧ x ≤ 7) = true := decide_eq_true q2
  by_cases q3 : (l.stem.length : Int) ≤ 80
  case neg =>
    simp -implicitDefEqProofs (disch:=first|omega|(simp only[LnZ];omega))[wrap64, d2, R1.len, q3]
    exact RetK.keep (hk _ _ ⟨rfl, by rw [decide_eq_false (fun hh : l.Ok => q3 (by have := hh.2.1; omega))]⟩)
  by_cases q4 : (1 : Int) ≤ l.loop.length
  case neg =>
    simp -implicitDefEqProofs (disch:=first|omega|(simp only[LnZ];omega))[wrap64, d2, R1.len, q3, R2.len, q4]
    exact RetK.keep (hk _ _ ⟨rfl, by rw [decide_eq_false (fun hh : l.Ok => q4 (by have := hh.2.2.1; omega))]⟩)
  by_cases q5 : (l.loop.length : Int) ≤ 80
  case neg =>
    simp -implicitDefEqProofs (disch:=first|omega|(simp only[LnZ];omega))[wrap64, d2, R1.len, q3, R2.len, q4, q5]
    exact RetK.keep (hk _ _ ⟨rfl, by rw [decide_eq_false (fun hh : l.Ok => q5 (by have := hh.2.2.2; omega))]⟩)
  simp -implicitDefEqProofs (disch:=first|omega|(simp only[LnZ];omega))[wrap64, d2, R1.len, q3, R2.len, q4, q5]
  exact RetK.keep (hk _ _ ⟨rfl, by rw [decide_eq_true (show l.Ok from ⟨⟨q1, q2⟩, by omega, by omega, by omega⟩)]⟩)
set_option maxHeartbeats 1000000 in
theorem c_spec_ExtendWord {h : Heap} {v w : Value} {a : Aut} {W : List Int} (Ra : Rep h v a) (Rw : Rep h w W) : CallE Try.prog fn_spec_ExtendWord [v, w] h (fun u h' => ∃ z, u = .tuple #[z, .bool (ext a W).isSome] ∧ HS h [ow z ((ext a W).getD ⟨[], []⟩)] h') := by
  have FA := Ra.aAut
  obtain ⟨v1, v2, v3, rfl, R1, R2', R3⟩ := Rep_Aut.1 Ra
  have o1 := R1.one
  have o2 := R2'.one
  have o3 := R3.one
  have c2 := R2'.cells
  have c3 := R3.cells
  refine CallE.gen fun k hk => EN_spec_ExtendWord rfl ?_
  simp -implicitDefEqProofs (disch:=first|omega|(simp only[LnZ];omega))[wrap64, FA]
  refine (c_spec_PrefixStates Ra Rw).go ?_
  rintro _ h1 ⟨vs, rfl, H⟩
  have none_ : ∀ {h'}, h.le h' → ext a W = none → k (.tuple #[.agg #[.slice none 0 0, .slice none 0 0], .bool false]) h' := fun hl he => hk _ _ ⟨_, by rw [he]; rfl, by rw [he]; exact zero_Las (Γ := []) hl⟩
  by_cases q1 : a.Ok ∧ Wok W
  case neg =>
    have he : ext a W = none := if_neg fun hh => q1 ⟨hh.1, hh.2.1⟩
    simp -implicitDefEqProofs (disch:=first|omega|(simp only[LnZ];omega))[wrap64, q1, setC]
    exact RetK.keep (none_ H.base he)
  have hpv : preV a W = a.states W := if_pos q1
  rw [hpv] at H
  have ha := q1.1
  have hW := q1.2
  by_cases q2 : (a.states W).length = 0
  · have q2' : a.states W = [] := List.length_eq_zero_iff.1 q2
    have he : ext a W = none := if_neg fun hh => hh.2.2 q2'
    simp -implicitDefEqProofs (disch:=first|omega|(simp only[LnZ];omega))[wrap64, q1, H.rep.len, q2, q2', setC]
    exact RetK.keep (none_ H.base he)
  have q2' : ¬ a.states W = [] := fun e => q2 (by rw [e]; rfl)
  have q2i : ¬ ((a.states W).length : Int) = 0 := by omega
  have he : ext a W = match Bf.fw (stA a W) with
    | some l => if (⟨W ++ l.stem, l.loop⟩ : Las).Ok then some ⟨W ++ l.stem, l.loop⟩ else none
    | none => none := if_pos ⟨ha, hW, q2'⟩
  have RS : Rep h1 (.agg #[vs, v2, v3]) (stA a W) := Rep_Aut.2 ⟨vs, v2, v3, rfl, H.rep, R2'.on H, R3.on H⟩
  have os := H.rep.one
  have cs := H.rep.cells
  simp -implicitDefEqProofs (disch:=first|omega|(simp only[LnZ];omega))[wrap64, q1, H.rep.len, q2, q2', q2i, setC, o1, o2, o3, c2, c3, os, cs]
  refine (c_spec_FindWord RS).go ?_
  rintro _ h2 ⟨vf, rfl, H2⟩
  have H := H2.app H
  clear H2
  have hst := stA_ok (w := W) ha
  have e1 : fwL (stA a W) = (Bf.fw (stA a W)).getD ⟨[], []⟩ := if_pos hst
  have hbd : (fwL (stA a W)).stem.length ≤ 63 ∧ (fwL (stA a W)).loop.length ≤ 64 := by
    rw [e1]
    cases hq : Bf.fw (stA a W) with
    | none => simp
    | some l =>
      obtain ⟨_, _, _, g1, _, g2⟩ := Bf.fw_some hst hq
      exact ⟨g1, g2⟩
  obtain ⟨f1, f2, rfl, HF⟩ := H.unLas
  have p1 := HF.rep.one
  have p2 := HF.sw1.rep.one
  have d1 := HF.rep.cells
  have d2 := HF.sw1.rep.cells
  clear H
  obtain ⟨L, hL⟩ : ∃ L, L = fwL (stA a W) := ⟨_, rfl⟩
  rw [← hL] at hbd e1 HF
  have hW1 := hW.1
  simp -implicitDefEqProofs (disch:=first|omega|(simp only[LnZ];omega))[wrap64, setC, p1, p2]
  refine HF.appPL (α := Int) (l2 := W) rfl rfl (Rw.on HF) rfl rfl (by omega) fun va h3 H => ?_
  simp -implicitDefEqProofs (disch:=first|omega|(simp only[LnZ];omega))[wrap64, setC, p1, p2]
  refine HS.appL (bytes := 8) (l2 := L.stem) H rfl rfl H.sw1.rep rfl rfl (by omega) (by omega) fun vd h5 H => ?_
  have lb5 := H.base
  have R5 : Rep h5 (.agg #[vd, f2]) (⟨W ++ L.stem, L.loop⟩ : Las) := Rep_Las.2 ⟨vd, f2, rfl, H.rep, H.sw2.rep⟩
  have oo := H.rep.one
  have cc := H.rep.cells
  simp -implicitDefEqProofs (disch:=first|omega|(simp only[LnZ];omega))[wrap64, setC, oo, cc, p2, d2]
  refine (c_spec_LassoValid R5).go ?_
  rintro _ _ ⟨rfl, rfl⟩
  cases hq : Bf.fw (stA a W) with
  | none =>
    rw [hq] at he e1
    simp only [Option.getD_none] at e1
    have q3 : ¬ (⟨W ++ L.stem, L.loop⟩ : Las).Ok := by
      rw [e1]
      intro hh
      have := hh.2.2.1
      simp at this
    simp -implicitDefEqProofs (disch:=first|omega|(simp only[LnZ];omega))[wrap64, q3, setC]
    exact RetK.keep (none_ lb5 he)
  | some l =>
    rw [hq] at he e1
    simp only [Option.getD_some] at e1
    subst e1
    simp only at he
    by_cases q3 : (⟨W ++ L.stem, L.loop⟩ : Las).Ok
    · rw [if_pos q3] at he
      simp -implicitDefEqProofs (disch:=first|omega|(simp only[LnZ];omega))[wrap64, q3, setC, oo, cc, p2, d2]
      refine RetK.keep (hk _ _ ⟨_, by rw [he]; rfl, ?_⟩)
      rw [he]
      exact HS.mkLas (a := ⟨W ++ L.stem, L.loop⟩) (H.under fun _ H => H.sw1.only1)
    · rw [if_neg q3] at he
      simp -implicitDefEqProofs (disch:=first|omega|(simp only[LnZ];omega))[wrap64, q3, setC]
      exact RetK.keep (none_ lb5 he)
end Go.Proofs.Ytglnelcmcimljaa

namespace Go.Proofs.Ytglnelcmcimljaa
open Go
theorem fold_LP {a : Aut} (ha : a.Ok) : ∀ {W : List Int} {P : Nat → Prop} {q : Nat}, W.foldl a.aft P q → ∃ s, P s ∧ LP a.edges s W q
  | [], P, q, h => ⟨q, h, .nil q⟩
  | x :: W, P, q, h => by
    obtain ⟨s, ⟨_, e, he, h1, h2, h3⟩, h4⟩ := fold_LP ha (W := W) (P := a.aft P x) h
    obtain ⟨f, g, k1, k2, _, _⟩ := ha.tr he
    rw [k1, Int.toNat_natCast] at h1
    exact ⟨f, h1, .cons ⟨e, he, k1, h2, h3⟩ h4⟩
theorem fold_live {a : Aut} : ∀ {W : List Int} {P : Nat → Prop} {q : Nat}, (∀ s, P s → a.Live s) → W.foldl a.aft P q → a.Live q
  | [], P, q, hP, h => hP q h
  | x :: W, P, q, hP, h => fold_live (W := W) (P := a.aft P x) (fun s hs => hs.1) h
theorem states_mem {a : Aut} {W : List Int} {x : Int} : x ∈ a.states W ↔ ∃ q : Nat, x = q ∧ q < a.acc.length ∧ a.behind W q := by
  unfold Aut.states
  rw [memL_mem]
  simp
theorem states_live {a : Aut} {W : List Int} {q : Nat} (h : (q : Int) ∈ a.states W) : q < a.acc.length ∧ a.Live q ∧ a.behind W q := by
  obtain ⟨p, h1, h2, h3⟩ := states_mem.1 h
  obtain rfl : q = p := by omega
  exact ⟨h2, fold_live (fun s hs => hs.2) h3, h3⟩
theorem ext_some {a : Aut} {W : List Int} {l : Las} (h : ext a W = some l) : a.Ok ∧ Wok W ∧ a.states W ≠ [] ∧ l.Ok ∧ a.Lang l.word ∧ ∃ r, l.stem = W ++ r := by
  unfold ext at h
  split at h
  case isFalse => simp at h
  rename_i hc
  obtain ⟨ha, hW, hne⟩ := hc
  split at h
  case h_2 => simp at h
  rename_i l0 hf
  split at h
  case isFalse => simp at h
  rename_i hok
  simp only [Option.some.injEq] at h
  subst h
  have hst := stA_ok (w := W) ha
  obtain ⟨⟨s, x, h1, h2, h3, h4⟩, _⟩ := Bf.fw_some hst hf
  obtain ⟨_, _, hb⟩ := states_live (a := a) (W := W) h1
  obtain ⟨s0, h5, h6⟩ := fold_LP ha (P := a.beg) hb
  refine ⟨ha, hW, hne, hok, lasso_lang hok.2.2.1 h5.1 (h6.append h2) h3 h4, l0.stem, rfl⟩
end Go.Proofs.Ytglnelcmcimljaa

namespace Go.Proofs.Ytglnelcmcimljaa
open Go
theorem c_eqLasso {h : Heap} {a b : Value} {x y : Las} (Ra : Rep h a x) (Rb : Rep h b y) : CallE Try.prog fn_laws_eqLasso [a, b] h (fun v h' => h' = h ∧ v = .bool (decide (x = y))) := by
  obtain ⟨v1, v2, rfl, R1, R2⟩ := Rep_Las.1 Ra
  obtain ⟨w1, w2, rfl, S1, S2⟩ := Rep_Las.1 Rb
  refine CallE.gen fun k hk => EN_laws_eqLasso rfl ?_
  simp -implicitDefEqProofs (disch:=first|omega|(simp only[LnZ];omega))[wrap64]
  refine (c_eqIntS R1 S1).go ?_
  rintro _ _ ⟨rfl, rfl⟩
  simp -implicitDefEqProofs (disch:=first|omega|(simp only[LnZ];omega))[wrap64]
  refine IteW.mkr (fun h1 => ?_) (fun h1 => ?_)
  · simp -implicitDefEqProofs (disch:=first|omega|(simp only[LnZ];omega))[wrap64]
    exact RetK.keep (hk _ _ ⟨rfl, by simp_all [Las.ext_iff']⟩)
  simp -implicitDefEqProofs (disch:=first|omega|(simp only[LnZ];omega))[wrap64]
  refine (c_eqIntS R2 S2).go ?_
  rintro _ _ ⟨rfl, rfl⟩
  simp -implicitDefEqProofs (disch:=first|omega|(simp only[LnZ];omega))[wrap64]
  refine IteW.mkr (fun h2 => ?_) (fun h2 => ?_)
  · simp -implicitDefEqProofs (disch:=first|omega|(simp only[LnZ];omega))[wrap64]
    exact RetK.keep (hk _ _ ⟨rfl, by simp_all [Las.ext_iff']⟩)
  try simp -implicitDefEqProofs (disch:=first|omega|(simp only[LnZ];omega))[wrap64]
  exact RetK.keep (hk _ _ ⟨rfl, by simp_all [Las.ext_iff']⟩)
theorem c_markLasso {g h : Heap} {Γ : List HP} {v : Value} {x : Las} {k0 : Int} (H : HS g (ow v x :: Γ) h) (hk0 : 0 ≤ k0) (hk1 : k0 + Mk.cnt x < 4611686018427387904) : CallE Try.prog fn_laws_markLasso [v, .int .i64 k0] h (fun u h' => HS g (ow v (Mk.wr k0 x) :: Γ) h' ∧ u = .int .i64 (k0 + Mk.cnt x)) := by
  have hc : Mk.cnt x = Mk.cnt x.stem + Mk.cnt x.loop := rfl
  obtain ⟨v1, v2, rfl, H0⟩ := HS.unLas H
  refine CallE.gen fun k hk => EN_laws_markLasso rfl ?_
  simp -implicitDefEqProofs (disch:=first|omega|(simp only[LnZ];omega))[wrap64]
  refine (c_markIntS (k0 := k0) H0 (by omega) (by omega)).go ?_
  rintro _ h1 ⟨G1, rfl⟩
  have H1 := G1.bk1
  simp -implicitDefEqProofs (disch:=first|omega|(simp only[LnZ];omega))[wrap64]
  refine (c_markIntS (k0 := k0 + (Mk.cnt x.stem : Nat)) H1 (by omega) (by omega)).go ?_
  rintro _ h2 ⟨G2, rfl⟩
  have H2 := G2.bk1
  simp -implicitDefEqProofs (disch:=first|omega|(simp only[LnZ];omega))[wrap64]
  refine RetK.keep (hk _ _ ⟨HS.mkLas H2, ?_⟩)
  rw [hc]; congr 1; omega
theorem c_heldLasso {h : Heap} {v : Value} {x : Las} {k0 : Int} (Rv : Rep h v x) (hk0 : 0 ≤ k0) (hk1 : k0 + Mk.cnt x < 4611686018427387904) : CallE Try.prog fn_laws_heldLasso [v, .int .i64 k0] h (fun u h' => h' = h ∧ u = .int .i64 (if Mk.wr k0 x = x then k0 + Mk.cnt x else -1)) := by
  have hc : Mk.cnt x = Mk.cnt x.stem + Mk.cnt x.loop := rfl
  have hw : Mk.wr k0 x = ⟨Mk.wr (k0) x.stem, Mk.wr (k0 + (Mk.cnt x.stem : Nat)) x.loop⟩ := rfl
  obtain ⟨v1, v2, rfl, R1, R2⟩ := Rep_Las.1 Rv
  refine CallE.gen fun k hk => EN_laws_heldLasso rfl ?_
  simp -implicitDefEqProofs (disch:=first|omega|(simp only[LnZ];omega))[wrap64]
  refine (c_heldIntS (k0 := k0) R1 (by omega) (by omega)).go ?_
  rintro _ _ ⟨rfl, rfl⟩
  by_cases m1 : Mk.wr (k0) x.stem = x.stem
  case neg =>
    rw [if_neg m1]
    simp -implicitDefEqProofs (disch:=first|omega|(simp only[LnZ];omega))[wrap64]
    refine RetK.keep (hk _ _ ⟨rfl, ?_⟩)
    rw [if_neg]
    intro he
    rw [hw] at he
    exact m1 (congrArg Las.stem he)
  rw [if_pos m1]
  simp -implicitDefEqProofs (disch:=first|omega|(simp only[LnZ];omega))[wrap64]
  rw [IteW_neg (by omega)]
  simp -implicitDefEqProofs (disch:=first|omega|(simp only[LnZ];omega))[wrap64]
  refine (c_heldIntS (k0 := k0 + (Mk.cnt x.stem : Nat)) R2 (by omega) (by omega)).go ?_
  rintro _ _ ⟨rfl, rfl⟩
  by_cases m2 : Mk.wr (k0 + (Mk.cnt x.stem : Nat)) x.loop = x.loop
  case neg =>
    rw [if_neg m2]
    simp -implicitDefEqProofs (disch:=first|omega|(simp only[LnZ];omega))[wrap64]
    refine RetK.keep (hk _ _ ⟨rfl, ?_⟩)
    rw [if_neg]
    intro he
    rw [hw] at he
    exact m2 (congrArg Las.loop he)
  rw [if_pos m2]
  simp -implicitDefEqProofs (disch:=first|omega|(simp only[LnZ];omega))[wrap64]
  rw [IteW_neg (by omega)]
  simp -implicitDefEqProofs (disch:=first|omega|(simp only[LnZ];omega))[wrap64]
  refine RetK.keep (hk _ _ ⟨rfl, ?_⟩)
  rw [if_pos, hc]
  · congr 1; omega
  · rw [hw, m1, m2]
end Go.Proofs.Ytglnelcmcimljaa

namespace Go.Proofs.Ytglnelcmcimljaa
open Go
theorem bnd_ExtendWord {a0 : Aut} {a1 : List Int} : Mk.cnt ((ext a0 a1).getD ⟨[], []⟩) ≤ 4194304 := by
  have hc : ∀ l : List Int, Mk.cnt l = l.length := fun l => cnt_ints l
  have hl : ∀ l : Las, Mk.cnt l = Mk.cnt l.stem + Mk.cnt l.loop := fun _ => rfl
  cases hq : ext a0 a1 with
  | none => rw [Option.getD_none, hl]; simp [hc]
  | some l =>
    obtain ⟨_, _, _, hok, _⟩ := ext_some hq
    have h1 := hok.2.1
    have h2 := hok.2.2.2
    rw [Option.getD_some, hl]; simp only [hc]
    omega
end Go.Proofs.Ytglnelcmcimljaa

namespace Go.Proofs.Ytglnelcmcimljaa
open Go
set_option maxHeartbeats 4000000 in
theorem c_FnExactExtendWord {h : Heap} {v0 v1 : Value} {a0 : Aut} (R0 : Rep h v0 a0)  {a1 : List Int} (R1 : Rep h v1 a1) : CallE Try.prog fn_laws_FnExactExtendWord [v0, v1] h (fun u h' => h.le h' ∧ u = .bool true) := by
  refine CallE.gen fun k hk => EN_laws_FnExactExtendWord rfl ?_
  have F0 := R0.aAut
  simp -implicitDefEqProofs (disch:=first|omega|(simp only[LnZ];omega))[wrap64, F0, R1.len]
  refine IteW.mk (fun hlt => ?_) (fun hge1 => ?_)
  · simp -implicitDefEqProofs (disch:=first|omega|(simp only[LnZ];omega))[wrap64]
    exact RetK.keep (hk _ _ ⟨Heap.le.refl _, rfl⟩)
  have q1 : Sz.sz a1 ≤ 1048576 := by rw [sz_list, szL_zero (fun _ => rfl)]; omega
  simp -implicitDefEqProofs (disch:=first|omega|(simp only[LnZ];omega))[wrap64, F0]
  refine (c_szAutomaton R0 (n := 1048576) (by omega)).go ?_
  rintro _ h ⟨rfl, l0, rfl, q0⟩
  simp -implicitDefEqProofs (disch:=first|omega|(simp only[LnZ];omega))[wrap64, F0]
  refine IteW.mk (fun hlt => ?_) (fun hge0 => ?_)
  · simp -implicitDefEqProofs (disch:=first|omega|(simp only[LnZ];omega))[wrap64]
    exact RetK.keep (hk _ _ ⟨Heap.le.refl _, rfl⟩)
  have qq0 : Sz.sz a0 ≤ 1048576 := by omega
  have hc0 := cnt_Automaton (x := a0) (by omega)
  have hc1 := cnt_IntS (x := a1) (by omega)
  have hcy := bnd_ExtendWord (a0 := a0) (a1 := a1)
  have H : HS h [] h := HS.init
  simp -implicitDefEqProofs (disch:=first|omega|(simp only[LnZ];omega))[wrap64, F0]
  refine (c_toAutomaton R0 (by omega)).go ?_
  intro s0 m1 G
  have H := G.app H
  have F1 := H.rep.aAut
  simp -implicitDefEqProofs (disch:=first|omega|(simp only[LnZ];omega))[wrap64, F0, F1]
  refine (c_toIntS (R1.on H) (by omega)).go ?_
  intro s1 m2 G
  have H := G.app H
  simp -implicitDefEqProofs (disch:=first|omega|(simp only[LnZ];omega))[wrap64, F0, F1]
  refine (c_spec_ExtendWord H.sw1.rep H.rep).go ?_
  rintro _ m3 ⟨w0, rfl, G⟩
  have H := G.app H
  have F2 := H.rep.aLas
  have H := H.only
  simp -implicitDefEqProofs (disch:=first|omega|(simp only[LnZ];omega))[wrap64, F0, F1, F2]
  refine (c_toAutomaton (R0.on H) (by omega)).go ?_
  intro x0 m4 G
  have H := G.app H
  have F3 := H.rep.aAut
  simp -implicitDefEqProofs (disch:=first|omega|(simp only[LnZ];omega))[wrap64, F0, F1, F2, F3]
  refine (c_toIntS (R1.on H) (by omega)).go ?_
  intro x1 m5 G
  have H := G.app H
  simp -implicitDefEqProofs (disch:=first|omega|(simp only[LnZ];omega))[wrap64, F0, F1, F2, F3]
  refine (c_ExtendWord H.sw1.rep H.rep).go ?_
  rintro _ m6 ⟨g0, rfl, G⟩
  have H := G.app H
  have F4 := H.rep.aLas
  simp -implicitDefEqProofs (disch:=first|omega|(simp only[LnZ];omega))[wrap64, F0, F1, F2, F3, F4]
  refine (c_eqLasso H.rep H.sw3.rep).go ?_
  rintro _ _ ⟨rfl, rfl⟩
  simp -implicitDefEqProofs (disch:=first|omega|(simp only[LnZ];omega))[wrap64, F0, F1, F2, F3, F4]
  refine (c_toAutomaton (R0.on H) (by omega)).go ?_
  intro t0 m7 G
  have H := G.app H
  have F5 := H.rep.aAut
  simp -implicitDefEqProofs (disch:=first|omega|(simp only[LnZ];omega))[wrap64, F0, F1, F2, F3, F4, F5]
  refine (c_eqAutomaton H.sw3.rep H.rep).go ?_
  rintro _ _ ⟨rfl, rfl⟩
  have H := H.drop
  simp -implicitDefEqProofs (disch:=first|omega|(simp only[LnZ];omega))[wrap64, F0, F1, F2, F3, F4, F5]
  refine (c_toIntS (R1.on H) (by omega)).go ?_
  intro t1 m8 G
  have H := G.app H
  simp -implicitDefEqProofs (disch:=first|omega|(simp only[LnZ];omega))[wrap64, F0, F1, F2, F3, F4, F5]
  refine (c_eqIntS H.sw2.rep H.rep).go ?_
  rintro _ _ ⟨rfl, rfl⟩
  have H := H.drop
  simp -implicitDefEqProofs (disch:=first|omega|(simp only[LnZ];omega))[wrap64, F0, F1, F2, F3, F4, F5]
  refine (c_markAutomaton (k0 := 1) H.sw2 (by omega) (by omega)).go ?_
  rintro _ m9 ⟨H, rfl⟩
  simp -implicitDefEqProofs (disch:=first|omega|(simp only[LnZ];omega))[wrap64, F0, F1, F2, F3, F4, F5]
  refine (c_markIntS (k0 := 1 + (Mk.cnt a0 : Nat)) H.sw2 (by omega) (by omega)).go ?_
  rintro _ m10 ⟨H, rfl⟩
  have hneg : ¬ ((1 + (Mk.cnt a0 : Nat) + (Mk.cnt a1 : Nat) : Int) < 0) := by omega
  simp -implicitDefEqProofs (disch:=first|omega|(simp only[LnZ];omega))[wrap64, F0, F1, F2, F3, F4, F5, hneg]
  refine (c_eqLasso H.sw2.rep H.sw3.rep).go ?_
  rintro _ _ ⟨rfl, rfl⟩
  simp -implicitDefEqProofs (disch:=first|omega|(simp only[LnZ];omega))[wrap64, F0, F1, F2, F3, F4, F5, hneg]
  refine (c_markLasso (k0 := 1) H.sw2 (by omega) (by omega)).go ?_
  rintro _ m11 ⟨H, rfl⟩
  have hcw := fun y : Las => Mk.cnt_wr 1 y
  simp -implicitDefEqProofs (disch:=first|omega|(simp only[LnZ];omega))[wrap64, F0, F1, F2, F3, F4, F5, hneg]
  refine (c_heldLasso (k0 := 1) H.rep (by omega) (by rw [hcw]; omega)).go ?_
  rintro _ _ ⟨rfl, rfl⟩
  rw [if_pos (Mk.wr_wr 1 1 _), hcw]
  simp -implicitDefEqProofs (disch:=first|omega|(simp only[LnZ];omega))[wrap64, F0, F1, F2, F3, F4, F5, hneg]
  rw [IteW_neg (by omega)]
  simp -implicitDefEqProofs (disch:=first|omega|(simp only[LnZ];omega))[wrap64, F0, F1, F2, F3, F4, F5, hneg]
  refine (c_toAutomaton (R0.on H) (by omega)).go ?_
  intro y0 m12 G
  have H := G.app H
  have F7 := H.rep.aAut
  simp -implicitDefEqProofs (disch:=first|omega|(simp only[LnZ];omega))[wrap64, F0, F1, F2, F3, F4, F5, hneg, F7]
  refine (c_toIntS (R1.on H) (by omega)).go ?_
  intro y1 m13 G
  have H := G.app H
  simp -implicitDefEqProofs (disch:=first|omega|(simp only[LnZ];omega))[wrap64, F0, F1, F2, F3, F4, F5, hneg, F7]
  refine (c_ExtendWord H.sw1.rep H.rep).go ?_
  rintro _ m14 ⟨z0, rfl, G⟩
  have H := G.app H
  have F8 := H.rep.aLas
  simp -implicitDefEqProofs (disch:=first|omega|(simp only[LnZ];omega))[wrap64, F0, F1, F2, F3, F4, F5, hneg, F7, F8]
  refine (c_eqLasso H.rep H.sw6.rep).go ?_
  rintro _ _ ⟨rfl, rfl⟩
  simp -implicitDefEqProofs (disch:=first|omega|(simp only[LnZ];omega))[wrap64, F0, F1, F2, F3, F4, F5, hneg, F7, F8]
  refine (c_heldLasso (k0 := 1) H.sw3.rep (by omega) (by rw [hcw]; omega)).go ?_
  rintro _ _ ⟨rfl, rfl⟩
  rw [if_pos (Mk.wr_wr 1 1 _), hcw]
  simp -implicitDefEqProofs (disch:=first|omega|(simp only[LnZ];omega))[wrap64, F0, F1, F2, F3, F4, F5, hneg, F7, F8]
  rw [IteW_neg (by omega)]
  simp -implicitDefEqProofs (disch:=first|omega|(simp only[LnZ];omega))[wrap64, F0, F1, F2, F3, F4, F5, hneg, F7, F8]
  exact RetK.keep (hk _ _ ⟨H.base, rfl⟩)
end Go.Proofs.Ytglnelcmcimljaa
