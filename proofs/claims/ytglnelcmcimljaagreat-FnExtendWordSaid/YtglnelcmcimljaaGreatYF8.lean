/-
  Texts of this proof, one behind the other.
-/
import Derived.Test.YtglnelcmcimljaaGreatYF7
set_option linter.all false
set_option linter.unusedVariables false
set_option linter.unusedSimpArgs false
set_option linter.defProp false
set_option maxRecDepth 1000000
namespace Go.Proofs.YtglnelcmcimljaaGreat
open Go
theorem gA_cyc {a : Aut} {t : Nat} : Bf.gA a t = true ↔ tru a.acc t ∧ Cyc a.E t := by
  have := Bf.gA_iff (a := a) (t := (t : Int))
  rw [Int.toNat_natCast] at this
  exact this
theorem cycO_len {a : Aut} (ha : a.Ok) {t : Nat} (ht : t < a.acc.length) : (Cyc a.E t → 1 ≤ (cycO a t).length ∧ (cycO a t).length ≤ 64 ∧ cycO a t = Bf.vals a (Bf.arn (Bf.nx a) t ++ [(t : Int)])) ∧ (¬ Cyc a.E t → cycO a t = []) := by
  have hlen := Bf.nx_len (a := a)
  have hn := ha.n
  refine ⟨fun hc => ?_, fun hc => by unfold cycO; rw [if_neg (by simpa using hc)]⟩
  obtain ⟨m, c1, c2, c3⟩ := Bf.arn_ok (Bf.nx_ok ha) (Bf.nx_E ha) (t := t) (by omega) hc
  have hv := Bf.vals_len (a := a) (l := Bf.arn (Bf.nx a) t ++ [(t : Int)])
  have hne : 1 ≤ (Bf.arn (Bf.nx a) t).length := by
    obtain ⟨_, _, tl, e⟩ := c1.head
    rw [e]; simp
  rw [List.length_append, List.length_singleton] at hv
  have e : cycO a t = Bf.vals a (Bf.arn (Bf.nx a) t ++ [(t : Int)]) := by
    unfold cycO
    rw [if_pos (by simpa using hc)]
  rw [e]
  exact ⟨by omega, by omega, rfl⟩
set_option maxHeartbeats 1000000 in
theorem c_spec_FindWord {h : Heap} {v : Value} {a : Aut} (Ra : Rep h v a) : CallE Tryz.prog fn_spec_FindWord [v] h (fun u h' => ∃ w, u = .tuple #[w, .bool (fwO a)] ∧ HS h [ow w (fwL a)] h') := by
  have Ra0 := Ra
  obtain ⟨v1, v2, v3, rfl, R1, R2, R3⟩ := Rep_Aut.1 Ra
  have o1 := R1.one
  have o2 := R2.one
  have o3 := R3.one
  refine CallE.gen fun k hk => EN_spec_FindWord rfl ?_
  simp -implicitDefEqProofs (disch:=first|omega|(simp only[LnZ];omega))[wrap64, setC, o1, o2, o3]
  refine (c_spec_AutomatonValid Ra0).go ?_
  rintro _ h ⟨rfl, rfl⟩
  by_cases ha : a.Ok
  case neg =>
    have e1 : fwL a = ⟨[], []⟩ := if_neg ha
    have e2 : fwO a = false := if_neg ha
    simp -implicitDefEqProofs (disch:=first|omega|(simp only[LnZ];omega))[wrap64, ha, setC]
    exact RetK.keep (hk _ _ ⟨_, by rw [e2], by rw [e1]; exact zero_Las (Γ := []) (Heap.le.refl _)⟩)
  have e1 : fwL a = (Bf.fw a).getD ⟨[], []⟩ := if_pos ha
  have e2 : fwO a = (Bf.fw a).isSome := if_pos ha
  have hn := ha.n
  have hlen := Bf.nx_len (a := a)
  have hNO := Bf.nx_ok ha
  have hS : incr (Bf.nx a).length (-1) a.init := by rw [hlen]; exact ha.i
  unfold Bf.fw at e1 e2
  simp -implicitDefEqProofs (disch:=first|omega|(simp only[LnZ];omega))[wrap64, ha, setC, o1, o2, o3]
  refine (c_l7Tree Ra0 R1 ha ha.i).go ?_
  rintro _ h3 ⟨u1, u2, rfl, H⟩
  have fi := (Bf.sN_inv hNO hS (Bf.nx a).length).1
  have hfin : Bf.sN (Bf.nx a) a.init (Bf.nx a).length = Bf.fin (Bf.nx a) a.init := rfl
  rw [hfin] at fi
  have hpo := fun x hx => Bf.path_ok (a := x) hNO hS hx
  have hfe := fun (j : Nat) (hj : j < a.acc.length) => fin_edge ha ha.i hj
  have hff := fi.fl
  have hfle := fi.le
  have hinq := fi.inq
  have hval := fi.val
  obtain ⟨F, hF⟩ : ∃ F, F = Bf.fin (Bf.nx a) a.init := ⟨_, rfl⟩
  rw [← hF] at H hpo hfe hff hfle hinq hval e1 e2
  simp -implicitDefEqProofs (disch:=first|omega|(simp only[LnZ];omega))[wrap64]
  refine wp_count F.2.length (fun i e h' => e = [none, some (.agg #[v1, v2, v3]), some (.agg #[.slice none 0 0, .slice none 0 0]), none, some u1, some u2, some (.int .i64 i), none] ∧ HS h [ow u1 (Bf.viaOf a F.1), ow u2 F.2] h' ∧ ∀ (j : Nat) (hj : j < F.2.length), j < i → Bf.gA a F.2[j] = false) ⟨by simp, H, fun j _ hj => absurd hj (Nat.not_lt_zero j)⟩ ?_
  clear H
  rintro J i _ h4 hJ hi ⟨rfl, H, hno⟩
  simp -implicitDefEqProofs (disch:=first|omega|(simp only[LnZ];omega))[wrap64, H.sw1.rep.len]
  refine IteW.mk (fun hlt => ?_) (fun hge => ?_)
  · have hix : i < F.2.length := by omega
    have hat := hinq F.2[i] (List.getElem_mem hix)
    obtain ⟨x, hx⟩ : ∃ x : Nat, F.2[i] = x := ⟨F.2[i].toNat, by omega⟩
    rw [hx] at hat
    have hxn : x < a.acc.length := by omega
    have hxm : (x : Int) ∈ F.2 := by rw [← hx]; exact List.getElem_mem hix
    have tA : tru a.acc x ↔ a.acc[x] = true := tru_get hxn
    obtain ⟨hc1, hc2⟩ := cycO_len ha hxn
    have next : Bf.gA a x = false → ∀ (j : Nat) (hj : j < F.2.length), j < i + 1 → Bf.gA a F.2[j] = false := fun hh j hj hji => by
      by_cases e : j = i
      · subst e; rw [hx]; exact hh
      · exact hno j hj (by omega)
    cases b1 : a.acc[x] with
    | false =>
      simp -implicitDefEqProofs (disch:=first|omega|(simp only[LnZ];omega))[wrap64, H.sw1.rep.I, hx, (R2.on H).B, b1]
      exact hJ _ _ hix ⟨by simp, H, next (by
        cases q : Bf.gA a x with
        | false => rfl
        | true => have := tA.1 (gA_cyc.1 q).1; rw [b1] at this; exact absurd this (by decide))⟩
    | true =>
    simp -implicitDefEqProofs (disch:=first|omega|(simp only[LnZ];omega))[wrap64, H.sw1.rep.I, hx, (R2.on H).B, b1, setC, o1, o2, o3]
    refine (c_l7Cycle (Ra0.on H) ha hxn).go ?_
    intro uc h5 H5
    have H := H5.app H
    clear H5
    by_cases hcy : Cyc a.E x
    case neg =>
      have e0 := hc2 hcy
      rw [e0] at H
      have hl0 := H.rep.len
      simp only [List.length_nil] at hl0
      simp -implicitDefEqProofs (disch:=first|omega|(simp only[LnZ];omega))[wrap64, hl0]
      exact hJ _ _ hix ⟨by simp, H.drop, next (by
        cases q : Bf.gA a x with
        | false => rfl
        | true => exact absurd (gA_cyc.1 q).2 hcy)⟩
    obtain ⟨d1, d2, d3⟩ := hc1 hcy
    have hfd : F.2.find? (Bf.gA a) = some (x : Int) := by
      have := find_take (p := Bf.gA a) hix (by rw [hx]; exact gA_cyc.2 ⟨tA.2 b1, hcy⟩) (fun j hj => hno j (by omega) hj)
      rw [this, hx]
    rw [hfd] at e1 e2
    simp only at e1 e2
    obtain ⟨c1, c2, c3⟩ := hpo x hxm
    have hlc := H.rep.len
    have hd1i : (0 : Int) < (cycO a x).length := by omega
    have hd1n : 0 < (cycO a x).length := by omega
    have hne : ¬ cycO a x = [] := fun e => by rw [e] at hd1n; simp at hd1n
    simp -implicitDefEqProofs (disch:=first|omega|(simp only[LnZ];omega))[wrap64, hlc, hd1i, hd1n, hne, H.sw2.rep.I, hx, setC, o1, o2, o3]
    refine (c_l7Letters (f := F.1) (t := (x : Int)) (Ra0.on H) H.sw1.rep ha (by omega) hfe (fun j hj => by rcases hval j (by omega) with h | h | h <;> omega) (by omega) c1 (by omega)).go ?_
    intro ul h6 H6
    have H := H6.app H
    clear H6
    simp -implicitDefEqProofs (disch:=first|omega|(simp only[LnZ];omega))[wrap64, setC, H.rep.one, H.rep.cells, H.sw1.rep.one, H.sw1.rep.cells]
    refine RetK.keep (hk _ _ ⟨_, by rw [e2]; rfl, ?_⟩)
    rw [e1]
    simp only [Option.getD_some]
    rw [d3] at H
    exact HS.mkLas (a := ⟨_, _⟩) (H.under fun _ H => H.only1)
  · have hfd : F.2.find? (Bf.gA a) = none := by
      rw [List.find?_eq_none]
      intro x hx
      obtain ⟨j, hj, rfl⟩ := List.mem_iff_getElem.1 hx
      rw [hno j hj (by omega)]; simp
    rw [hfd] at e1 e2
    simp -implicitDefEqProofs (disch:=first|omega|(simp only[LnZ];omega))[wrap64, setC]
    exact RetK.keep (hk _ _ ⟨_, by rw [e2]; rfl, by rw [e1]; exact zero_Las (Γ := []) H.base⟩)
theorem c_spec_LassoValid {h : Heap} {v : Value} {l : Las} (R : Rep h v l) : CallE Tryz.prog fn_spec_LassoValid [v] h (fun u h' => h' = h ∧ u = .bool (decide l.Ok)) := by
  obtain ⟨v1, v2, rfl, R1, R2⟩ := Rep_Las.1 R
  refine CallE.gen fun k hk => EN_spec_LassoValid rfl ?_
  simp -implicitDefEqProofs (disch:=first|omega|(simp only[LnZ];omega))[wrap64]
  refine (c_l6Letters R1).go ?_
  rintro _ _ ⟨rfl, rfl⟩
  by_cases q1 : ∀ x ∈ l.stem, 0 ≤ x ∧ x ≤ 7
  case neg =>
    have d1 : decide (∀ x ∈ l.stem, 0 ≤ x ∧ x ≤ 7) = false := decide_eq_false q1
    simp -implicitDefEqProofs (disch:=first|omega|(simp only[LnZ];omega))[wrap64, d1]
    exact RetK.keep (hk _ _ ⟨rfl, by rw [decide_eq_false (fun hh : l.Ok => q1 hh.1.1)]⟩)
  have d1 : decide (∀ x ∈ l.stem, 0 ≤ x ∧ x ≤ 7) = true := decide_eq_true q1
  simp -implicitDefEqProofs (disch:=first|omega|(simp only[LnZ];omega))[wrap64, d1]
  refine (c_l6Letters R2).go ?_
  rintro _ _ ⟨rfl, rfl⟩
  by_cases q2 : ∀ x ∈ l.loop, 0 ≤ x ∧ x ≤ 7
  case neg =>
    have d2 : decide (∀ x ∈ l.loop, 0 ≤ x ∧ x ≤ 7) = false := decide_eq_false q2
    simp -implicitDefEqProofs (disch:=first|omega|(simp only[LnZ];omega))[wrap64, d2]
    exact RetK.keep (hk _ _ ⟨rfl, by rw [decide_eq_false (fun hh : l.Ok => q2 hh.1.2)]⟩)
  have d2 : decide (∀ x ∈ l.loop, 0 ≤ x ∧ x ≤ 7) = true := decide_eq_true q2
  by_cases q3 : (l.stem.length : Int) ≤ 80
  case neg =>
    simp -implicitDefEqProofs (disch:=first|omega|(simp only[LnZ];omega))[wrap64, d2, R1.len, q3]
    exact RetK.keep (hk _ _ ⟨rfl, by rw [decide_eq_false (fun hh : l.Ok => q3 (by have := hh.2.1; omega))]⟩)
  by_cases q4 : (1 : Int) ≤ l.loop.length
  case neg =>
    simp -implicitDefEqProofs (disch:=first|omega|(simp only[LnZ];omega))[wrap64, d2, R1.len, q3, R2.len, q4]
    exact RetK.keep (hk _ _ ⟨rfl, by rw [decide_eq_false (fun hh : l.Ok => q4 (by have := hh.2.2.1; omega))]⟩)
  by_cases q5 : (l.loop.length : Int) ≤ 80
  case neg =>
    simp -implicitDefEqProofs (disch:=first|omega|(simp only[LnZ];omega))[wrap64, d2, R1.len, q3, R2.len, q4, q5]
    exact RetK.keep (hk _ _ ⟨rfl, by rw [decide_eq_false (fun hh : l.Ok => q5 (by have := hh.2.2.2; omega))]⟩)
  simp -implicitDefEqProofs (disch:=first|omega|(simp only[LnZ];omega))[wrap64, d2, R1.len, q3, R2.len, q4, q5]
  exact RetK.keep (hk _ _ ⟨rfl, by rw [decide_eq_true (show l.Ok from ⟨⟨q1, q2⟩, by omega, by omega, by omega⟩)]⟩)
set_option maxHeartbeats 1000000 in
theorem c_spec_ExtendWord {h : Heap} {v w : Value} {a : Aut} {W : List Int} (Ra : Rep h v a) (Rw : Rep h w W) : CallE Tryz.prog fn_spec_ExtendWord [v, w] h (fun u h' => ∃ z, u = .tuple #[z, .bool (ext a W).isSome] ∧ HS h [ow z ((ext a W).getD ⟨[], []⟩)] h') := by
  have FA := Ra.aAut
  obtain ⟨v1, v2, v3, rfl, R1, R2', R3⟩ := Rep_Aut.1 Ra
  have o1 := R1.one
  have o2 := R2'.one
  have o3 := R3.one
  have c2 := R2'.cells
  have c3 := R3.cells
  refine CallE.gen fun k hk => EN_spec_ExtendWord rfl ?_
  simp -implicitDefEqProofs (disch:=first|omega|(simp only[LnZ];omega))[wrap64, FA]
  refine (c_spec_PrefixStates Ra Rw).go ?_
  rintro _ h1 ⟨vs, rfl, H⟩
  have none_ : ∀ {h'}, h.le h' → ext a W = none → k (.tuple #[.agg #[.slice none 0 0, .slice none 0 0], .bool false]) h' := fun hl he => hk _ _ ⟨_, by rw [he]; rfl, by rw [he]; exact zero_Las (Γ := []) hl⟩
  by_cases q1 : a.Ok ∧ Wok W
  case neg =>
    have he : ext a W = none := if_neg fun hh => q1 ⟨hh.1, hh.2.1⟩
    simp -implicitDefEqProofs (disch:=first|omega|(simp only[LnZ];omega))[wrap64, q1, setC]
    exact RetK.keep (none_ H.base he)
  have hpv : preV a W = a.states W := if_pos q1
  rw [hpv] at H
  have ha := q1.1
  have hW := q1.2
  by_cases q2 : (a.states W).length = 0
  · have q2' : a.states W = [] := List.length_eq_zero_iff.1 q2
    have he : ext a W = none := if_neg fun hh => hh.2.2 q2'
    simp -implicitDefEqProofs (disch:=first|omega|(simp only[LnZ];omega))[wrap64, q1, H.rep.len, q2, q2', setC]
    exact RetK.keep (none_ H.base he)
  have q2' : ¬ a.states W = [] := fun e => q2 (by rw [e]; rfl)
  have q2i : ¬ ((a.states W).length : Int) = 0 := by omega
  have he : ext a W = match Bf.fw (stA a W) with
    | some l => if (⟨W ++ l.stem, l.loop⟩ : Las).Ok then some ⟨W ++ l.stem, l.loop⟩ else none
    | none => none := if_pos ⟨ha, hW, q2'⟩
  have RS : Rep h1 (.agg #[vs, v2, v3]) (stA a W) := Rep_Aut.2 ⟨vs, v2, v3, rfl, H.rep, R2'.on H, R3.on H⟩
  have os := H.rep.one
  have cs := H.rep.cells
  simp -implicitDefEqProofs (disch:=first|omega|(simp only[LnZ];omega))[wrap64, q1, H.rep.len, q2, q2', q2i, setC, o1, o2, o3, c2, c3, os, cs]
  refine (c_spec_FindWord RS).go ?_
  rintro _ h2 ⟨vf, rfl, H2⟩
  have H := H2.app H
  clear H2
  have hst := stA_ok (w := W) ha
  have e1 : fwL (stA a W) = (Bf.fw (stA a W)).getD ⟨[], []⟩ := if_pos hst
  have hbd : (fwL (stA a W)).stem.length ≤ 63 ∧ (fwL (stA a W)).loop.length ≤ 64 := by
    rw [e1]
    cases hq : Bf.fw (stA a W) with
    | none => simp
    | some l =>
      obtain ⟨_, _, _, g1, _, g2⟩ := Bf.fw_some hst hq
      exact ⟨g1, g2⟩
  obtain ⟨f1, f2, rfl, HF⟩ := H.unLas
  have p1 := HF.rep.one
  have p2 := HF.sw1.rep.one
  have d1 := HF.rep.cells
  have d2 := HF.sw1.rep.cells
  clear H
  obtain ⟨L, hL⟩ : ∃ L, L = fwL (stA a W) := ⟨_, rfl⟩
  rw [← hL] at hbd e1 HF
  have hW1 := hW.1
  simp -implicitDefEqProofs (disch:=first|omega|(simp only[LnZ];omega))[wrap64, setC, p1, p2]
  refine HF.appPL (α := Int) (l2 := W) rfl rfl (Rw.on HF) rfl rfl (by omega) fun va h3 H => ?_
  simp -implicitDefEqProofs (disch:=first|omega|(simp only[LnZ];omega))[wrap64, setC, p1, p2]
  refine HS.appL (bytes := 8) (l2 := L.stem) H rfl rfl H.sw1.rep rfl rfl (by omega) (by omega) fun vd h5 H => ?_
  have lb5 := H.base
  have R5 : Rep h5 (.agg #[vd, f2]) (⟨W ++ L.stem, L.loop⟩ : Las) := Rep_Las.2 ⟨vd, f2, rfl, H.rep, H.sw2.rep⟩
  have oo := H.rep.one
  have cc := H.rep.cells
  simp -implicitDefEqProofs (disch:=first|omega|(simp only[LnZ];omega))[wrap64, setC, oo, cc, p2, d2]
  refine (c_spec_LassoValid R5).go ?_
  rintro _ _ ⟨rfl, rfl⟩
  cases hq : Bf.fw (stA a W) with
  | none =>
    rw [hq] at he e1
    simp only [Option.getD_none] at e1
    have q3 : ¬ (⟨W ++ L.stem, L.loop⟩ : Las).Ok := by
      rw [e1]
      intro hh
      have := hh.2.2.1
      simp at this
    simp -implicitDefEqProofs (disch:=first|omega|(simp only[LnZ];omega))[wrap64, q3, setC]
    exact RetK.keep (none_ lb5 he)
  | some l =>
    rw [hq] at he e1
    simp only [Option.getD_some] at e1
    subst e1
    simp only at he
    by_cases q3 : (⟨W ++ L.stem, L.loop⟩ : Las).Ok
    · rw [if_pos q3] at he
      simp -implicitDefEqProofs (disch:=first|omega|(simp only[LnZ];omega))[wrap64, q3, setC, oo, cc, p2, d2]
      refine RetK.keep (hk _ _ ⟨_, by rw [he]; rfl, ?_⟩)
      rw [he]
      exact HS.mkLas (a := ⟨W ++ L.stem, L.loop⟩) (H.under fun _ H => H.sw1.only1)
    · rw [if_neg q3] at he
      simp -implicitDefEqProofs (disch:=first|omega|(simp only[LnZ];omega))[wrap64, q3, setC]
      exact RetK.keep (none_ lb5 he)
end Go.Proofs.YtglnelcmcimljaaGreat

namespace Go.Proofs.YtglnelcmcimljaaGreat
open Go
theorem c_LassoSame {h : Heap} {v w : Value} {x y : Las} (R : Rep h v x) (S : Rep h w y) : CallE Tryz.prog fn_impl_LassoSame [v, w] h (fun u h' => h' = h ∧ u = .bool (decide (x = y))) := by
  obtain ⟨v1, v2, rfl, R1, R2⟩ := Rep_Las.1 R
  obtain ⟨w1, w2, rfl, S1, S2⟩ := Rep_Las.1 S
  refine CallE.gen fun k hk => EN_impl_LassoSame rfl ?_
  simp -implicitDefEqProofs (disch:=first|omega|(simp only[LnZ];omega))[wrap64]
  refine (c_Equal_int R1 S1).go ?_
  rintro _ h ⟨rfl, rfl⟩
  by_cases q1 : x.stem = y.stem
  case neg =>
    simp -implicitDefEqProofs (disch:=first|omega|(simp only[LnZ];omega))[wrap64, q1]
    exact RetK.keep (hk _ _ ⟨rfl, by rw [decide_eq_false (fun e : x = y => q1 (by rw [e]))]⟩)
  simp -implicitDefEqProofs (disch:=first|omega|(simp only[LnZ];omega))[wrap64, q1]
  refine (c_Equal_int R2 S2).go ?_
  rintro _ h ⟨rfl, rfl⟩
  simp -implicitDefEqProofs (disch:=first|omega|(simp only[LnZ];omega))[wrap64]
  refine RetK.keep (hk _ _ ⟨rfl, ?_⟩)
  congr 1
  refine decide_eq_decide.2 ⟨fun e => Las.ext_iff'.2 ⟨q1, e⟩, fun e => by rw [e]⟩
theorem c_LetterAt_stem {h : Heap} {v : Value} {x : Las} (R : Rep h v x) (hx : x.Ok) {i : Nat} (hi : i < x.stem.length) : CallE Tryz.prog fn_impl_LetterAt [v, .int .i64 i] h (fun u h' => h.le h' ∧ u = .tuple #[.int .i64 x.stem[i], .bool true]) := by
  have FX := R.aLas
  have R0 := R
  obtain ⟨v1, v2, rfl, R1, R2⟩ := Rep_Las.1 R
  have hL := R1.lt
  refine CallE.gen fun k hk => EN_impl_LetterAt rfl ?_
  simp -implicitDefEqProofs (disch:=first|omega|(simp only[LnZ];omega))[wrap64, FX, setC, R1.one, R2.one]
  refine (c_LassoValid R0).go ?_
  rintro _ h1 ⟨l1, rfl⟩
  have hn : ¬ (i : Int) < 0 := by omega
  have hii : (i : Int) < x.stem.length := by omega
  simp -implicitDefEqProofs (disch:=first|omega|(simp only[LnZ];omega))[wrap64, hx, hn, (R1.le l1).len, hii, hi, (R1.le l1).I]
  exact RetK.keep (hk _ _ ⟨l1, rfl⟩)
theorem c_DrawExtendWord {h : Heap} {v : Value} {l : List (BitVec 8)} (R : Rep h v l) : CallE Tryz.prog fn_spec_DrawExtendWord [v] h (fun u h' => ∃ (u1 u2 : Value) (a : Aut) (W : List Int), u = .tuple #[u1, u2] ∧ h.le h' ∧ Rep h' u1 a ∧ Rep h' u2 W ∧ ASz a 16385 ∧ W.length ≤ 300) := by
  refine CallE.gen fun k hk => EN_spec_DrawExtendWord rfl ?_
  simp -implicitDefEqProofs (disch:=first|omega|(simp only[LnZ];omega))[wrap64]
  refine (c_DrawPrefixStates R).go ?_
  rintro _ h1 ⟨u1, u2, a, W, rfl, l1, Ra, RW, hz, hWl⟩
  have FA := Ra.aAut
  simp -implicitDefEqProofs (disch:=first|omega|(simp only[LnZ];omega))[wrap64, FA, setC]
  exact RetK.keep (hk _ _ ⟨u1, u2, a, W, rfl, l1, Ra, RW, hz, hWl⟩)
set_option maxHeartbeats 2000000 in
theorem c_FnExtendWord {h : Heap} {v : Value} {l : List (BitVec 8)} (R : Rep h v l) : CallE Tryz.prog fn_laws_FnExtendWord [v] h (fun u h' => h.le h' ∧ u = .bool true) := by
  refine CallE.gen fun k hk => EN_laws_FnExtendWord rfl ?_
  by_cases a1 : (1048576 : Int) < l.length
  · simp -implicitDefEqProofs (disch:=first|omega|(simp only[LnZ];omega))[wrap64, R.len, a1]
    exact RetK.keep (hk _ _ ⟨Heap.le.refl _, rfl⟩)
  simp -implicitDefEqProofs (disch:=first|omega|(simp only[LnZ];omega))[wrap64, R.len, a1]
  refine (c_DrawExtendWord R).go ?_
  rintro _ h1 ⟨u1, u2, a, W, rfl, l1, Ra, RW, hz, hWl⟩
  have FA := Ra.aAut
  simp -implicitDefEqProofs (disch:=first|omega|(simp only[LnZ];omega))[wrap64, FA, setC]
  refine (c_ExtendWord Ra RW).go ?_
  rintro _ h2 ⟨z1, rfl, H1⟩
  have l2 := H1.base
  have R1 := H1.rep
  have F1 := R1.aLas
  obtain ⟨B, hB⟩ : ∃ B, B = (ext a W).isSome := ⟨_, rfl⟩
  rw [← hB]
  simp -implicitDefEqProofs (disch:=first|omega|(simp only[LnZ];omega))[wrap64, FA, F1, setC]
  refine (c_spec_ExtendWord (Ra.le l2) (RW.le l2)).go ?_
  rintro _ h3 ⟨z2, rfl, H2⟩
  rw [← hB]
  have l3 := H2.base
  have R2' := H2.rep
  have F2 := R2'.aLas
  have lb := l1.trans (l2.trans l3)
  have R1 := R1.le l3
  have Ra3 := Ra.le (l2.trans l3)
  have RW3 := RW.le (l2.trans l3)
  clear H1 H2
  cases hq : ext a W with
  | none =>
    rw [hq] at hB R1 R2'
    simp only [Option.isSome_none] at hB
    subst hB
    simp -implicitDefEqProofs (disch:=first|omega|(simp only[LnZ];omega))[wrap64, F1, F2, setC]
    refine (c_LassoSame R1 R2').go ?_
    rintro _ h4 ⟨rfl, rfl⟩
    simp -implicitDefEqProofs (disch:=first|omega|(simp only[LnZ];omega))[wrap64, F1, F2, setC]
    refine (c_LassoSame R1 R2').go ?_
    rintro _ h4 ⟨rfl, rfl⟩
    simp -implicitDefEqProofs (disch:=first|omega|(simp only[LnZ];omega))[wrap64]
    exact RetK.keep (hk _ _ ⟨lb, rfl⟩)
  | some x =>
    rw [hq] at hB R1 R2'
    simp only [Option.isSome_some, Option.getD_some] at hB R1 R2'
    subst hB
    obtain ⟨ha, hW, hne, hok, hlang, r, hr⟩ := ext_some hq
    have hlt := RW.lt
    simp -implicitDefEqProofs (disch:=first|omega|(simp only[LnZ];omega))[wrap64, F1, F2, setC]
    refine (c_LassoSame R1 R2').go ?_
    rintro _ h4 ⟨rfl, rfl⟩
    obtain ⟨y1, y2, rfl, Y1, Y2⟩ := Rep_Las.1 R1
    have p1 := Y1.one
    have p2 := Y2.one
    simp -implicitDefEqProofs (disch:=first|omega|(simp only[LnZ];omega))[wrap64, setC, p1, p2]
    refine wp_count W.length (fun i e h' => e = [none, none, some u1, some u2, some (.agg #[y1, y2]), none, none, none, some (.int .i64 i), none, none, none, none] ∧ h4.le h') ⟨by simp, Heap.le.refl _⟩ ?_
    rintro J i _ h5 hJ hi ⟨rfl, l5⟩
    simp -implicitDefEqProofs (disch:=first|omega|(simp only[LnZ];omega))[wrap64, (RW3.le l5).len]
    refine IteW.mk (fun hlt1 => ?_) (fun hge1 => ?_)
    · have hin : i < W.length := by omega
      have his : i < x.stem.length := by rw [hr]; simp; omega
      have hval : x.stem[i] = W[i] := by simp [hr, List.getElem_append_left hin]
      simp -implicitDefEqProofs (disch:=first|omega|(simp only[LnZ];omega))[wrap64, setC, p1, p2]
      refine (c_LetterAt_stem (R1.le l5) hok his).go ?_
      rintro _ h6 ⟨l6, rfl⟩
      rw [hval]
      simp -implicitDefEqProofs (disch:=first|omega|(simp only[LnZ];omega))[wrap64, (RW3.le (l5.trans l6)).I]
      exact hJ _ _ hin ⟨by simp, l5.trans l6⟩
    · simp -implicitDefEqProofs (disch:=first|omega|(simp only[LnZ];omega))[wrap64, FA, setC, p1, p2]
      refine (c_AcceptsV (Ra3.le l5) (R1.le l5) ha).go ?_
      rintro _ h6 ⟨l6, rfl⟩
      have hacc : a.accB x = true := (Aut.accB_lang ha hok).2 hlang
      simp -implicitDefEqProofs (disch:=first|omega|(simp only[LnZ];omega))[wrap64, hacc, hok]
      exact RetK.keep (hk _ _ ⟨lb.trans (l5.trans l6), rfl⟩)
end Go.Proofs.YtglnelcmcimljaaGreat
