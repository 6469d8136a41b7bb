/-
  Texts of this proof, one behind the other.
-/
import Derived.Test.YtglnelcmcimljaaYF4
set_option linter.all false
set_option linter.unusedVariables false
set_option linter.unusedSimpArgs false
set_option linter.defProp false
set_option maxRecDepth 1000000
namespace Go.Proofs.Ytglnelcmcimljaa
open Go
section
variable {l : Las}
theorem Las.pos_stem {t : Nat} (h : t < l.size) : l.pos t = t := by
  induction t with
  | zero => rfl
  | succ t ih =>
    rw [Las.pos, ih (by omega), Las.nx, if_neg (by omega)]
theorem mod_succ {j L : Nat} (hL : 0 < L) : (j + 1) % L = if j % L + 1 = L then 0 else j % L + 1 := by
  have h := Nat.mod_lt j hL
  rw [← Nat.mod_add_mod]
  split
  · rename_i e; rw [e, Nat.mod_self]
  · exact Nat.mod_eq_of_lt (by omega)
theorem Las.pos_loop (hl : 1 ≤ l.loop.length) : ∀ j : Nat, l.pos (l.stem.length + j) = l.stem.length + j % l.loop.length
  | 0 => by
    rw [Nat.zero_mod, Nat.add_zero]
    exact Las.pos_stem (by unfold Las.size; omega)
  | j + 1 => by
    have ih := Las.pos_loop hl j
    have h := Nat.mod_lt j (show 0 < l.loop.length by omega)
    rw [← Nat.add_assoc, Las.pos, ih, Las.nx, mod_succ (by omega)]
    unfold Las.size
    by_cases e : j % l.loop.length + 1 = l.loop.length
    · rw [if_pos (by omega), if_pos e]; rfl
    · rw [if_neg (by omega), if_neg e]; omega
theorem Las.word_stem {t : Nat} (h : t < l.stem.length) : l.word t = l.stem[t] := by
  unfold Las.word
  rw [Las.pos_stem (by unfold Las.size; omega)]
  unfold Las.all
  rw [List.getD_eq_getElem?_getD, List.getElem?_append_left h, List.getElem?_eq_getElem h]
  rfl
theorem Las.word_loop (hl : 1 ≤ l.loop.length) (j : Nat) : l.word (l.stem.length + j) = l.loop[j % l.loop.length]'(Nat.mod_lt _ (by omega)) := by
  have h := Nat.mod_lt j (show 0 < l.loop.length by omega)
  unfold Las.word
  rw [Las.pos_loop hl]
  unfold Las.all
  rw [List.getD_eq_getElem?_getD, List.getElem?_append_right (by omega), Nat.add_sub_cancel_left, List.getElem?_eq_getElem h]
  rfl
end
inductive LP (E : List Tr) : Nat → List Int → Nat → Prop
  | nil (p : Nat) : LP E p [] p
  | cons {p q r : Nat} {x : Int} {xs : List Int} (h : ∃ e ∈ E, e.frm = p ∧ e.to = q ∧ e.on x = true) (k : LP E q xs r) : LP E p (x :: xs) r
section
variable {E : List Tr}
theorem LP.append {p q r : Nat} {xs ys : List Int} (h : LP E p xs q) (k : LP E q ys r) : LP E p (xs ++ ys) r := by
  induction h with
  | nil => exact k
  | cons h _ ih => exact .cons h (ih k)
theorem LP.fr {w : Nat → Int} {p q : Nat} {xs : List Int} (h : LP E p xs q) : ∀ {t : Nat}, (∀ i (hi : i < xs.length), w (t + i) = xs[i]) → FR E w t p (t + xs.length) q := by
  induction h with
  | nil => intro t _; exact .refl _ _
  | cons h k ih =>
    rename_i x xs
    intro t hw
    have h1 := ih (t := t + 1) (fun i hi => by
      have := hw (i + 1) (by simpa using hi)
      rw [show t + (i + 1) = t + 1 + i by omega] at this
      simpa using this)
    obtain ⟨e, he, h2, h3, h4⟩ := h
    have h5 := hw 0 (by simp)
    simp only [Nat.add_zero, List.getElem_cons_zero] at h5
    rw [List.length_cons, show t + (xs.length + 1) = t + 1 + xs.length by omega]
    exact .step ⟨e, he, h2, h3, by rw [h5]; exact h4⟩ h1
end
theorem lasso_lang {a : Aut} {l : Las} (hl : 1 ≤ l.loop.length) {s x : Nat} (hs : (s : Int) ∈ a.init) (h1 : LP a.edges s l.stem x) (h2 : LP a.edges x l.loop x) (hx : tru a.acc x) : a.Lang l.word := by
  have f1 := h1.fr (w := l.word) (t := 0) (fun i hi => by rw [Nat.zero_add]; exact Las.word_stem hi)
  rw [Nat.zero_add] at f1
  refine ⟨s, hs, Run.before f1 ⟨fun t p => p = x ∧ ∃ k, t = l.stem.length + k * l.loop.length, ⟨rfl, 0, by omega⟩, ?_⟩⟩
  rintro t p ⟨rfl, k, rfl⟩
  refine ⟨l.stem.length + k * l.loop.length + l.loop.length, p, by omega, h2.fr (fun i hi => ?_), hx, rfl, k + 1, by rw [Nat.add_mul]; omega⟩
  rw [Nat.add_assoc, Las.word_loop hl]
  congr 1
  rw [Nat.mul_add_mod', Nat.mod_eq_of_lt hi]
namespace Bf
def row (a : Aut) (q : Int) (k : Nat) : List Int := ((a.edges.take k).filter fun e => decide (e.frm = q)).map Tr.to
def NX (a : Aut) (k : Nat) : List (List Int) := (List.range a.acc.length).map fun (q : Nat) => row a q k
def nx (a : Aut) : List (List Int) := NX a a.edges.length
section
variable {a : Aut}
theorem NX_len {k : Nat} : (NX a k).length = a.acc.length := by simp [NX]
theorem nx_len : (nx a).length = a.acc.length := NX_len
theorem NX_at {k q : Nat} (hq : q < a.acc.length) : (NX a k)[q]'(by rw [NX_len]; exact hq) = row a q k := by simp [NX]
theorem nx_getD {q : Nat} (hq : q < a.acc.length) : (nx a).getD q [] = row a q a.edges.length := by
  rw [List.getD_eq_getElem?_getD, List.getElem?_eq_getElem (by rw [nx_len]; exact hq)]
  exact NX_at hq
theorem row_succ {q : Int} {k : Nat} (hk : k < a.edges.length) : row a q (k + 1) = if a.edges[k].frm = q then row a q k ++ [a.edges[k].to] else row a q k := by
  unfold row
  rw [List.take_add_one, List.getElem?_eq_getElem hk, List.filter_append, List.map_append]
  by_cases e : a.edges[k].frm = q
  · simp [e]
  · simp [e]
theorem row_len {q : Int} {k : Nat} : (row a q k).length ≤ k := by
  unfold row
  rw [List.length_map]
  have := List.length_filter_le (fun e => decide (e.frm = q)) (a.edges.take k)
  rw [List.length_take] at this
  omega
theorem NX_zero : NX a 0 = List.replicate a.acc.length [] := by
  refine List.ext_getElem (by simp [NX]) fun i h1 h2 => ?_
  simp [NX, row]
theorem NX_succ {k f : Nat} (hk : k < a.edges.length) (hf : a.edges[k].frm = f) (hfn : f < a.acc.length) : NX a (k + 1) = (NX a k).set f ((NX a k)[f]'(by rw [NX_len]; exact hfn) ++ [a.edges[k].to]) := by
  refine List.ext_getElem (by simp [NX]) fun i h1 h2 => ?_
  rw [NX_len] at h1
  have e1 : (NX a (k + 1))[i]'(by rw [NX_len]; exact h1) = row a i (k + 1) := NX_at h1
  have e2 : (NX a k)[i]'(by rw [NX_len]; exact h1) = row a i k := NX_at h1
  have e3 : (NX a k)[f]'(by rw [NX_len]; exact hfn) = row a f k := NX_at hfn
  refine e1.trans ?_
  rw [List.getElem_set, row_succ hk, hf]
  by_cases e : f = i
  · subst e; rw [if_pos rfl, if_pos rfl, e3]
  · rw [if_neg e, if_neg (by omega), e2]
theorem row_mem' {q x : Int} : x ∈ row a q a.edges.length ↔ ∃ e ∈ a.edges, e.frm = q ∧ e.to = x := by
  unfold row
  rw [List.take_length, List.mem_map]
  constructor
  · rintro ⟨e, he, rfl⟩
    obtain ⟨h1, h2⟩ := List.mem_filter.1 he
    exact ⟨e, h1, by simpa using h2, rfl⟩
  · rintro ⟨e, he, h1, rfl⟩
    exact ⟨e, List.mem_filter.2 ⟨he, by simpa using h1⟩, rfl⟩
theorem nx_E (ha : a.Ok) (x y : Nat) : a.E x y ↔ x < (nx a).length ∧ (y : Int) ∈ (nx a).getD x [] := by
  rw [nx_len]
  constructor
  · rintro ⟨e, he, h1, h2⟩
    have := (Aut.E_lt ha x y ⟨e, he, h1, h2⟩).1
    exact ⟨this, by rw [nx_getD this, row_mem']; exact ⟨e, he, h1, h2⟩⟩
  · rintro ⟨h1, h2⟩
    rw [nx_getD h1, row_mem'] at h2
    exact h2
theorem nx_ok (ha : a.Ok) : NOk (nx a) := by
  refine ⟨fun l hl x hx => ?_⟩
  obtain ⟨q, hq, rfl⟩ := List.mem_iff_getElem.1 hl
  rw [nx_len] at hq ⊢
  have h1 : x ∈ row a q a.edges.length := by rw [← NX_at hq]; exact hx
  obtain ⟨e, he, _, rfl⟩ := row_mem'.1 h1
  obtain ⟨f, g, _, h3, _, h4⟩ := ha.tr he
  omega
theorem nx_Ed (ha : a.Ok) {x y : Int} : Ed (nx a) x y ↔ ∃ e ∈ a.edges, e.frm = x ∧ e.to = y := by
  unfold Ed
  rw [nx_len]
  constructor
  · rintro ⟨h1, h2, h3⟩
    rw [nx_getD (by omega), row_mem', Int.toNat_of_nonneg h1] at h3
    exact h3
  · rintro ⟨e, he, h1, h2⟩
    obtain ⟨f, g, h3, h4, h5, h6⟩ := ha.tr he
    refine ⟨by omega, by omega, ?_⟩
    rw [nx_getD (by omega), row_mem', Int.toNat_of_nonneg (by omega)]
    exact ⟨e, he, h1, h2⟩
end
def ev (a : Aut) (p q : Int) : Int := match a.edges.find? (fun e => decide (e.frm = p ∧ e.to = q)) with
  | some e => e.value
  | none => 0
def vals (a : Aut) : List Int → List Int
  | p :: q :: l => ev a p q :: vals a (q :: l)
  | _ => []
theorem vals_snoc {a : Aut} : ∀ {l : List Int} {p q : Int}, vals a (l ++ [p] ++ [q]) = vals a (l ++ [p]) ++ [ev a p q]
  | [], p, q => by simp [vals]
  | [x], p, q => by simp [vals]
  | x :: y :: l, p, q => by
    have := vals_snoc (a := a) (l := y :: l) (p := p) (q := q)
    simp only [List.cons_append, vals] at this ⊢
    rw [this]
theorem vals_len {a : Aut} : ∀ {l : List Int}, (vals a l).length = l.length - 1
  | [] => rfl
  | [x] => rfl
  | x :: y :: l => by
    have := vals_len (a := a) (l := y :: l)
    simp only [vals, List.length_cons] at this ⊢
    omega
theorem andI_le {v c : Int} (h0 : 0 ≤ c) (h1 : c < 4294967296) : andI .i64 v c ≤ c := by
  obtain ⟨n, rfl⟩ : ∃ n : Nat, c = n := ⟨c.toNat, by omega⟩
  unfold andI
  have h2 : (BitVec.ofInt IntKind.i64.bits v &&& BitVec.ofInt IntKind.i64.bits (n : Int)).toNat ≤ n := by
    rw [BitVec.toNat_and]
    refine Nat.le_trans Nat.and_le_right ?_
    have : (BitVec.ofInt IntKind.i64.bits (n : Int)).toNat = n % 2 ^ IntKind.i64.bits := by simp
    rw [this]
    exact Nat.mod_le _ _
  generalize (BitVec.ofInt IntKind.i64.bits v &&& BitVec.ofInt IntKind.i64.bits (n : Int)).toNat = m at *
  have : IntKind.i64.wrap (m : Int) = m := by
    have : IntKind.i64.wrap (m : Int) = if (m : Int) % 18446744073709551616 ≥ 9223372036854775808 then (m : Int) % 18446744073709551616 - 18446744073709551616 else (m : Int) % 18446744073709551616 := by
      simp [IntKind.wrap, IntKind.signed, IntKind.bits]
    rw [this]
    split <;> omega
  rw [this]
  omega
theorem ev_ok {a : Aut} (ha : a.Ok) {p q : Int} (h : ∃ e ∈ a.edges, e.frm = p ∧ e.to = q) : ∃ e ∈ a.edges, e.frm = p ∧ e.to = q ∧ ev a p q = e.value ∧ e.on (ev a p q) = true ∧ 0 ≤ ev a p q ∧ ev a p q ≤ 7 := by
  obtain ⟨e, he, h1, h2⟩ := h
  cases hf : a.edges.find? (fun e => decide (e.frm = p ∧ e.to = q)) with
  | none =>
    rw [List.find?_eq_none] at hf
    have := hf e he
    simp [h1, h2] at this
  | some f =>
    have h3 := List.find?_some hf
    have h4 := List.mem_of_find?_eq_some hf
    simp only [decide_eq_true_eq] at h3
    have h5 : ev a p q = f.value := by unfold ev; rw [hf]
    have h6 := ha.2.2.2 f h4
    unfold Tr.Ok at h6
    refine ⟨f, h4, h3.1, h3.2, h5, ?_, by omega, ?_⟩
    · rw [h5, Tr.on, decide_eq_true_eq]
      exact h6.2.2.2.2.2.2.2
    · rw [h5, ← h6.2.2.2.2.2.2.2]
      exact Int.le_trans (andI_le (by omega) (by omega)) (show f.care ≤ 7 by omega)
end Bf
end Go.Proofs.Ytglnelcmcimljaa

namespace Go.Proofs.Ytglnelcmcimljaa
open Go
def H_impl_components : Hint := ⟨[(0, false), (1, false), (2, false), (3, false), (4, false), (5, false), (6, false), (7, false), (8, false), (9, false), (10, false), (11, false), (12, false), (13, false), (14, false), (15, false), (17, false), (27, false), (28, false), (36, false), (37, false), (50, false), (51, false), (52, false)], [[0, 2, 7, 8, 9, 10, 11, 12, 13, 14, 15, 16, 19, 20, 21, 22, 23], [0, 1, 2, 3, 5, 7, 8, 9, 10, 12, 13, 14, 15, 16, 17, 18, 21, 22, 23], [0, 1, 2, 3, 4, 5, 7, 8, 9, 10, 11, 12, 14, 15, 16, 17, 18, 19, 20]]⟩
def K153_1 : C := .seq (.pl <| .e 24 1 <|
 .l 24 6 <|
 .m 2 24 .done) (.ret)
@[simp] def W153_1 := C.w K153_1.eq_1
def K153_2 : C := .pl <| .e 24 1 <|
 .x 24 (.bin .add (.v 23) (.c (.int .i64 1))) <|
 .m 23 24 .done
@[simp] def W153_2 := C.w K153_2.eq_1
def K153_3 : Pl := .x 29 (.ia 1 (.v 24) (.v 25)) <|
 .o (.ex none (.store 1 (.v 29) (.v 28))) .done
@[simp] def W153_3 := Pl.w K153_3.eq_1
def K153_4 : C := .pl <| .e 24 6 <|
 .l 24 6 <|
 .m 25 14 <|
 .m 26 13 <|
 .m 27 15 <|
 .c 28 (.mget (.one .i) (.int .i64 0) false (.v 26) (.v 27)) K153_3
@[simp] def W153_4 := C.w K153_4.eq_1
def K153_5 : Pl := .o (.ex none (.mput (.one .i) (.v 24) (.v 25) (.v 27))) .done
@[simp] def W153_5 := Pl.w K153_5.eq_1
def K153_6 : C := .pl <| .e 24 4 <|
 .m 24 13 <|
 .m 25 15 <|
 .m 26 13 <|
 .c 27 (.mlen (.v 26)) K153_5
@[simp] def W153_6 := C.w K153_6.eq_1
def K153_7 : C := .cond 24 (.v 25) K153_6 (.skip)
@[simp] def W153_7 := C.w K153_7.eq_1
def K153_8 : C := .seq (.pl <| .e 24 2 <|
 .m 24 16 <|
 .x 25 (.un .not (.v 24)) .done) K153_7
@[simp] def W153_8 := C.w K153_8.eq_1
def K153_9 : Pl := .m 27 26 <|
 .x 28 (.extract 0 (.v 27)) <|
 .x 29 (.extract 1 (.v 27)) <|
 .m 30 28 <|
 .m 16 29 .done
@[simp] def W153_9 := Pl.w K153_9.eq_1
def K153_10 : C := .seq (.seq (.pl <| .e 24 7 <|
 .m 24 13 <|
 .m 25 15 <|
 .c 26 (.mget (.one .i) (.int .i64 0) true (.v 24) (.v 25)) K153_9) K153_8) K153_4
@[simp] def W153_10 := C.w K153_10.eq_1
def K153_11 : C := .seq (.block 5 (.seq (.pl <| .e 24 3 <|
 .m 24 23 <|
 .x 25 (.ia 1 (.v 21) (.v 23)) <|
 .l 26 25 <|
 .m 14 24 <|
 .m 15 26 .done) K153_10)) K153_2
@[simp] def W153_11 := C.w K153_11.eq_1
def K153_12 : C := .seq (.cond 24 (.v 24) (.skip) (.exit 4)) K153_11
@[simp] def W153_12 := C.w K153_12.eq_1
def K153_13 : C := .seq (.pl <| .e 24 1 <|
 .x 24 (.bin .lss (.v 23) (.v 22)) .done) K153_12
@[simp] def W153_13 := C.w K153_13.eq_1
def K153_14 : C := .block 4 (.loop 24 [0, 1, 2, 3, 4, 5, 7, 8, 9, 10, 11, 12, 14, 15, 16, 17, 18, 19, 20] K153_13)
@[simp] def W153_14 := C.w K153_14.eq_1
def K153_15 : C := .seq (.seq (.pl <| .e 24 0 <|
 .l 21 6 <|
 .x 22 (.lenV (.v 21)) <|
 .x 23 (.mv (.c (.int .i64 0))) .done) K153_14) K153_1
@[simp] def W153_15 := C.w K153_15.eq_1
def K153_16 : Pl := .m 13 24 .done
@[simp] def W153_16 := Pl.w K153_16.eq_1
def K153_17 : C := .seq (.pl <| .e 24 1 <|
 .c 24 (.mkm) K153_16) K153_15
@[simp] def W153_17 := C.w K153_17.eq_1
def K153_18 : C := .pl <| .e 24 1 <|
 .x 24 (.bin .add (.v 20) (.c (.int .i64 1))) <|
 .m 20 24 .done
@[simp] def W153_18 := C.w K153_18.eq_1
def K153_19 : C := .pl <| .e 24 3 <|
 .l 24 11 <|
 .m 25 12 <|
 .c 26 (.callv (.v 24) [.v 25]) .done
@[simp] def W153_19 := C.w K153_19.eq_1
def K153_20 : C := .cond 24 (.v 28) K153_19 (.skip)
@[simp] def W153_20 := C.w K153_20.eq_1
def K153_21 : C := .seq (.pl <| .e 24 5 <|
 .l 24 4 <|
 .m 25 12 <|
 .x 26 (.ia 1 (.v 24) (.v 25)) <|
 .l 27 26 <|
 .x 28 (.bin .eql (.v 27) (.c (.int .i64 0))) .done) K153_20
@[simp] def W153_21 := C.w K153_21.eq_1
def K153_22 : C := .seq (.block 3 (.seq (.pl <| .e 24 1 <|
 .m 24 20 <|
 .m 12 24 .done) K153_21)) K153_18
@[simp] def W153_22 := C.w K153_22.eq_1
def K153_23 : C := .seq (.cond 24 (.v 24) (.skip) (.exit 2)) K153_22
@[simp] def W153_23 := C.w K153_23.eq_1
def K153_24 : C := .seq (.pl <| .e 24 1 <|
 .x 24 (.bin .lss (.v 20) (.v 19)) .done) K153_23
@[simp] def W153_24 := C.w K153_24.eq_1
def K153_25 : C := .block 2 (.loop 24 [0, 1, 2, 3, 5, 7, 8, 9, 10, 12, 13, 14, 15, 16, 17, 18, 21, 22, 23] K153_24)
@[simp] def W153_25 := C.w K153_25.eq_1
def K153_26 : C := .seq (.seq (.pl <| .e 24 0 <|
 .m 19 3 <|
 .x 20 (.mv (.c (.int .i64 0))) .done) K153_25) K153_17
@[simp] def W153_26 := C.w K153_26.eq_1
def K153_27 : C := .seq (.pl <| .e 24 1 <|
 .x 24 (.mkf (.func fn_impl_components_1) [] [.v 9, .v 4, .v 5, .v 8, .v 1, .v 11, .v 6, .v 10]) <|
 .o (.ex none (.store 1 (.v 11) (.v 24))) .done) K153_26
@[simp] def W153_27 := C.w K153_27.eq_1
def K153_28 : C := .seq (.pl <| .e 24 0 <|
 .c 11 (.alloc (.c (.nilFunc))) .done) K153_27
@[simp] def W153_28 := C.w K153_28.eq_1
def K153_29 : Pl := .o (.ex none (.store 1 (.v 10) (.c (.int .i64 0)))) .done
@[simp] def W153_29 := Pl.w K153_29.eq_1
def K153_30 : Pl := .o (.ex none (.store 1 (.v 9) (.c (.int .i64 0)))) K153_29
@[simp] def W153_30 := Pl.w K153_30.eq_1
def K153_31 : Pl := .c 10 (.alloc (.c (.int .i64 0))) K153_30
@[simp] def W153_31 := Pl.w K153_31.eq_1
def K153_32 : C := .seq (.pl <| .e 24 0 <|
 .c 9 (.alloc (.c (.int .i64 0))) K153_31) K153_28
@[simp] def W153_32 := C.w K153_32.eq_1
def K153_33 : C := .seq (.pl <| .e 24 0 <|
 .c 8 (.alloc (.c (.slice none 0 0))) .done) K153_32
@[simp] def W153_33 := C.w K153_33.eq_1
def K153_34 : C := .pl <| .e 24 1 <|
 .x 24 (.bin .add (.v 18) (.c (.int .i64 1))) <|
 .m 18 24 .done
@[simp] def W153_34 := C.w K153_34.eq_1
def K153_35 : C := .pl <| .e 24 3 <|
 .l 24 6 <|
 .m 25 7 <|
 .x 26 (.ia 1 (.v 24) (.v 25)) <|
 .o (.ex none (.store 1 (.v 26) (.c (.int .i64 (-1))))) .done
@[simp] def W153_35 := C.w K153_35.eq_1
def K153_36 : C := .seq (.block 1 (.seq (.pl <| .e 24 1 <|
 .m 24 18 <|
 .m 7 24 .done) K153_35)) K153_34
@[simp] def W153_36 := C.w K153_36.eq_1
def K153_37 : C := .seq (.cond 24 (.v 24) (.skip) (.exit 0)) K153_36
@[simp] def W153_37 := C.w K153_37.eq_1
def K153_38 : C := .seq (.pl <| .e 24 1 <|
 .x 24 (.bin .lss (.v 18) (.v 17)) .done) K153_37
@[simp] def W153_38 := C.w K153_38.eq_1
def K153_39 : C := .block 0 (.loop 24 [0, 2, 7, 8, 9, 10, 11, 12, 13, 14, 15, 16, 19, 20, 21, 22, 23] K153_38)
@[simp] def W153_39 := C.w K153_39.eq_1
def K153_40 : C := .seq (.seq (.pl <| .e 24 1 <|
 .l 24 6 <|
 .x 17 (.lenV (.v 24)) <|
 .x 18 (.mv (.c (.int .i64 0))) .done) K153_39) K153_33
@[simp] def W153_40 := C.w K153_40.eq_1
def K153_41 : Pl := .o (.ex none (.store 1 (.v 6) (.v 29))) .done
@[simp] def W153_41 := Pl.w K153_41.eq_1
def K153_42 : Pl := .o (.ex none (.store 1 (.v 5) (.v 27))) K153_41
@[simp] def W153_42 := Pl.w K153_42.eq_1
def K153_43 : Pl := .o (.ex none (.store 1 (.v 4) (.v 25))) K153_42
@[simp] def W153_43 := Pl.w K153_43.eq_1
def K153_44 : Pl := .c 6 (.alloc (.c (.slice none 0 0))) K153_43
@[simp] def W153_44 := Pl.w K153_44.eq_1
def K153_45 : Pl := .c 5 (.alloc (.c (.slice none 0 0))) K153_44
@[simp] def W153_45 := Pl.w K153_45.eq_1
def K153_46 : Pl := .c 4 (.alloc (.c (.slice none 0 0))) K153_45
@[simp] def W153_46 := Pl.w K153_46.eq_1
def K153_47 : Pl := .m 28 3 <|
 .c 29 (.mks 8 1 [.int .i64 0] (.v 28) (.v 28)) K153_46
@[simp] def W153_47 := Pl.w K153_47.eq_1
def K153_48 : Pl := .m 26 3 <|
 .c 27 (.mks 8 1 [.int .i64 0] (.v 26) (.v 26)) K153_47
@[simp] def W153_48 := Pl.w K153_48.eq_1
def K153_49 : C := .seq (.pl <| .e 24 6 <|
 .m 24 3 <|
 .c 25 (.mks 8 1 [.int .i64 0] (.v 24) (.v 24)) K153_48) K153_40
@[simp] def W153_49 := C.w K153_49.eq_1
def K153_50 : C := .seq (.pl <| .e 24 2 <|
 .l 24 1 <|
 .x 25 (.lenV (.v 24)) <|
 .m 3 25 .done) K153_49
@[simp] def W153_50 := C.w K153_50.eq_1
def K153_51 : Pl := .x 2 (.mv (.c (.slice none 0 0))) .done
@[simp] def W153_51 := Pl.w K153_51.eq_1
def B_impl_components : C := .seq (.pl <| .e 24 0 <|
 .c 1 (.alloc (.v 0)) K153_51) K153_50
@[simp] def WB_impl_components := C.w B_impl_components.eq_1
def R_impl_components : FIR := ⟨B_impl_components, 24, [(2, none)]⟩
theorem IR_impl_components : cfun Try.prog H_impl_components Try.f153 = some R_impl_components := by kernel_rfl
theorem EN_impl_components : ENT Try.prog B_impl_components [(2, none)] 1 24 fn_impl_components := fun hargs hw => enter Try.func153 rfl IR_impl_components hargs hw
def H_impl_components_1 : Hint := ⟨[(0, false), (1, false), (2, false), (3, false), (4, false), (5, false), (6, false), (7, false), (8, false), (11, false), (12, false), (30, false), (31, false), (32, false)], [[1, 5, 9, 10], [1, 2, 3, 5, 6, 9, 11, 12, 13]]⟩
def K176_1 : C := .pl <| .e 14 2 <|
 .l 14 8 <|
 .x 15 (.bin .add (.v 14) (.c (.int .i64 1))) <|
 .o (.ex none (.store 1 (.v 8) (.v 15))) .done
@[simp] def W176_1 := C.w K176_1.eq_1
def K176_2 : C := .pl <| .e 14 4 <|
 .l 14 7 <|
 .m 15 10 <|
 .l 16 8 <|
 .x 17 (.ia 1 (.v 14) (.v 15)) <|
 .o (.ex none (.store 1 (.v 17) (.v 16))) .done
@[simp] def W176_2 := C.w K176_2.eq_1
def K176_3 : C := .seq (.pl <| .e 14 5 <|
 .l 14 4 <|
 .l 15 4 <|
 .x 16 (.lenV (.v 15)) <|
 .x 17 (.bin .sub (.v 16) (.c (.int .i64 1))) <|
 .x 18 (.sliceV 1 (.v 14) none (some (.v 17)) none) <|
 .o (.ex none (.store 1 (.v 4) (.v 18))) .done) K176_2
@[simp] def W176_3 := C.w K176_3.eq_1
def K176_4 : C := .block 4 (.seq (.pl <| .e 14 6 <|
 .l 14 4 <|
 .l 15 4 <|
 .x 16 (.lenV (.v 15)) <|
 .x 17 (.bin .sub (.v 16) (.c (.int .i64 1))) <|
 .x 18 (.ia 1 (.v 14) (.v 17)) <|
 .l 19 18 <|
 .m 10 19 .done) K176_3)
@[simp] def W176_4 := C.w K176_4.eq_1
def K176_5 : C := .cond 14 (.v 16) (.skip) (.exit 3)
@[simp] def W176_5 := C.w K176_5.eq_1
def K176_6 : C := .seq (.seq (.pl <| .e 14 3 <|
 .m 14 10 <|
 .m 15 0 <|
 .x 16 (.bin .neq (.v 14) (.v 15)) .done) K176_5) K176_4
@[simp] def W176_6 := C.w K176_6.eq_1
def K176_7 : C := .block 3 (.loop 14 [1, 2, 3, 5, 6, 9, 11, 12, 13] K176_6)
@[simp] def W176_7 := C.w K176_7.eq_1
def K176_8 : C := .seq (.seq (.pl <| .e 14 0 <|
 .x 10 (.mv (.c (.int .i64 (-1)))) .done) K176_7) K176_1
@[simp] def W176_8 := C.w K176_8.eq_1
def K176_9 : C := .cond 14 (.v 22) K176_8 (.skip)
@[simp] def W176_9 := C.w K176_9.eq_1
def K176_10 : C := .seq (.pl <| .e 14 9 <|
 .l 14 3 <|
 .m 15 0 <|
 .x 16 (.ia 1 (.v 14) (.v 15)) <|
 .l 17 16 <|
 .l 18 2 <|
 .m 19 0 <|
 .x 20 (.ia 1 (.v 18) (.v 19)) <|
 .l 21 20 <|
 .x 22 (.bin .eql (.v 17) (.v 21)) .done) K176_9
@[simp] def W176_10 := C.w K176_10.eq_1
def K176_11 : C := .pl <| .e 14 1 <|
 .x 14 (.bin .add (.v 13) (.c (.int .i64 1))) <|
 .m 13 14 .done
@[simp] def W176_11 := C.w K176_11.eq_1
def K176_12 : C := .pl <| .e 14 12 <|
 .l 14 3 <|
 .m 15 0 <|
 .l 16 3 <|
 .m 17 0 <|
 .x 18 (.ia 1 (.v 16) (.v 17)) <|
 .l 19 18 <|
 .l 20 3 <|
 .m 21 9 <|
 .x 22 (.ia 1 (.v 20) (.v 21)) <|
 .l 23 22 <|
 .x 24 (.minI (.v 19) (.v 23)) <|
 .x 25 (.ia 1 (.v 14) (.v 15)) <|
 .o (.ex none (.store 1 (.v 25) (.v 24))) .done
@[simp] def W176_12 := C.w K176_12.eq_1
def K176_13 : C := .seq (.pl <| .e 14 3 <|
 .l 14 6 <|
 .m 15 9 <|
 .c 16 (.callv (.v 14) [.v 15]) .done) K176_12
@[simp] def W176_13 := C.w K176_13.eq_1
def K176_14 : C := .pl <| .e 14 12 <|
 .l 14 3 <|
 .m 15 0 <|
 .l 16 3 <|
 .m 17 0 <|
 .x 18 (.ia 1 (.v 16) (.v 17)) <|
 .l 19 18 <|
 .l 20 2 <|
 .m 21 9 <|
 .x 22 (.ia 1 (.v 20) (.v 21)) <|
 .l 23 22 <|
 .x 24 (.minI (.v 19) (.v 23)) <|
 .x 25 (.ia 1 (.v 14) (.v 15)) <|
 .o (.ex none (.store 1 (.v 25) (.v 24))) .done
@[simp] def W176_14 := C.w K176_14.eq_1
def K176_15 : C := .cond 14 (.v 19) K176_14 (.skip)
@[simp] def W176_15 := C.w K176_15.eq_1
def K176_16 : C := .seq (.pl <| .e 14 6 <|
 .l 14 7 <|
 .m 15 9 <|
 .x 16 (.ia 1 (.v 14) (.v 15)) <|
 .l 17 16 <|
 .x 18 (.bin .lss (.v 17) (.c (.int .i64 0))) <|
 .m 19 18 .done) K176_15
@[simp] def W176_16 := C.w K176_16.eq_1
def K176_17 : C := .cond 14 (.v 19) K176_13 K176_16
@[simp] def W176_17 := C.w K176_17.eq_1
def K176_18 : C := .block 2 (.seq (.pl <| .e 14 6 <|
 .l 14 2 <|
 .m 15 9 <|
 .x 16 (.ia 1 (.v 14) (.v 15)) <|
 .l 17 16 <|
 .x 18 (.bin .eql (.v 17) (.c (.int .i64 0))) <|
 .m 19 18 .done) K176_17)
@[simp] def W176_18 := C.w K176_18.eq_1
def K176_19 : C := .seq (.block 1 (.seq (.pl <| .e 14 2 <|
 .x 14 (.ia 1 (.v 11) (.v 13)) <|
 .l 15 14 <|
 .m 9 15 .done) K176_18)) K176_11
@[simp] def W176_19 := C.w K176_19.eq_1
def K176_20 : C := .seq (.cond 14 (.v 14) (.skip) (.exit 0)) K176_19
@[simp] def W176_20 := C.w K176_20.eq_1
def K176_21 : C := .seq (.pl <| .e 14 1 <|
 .x 14 (.bin .lss (.v 13) (.v 12)) .done) K176_20
@[simp] def W176_21 := C.w K176_21.eq_1
def K176_22 : C := .block 0 (.loop 14 [1, 5, 9, 10] K176_21)
@[simp] def W176_22 := C.w K176_22.eq_1
def K176_23 : C := .seq (.seq (.pl <| .e 14 3 <|
 .l 14 5 <|
 .m 15 0 <|
 .x 16 (.ia 1 (.v 14) (.v 15)) <|
 .l 11 16 <|
 .x 12 (.lenV (.v 11)) <|
 .x 13 (.mv (.c (.int .i64 0))) .done) K176_22) K176_10
@[simp] def W176_23 := C.w K176_23.eq_1
def K176_24 : Pl := .o (.ex none (.store 1 (.v 4) (.v 17))) .done
@[simp] def W176_24 := Pl.w K176_24.eq_1
def K176_25 : C := .seq (.pl <| .e 14 4 <|
 .l 14 4 <|
 .m 15 0 <|
 .o (.psl 16 [.int .i64 0] [(0, 1, .v 15)]) <|
 .c 17 (.app 8 1 [.int .i64 0] (.o (.v 14)) (.p 1 16)) K176_24) K176_23
@[simp] def W176_25 := C.w K176_25.eq_1
def K176_26 : Pl := .st (.re 16 (.v 3) none none) <|
 .st (.re 19 (.v 1) none none) <|
 .x 21 (.ia 1 (.v 16) (.v 17)) <|
 .o (.ex none (.store 1 (.v 21) (.v 19))) .done
@[simp] def W176_26 := Pl.w K176_26.eq_1
def K176_27 : C := .seq (.pl <| .e 14 8 <|
 .l 14 2 <|
 .m 15 0 <|
 .l 16 3 <|
 .m 17 0 <|
 .l 18 1 <|
 .l 19 1 <|
 .x 20 (.ia 1 (.v 14) (.v 15)) <|
 .o (.ex none (.store 1 (.v 20) (.v 18))) K176_26) K176_25
@[simp] def W176_27 := C.w K176_27.eq_1
def B_impl_components_1 : C := .seq (.pl <| .e 14 2 <|
 .l 14 1 <|
 .x 15 (.bin .add (.v 14) (.c (.int .i64 1))) <|
 .o (.ex none (.store 1 (.v 1) (.v 15))) .done) K176_27
@[simp] def WB_impl_components_1 := C.w B_impl_components_1.eq_1
def R_impl_components_1 : FIR := ⟨B_impl_components_1, 14, []⟩
theorem IR_impl_components_1 : cfun Try.prog H_impl_components_1 Try.f176 = some R_impl_components_1 := by kernel_rfl
theorem EN_impl_components_1 : ENT Try.prog B_impl_components_1 [] 9 14 fn_impl_components_1 := fun hargs hw => enter Try.func176 rfl IR_impl_components_1 hargs hw
def H_impl_cyclic : Hint := ⟨[(0, false), (2, false), (3, false), (4, false), (6, false), (7, false), (8, false), (14, false), (15, false), (16, false), (31, false), (32, false)], [[1, 4, 5, 6, 10, 11], [1, 4, 6, 7, 8, 9]]⟩
def K113_1 : C := .seq (.pl <| .e 12 1 <|
 .m 12 5 <|
 .m 1 12 .done) (.ret)
@[simp] def W113_1 := C.w K113_1.eq_1
def K113_2 : C := .pl <| .e 12 1 <|
 .x 12 (.bin .add (.v 11) (.c (.int .i64 1))) <|
 .m 11 12 .done
@[simp] def W113_2 := C.w K113_2.eq_1
def K113_3 : Pl := .x 29 (.pick (.v 22) (.c (.bool true)) (.v 28)) <|
 .x 30 (.ia 1 (.v 12) (.v 13)) <|
 .o (.ex none (.store 1 (.v 30) (.v 29))) .done
@[simp] def W113_3 := Pl.w K113_3.eq_1
def K113_4 : C := .pl <| .e 12 19 <|
 .m 12 5 <|
 .m 13 6 <|
 .m 14 3 <|
 .m 15 2 <|
 .m 16 6 <|
 .x 17 (.ia 1 (.v 15) (.v 16)) <|
 .l 18 17 <|
 .x 19 (.ia 1 (.v 14) (.v 18)) <|
 .l 20 19 <|
 .x 21 (.bin .gtr (.v 20) (.c (.int .i64 1))) <|
 .m 22 21 <|
 .n 22 (.px (some 23) (.mv (.v 0))) <|
 .n 22 (.px (some 24) (.mv (.v 6))) <|
 .n 22 (.px (some 25) (.ia 1 (.v 23) (.v 24))) <|
 .n 22 (.ld (some 26) (.v 25) none) <|
 .n 22 (.px (some 27) (.mv (.v 6))) <|
 .st (.act (some (.v 22, false)) (.ex (some 28) (.call fn_slices_Contains_S_int_int [.v 26, .v 27]))) K113_3
@[simp] def W113_4 := C.w K113_4.eq_1
def K113_5 : C := .seq (.block 3 (.seq (.pl <| .e 12 1 <|
 .m 12 11 <|
 .m 6 12 .done) K113_4)) K113_2
@[simp] def W113_5 := C.w K113_5.eq_1
def K113_6 : C := .seq (.cond 12 (.v 12) (.skip) (.exit 2)) K113_5
@[simp] def W113_6 := C.w K113_6.eq_1
def K113_7 : C := .seq (.pl <| .e 12 1 <|
 .x 12 (.bin .lss (.v 11) (.v 10)) .done) K113_6
@[simp] def W113_7 := C.w K113_7.eq_1
def K113_8 : C := .block 2 (.loop 12 [1, 4, 6, 7, 8, 9] K113_7)
@[simp] def W113_8 := C.w K113_8.eq_1
def K113_9 : C := .seq (.seq (.pl <| .e 12 1 <|
 .m 12 0 <|
 .x 10 (.lenV (.v 12)) <|
 .x 11 (.mv (.c (.int .i64 0))) .done) K113_8) K113_1
@[simp] def W113_9 := C.w K113_9.eq_1
def K113_10 : Pl := .m 5 14 .done
@[simp] def W113_10 := Pl.w K113_10.eq_1
def K113_11 : C := .seq (.pl <| .e 12 3 <|
 .m 12 0 <|
 .x 13 (.lenV (.v 12)) <|
 .c 14 (.mks 1 1 [.bool false] (.v 13) (.v 13)) K113_10) K113_9
@[simp] def W113_11 := C.w K113_11.eq_1
def K113_12 : C := .pl <| .e 12 1 <|
 .x 12 (.bin .add (.v 9) (.c (.int .i64 1))) <|
 .m 9 12 .done
@[simp] def W113_12 := C.w K113_12.eq_1
def K113_13 : C := .pl <| .e 12 6 <|
 .m 12 3 <|
 .m 13 4 <|
 .x 14 (.ia 1 (.v 12) (.v 13)) <|
 .l 15 14 <|
 .x 16 (.bin .add (.v 15) (.c (.int .i64 1))) <|
 .x 17 (.ia 1 (.v 12) (.v 13)) <|
 .o (.ex none (.store 1 (.v 17) (.v 16))) .done
@[simp] def W113_13 := C.w K113_13.eq_1
def K113_14 : C := .seq (.block 1 (.seq (.pl <| .e 12 2 <|
 .x 12 (.ia 1 (.v 7) (.v 9)) <|
 .l 13 12 <|
 .m 4 13 .done) K113_13)) K113_12
@[simp] def W113_14 := C.w K113_14.eq_1
def K113_15 : C := .seq (.cond 12 (.v 12) (.skip) (.exit 0)) K113_14
@[simp] def W113_15 := C.w K113_15.eq_1
def K113_16 : C := .seq (.pl <| .e 12 1 <|
 .x 12 (.bin .lss (.v 9) (.v 8)) .done) K113_15
@[simp] def W113_16 := C.w K113_16.eq_1
def K113_17 : C := .block 0 (.loop 12 [1, 4, 5, 6, 10, 11] K113_16)
@[simp] def W113_17 := C.w K113_17.eq_1
def K113_18 : C := .seq (.seq (.pl <| .e 12 0 <|
 .m 7 2 <|
 .x 8 (.lenV (.v 7)) <|
 .x 9 (.mv (.c (.int .i64 0))) .done) K113_17) K113_11
@[simp] def W113_18 := C.w K113_18.eq_1
def K113_19 : Pl := .m 3 14 .done
@[simp] def W113_19 := Pl.w K113_19.eq_1
def K113_20 : C := .seq (.pl <| .e 12 3 <|
 .m 12 0 <|
 .x 13 (.lenV (.v 12)) <|
 .c 14 (.mks 8 1 [.int .i64 0] (.v 13) (.v 13)) K113_19) K113_18
@[simp] def W113_20 := C.w K113_20.eq_1
def K113_21 : Pl := .m 2 13 .done
@[simp] def W113_21 := Pl.w K113_21.eq_1
def K113_22 : C := .seq (.pl <| .e 12 2 <|
 .m 12 0 <|
 .c 13 (.call fn_impl_components [.v 12]) K113_21) K113_20
@[simp] def W113_22 := C.w K113_22.eq_1
def B_impl_cyclic : C := .seq (.pl <| .e 12 0 <|
 .x 1 (.mv (.c (.slice none 0 0))) .done) K113_22
@[simp] def WB_impl_cyclic := C.w B_impl_cyclic.eq_1
def R_impl_cyclic : FIR := ⟨B_impl_cyclic, 12, [(1, none)]⟩
theorem IR_impl_cyclic : cfun Try.prog H_impl_cyclic Try.f113 = some R_impl_cyclic := by kernel_rfl
theorem EN_impl_cyclic : ENT Try.prog B_impl_cyclic [(1, none)] 1 12 fn_impl_cyclic := fun hargs hw => enter Try.func113 rfl IR_impl_cyclic hargs hw
def H_impl_letters : Hint := ⟨[(0, false), (2, false)], []⟩
def K104_1 : Pl := .x 4 (.un .not (.v 3)) <|
 .m 1 4 .done
@[simp] def W104_1 := Pl.w K104_1.eq_1
def K104_2 : C := .seq (.pl <| .e 2 3 <|
 .m 2 0 <|
 .c 3 (.call fn_slices_ContainsFunc_S_int_int [.v 2, .c (.func (.func 150) #[] #[])]) K104_1) (.ret)
@[simp] def W104_2 := C.w K104_2.eq_1
def B_impl_letters : C := .seq (.pl <| .e 2 0 <|
 .x 1 (.mv (.c (.bool false))) .done) K104_2
@[simp] def WB_impl_letters := C.w B_impl_letters.eq_1
def R_impl_letters : FIR := ⟨B_impl_letters, 2, [(1, none)]⟩
theorem IR_impl_letters : cfun Try.prog H_impl_letters Try.f104 = some R_impl_letters := by kernel_rfl
theorem EN_impl_letters : ENT Try.prog B_impl_letters [(1, none)] 1 2 fn_impl_letters := fun hargs hw => enter Try.func104 rfl IR_impl_letters hargs hw
def H_impl_letters_1 : Hint := ⟨[(0, false), (2, false)], []⟩
def K150_1 : Pl := .x 4 (.un .not (.v 3)) <|
 .m 1 4 .done
@[simp] def W150_1 := Pl.w K150_1.eq_1
def K150_2 : C := .seq (.pl <| .e 2 3 <|
 .m 2 0 <|
 .c 3 (.call fn_impl_in [.v 2, .c (.int .i64 0), .c (.int .i64 7)]) K150_1) (.ret)
@[simp] def W150_2 := C.w K150_2.eq_1
def B_impl_letters_1 : C := .seq (.pl <| .e 2 0 <|
 .x 1 (.mv (.c (.bool false))) .done) K150_2
@[simp] def WB_impl_letters_1 := C.w B_impl_letters_1.eq_1
def R_impl_letters_1 : FIR := ⟨B_impl_letters_1, 2, [(1, none)]⟩
theorem IR_impl_letters_1 : cfun Try.prog H_impl_letters_1 Try.f150 = some R_impl_letters_1 := by kernel_rfl
theorem EN_impl_letters_1 : ENT Try.prog B_impl_letters_1 [(1, none)] 1 2 fn_impl_letters_1 := fun hargs hw => enter Try.func150 rfl IR_impl_letters_1 hargs hw
def H_impl_reachable : Hint := ⟨[(0, false), (1, false), (4, false), (5, false), (6, false), (8, false), (9, false), (11, false), (17, false), (18, false), (19, false), (44, false), (45, false), (46, false)], [[1, 2, 5, 6, 7, 11, 12, 13], [1, 2, 5, 6, 7, 8, 9, 10, 11, 12, 13], [1, 2, 5, 6, 7, 8, 9, 10]]⟩
def K114_1 : C := .seq (.pl <| .e 14 1 <|
 .m 14 3 <|
 .m 2 14 .done) (.ret)
@[simp] def W114_1 := C.w K114_1.eq_1
def K114_2 : C := .pl <| .e 14 1 <|
 .x 14 (.bin .add (.v 13) (.c (.int .i64 1))) <|
 .m 13 14 .done
@[simp] def W114_2 := C.w K114_2.eq_1
def K114_3 : Pl := .m 4 17 .done
@[simp] def W114_3 := Pl.w K114_3.eq_1
def K114_4 : C := .pl <| .e 14 4 <|
 .m 14 4 <|
 .m 15 7 <|
 .o (.psl 16 [.int .i64 0] [(0, 1, .v 15)]) <|
 .c 17 (.app 8 1 [.int .i64 0] (.o (.v 14)) (.p 1 16)) K114_3
@[simp] def W114_4 := C.w K114_4.eq_1
def K114_5 : C := .seq (.pl <| .e 14 3 <|
 .m 14 3 <|
 .m 15 7 <|
 .x 16 (.ia 1 (.v 14) (.v 15)) <|
 .o (.ex none (.store 1 (.v 16) (.c (.bool true)))) .done) K114_4
@[simp] def W114_5 := C.w K114_5.eq_1
def K114_6 : C := .cond 14 (.v 18) K114_5 (.skip)
@[simp] def W114_6 := C.w K114_6.eq_1
def K114_7 : C := .seq (.pl <| .e 14 5 <|
 .m 14 3 <|
 .m 15 7 <|
 .x 16 (.ia 1 (.v 14) (.v 15)) <|
 .l 17 16 <|
 .x 18 (.un .not (.v 17)) .done) K114_6
@[simp] def W114_7 := C.w K114_7.eq_1
def K114_8 : C := .seq (.block 5 (.seq (.pl <| .e 14 2 <|
 .x 14 (.ia 1 (.v 11) (.v 13)) <|
 .l 15 14 <|
 .m 7 15 .done) K114_7)) K114_2
@[simp] def W114_8 := C.w K114_8.eq_1
def K114_9 : C := .seq (.cond 14 (.v 14) (.skip) (.exit 4)) K114_8
@[simp] def W114_9 := C.w K114_9.eq_1
def K114_10 : C := .seq (.pl <| .e 14 1 <|
 .x 14 (.bin .lss (.v 13) (.v 12)) .done) K114_9
@[simp] def W114_10 := C.w K114_10.eq_1
def K114_11 : C := .block 4 (.loop 14 [1, 2, 5, 6, 7, 8, 9, 10] K114_10)
@[simp] def W114_11 := C.w K114_11.eq_1
def K114_12 : C := .seq (.pl <| .e 14 3 <|
 .m 14 0 <|
 .m 15 6 <|
 .x 16 (.ia 1 (.v 14) (.v 15)) <|
 .l 11 16 <|
 .x 12 (.lenV (.v 11)) <|
 .x 13 (.mv (.c (.int .i64 0))) .done) K114_11
@[simp] def W114_12 := C.w K114_12.eq_1
def K114_13 : C := .seq (.pl <| .e 14 5 <|
 .m 14 4 <|
 .m 15 4 <|
 .x 16 (.lenV (.v 15)) <|
 .x 17 (.bin .sub (.v 16) (.c (.int .i64 1))) <|
 .x 18 (.sliceV 1 (.v 14) none (some (.v 17)) none) <|
 .m 4 18 .done) K114_12
@[simp] def W114_13 := C.w K114_13.eq_1
def K114_14 : C := .block 3 (.seq (.pl <| .e 14 6 <|
 .m 14 4 <|
 .m 15 4 <|
 .x 16 (.lenV (.v 15)) <|
 .x 17 (.bin .sub (.v 16) (.c (.int .i64 1))) <|
 .x 18 (.ia 1 (.v 14) (.v 17)) <|
 .l 19 18 <|
 .m 6 19 .done) K114_13)
@[simp] def W114_14 := C.w K114_14.eq_1
def K114_15 : C := .cond 14 (.v 16) (.skip) (.exit 2)
@[simp] def W114_15 := C.w K114_15.eq_1
def K114_16 : C := .seq (.seq (.pl <| .e 14 3 <|
 .m 14 4 <|
 .x 15 (.lenV (.v 14)) <|
 .x 16 (.bin .gtr (.v 15) (.c (.int .i64 0))) .done) K114_15) K114_14
@[simp] def W114_16 := C.w K114_16.eq_1
def K114_17 : C := .seq (.block 2 (.loop 14 [1, 2, 5, 6, 7, 8, 9, 10, 11, 12, 13] K114_16)) K114_1
@[simp] def W114_17 := C.w K114_17.eq_1
def K114_18 : C := .pl <| .e 14 1 <|
 .x 14 (.bin .add (.v 10) (.c (.int .i64 1))) <|
 .m 10 14 .done
@[simp] def W114_18 := C.w K114_18.eq_1
def K114_19 : C := .pl <| .e 14 3 <|
 .m 14 3 <|
 .m 15 5 <|
 .x 16 (.ia 1 (.v 14) (.v 15)) <|
 .o (.ex none (.store 1 (.v 16) (.c (.bool true)))) .done
@[simp] def W114_19 := C.w K114_19.eq_1
def K114_20 : C := .seq (.block 1 (.seq (.pl <| .e 14 2 <|
 .x 14 (.ia 1 (.v 8) (.v 10)) <|
 .l 15 14 <|
 .m 5 15 .done) K114_19)) K114_18
@[simp] def W114_20 := C.w K114_20.eq_1
def K114_21 : C := .seq (.cond 14 (.v 14) (.skip) (.exit 0)) K114_20
@[simp] def W114_21 := C.w K114_21.eq_1
def K114_22 : C := .seq (.pl <| .e 14 1 <|
 .x 14 (.bin .lss (.v 10) (.v 9)) .done) K114_21
@[simp] def W114_22 := C.w K114_22.eq_1
def K114_23 : C := .block 0 (.loop 14 [1, 2, 5, 6, 7, 11, 12, 13] K114_22)
@[simp] def W114_23 := C.w K114_23.eq_1
def K114_24 : C := .seq (.seq (.pl <| .e 14 0 <|
 .m 8 1 <|
 .x 9 (.lenV (.v 8)) <|
 .x 10 (.mv (.c (.int .i64 0))) .done) K114_23) K114_17
@[simp] def W114_24 := C.w K114_24.eq_1
def K114_25 : Pl := .m 4 15 .done
@[simp] def W114_25 := Pl.w K114_25.eq_1
def K114_26 : C := .seq (.pl <| .e 14 2 <|
 .m 14 1 <|
 .c 15 (.call fn_impl_clone_int [.v 14]) K114_25) K114_24
@[simp] def W114_26 := C.w K114_26.eq_1
def K114_27 : Pl := .m 3 16 .done
@[simp] def W114_27 := Pl.w K114_27.eq_1
def K114_28 : C := .seq (.pl <| .e 14 3 <|
 .m 14 0 <|
 .x 15 (.lenV (.v 14)) <|
 .c 16 (.mks 1 1 [.bool false] (.v 15) (.v 15)) K114_27) K114_26
@[simp] def W114_28 := C.w K114_28.eq_1
def B_impl_reachable : C := .seq (.pl <| .e 14 0 <|
 .x 2 (.mv (.c (.slice none 0 0))) .done) K114_28
@[simp] def WB_impl_reachable := C.w B_impl_reachable.eq_1
def R_impl_reachable : FIR := ⟨B_impl_reachable, 14, [(2, none)]⟩
theorem IR_impl_reachable : cfun Try.prog H_impl_reachable Try.f114 = some R_impl_reachable := by kernel_rfl
theorem EN_impl_reachable : ENT Try.prog B_impl_reachable [(2, none)] 2 14 fn_impl_reachable := fun hargs hw => enter Try.func114 rfl IR_impl_reachable hargs hw
def H_slices_ContainsFunc_S_int_int : Hint := ⟨[(0, false), (1, false), (4, false)], []⟩
def K86_1 : Pl := .x 6 (.bin .geq (.v 5) (.c (.int .i64 0))) <|
 .m 2 6 .done
@[simp] def W86_1 := Pl.w K86_1.eq_1
def K86_2 : C := .seq (.pl <| .e 3 4 <|
 .m 3 0 <|
 .m 4 1 <|
 .c 5 (.call fn_slices_IndexFunc_S_int_int [.v 3, .v 4]) K86_1) (.ret)
@[simp] def W86_2 := C.w K86_2.eq_1
def B_slices_ContainsFunc_S_int_int : C := .seq (.pl <| .e 3 0 <|
 .x 2 (.mv (.c (.bool false))) .done) K86_2
@[simp] def WB_slices_ContainsFunc_S_int_int := C.w B_slices_ContainsFunc_S_int_int.eq_1
def R_slices_ContainsFunc_S_int_int : FIR := ⟨B_slices_ContainsFunc_S_int_int, 3, [(2, none)]⟩
theorem IR_slices_ContainsFunc_S_int_int : cfun Try.prog H_slices_ContainsFunc_S_int_int Try.f86 = some R_slices_ContainsFunc_S_int_int := by kernel_rfl
theorem EN_slices_ContainsFunc_S_int_int : ENT Try.prog B_slices_ContainsFunc_S_int_int [(2, none)] 2 3 fn_slices_ContainsFunc_S_int_int := fun hargs hw => enter Try.func86 rfl IR_slices_ContainsFunc_S_int_int hargs hw
def H_slices_Contains_S_int_int : Hint := ⟨[(0, false), (1, false), (4, false)], []⟩
def K154_1 : Pl := .x 6 (.bin .geq (.v 5) (.c (.int .i64 0))) <|
 .m 2 6 .done
@[simp] def W154_1 := Pl.w K154_1.eq_1
def K154_2 : C := .seq (.pl <| .e 3 4 <|
 .m 3 0 <|
 .m 4 1 <|
 .c 5 (.call fn_slices_Index_S_int_int [.v 3, .v 4]) K154_1) (.ret)
@[simp] def W154_2 := C.w K154_2.eq_1
def B_slices_Contains_S_int_int : C := .seq (.pl <| .e 3 0 <|
 .x 2 (.mv (.c (.bool false))) .done) K154_2
@[simp] def WB_slices_Contains_S_int_int := C.w B_slices_Contains_S_int_int.eq_1
def R_slices_Contains_S_int_int : FIR := ⟨B_slices_Contains_S_int_int, 3, [(2, none)]⟩
theorem IR_slices_Contains_S_int_int : cfun Try.prog H_slices_Contains_S_int_int Try.f154 = some R_slices_Contains_S_int_int := by kernel_rfl
theorem EN_slices_Contains_S_int_int : ENT Try.prog B_slices_Contains_S_int_int [(2, none)] 2 3 fn_slices_Contains_S_int_int := fun hargs hw => enter Try.func154 rfl IR_slices_Contains_S_int_int hargs hw
def H_slices_IndexFunc_S_int_int : Hint := ⟨[(0, false), (1, false), (4, false), (5, false), (7, false), (8, false)], [[2, 3]]⟩
def K134_1 : C := .seq (.pl <| .e 6 0 <|
 .x 2 (.mv (.c (.int .i64 (-1)))) .done) (.ret)
@[simp] def W134_1 := C.w K134_1.eq_1
def K134_2 : C := .pl <| .e 6 1 <|
 .x 6 (.bin .add (.v 5) (.c (.int .i64 1))) <|
 .m 5 6 .done
@[simp] def W134_2 := C.w K134_2.eq_1
def K134_3 : C := .seq (.pl <| .e 6 1 <|
 .m 6 3 <|
 .m 2 6 .done) (.ret)
@[simp] def W134_3 := C.w K134_3.eq_1
def K134_4 : C := .cond 6 (.v 11) K134_3 (.skip)
@[simp] def W134_4 := C.w K134_4.eq_1
def K134_5 : C := .seq (.pl <| .e 6 6 <|
 .m 6 1 <|
 .m 7 0 <|
 .m 8 3 <|
 .x 9 (.ia 1 (.v 7) (.v 8)) <|
 .l 10 9 <|
 .c 11 (.callv (.v 6) [.v 10]) .done) K134_4
@[simp] def W134_5 := C.w K134_5.eq_1
def K134_6 : C := .seq (.block 1 (.seq (.pl <| .e 6 1 <|
 .m 6 5 <|
 .m 3 6 .done) K134_5)) K134_2
@[simp] def W134_6 := C.w K134_6.eq_1
def K134_7 : C := .seq (.cond 6 (.v 6) (.skip) (.exit 0)) K134_6
@[simp] def W134_7 := C.w K134_7.eq_1
def K134_8 : C := .seq (.pl <| .e 6 1 <|
 .x 6 (.bin .lss (.v 5) (.v 4)) .done) K134_7
@[simp] def W134_8 := C.w K134_8.eq_1
def K134_9 : C := .block 0 (.loop 6 [2, 3] K134_8)
@[simp] def W134_9 := C.w K134_9.eq_1
def K134_10 : C := .seq (.seq (.pl <| .e 6 1 <|
 .m 6 0 <|
 .x 4 (.lenV (.v 6)) <|
 .x 5 (.mv (.c (.int .i64 0))) .done) K134_9) K134_1
@[simp] def W134_10 := C.w K134_10.eq_1
def B_slices_IndexFunc_S_int_int : C := .seq (.pl <| .e 6 0 <|
 .x 2 (.mv (.c (.int .i64 0))) .done) K134_10
@[simp] def WB_slices_IndexFunc_S_int_int := C.w B_slices_IndexFunc_S_int_int.eq_1
def R_slices_IndexFunc_S_int_int : FIR := ⟨B_slices_IndexFunc_S_int_int, 6, [(2, none)]⟩
theorem IR_slices_IndexFunc_S_int_int : cfun Try.prog H_slices_IndexFunc_S_int_int Try.f134 = some R_slices_IndexFunc_S_int_int := by kernel_rfl
theorem EN_slices_IndexFunc_S_int_int : ENT Try.prog B_slices_IndexFunc_S_int_int [(2, none)] 2 6 fn_slices_IndexFunc_S_int_int := fun hargs hw => enter Try.func134 rfl IR_slices_IndexFunc_S_int_int hargs hw
def H_slices_Index_S_int_int : Hint := ⟨[(0, false), (1, false), (4, false), (5, false), (7, false), (8, false)], [[2, 3]]⟩
def K177_1 : C := .seq (.pl <| .e 6 0 <|
 .x 2 (.mv (.c (.int .i64 (-1)))) .done) (.ret)
@[simp] def W177_1 := C.w K177_1.eq_1
def K177_2 : C := .pl <| .e 6 1 <|
 .x 6 (.bin .add (.v 5) (.c (.int .i64 1))) <|
 .m 5 6 .done
@[simp] def W177_2 := C.w K177_2.eq_1
def K177_3 : C := .seq (.pl <| .e 6 1 <|
 .m 6 3 <|
 .m 2 6 .done) (.ret)
@[simp] def W177_3 := C.w K177_3.eq_1
def K177_4 : C := .cond 6 (.v 11) K177_3 (.skip)
@[simp] def W177_4 := C.w K177_4.eq_1
def K177_5 : C := .seq (.pl <| .e 6 6 <|
 .m 6 1 <|
 .m 7 0 <|
 .m 8 3 <|
 .x 9 (.ia 1 (.v 7) (.v 8)) <|
 .l 10 9 <|
 .x 11 (.bin .eql (.v 6) (.v 10)) .done) K177_4
@[simp] def W177_5 := C.w K177_5.eq_1
def K177_6 : C := .seq (.block 1 (.seq (.pl <| .e 6 1 <|
 .m 6 5 <|
 .m 3 6 .done) K177_5)) K177_2
@[simp] def W177_6 := C.w K177_6.eq_1
def K177_7 : C := .seq (.cond 6 (.v 6) (.skip) (.exit 0)) K177_6
@[simp] def W177_7 := C.w K177_7.eq_1
def K177_8 : C := .seq (.pl <| .e 6 1 <|
 .x 6 (.bin .lss (.v 5) (.v 4)) .done) K177_7
@[simp] def W177_8 := C.w K177_8.eq_1
def K177_9 : C := .block 0 (.loop 6 [2, 3] K177_8)
@[simp] def W177_9 := C.w K177_9.eq_1
def K177_10 : C := .seq (.seq (.pl <| .e 6 1 <|
 .m 6 0 <|
 .x 4 (.lenV (.v 6)) <|
 .x 5 (.mv (.c (.int .i64 0))) .done) K177_9) K177_1
@[simp] def W177_10 := C.w K177_10.eq_1
def B_slices_Index_S_int_int : C := .seq (.pl <| .e 6 0 <|
 .x 2 (.mv (.c (.int .i64 0))) .done) K177_10
@[simp] def WB_slices_Index_S_int_int := C.w B_slices_Index_S_int_int.eq_1
def R_slices_Index_S_int_int : FIR := ⟨B_slices_Index_S_int_int, 6, [(2, none)]⟩
theorem IR_slices_Index_S_int_int : cfun Try.prog H_slices_Index_S_int_int Try.f177 = some R_slices_Index_S_int_int := by kernel_rfl
theorem EN_slices_Index_S_int_int : ENT Try.prog B_slices_Index_S_int_int [(2, none)] 2 6 fn_slices_Index_S_int_int := fun hargs hw => enter Try.func177 rfl IR_slices_Index_S_int_int hargs hw
end Go.Proofs.Ytglnelcmcimljaa

namespace Go.Proofs.Ytglnelcmcimljaa
open Go
def H_impl_AutomatonValid : Hint := ⟨[(0, false), (1, true), (2, false), (3, false), (4, false), (6, false), (11, false), (12, false), (13, false)], [[0, 2, 5]]⟩
def K46_1 : Pl := .y 17 (.px (some 22) (.un .not (.v 21))) <|
 .x 23 (.pick (.v 17) (.v 22) (.c (.bool false))) <|
 .m 2 23 .done
@[simp] def W46_1 := Pl.w K46_1.eq_1
def K46_2 : Pl := .m 11 10 <|
 .y 11 (.als 12 none 1) <|
 .y 11 (.pget (some 13) (some 12) 1 2 none) <|
 .y 11 (.px (some 14) (.lenV (.v 13))) <|
 .y 11 (.px (some 15) (.bin .leq (.v 14) (.c (.int .i64 2048)))) <|
 .x 16 (.pick (.v 11) (.v 15) (.c (.bool false))) <|
 .m 17 16 <|
 .y 17 (.als 18 none 1) <|
 .y 17 (.pget (some 19) (some 18) 1 2 none) <|
 .y 17 (.px (some 20) (.mkf (.func fn_impl_AutomatonValid_1) [] [.v 3])) <|
 .st (.act (some (.v 17, true)) (.ex (some 21) (.call fn_slices_ContainsFunc_S_impl_Transition_impl_Transition [.v 19, .v 20]))) K46_1
@[simp] def W46_2 := Pl.w K46_2.eq_1
def K46_3 : C := .seq (.pl <| .e 9 15 <|
 .l 9 3 <|
 .c 10 (.call fn_impl_in [.v 9, .c (.int .i64 1), .c (.int .i64 64)]) K46_2) (.ret)
@[simp] def W46_3 := C.w K46_3.eq_1
def K46_4 : C := .pl <| .e 9 1 <|
 .x 9 (.bin .add (.v 8) (.c (.int .i64 1))) <|
 .m 8 9 .done
@[simp] def W46_4 := C.w K46_4.eq_1
def K46_5 : C := .pl <| .e 9 1 <|
 .m 9 5 <|
 .m 4 9 .done
@[simp] def W46_5 := C.w K46_5.eq_1
def K46_6 : C := .seq (.pl <| .e 9 0 <|
 .x 2 (.mv (.c (.bool false))) .done) (.ret)
@[simp] def W46_6 := C.w K46_6.eq_1
def K46_7 : C := .cond 9 (.v 15) K46_6 (.skip)
@[simp] def W46_7 := C.w K46_7.eq_1
def K46_8 : Pl := .x 15 (.un .not (.v 14)) .done
@[simp] def W46_8 := Pl.w K46_8.eq_1
def K46_9 : C := .seq (.seq (.pl <| .e 9 7 <|
 .m 9 5 <|
 .m 10 4 <|
 .x 11 (.bin .add (.v 10) (.c (.int .i64 1))) <|
 .l 12 3 <|
 .x 13 (.bin .sub (.v 12) (.c (.int .i64 1))) <|
 .c 14 (.call fn_impl_in [.v 9, .v 11, .v 13]) K46_8) K46_7) K46_5
@[simp] def W46_9 := C.w K46_9.eq_1
def K46_10 : C := .seq (.block 1 (.seq (.pl <| .e 9 2 <|
 .x 9 (.ia 1 (.v 6) (.v 8)) <|
 .l 10 9 <|
 .m 5 10 .done) K46_9)) K46_4
@[simp] def W46_10 := C.w K46_10.eq_1
def K46_11 : C := .seq (.cond 9 (.v 9) (.skip) (.exit 0)) K46_10
@[simp] def W46_11 := C.w K46_11.eq_1
def K46_12 : C := .seq (.pl <| .e 9 1 <|
 .x 9 (.bin .lss (.v 8) (.v 7)) .done) K46_11
@[simp] def W46_12 := C.w K46_12.eq_1
def K46_13 : C := .block 0 (.loop 9 [0, 2, 5] K46_12)
@[simp] def W46_13 := C.w K46_13.eq_1
def K46_14 : C := .seq (.seq (.pl <| .e 9 1 <|
 .a 9 1 <|
 .g 6 9 1 0 <|
 .x 7 (.lenV (.v 6)) <|
 .x 8 (.mv (.c (.int .i64 0))) .done) K46_13) K46_3
@[simp] def W46_14 := C.w K46_14.eq_1
def K46_15 : C := .seq (.pl <| .e 9 0 <|
 .x 4 (.mv (.c (.int .i64 (-1)))) .done) K46_14
@[simp] def W46_15 := C.w K46_15.eq_1
def K46_16 : Pl := .o (.ex none (.store 1 (.v 3) (.v 11))) .done
@[simp] def W46_16 := Pl.w K46_16.eq_1
def K46_17 : C := .seq (.pl <| .e 9 3 <|
 .a 9 1 <|
 .g 10 9 1 1 <|
 .x 11 (.lenV (.v 10)) <|
 .c 3 (.alloc (.c (.int .i64 0))) K46_16) K46_15
@[simp] def W46_17 := C.w K46_17.eq_1
def B_impl_AutomatonValid : C := .seq (.pl <| .e 9 0 <|
 .o (.pnew 1 (.v 0) []) <|
 .x 2 (.mv (.c (.bool false))) .done) K46_17
@[simp] def WB_impl_AutomatonValid := C.w B_impl_AutomatonValid.eq_1
def R_impl_AutomatonValid : FIR := ⟨B_impl_AutomatonValid, 9, [(2, none)]⟩
theorem IR_impl_AutomatonValid : cfun Try.prog H_impl_AutomatonValid Try.f46 = some R_impl_AutomatonValid := by kernel_rfl
theorem EN_impl_AutomatonValid : ENT Try.prog B_impl_AutomatonValid [(2, none)] 1 9 fn_impl_AutomatonValid := fun hargs hw => enter Try.func46 rfl IR_impl_AutomatonValid hargs hw
def H_impl_AutomatonValid_1 : Hint := ⟨[(0, false), (1, false), (2, true), (3, false)], []⟩
def K94_1 : Pl := .n 18 (.px (some 22) (.un .not (.v 21))) <|
 .x 23 (.pick (.v 18) (.c (.bool true)) (.v 22)) <|
 .m 24 23 <|
 .n 24 (.als 25 none 2) <|
 .n 24 (.pget (some 26) (some 25) 2 2 none) <|
 .n 24 (.px (some 27) (.bin .lss (.v 26) (.c (.int .i64 0)))) <|
 .x 28 (.pick (.v 24) (.c (.bool true)) (.v 27)) <|
 .m 29 28 <|
 .n 29 (.als 30 none 2) <|
 .n 29 (.pget (some 31) (some 30) 2 2 none) <|
 .n 29 (.als 32 none 2) <|
 .n 29 (.pget (some 33) (some 32) 2 1 none) <|
 .n 29 (.px (some 34) (.bin .andNot (.v 31) (.v 33))) <|
 .n 29 (.px (some 35) (.bin .neq (.v 34) (.c (.int .i64 0)))) <|
 .x 36 (.pick (.v 29) (.c (.bool true)) (.v 35)) <|
 .m 3 36 .done
@[simp] def W94_1 := Pl.w K94_1.eq_1
def K94_2 : Pl := .n 10 (.px (some 16) (.un .not (.v 15))) <|
 .x 17 (.pick (.v 10) (.c (.bool true)) (.v 16)) <|
 .m 18 17 <|
 .n 18 (.als 19 none 2) <|
 .n 18 (.pget (some 20) (some 19) 2 1 none) <|
 .st (.act (some (.v 18, false)) (.ex (some 21) (.call fn_impl_in [.v 20, .c (.int .i64 0), .c (.int .i64 7)]))) K94_1
@[simp] def W94_2 := Pl.w K94_2.eq_1
def K94_3 : Pl := .x 9 (.un .not (.v 8)) <|
 .m 10 9 <|
 .n 10 (.als 11 none 2) <|
 .n 10 (.pget (some 12) (some 11) 2 3 none) <|
 .n 10 (.ld (some 13) (.v 1) none) <|
 .n 10 (.px (some 14) (.bin .sub (.v 13) (.c (.int .i64 1)))) <|
 .st (.act (some (.v 10, false)) (.ex (some 15) (.call fn_impl_in [.v 12, .c (.int .i64 0), .v 14]))) K94_2
@[simp] def W94_3 := Pl.w K94_3.eq_1
def K94_4 : C := .seq (.pl <| .e 4 33 <|
 .a 4 2 <|
 .g 5 4 2 0 <|
 .l 6 1 <|
 .x 7 (.bin .sub (.v 6) (.c (.int .i64 1))) <|
 .c 8 (.call fn_impl_in [.v 5, .c (.int .i64 0), .v 7]) K94_3) (.ret)
@[simp] def W94_4 := C.w K94_4.eq_1
def B_impl_AutomatonValid_1 : C := .seq (.pl <| .e 4 0 <|
 .o (.pnew 2 (.v 0) []) <|
 .x 3 (.mv (.c (.bool false))) .done) K94_4
@[simp] def WB_impl_AutomatonValid_1 := C.w B_impl_AutomatonValid_1.eq_1
def R_impl_AutomatonValid_1 : FIR := ⟨B_impl_AutomatonValid_1, 4, [(3, none)]⟩
theorem IR_impl_AutomatonValid_1 : cfun Try.prog H_impl_AutomatonValid_1 Try.f94 = some R_impl_AutomatonValid_1 := by kernel_rfl
theorem EN_impl_AutomatonValid_1 : ENT Try.prog B_impl_AutomatonValid_1 [(3, none)] 2 4 fn_impl_AutomatonValid_1 := fun hargs hw => enter Try.func94 rfl IR_impl_AutomatonValid_1 hargs hw
def H_impl_Transition_takes : Hint := ⟨[(0, false), (1, false), (2, true), (4, false)], []⟩
def K95_1 : C := .seq (.pl <| .e 4 7 <|
 .m 4 1 <|
 .a 5 2 <|
 .g 6 5 2 1 <|
 .x 7 (.bin .and (.v 4) (.v 6)) <|
 .a 8 2 <|
 .g 9 8 2 2 <|
 .x 10 (.bin .eql (.v 7) (.v 9)) <|
 .m 3 10 .done) (.ret)
@[simp] def W95_1 := C.w K95_1.eq_1
def B_impl_Transition_takes : C := .seq (.pl <| .e 4 0 <|
 .o (.pnew 2 (.v 0) []) <|
 .x 3 (.mv (.c (.bool false))) .done) K95_1
@[simp] def WB_impl_Transition_takes := C.w B_impl_Transition_takes.eq_1
def R_impl_Transition_takes : FIR := ⟨B_impl_Transition_takes, 4, [(3, none)]⟩
theorem IR_impl_Transition_takes : cfun Try.prog H_impl_Transition_takes Try.f95 = some R_impl_Transition_takes := by kernel_rfl
theorem EN_impl_Transition_takes : ENT Try.prog B_impl_Transition_takes [(3, none)] 2 4 fn_impl_Transition_takes := fun hargs hw => enter Try.func95 rfl IR_impl_Transition_takes hargs hw
def H_impl_in : Hint := ⟨[(0, false), (1, false), (2, false), (6, false)], []⟩
def K92_1 : C := .seq (.pl <| .e 4 8 <|
 .m 4 0 <|
 .m 5 1 <|
 .x 6 (.bin .geq (.v 4) (.v 5)) <|
 .m 7 6 <|
 .y 7 (.px (some 8) (.mv (.v 0))) <|
 .y 7 (.px (some 9) (.mv (.v 2))) <|
 .y 7 (.px (some 10) (.bin .leq (.v 8) (.v 9))) <|
 .x 11 (.pick (.v 7) (.v 10) (.c (.bool false))) <|
 .m 3 11 .done) (.ret)
@[simp] def W92_1 := C.w K92_1.eq_1
def B_impl_in : C := .seq (.pl <| .e 4 0 <|
 .x 3 (.mv (.c (.bool false))) .done) K92_1
@[simp] def WB_impl_in := C.w B_impl_in.eq_1
def R_impl_in : FIR := ⟨B_impl_in, 4, [(3, none)]⟩
theorem IR_impl_in : cfun Try.prog H_impl_in Try.f92 = some R_impl_in := by kernel_rfl
theorem EN_impl_in : ENT Try.prog B_impl_in [(3, none)] 3 4 fn_impl_in := fun hargs hw => enter Try.func92 rfl IR_impl_in hargs hw
def H_slices_ContainsFunc_S_impl_Transition_impl_Transition : Hint := ⟨[(0, false), (1, false), (4, false)], []⟩
def K93_1 : Pl := .x 6 (.bin .geq (.v 5) (.c (.int .i64 0))) <|
 .m 2 6 .done
@[simp] def W93_1 := Pl.w K93_1.eq_1
def K93_2 : C := .seq (.pl <| .e 3 4 <|
 .m 3 0 <|
 .m 4 1 <|
 .c 5 (.call fn_slices_IndexFunc_S_impl_Transition_impl_Transition [.v 3, .v 4]) K93_1) (.ret)
@[simp] def W93_2 := C.w K93_2.eq_1
def B_slices_ContainsFunc_S_impl_Transition_impl_Transition : C := .seq (.pl <| .e 3 0 <|
 .x 2 (.mv (.c (.bool false))) .done) K93_2
@[simp] def WB_slices_ContainsFunc_S_impl_Transition_impl_Transition := C.w B_slices_ContainsFunc_S_impl_Transition_impl_Transition.eq_1
def R_slices_ContainsFunc_S_impl_Transition_impl_Transition : FIR := ⟨B_slices_ContainsFunc_S_impl_Transition_impl_Transition, 3, [(2, none)]⟩
theorem IR_slices_ContainsFunc_S_impl_Transition_impl_Transition : cfun Try.prog H_slices_ContainsFunc_S_impl_Transition_impl_Transition Try.f93 = some R_slices_ContainsFunc_S_impl_Transition_impl_Transition := by kernel_rfl
theorem EN_slices_ContainsFunc_S_impl_Transition_impl_Transition : ENT Try.prog B_slices_ContainsFunc_S_impl_Transition_impl_Transition [(2, none)] 2 3 fn_slices_ContainsFunc_S_impl_Transition_impl_Transition := fun hargs hw => enter Try.func93 rfl IR_slices_ContainsFunc_S_impl_Transition_impl_Transition hargs hw
def H_slices_IndexFunc_S_impl_Transition_impl_Transition : Hint := ⟨[(0, false), (1, false), (4, false), (5, false), (7, false), (8, false)], [[2, 3]]⟩
def K138_1 : C := .seq (.pl <| .e 6 0 <|
 .x 2 (.mv (.c (.int .i64 (-1)))) .done) (.ret)
@[simp] def W138_1 := C.w K138_1.eq_1
def K138_2 : C := .pl <| .e 6 1 <|
 .x 6 (.bin .add (.v 5) (.c (.int .i64 1))) <|
 .m 5 6 .done
@[simp] def W138_2 := C.w K138_2.eq_1
def K138_3 : C := .seq (.pl <| .e 6 1 <|
 .m 6 3 <|
 .m 2 6 .done) (.ret)
@[simp] def W138_3 := C.w K138_3.eq_1
def K138_4 : C := .cond 6 (.v 11) K138_3 (.skip)
@[simp] def W138_4 := C.w K138_4.eq_1
def K138_5 : C := .seq (.pl <| .e 6 6 <|
 .m 6 1 <|
 .m 7 0 <|
 .m 8 3 <|
 .x 9 (.ia 4 (.v 7) (.v 8)) <|
 .o (.ld (some 10) (.v 9) (some 4)) <|
 .c 11 (.callv (.v 6) [.v 10]) .done) K138_4
@[simp] def W138_5 := C.w K138_5.eq_1
def K138_6 : C := .seq (.block 1 (.seq (.pl <| .e 6 1 <|
 .m 6 5 <|
 .m 3 6 .done) K138_5)) K138_2
@[simp] def W138_6 := C.w K138_6.eq_1
def K138_7 : C := .seq (.cond 6 (.v 6) (.skip) (.exit 0)) K138_6
@[simp] def W138_7 := C.w K138_7.eq_1
def K138_8 : C := .seq (.pl <| .e 6 1 <|
 .x 6 (.bin .lss (.v 5) (.v 4)) .done) K138_7
@[simp] def W138_8 := C.w K138_8.eq_1
def K138_9 : C := .block 0 (.loop 6 [2, 3] K138_8)
@[simp] def W138_9 := C.w K138_9.eq_1
def K138_10 : C := .seq (.seq (.pl <| .e 6 1 <|
 .m 6 0 <|
 .x 4 (.lenV (.v 6)) <|
 .x 5 (.mv (.c (.int .i64 0))) .done) K138_9) K138_1
@[simp] def W138_10 := C.w K138_10.eq_1
def B_slices_IndexFunc_S_impl_Transition_impl_Transition : C := .seq (.pl <| .e 6 0 <|
 .x 2 (.mv (.c (.int .i64 0))) .done) K138_10
@[simp] def WB_slices_IndexFunc_S_impl_Transition_impl_Transition := C.w B_slices_IndexFunc_S_impl_Transition_impl_Transition.eq_1
def R_slices_IndexFunc_S_impl_Transition_impl_Transition : FIR := ⟨B_slices_IndexFunc_S_impl_Transition_impl_Transition, 6, [(2, none)]⟩
theorem IR_slices_IndexFunc_S_impl_Transition_impl_Transition : cfun Try.prog H_slices_IndexFunc_S_impl_Transition_impl_Transition Try.f138 = some R_slices_IndexFunc_S_impl_Transition_impl_Transition := by kernel_rfl
theorem EN_slices_IndexFunc_S_impl_Transition_impl_Transition : ENT Try.prog B_slices_IndexFunc_S_impl_Transition_impl_Transition [(2, none)] 2 6 fn_slices_IndexFunc_S_impl_Transition_impl_Transition := fun hargs hw => enter Try.func138 rfl IR_slices_IndexFunc_S_impl_Transition_impl_Transition hargs hw
def H_spec_AutomatonValid : Hint := ⟨[(0, false), (1, true), (2, false), (3, false), (4, false), (5, false)], [[0, 2, 5], [0, 2, 4]]⟩
def K48_1 : C := .seq (.pl <| .e 6 0 <|
 .x 2 (.mv (.c (.bool true))) .done) (.ret)
@[simp] def W48_1 := C.w K48_1.eq_1
def K48_2 : C := .pl <| .e 6 2 <|
 .m 6 5 <|
 .x 7 (.bin .add (.v 6) (.c (.int .i64 1))) <|
 .m 5 7 .done
@[simp] def W48_2 := C.w K48_2.eq_1
def K48_3 : C := .seq (.pl <| .e 6 0 <|
 .x 2 (.mv (.c (.bool false))) .done) (.ret)
@[simp] def W48_3 := C.w K48_3.eq_1
def K48_4 : C := .cond 6 (.v 13) K48_3 (.skip)
@[simp] def W48_4 := C.w K48_4.eq_1
def K48_5 : Pl := .x 13 (.un .not (.v 12)) .done
@[simp] def W48_5 := Pl.w K48_5.eq_1
def K48_6 : C := .seq (.block 3 (.seq (.pl <| .e 6 8 <|
 .a 6 1 <|
 .g 7 6 1 2 <|
 .m 8 5 <|
 .x 9 (.ia 4 (.v 7) (.v 8)) <|
 .o (.ld (some 10) (.v 9) (some 4)) <|
 .m 11 3 <|
 .c 12 (.call fn_spec_l7Edge [.v 10, .v 11]) K48_5) K48_4)) K48_2
@[simp] def W48_6 := C.w K48_6.eq_1
def K48_7 : C := .cond 6 (.v 10) (.skip) (.exit 2)
@[simp] def W48_7 := C.w K48_7.eq_1
def K48_8 : C := .seq (.seq (.pl <| .e 6 5 <|
 .m 6 5 <|
 .a 7 1 <|
 .g 8 7 1 2 <|
 .x 9 (.lenV (.v 8)) <|
 .x 10 (.bin .lss (.v 6) (.v 9)) .done) K48_7) K48_6
@[simp] def W48_8 := C.w K48_8.eq_1
def K48_9 : C := .block 2 (.loop 6 [0, 2, 4] K48_8)
@[simp] def W48_9 := C.w K48_9.eq_1
def K48_10 : C := .seq (.seq (.pl <| .e 6 0 <|
 .x 5 (.mv (.c (.int .i64 0))) .done) K48_9) K48_1
@[simp] def W48_10 := C.w K48_10.eq_1
def K48_11 : C := .pl <| .e 6 2 <|
 .m 6 4 <|
 .x 7 (.bin .add (.v 6) (.c (.int .i64 1))) <|
 .m 4 7 .done
@[simp] def W48_11 := C.w K48_11.eq_1
def K48_12 : C := .seq (.pl <| .e 6 0 <|
 .x 2 (.mv (.c (.bool false))) .done) (.ret)
@[simp] def W48_12 := C.w K48_12.eq_1
def K48_13 : C := .cond 6 (.v 38) K48_12 (.skip)
@[simp] def W48_13 := C.w K48_13.eq_1
def K48_14 : C := .seq (.block 1 (.seq (.pl <| .e 6 33 <|
 .a 6 1 <|
 .g 7 6 1 0 <|
 .m 8 4 <|
 .x 9 (.ia 1 (.v 7) (.v 8)) <|
 .l 10 9 <|
 .x 11 (.bin .lss (.v 10) (.c (.int .i64 0))) <|
 .m 12 11 <|
 .n 12 (.als 13 none 1) <|
 .n 12 (.pget (some 14) (some 13) 1 0 none) <|
 .n 12 (.px (some 15) (.mv (.v 4))) <|
 .n 12 (.px (some 16) (.ia 1 (.v 14) (.v 15))) <|
 .n 12 (.ld (some 17) (.v 16) none) <|
 .n 12 (.px (some 18) (.mv (.v 3))) <|
 .n 12 (.px (some 19) (.bin .geq (.v 17) (.v 18))) <|
 .x 20 (.pick (.v 12) (.c (.bool true)) (.v 19)) <|
 .m 21 20 <|
 .n 21 (.px (some 22) (.mv (.v 4))) <|
 .n 21 (.px (some 23) (.bin .gtr (.v 22) (.c (.int .i64 0)))) <|
 .n 21 (.px (some 24) (.mv (.v 23))) <|
 .y 24 (.als 25 none 1) <|
 .y 24 (.pget (some 26) (some 25) 1 0 none) <|
 .y 24 (.px (some 27) (.mv (.v 4))) <|
 .y 24 (.px (some 28) (.bin .sub (.v 27) (.c (.int .i64 1)))) <|
 .y 24 (.px (some 29) (.ia 1 (.v 26) (.v 28))) <|
 .y 24 (.ld (some 30) (.v 29) none) <|
 .y 24 (.als 31 none 1) <|
 .y 24 (.pget (some 32) (some 31) 1 0 none) <|
 .y 24 (.px (some 33) (.mv (.v 4))) <|
 .y 24 (.px (some 34) (.ia 1 (.v 32) (.v 33))) <|
 .y 24 (.ld (some 35) (.v 34) none) <|
 .y 24 (.px (some 36) (.bin .geq (.v 30) (.v 35))) <|
 .n 21 (.px (some 37) (.pick (.v 24) (.v 36) (.c (.bool false)))) <|
 .x 38 (.pick (.v 21) (.c (.bool true)) (.v 37)) .done) K48_13)) K48_11
@[simp] def W48_14 := C.w K48_14.eq_1
def K48_15 : C := .cond 6 (.v 10) (.skip) (.exit 0)
@[simp] def W48_15 := C.w K48_15.eq_1
def K48_16 : C := .seq (.seq (.pl <| .e 6 5 <|
 .m 6 4 <|
 .a 7 1 <|
 .g 8 7 1 0 <|
 .x 9 (.lenV (.v 8)) <|
 .x 10 (.bin .lss (.v 6) (.v 9)) .done) K48_15) K48_14
@[simp] def W48_16 := C.w K48_16.eq_1
def K48_17 : C := .block 0 (.loop 6 [0, 2, 5] K48_16)
@[simp] def W48_17 := C.w K48_17.eq_1
def K48_18 : C := .seq (.seq (.pl <| .e 6 0 <|
 .x 4 (.mv (.c (.int .i64 0))) .done) K48_17) K48_10
@[simp] def W48_18 := C.w K48_18.eq_1
def K48_19 : C := .seq (.pl <| .e 6 0 <|
 .x 2 (.mv (.c (.bool false))) .done) (.ret)
@[simp] def W48_19 := C.w K48_19.eq_1
def K48_20 : C := .cond 6 (.v 24) K48_19 (.skip)
@[simp] def W48_20 := C.w K48_20.eq_1
def K48_21 : C := .seq (.seq (.pl <| .e 6 19 <|
 .m 6 3 <|
 .x 7 (.bin .lss (.v 6) (.c (.int .i64 1))) <|
 .m 8 7 <|
 .n 8 (.px (some 9) (.mv (.v 3))) <|
 .n 8 (.px (some 10) (.bin .gtr (.v 9) (.c (.int .i64 64)))) <|
 .x 11 (.pick (.v 8) (.c (.bool true)) (.v 10)) <|
 .m 12 11 <|
 .n 12 (.als 13 none 1) <|
 .n 12 (.pget (some 14) (some 13) 1 0 none) <|
 .n 12 (.px (some 15) (.lenV (.v 14))) <|
 .n 12 (.px (some 16) (.mv (.v 3))) <|
 .n 12 (.px (some 17) (.bin .gtr (.v 15) (.v 16))) <|
 .x 18 (.pick (.v 12) (.c (.bool true)) (.v 17)) <|
 .m 19 18 <|
 .n 19 (.als 20 none 1) <|
 .n 19 (.pget (some 21) (some 20) 1 2 none) <|
 .n 19 (.px (some 22) (.lenV (.v 21))) <|
 .n 19 (.px (some 23) (.bin .gtr (.v 22) (.c (.int .i64 2048)))) <|
 .x 24 (.pick (.v 19) (.c (.bool true)) (.v 23)) .done) K48_20) K48_18
@[simp] def W48_21 := C.w K48_21.eq_1
def K48_22 : C := .seq (.pl <| .e 6 3 <|
 .a 6 1 <|
 .g 7 6 1 1 <|
 .x 8 (.lenV (.v 7)) <|
 .m 3 8 .done) K48_21
@[simp] def W48_22 := C.w K48_22.eq_1
def B_spec_AutomatonValid : C := .seq (.pl <| .e 6 0 <|
 .o (.pnew 1 (.v 0) []) <|
 .x 2 (.mv (.c (.bool false))) .done) K48_22
@[simp] def WB_spec_AutomatonValid := C.w B_spec_AutomatonValid.eq_1
def R_spec_AutomatonValid : FIR := ⟨B_spec_AutomatonValid, 6, [(2, none)]⟩
theorem IR_spec_AutomatonValid : cfun Try.prog H_spec_AutomatonValid Try.f48 = some R_spec_AutomatonValid := by kernel_rfl
theorem EN_spec_AutomatonValid : ENT Try.prog B_spec_AutomatonValid [(2, none)] 1 6 fn_spec_AutomatonValid := fun hargs hw => enter Try.func48 rfl IR_spec_AutomatonValid hargs hw
def H_spec_l7Edge : Hint := ⟨[(0, false), (1, false), (2, true), (4, false)], []⟩
def K97_1 : C := .seq (.pl <| .e 4 45 <|
 .a 4 2 <|
 .g 5 4 2 0 <|
 .x 6 (.bin .geq (.v 5) (.c (.int .i64 0))) <|
 .m 7 6 <|
 .y 7 (.als 8 none 2) <|
 .y 7 (.pget (some 9) (some 8) 2 0 none) <|
 .y 7 (.px (some 10) (.mv (.v 1))) <|
 .y 7 (.px (some 11) (.bin .lss (.v 9) (.v 10))) <|
 .x 12 (.pick (.v 7) (.v 11) (.c (.bool false))) <|
 .m 13 12 <|
 .y 13 (.als 14 none 2) <|
 .y 13 (.pget (some 15) (some 14) 2 3 none) <|
 .y 13 (.px (some 16) (.bin .geq (.v 15) (.c (.int .i64 0)))) <|
 .x 17 (.pick (.v 13) (.v 16) (.c (.bool false))) <|
 .m 18 17 <|
 .y 18 (.als 19 none 2) <|
 .y 18 (.pget (some 20) (some 19) 2 3 none) <|
 .y 18 (.px (some 21) (.mv (.v 1))) <|
 .y 18 (.px (some 22) (.bin .lss (.v 20) (.v 21))) <|
 .x 23 (.pick (.v 18) (.v 22) (.c (.bool false))) <|
 .m 24 23 <|
 .y 24 (.als 25 none 2) <|
 .y 24 (.pget (some 26) (some 25) 2 1 none) <|
 .y 24 (.px (some 27) (.bin .geq (.v 26) (.c (.int .i64 0)))) <|
 .x 28 (.pick (.v 24) (.v 27) (.c (.bool false))) <|
 .m 29 28 <|
 .y 29 (.als 30 none 2) <|
 .y 29 (.pget (some 31) (some 30) 2 1 none) <|
 .y 29 (.px (some 32) (.bin .leq (.v 31) (.c (.int .i64 7)))) <|
 .x 33 (.pick (.v 29) (.v 32) (.c (.bool false))) <|
 .m 34 33 <|
 .y 34 (.als 35 none 2) <|
 .y 34 (.pget (some 36) (some 35) 2 2 none) <|
 .y 34 (.px (some 37) (.bin .geq (.v 36) (.c (.int .i64 0)))) <|
 .x 38 (.pick (.v 34) (.v 37) (.c (.bool false))) <|
 .m 39 38 <|
 .y 39 (.als 40 none 2) <|
 .y 39 (.pget (some 41) (some 40) 2 2 none) <|
 .y 39 (.als 42 none 2) <|
 .y 39 (.pget (some 43) (some 42) 2 1 none) <|
 .y 39 (.px (some 44) (.bin .and (.v 41) (.v 43))) <|
 .y 39 (.als 45 none 2) <|
 .y 39 (.pget (some 46) (some 45) 2 2 none) <|
 .y 39 (.px (some 47) (.bin .eql (.v 44) (.v 46))) <|
 .x 48 (.pick (.v 39) (.v 47) (.c (.bool false))) <|
 .m 3 48 .done) (.ret)
@[simp] def W97_1 := C.w K97_1.eq_1
def B_spec_l7Edge : C := .seq (.pl <| .e 4 0 <|
 .o (.pnew 2 (.v 0) []) <|
 .x 3 (.mv (.c (.bool false))) .done) K97_1
@[simp] def WB_spec_l7Edge := C.w B_spec_l7Edge.eq_1
def R_spec_l7Edge : FIR := ⟨B_spec_l7Edge, 4, [(3, none)]⟩
theorem IR_spec_l7Edge : cfun Try.prog H_spec_l7Edge Try.f97 = some R_spec_l7Edge := by kernel_rfl
theorem EN_spec_l7Edge : ENT Try.prog B_spec_l7Edge [(3, none)] 2 4 fn_spec_l7Edge := fun hargs hw => enter Try.func97 rfl IR_spec_l7Edge hargs hw
end Go.Proofs.Ytglnelcmcimljaa

namespace Go.Proofs.Ytglnelcmcimljaa
open Go
end Go.Proofs.Ytglnelcmcimljaa

namespace Go.Proofs.Ytglnelcmcimljaa
open Go
def H_impl_clone_int : Hint := ⟨[(0, false), (2, false)], []⟩
def K129_1 : Pl := .m 1 4 .done
@[simp] def W129_1 := Pl.w K129_1.eq_1
def K129_2 : Pl := .c 4 (.call fn_slices_Clip_S_int_int [.v 3]) K129_1
@[simp] def W129_2 := Pl.w K129_2.eq_1
def K129_3 : C := .seq (.pl <| .e 2 3 <|
 .m 2 0 <|
 .c 3 (.call fn_slices_Clone_S_int_int [.v 2]) K129_2) (.ret)
@[simp] def W129_3 := C.w K129_3.eq_1
def B_impl_clone_int : C := .seq (.pl <| .e 2 0 <|
 .x 1 (.mv (.c (.slice none 0 0))) .done) K129_3
@[simp] def WB_impl_clone_int := C.w B_impl_clone_int.eq_1
def R_impl_clone_int : FIR := ⟨B_impl_clone_int, 2, [(1, none)]⟩
theorem IR_impl_clone_int : cfun Try.prog H_impl_clone_int Try.f129 = some R_impl_clone_int := by kernel_rfl
theorem EN_impl_clone_int : ENT Try.prog B_impl_clone_int [(1, none)] 1 2 fn_impl_clone_int := fun hargs hw => enter Try.func129 rfl IR_impl_clone_int hargs hw
def H_slices_Clip_S_int_int : Hint := ⟨[(0, false), (2, false)], []⟩
def K72_1 : C := .seq (.pl <| .e 2 6 <|
 .m 2 0 <|
 .m 3 0 <|
 .x 4 (.lenV (.v 3)) <|
 .m 5 0 <|
 .x 6 (.lenV (.v 5)) <|
 .x 7 (.sliceV 1 (.v 2) none (some (.v 4)) (some (.v 6))) <|
 .m 1 7 .done) (.ret)
@[simp] def W72_1 := C.w K72_1.eq_1
def B_slices_Clip_S_int_int : C := .seq (.pl <| .e 2 0 <|
 .x 1 (.mv (.c (.slice none 0 0))) .done) K72_1
@[simp] def WB_slices_Clip_S_int_int := C.w B_slices_Clip_S_int_int.eq_1
def R_slices_Clip_S_int_int : FIR := ⟨B_slices_Clip_S_int_int, 2, [(1, none)]⟩
theorem IR_slices_Clip_S_int_int : cfun Try.prog H_slices_Clip_S_int_int Try.f72 = some R_slices_Clip_S_int_int := by kernel_rfl
theorem EN_slices_Clip_S_int_int : ENT Try.prog B_slices_Clip_S_int_int [(1, none)] 1 2 fn_slices_Clip_S_int_int := fun hargs hw => enter Try.func72 rfl IR_slices_Clip_S_int_int hargs hw
def H_slices_Clone_S_int_int : Hint := ⟨[(0, false), (2, false)], []⟩
def K164_1 : Pl := .m 1 4 .done
@[simp] def W164_1 := Pl.w K164_1.eq_1
def K164_2 : C := .seq (.pl <| .e 2 3 <|
 .o (.psl 2 [] []) <|
 .m 3 0 <|
 .c 4 (.app 8 1 [.int .i64 0] (.p 0 2) (.o (.v 3))) K164_1) (.ret)
@[simp] def W164_2 := C.w K164_2.eq_1
def K164_3 : C := .seq (.pl <| .e 2 0 <|
 .x 1 (.mv (.c (.slice none 0 0))) .done) (.ret)
@[simp] def W164_3 := C.w K164_3.eq_1
def K164_4 : C := .cond 2 (.v 3) K164_3 (.skip)
@[simp] def W164_4 := C.w K164_4.eq_1
def K164_5 : C := .seq (.seq (.pl <| .e 2 2 <|
 .m 2 0 <|
 .x 3 (.isNil false (.v 2)) .done) K164_4) K164_2
@[simp] def W164_5 := C.w K164_5.eq_1
def B_slices_Clone_S_int_int : C := .seq (.pl <| .e 2 0 <|
 .x 1 (.mv (.c (.slice none 0 0))) .done) K164_5
@[simp] def WB_slices_Clone_S_int_int := C.w B_slices_Clone_S_int_int.eq_1
def R_slices_Clone_S_int_int : FIR := ⟨B_slices_Clone_S_int_int, 2, [(1, none)]⟩
theorem IR_slices_Clone_S_int_int : cfun Try.prog H_slices_Clone_S_int_int Try.f164 = some R_slices_Clone_S_int_int := by kernel_rfl
theorem EN_slices_Clone_S_int_int : ENT Try.prog B_slices_Clone_S_int_int [(1, none)] 1 2 fn_slices_Clone_S_int_int := fun hargs hw => enter Try.func164 rfl IR_slices_Clone_S_int_int hargs hw
end Go.Proofs.Ytglnelcmcimljaa

namespace Go.Proofs.Ytglnelcmcimljaa
open Go
theorem c_toIntS {h : Heap} {a : Value} {x : List Int} (Ra : Rep h a x) (hs : Sz.sz x ≤ 1048576) : CallE Try.prog fn_laws_toIntS [a] h (fun v h' => HS h [ow v x] h') := by
  rw [sz_list] at hs
  refine CallE.gen fun k hk => EN_laws_toIntS rfl ?_
  simp -implicitDefEqProofs (disch:=first|omega|(simp only[LnZ];omega))[wrap64, Ra.I]
  refine HS.init.mks (z := (0 : Int)) rfl rfl (own_zero (by decide) (by decide)) (Nat.le_refl _) (by omega) (by omega) fun v h1 H => ?_
  simp -implicitDefEqProofs (disch:=first|omega|(simp only[LnZ];omega))[wrap64]
  refine wp_count x.length (fun i e h' => e = [some a, none, some v, some (.int .i64 i)] ∧ ∃ y, HS h [ow v y] h' ∧ y.length = x.length ∧ y.take i = x.take i) ⟨rfl, _, H, by simp, by simp⟩ ?_
  rintro J i _ h2 hJ hi ⟨rfl, y, H, hl, hy⟩
  simp -implicitDefEqProofs (disch:=first|omega|(simp only[LnZ];omega))[wrap64, Ra.I]
  refine IteW.mk (fun hlt => ?_) (fun hge => ?_)
  · have hlx : i < x.length := by omega
    simp -implicitDefEqProofs (disch:=first|omega|(simp only[LnZ];omega))[wrap64, H.rep.I, (Ra.on H).I]
    refine H.storeF x[i] (by omega) rfl rfl (Ra.okI hlx) rfl fun h3 H => ?_
    simp -implicitDefEqProofs (disch:=first|omega|(simp only[LnZ];omega))[wrap64]
    exact hJ _ _ hlx ⟨rfl, _, H, by simp [hl], take_set_succ hy hlx hl⟩
  · simp -implicitDefEqProofs (disch:=first|omega|(simp only[LnZ];omega))[wrap64]
    refine RetK.keep (hk _ _ ?_)
    rw [← eq_of_take hy (by omega) hl]; exact H
theorem c_szIntS {h : Heap} {a : Value} {x : List Int} (Ra : Rep h a x) {n : Int} (hn : 0 ≤ n ∧ n ≤ 1048576) : CallE Try.prog fn_laws_szIntS [a, .int .i64 n] h (fun v h' => h' = h ∧ ∃ m : Int, v = .int .i64 m ∧ (m = -1 ∨ (0 ≤ m ∧ m + Sz.sz x = n))) := by
  rw [sz_list, szL_zero (fun _ => rfl)]
  refine CallE.gen fun k hk => EN_laws_szIntS rfl ?_
  have hL := Ra.lt
  simp -implicitDefEqProofs (disch:=first|omega|(simp only[LnZ];omega))[wrap64, Ra.I]
  refine IteW.mk (fun hlt => ?_) (fun hge => ?_)
  · simp -implicitDefEqProofs (disch:=first|omega|(simp only[LnZ];omega))[wrap64]
    exact RetK.keep (hk _ _ ⟨rfl, _, rfl, .inl rfl⟩)
  · simp -implicitDefEqProofs (disch:=first|omega|(simp only[LnZ];omega))[wrap64]
    exact RetK.keep (hk _ _ ⟨rfl, _, rfl, .inr (by omega)⟩)
theorem c_eqIntS {h : Heap} {a b : Value} {x y : List Int} (Ra : Rep h a x) (Rb : Rep h b y) : CallE Try.prog fn_laws_eqIntS [a, b] h (fun v h' => h' = h ∧ v = .bool (decide (x = y))) := by
  refine CallE.gen fun k hk => EN_laws_eqIntS rfl ?_
  have hL := Ra.lt
  simp -implicitDefEqProofs (disch:=first|omega|(simp only[LnZ];omega))[wrap64, Ra.len, Rb.len]
  refine IteW.mkr (fun hne => ?_) (fun heq => ?_)
  · simp -implicitDefEqProofs (disch:=first|omega|(simp only[LnZ];omega))[wrap64]
    exact RetK.keep (hk _ _ ⟨rfl, by simp; rintro rfl; exact hne rfl⟩)
  simp -implicitDefEqProofs (disch:=first|omega|(simp only[LnZ];omega))[wrap64]
  refine wp_count x.length (fun i e h' => h' = h ∧ e = [some a, some b, none, some (.int .i64 i)] ∧ x.take i = y.take i) ⟨rfl, rfl, rfl⟩ ?_
  rintro J i _ _ hJ hi ⟨rfl, rfl, hxy⟩
  simp -implicitDefEqProofs (disch:=first|omega|(simp only[LnZ];omega))[wrap64, Ra.len]
  refine IteW.mk (fun hlt => ?_) (fun hge => ?_)
  · have hly : i < y.length := by omega
    have hlx : i < x.length := by omega
    simp -implicitDefEqProofs (disch:=first|omega|(simp only[LnZ];omega))[wrap64, Ra.I, Rb.I]
    refine IteW.mkr (fun hne => ?_) (fun heq => ?_)
    · simp -implicitDefEqProofs (disch:=first|omega|(simp only[LnZ];omega))[wrap64]
      exact RetK.keep (hk _ _ ⟨rfl, by simp; rintro rfl; exact hne rfl⟩)
    simp -implicitDefEqProofs (disch:=first|omega|(simp only[LnZ];omega))[wrap64]
    exact hJ _ _ hlx ⟨rfl, rfl, take_step hxy hlx hly heq⟩
  · simp -implicitDefEqProofs (disch:=first|omega|(simp only[LnZ];omega))[wrap64]
    refine RetK.keep (hk _ _ ⟨rfl, ?_⟩)
    simp
    rw [List.take_of_length_le (by omega), List.take_of_length_le (by omega)] at hxy
    exact hxy
theorem c_markIntS {g h : Heap} {Γ : List HP} {v : Value} {x : List Int} {k0 : Int} (H : HS g (ow v x :: Γ) h) (hk0 : 0 ≤ k0) (hk1 : k0 + Mk.cnt x < 4611686018427387904) : CallE Try.prog fn_laws_markIntS [v, .int .i64 k0] h (fun u h' => HS g (ow v (Mk.wr k0 x) :: Γ) h' ∧ u = .int .i64 (k0 + Mk.cnt x)) := by
  refine CallE.gen fun k hk => EN_laws_markIntS rfl ?_
  simp -implicitDefEqProofs (disch:=first|omega|(simp only[LnZ];omega))[wrap64]
  refine wp_count x.length (fun i e h' => e = [some v, some (.int .i64 (k0 + cntL (x.take i))), none, some (.int .i64 i)] ∧ ∃ y, HS g (ow v y :: Γ) h' ∧ Mkd k0 x y i) ⟨by simp [cntL], x, H, Mkd.zero⟩ ?_
  rintro J i _ h2 hJ hi ⟨rfl, y, H, M⟩
  have hl := M.len
  have hL := H.rep.lt
  have hcx : Mk.cnt x = cntL x := rfl
  simp -implicitDefEqProofs (disch:=first|omega|(simp only[LnZ];omega))[wrap64, H.rep.len]
  refine IteW.mk (fun hlt => ?_) (fun hge => ?_)
  · have hlx : i < x.length := by omega
    have hly : i < y.length := by omega
    have hb := cntL_le x (i + 1)
    have hc := cntL_take x i hlx
    have h1 : Mk.cnt x[i] = 1 := rfl
    have h4 : IntKind.i64.wrap (k0 + (cntL (x.take i) : Nat) + 1) = k0 + (cntL (x.take i) : Nat) + 1 := wrap64 (by omega) (by omega)
    simp -implicitDefEqProofs (disch:=first|omega|(simp only[LnZ];omega))[wrap64, H.rep.I]
    refine H.storeF (k0 + cntL (x.take i)) hly rfl rfl ⟨by omega, by omega⟩ rfl fun h3 H => ?_
    simp -implicitDefEqProofs (disch:=first|omega|(simp only[LnZ];omega))[wrap64]
    refine hJ _ _ hlx ⟨?_, _, H, M.step hlx⟩
    rw [hc, h1]; push_cast; simp [Int.add_assoc]
  · simp -implicitDefEqProofs (disch:=first|omega|(simp only[LnZ];omega))[wrap64]
    have h2 : x.take i = x := List.take_of_length_le (by omega)
    refine RetK.keep (hk _ _ ⟨?_, by rw [h2]; rfl⟩)
    have h3 : y = Mk.wr k0 x := M.all (by omega)
    rw [← h3]; exact H
theorem c_heldIntS {h : Heap} {v : Value} {x : List Int} {k0 : Int} (Rv : Rep h v x) (hk0 : 0 ≤ k0) (hk1 : k0 + Mk.cnt x < 4611686018427387904) : CallE Try.prog fn_laws_heldIntS [v, .int .i64 k0] h (fun u h' => h' = h ∧ u = .int .i64 (if Mk.wr k0 x = x then k0 + Mk.cnt x else -1)) := by
  refine CallE.gen fun k hk => EN_laws_heldIntS rfl ?_
  have hL := Rv.lt
  have hcx : Mk.cnt x = cntL x := rfl
  simp -implicitDefEqProofs (disch:=first|omega|(simp only[LnZ];omega))[wrap64]
  refine wp_count x.length (fun i e h' => h' = h ∧ e = [some v, some (.int .i64 (k0 + cntL (x.take i))), none, some (.int .i64 i)] ∧ (mkL k0 x).take i = x.take i) ⟨rfl, by simp [cntL], rfl⟩ ?_
  rintro J i _ _ hJ hi ⟨rfl, rfl, M⟩
  simp -implicitDefEqProofs (disch:=first|omega|(simp only[LnZ];omega))[wrap64, Rv.len]
  refine IteW.mk (fun hlt => ?_) (fun hge => ?_)
  · have hlx : i < x.length := by omega
    have hb := cntL_le x (i + 1)
    have hc := cntL_take x i hlx
    have hg := mkL_get k0 x i hlx
    have h1 : Mk.cnt x[i] = 1 := rfl
    obtain ⟨q, hq⟩ : ∃ q, q = k0 + cntL (x.take i) := ⟨_, rfl⟩
    rw [← hq] at hg ⊢
    simp -implicitDefEqProofs (disch:=first|omega|(simp only[LnZ];omega))[wrap64, Rv.I]
    refine IteW.mk (fun hq2 => ?_) (fun hq2 => ?_)
    · simp -implicitDefEqProofs (disch:=first|omega|(simp only[LnZ];omega))[wrap64]
      refine hJ _ _ hlx ⟨rfl, by rw [hc, h1, hq]; push_cast; simp [Int.add_assoc], take_step M (by simpa using hlx) hlx ?_⟩
      rw [hg]
      exact hq2.symm
    · simp -implicitDefEqProofs (disch:=first|omega|(simp only[LnZ];omega))[wrap64]
      refine RetK.keep (hk _ _ ⟨rfl, ?_⟩)
      rw [if_neg]
      intro he
      have he2 : mkL k0 x = x := he
      simp only [he2] at hg
      exact hq2 hg
  · simp -implicitDefEqProofs (disch:=first|omega|(simp only[LnZ];omega))[wrap64]
    have h2 : x.take i = x := List.take_of_length_le (by omega)
    rw [List.take_of_length_le (by simp; omega), h2] at M
    exact RetK.keep (hk _ _ ⟨rfl, by rw [h2]; exact congrArg _ (if_pos M).symm⟩)
theorem c_toBoolS {h : Heap} {a : Value} {x : List Bool} (Ra : Rep h a x) (hs : Sz.sz x ≤ 1048576) : CallE Try.prog fn_laws_toBoolS [a] h (fun v h' => HS h [ow v x] h') := by
  rw [sz_list] at hs
  refine CallE.gen fun k hk => EN_laws_toBoolS rfl ?_
  simp -implicitDefEqProofs (disch:=first|omega|(simp only[LnZ];omega))[wrap64, Ra.B]
  refine HS.init.mks (z := false) rfl rfl (own_false) (Nat.le_refl _) (by omega) (by omega) fun v h1 H => ?_
  simp -implicitDefEqProofs (disch:=first|omega|(simp only[LnZ];omega))[wrap64]
  refine wp_count x.length (fun i e h' => e = [some a, none, some v, some (.int .i64 i)] ∧ ∃ y, HS h [ow v y] h' ∧ y.length = x.length ∧ y.take i = x.take i) ⟨rfl, _, H, by simp, by simp⟩ ?_
  rintro J i _ h2 hJ hi ⟨rfl, y, H, hl, hy⟩
  simp -implicitDefEqProofs (disch:=first|omega|(simp only[LnZ];omega))[wrap64, Ra.B]
  refine IteW.mk (fun hlt => ?_) (fun hge => ?_)
  · have hlx : i < x.length := by omega
    simp -implicitDefEqProofs (disch:=first|omega|(simp only[LnZ];omega))[wrap64, H.rep.B, (Ra.on H).B]
    refine H.storeF x[i] (by omega) rfl rfl (trivial) rfl fun h3 H => ?_
    simp -implicitDefEqProofs (disch:=first|omega|(simp only[LnZ];omega))[wrap64]
    exact hJ _ _ hlx ⟨rfl, _, H, by simp [hl], take_set_succ hy hlx hl⟩
  · simp -implicitDefEqProofs (disch:=first|omega|(simp only[LnZ];omega))[wrap64]
    refine RetK.keep (hk _ _ ?_)
    rw [← eq_of_take hy (by omega) hl]; exact H
theorem c_szBoolS {h : Heap} {a : Value} {x : List Bool} (Ra : Rep h a x) {n : Int} (hn : 0 ≤ n ∧ n ≤ 1048576) : CallE Try.prog fn_laws_szBoolS [a, .int .i64 n] h (fun v h' => h' = h ∧ ∃ m : Int, v = .int .i64 m ∧ (m = -1 ∨ (0 ≤ m ∧ m + Sz.sz x = n))) := by
  rw [sz_list, szL_zero (fun _ => rfl)]
  refine CallE.gen fun k hk => EN_laws_szBoolS rfl ?_
  have hL := Ra.lt
  simp -implicitDefEqProofs (disch:=first|omega|(simp only[LnZ];omega))[wrap64, Ra.B]
  refine IteW.mk (fun hlt => ?_) (fun hge => ?_)
  · simp -implicitDefEqProofs (disch:=first|omega|(simp only[LnZ];omega))[wrap64]
    exact RetK.keep (hk _ _ ⟨rfl, _, rfl, .inl rfl⟩)
  · simp -implicitDefEqProofs (disch:=first|omega|(simp only[LnZ];omega))[wrap64]
    exact RetK.keep (hk _ _ ⟨rfl, _, rfl, .inr (by omega)⟩)
theorem c_eqBoolS {h : Heap} {a b : Value} {x y : List Bool} (Ra : Rep h a x) (Rb : Rep h b y) : CallE Try.prog fn_laws_eqBoolS [a, b] h (fun v h' => h' = h ∧ v = .bool (decide (x = y))) := by
  refine CallE.gen fun k hk => EN_laws_eqBoolS rfl ?_
  have hL := Ra.lt
  simp -implicitDefEqProofs (disch:=first|omega|(simp only[LnZ];omega))[wrap64, Ra.len, Rb.len]
  refine IteW.mkr (fun hne => ?_) (fun heq => ?_)
  · simp -implicitDefEqProofs (disch:=first|omega|(simp only[LnZ];omega))[wrap64]
    exact RetK.keep (hk _ _ ⟨rfl, by simp; rintro rfl; exact hne rfl⟩)
  simp -implicitDefEqProofs (disch:=first|omega|(simp only[LnZ];omega))[wrap64]
  refine wp_count x.length (fun i e h' => h' = h ∧ e = [some a, some b, none, some (.int .i64 i)] ∧ x.take i = y.take i) ⟨rfl, rfl, rfl⟩ ?_
  rintro J i _ _ hJ hi ⟨rfl, rfl, hxy⟩
  simp -implicitDefEqProofs (disch:=first|omega|(simp only[LnZ];omega))[wrap64, Ra.len]
  refine IteW.mk (fun hlt => ?_) (fun hge => ?_)
  · have hly : i < y.length := by omega
    have hlx : i < x.length := by omega
    simp -implicitDefEqProofs (disch:=first|omega|(simp only[LnZ];omega))[wrap64, Ra.B, Rb.B]
    refine IteW.mkr (fun hne => ?_) (fun heq => ?_)
    · simp -implicitDefEqProofs (disch:=first|omega|(simp only[LnZ];omega))[wrap64]
      exact RetK.keep (hk _ _ ⟨rfl, by simp; rintro rfl; exact hne rfl⟩)
    simp -implicitDefEqProofs (disch:=first|omega|(simp only[LnZ];omega))[wrap64]
    exact hJ _ _ hlx ⟨rfl, rfl, take_step hxy hlx hly heq⟩
  · simp -implicitDefEqProofs (disch:=first|omega|(simp only[LnZ];omega))[wrap64]
    refine RetK.keep (hk _ _ ⟨rfl, ?_⟩)
    simp
    rw [List.take_of_length_le (by omega), List.take_of_length_le (by omega)] at hxy
    exact hxy
theorem c_markBoolS {g h : Heap} {Γ : List HP} {v : Value} {x : List Bool} {k0 : Int} (H : HS g (ow v x :: Γ) h) (hk0 : 0 ≤ k0) (hk1 : k0 + Mk.cnt x < 4611686018427387904) : CallE Try.prog fn_laws_markBoolS [v, .int .i64 k0] h (fun u h' => HS g (ow v (Mk.wr k0 x) :: Γ) h' ∧ u = .int .i64 (k0 + Mk.cnt x)) := by
  refine CallE.gen fun k hk => EN_laws_markBoolS rfl ?_
  simp -implicitDefEqProofs (disch:=first|omega|(simp only[LnZ];omega))[wrap64]
  refine wp_count x.length (fun i e h' => e = [some v, some (.int .i64 (k0 + cntL (x.take i))), none, some (.int .i64 i)] ∧ ∃ y, HS g (ow v y :: Γ) h' ∧ Mkd k0 x y i) ⟨by simp [cntL], x, H, Mkd.zero⟩ ?_
  rintro J i _ h2 hJ hi ⟨rfl, y, H, M⟩
  have hl := M.len
  have hL := H.rep.lt
  have hcx : Mk.cnt x = cntL x := rfl
  simp -implicitDefEqProofs (disch:=first|omega|(simp only[LnZ];omega))[wrap64, H.rep.len]
  refine IteW.mk (fun hlt => ?_) (fun hge => ?_)
  · have hlx : i < x.length := by omega
    have hly : i < y.length := by omega
    have hb := cntL_le x (i + 1)
    have hc := cntL_take x i hlx
    have h1 : Mk.cnt x[i] = 1 := rfl
    have h4 : IntKind.i64.wrap (k0 + (cntL (x.take i) : Nat) + 1) = k0 + (cntL (x.take i) : Nat) + 1 := wrap64 (by omega) (by omega)
    simp -implicitDefEqProofs (disch:=first|omega|(simp only[LnZ];omega))[wrap64, H.rep.B]
    refine H.storeF (Mk.wr (k0 + cntL (x.take i)) x[i]) hly rfl rfl trivial rfl fun h3 H => ?_
    simp -implicitDefEqProofs (disch:=first|omega|(simp only[LnZ];omega))[wrap64]
    refine hJ _ _ hlx ⟨?_, _, H, M.step hlx⟩
    rw [hc, h1]; push_cast; simp [Int.add_assoc]
  · simp -implicitDefEqProofs (disch:=first|omega|(simp only[LnZ];omega))[wrap64]
    have h2 : x.take i = x := List.take_of_length_le (by omega)
    refine RetK.keep (hk _ _ ⟨?_, by rw [h2]; rfl⟩)
    have h3 : y = Mk.wr k0 x := M.all (by omega)
    rw [← h3]; exact H
theorem c_toTransition {h : Heap} {t : Tr} : CallE Try.prog fn_laws_toTransition [t.v] h (fun v h' => h' = h ∧ v = t.v) := by
  refine CallE.gen fun k hk => EN_laws_toTransition rfl ?_
  simp -implicitDefEqProofs (disch:=first|omega|(simp only[LnZ];omega))[wrap64, Tr.v, setC]
  exact RetK.keep (hk _ _ ⟨rfl, rfl⟩)
theorem c_eqTransition {h : Heap} {a b : Value} {s t : Tr} (Ra : Rep h a s) (Rb : Rep h b t) : CallE Try.prog fn_laws_eqTransition [a, b] h (fun v h' => h' = h ∧ v = .bool (decide (s = t))) := by
  rw [(Rep_Tr.1 Ra).1, (Rep_Tr.1 Rb).1]
  refine CallE.gen fun k hk => EN_laws_eqTransition rfl ?_
  simp -implicitDefEqProofs (disch:=first|omega|(simp only[LnZ];omega))[wrap64, Tr.v]
  refine IteW.mkr (fun h1 => ?_) (fun h1 => ?_)
  · simp -implicitDefEqProofs (disch:=first|omega|(simp only[LnZ];omega))[wrap64]
    exact RetK.keep (hk _ _ ⟨rfl, by simp_all [Tr.ext_iff']⟩)
  simp -implicitDefEqProofs (disch:=first|omega|(simp only[LnZ];omega))[wrap64]
  refine IteW.mkr (fun h2 => ?_) (fun h2 => ?_)
  · simp -implicitDefEqProofs (disch:=first|omega|(simp only[LnZ];omega))[wrap64]
    exact RetK.keep (hk _ _ ⟨rfl, by simp_all [Tr.ext_iff']⟩)
  simp -implicitDefEqProofs (disch:=first|omega|(simp only[LnZ];omega))[wrap64]
  refine IteW.mkr (fun h3 => ?_) (fun h3 => ?_)
  · simp -implicitDefEqProofs (disch:=first|omega|(simp only[LnZ];omega))[wrap64]
    exact RetK.keep (hk _ _ ⟨rfl, by simp_all [Tr.ext_iff']⟩)
  simp -implicitDefEqProofs (disch:=first|omega|(simp only[LnZ];omega))[wrap64]
  refine IteW.mkr (fun h4 => ?_) (fun h4 => ?_)
  · simp -implicitDefEqProofs (disch:=first|omega|(simp only[LnZ];omega))[wrap64]
    exact RetK.keep (hk _ _ ⟨rfl, by simp_all [Tr.ext_iff']⟩)
  try simp -implicitDefEqProofs (disch:=first|omega|(simp only[LnZ];omega))[wrap64]
  exact RetK.keep (hk _ _ ⟨rfl, by simp_all [Tr.ext_iff']⟩)
theorem c_toTransitionS {h : Heap} {a : Value} {x : List Tr} (Ra : Rep h a x) (hs : Sz.sz x ≤ 1048576) : CallE Try.prog fn_laws_toTransitionS [a] h (fun v h' => HS h [ow v x] h') := by
  rw [sz_list] at hs
  refine CallE.gen fun k hk => EN_laws_toTransitionS rfl ?_
  simp -implicitDefEqProofs (disch:=first|omega|(simp only[LnZ];omega))[wrap64, Ra.xTr]
  refine HS.init.mks (α := Tr) (z := ⟨0, 0, 0, 0⟩) rfl rfl (Flat.own_iff.2 ⟨rfl, rfl, by refine Tr.ok_iff.2 ⟨?_, ?_, ?_, ?_⟩ <;> decide⟩) (Nat.le_refl _) (by omega) (by omega) fun v h1 H => ?_
  simp -implicitDefEqProofs (disch:=first|omega|(simp only[LnZ];omega))[wrap64]
  refine wp_count x.length (fun i e h' => e = [some a, none, some v, some (.int .i64 i)] ∧ ∃ y, HS h [ow v y] h' ∧ y.length = x.length ∧ y.take i = x.take i) ⟨rfl, _, H, by simp, by simp⟩ ?_
  rintro J i _ h2 hJ hi ⟨rfl, y, H, hl, hy⟩
  simp -implicitDefEqProofs (disch:=first|omega|(simp only[LnZ];omega))[wrap64, Ra.xTr]
  refine IteW.mk (fun hlt => ?_) (fun hge => ?_)
  · have hlx : i < x.length := by omega
    simp -implicitDefEqProofs (disch:=first|omega|(simp only[LnZ];omega))[wrap64, (Ra.on H).xTr]
    refine c_toTransition.go ?_
    rintro _ _ ⟨rfl, rfl⟩
    simp -implicitDefEqProofs (disch:=first|omega|(simp only[LnZ];omega))[wrap64, H.rep.xTr]
    refine H.storeF x[i] (by omega) rfl rfl (Ra.okF hlx) rfl fun h3 H => ?_
    simp -implicitDefEqProofs (disch:=first|omega|(simp only[LnZ];omega))[wrap64]
    exact hJ _ _ hlx ⟨rfl, _, H, by simp [hl], take_set_succ hy hlx hl⟩
  · simp -implicitDefEqProofs (disch:=first|omega|(simp only[LnZ];omega))[wrap64]
    refine RetK.keep (hk _ _ ?_)
    rw [← eq_of_take hy (by omega) hl]; exact H
theorem c_szTransitionS {h : Heap} {a : Value} {x : List Tr} (Ra : Rep h a x) {n : Int} (hn : 0 ≤ n ∧ n ≤ 1048576) : CallE Try.prog fn_laws_szTransitionS [a, .int .i64 n] h (fun v h' => h' = h ∧ ∃ m : Int, v = .int .i64 m ∧ (m = -1 ∨ (0 ≤ m ∧ m + Sz.sz x = n))) := by
  rw [sz_list, szL_zero (fun _ => rfl)]
  refine CallE.gen fun k hk => EN_laws_szTransitionS rfl ?_
  have hL := Ra.lt
  simp -implicitDefEqProofs (disch:=first|omega|(simp only[LnZ];omega))[wrap64, Ra.xTr]
  refine IteW.mk (fun hlt => ?_) (fun hge => ?_)
  · simp -implicitDefEqProofs (disch:=first|omega|(simp only[LnZ];omega))[wrap64]
    exact RetK.keep (hk _ _ ⟨rfl, _, rfl, .inl rfl⟩)
  · simp -implicitDefEqProofs (disch:=first|omega|(simp only[LnZ];omega))[wrap64]
    exact RetK.keep (hk _ _ ⟨rfl, _, rfl, .inr (by omega)⟩)
theorem c_eqTransitionS {h : Heap} {a b : Value} {x y : List Tr} (Ra : Rep h a x) (Rb : Rep h b y) : CallE Try.prog fn_laws_eqTransitionS [a, b] h (fun v h' => h' = h ∧ v = .bool (decide (x = y))) := by
  refine CallE.gen fun k hk => EN_laws_eqTransitionS rfl ?_
  have hL := Ra.lt
  simp -implicitDefEqProofs (disch:=first|omega|(simp only[LnZ];omega))[wrap64, Ra.len, Rb.len]
  refine IteW.mkr (fun hne => ?_) (fun heq => ?_)
  · simp -implicitDefEqProofs (disch:=first|omega|(simp only[LnZ];omega))[wrap64]
    exact RetK.keep (hk _ _ ⟨rfl, by simp; rintro rfl; exact hne rfl⟩)
  simp -implicitDefEqProofs (disch:=first|omega|(simp only[LnZ];omega))[wrap64]
  refine wp_count x.length (fun i e h' => h' = h ∧ e = [some a, some b, none, some (.int .i64 i)] ∧ x.take i = y.take i) ⟨rfl, rfl, rfl⟩ ?_
  rintro J i _ _ hJ hi ⟨rfl, rfl, hxy⟩
  simp -implicitDefEqProofs (disch:=first|omega|(simp only[LnZ];omega))[wrap64, Ra.len]
  refine IteW.mk (fun hlt => ?_) (fun hge => ?_)
  · have hly : i < y.length := by omega
    have hlx : i < x.length := by omega
    obtain ⟨u, hu, Ru⟩ := Ra.ld hlx
    obtain ⟨w, hw, Rw⟩ := Rb.ld hly
    change hload _ (some (elp 4 a i)) (some 4) = some u at hu
    change hload _ (some (elp 4 b i)) (some 4) = some w at hw
    simp -implicitDefEqProofs (disch:=first|omega|(simp only[LnZ];omega))[wrap64, Ra.X (n := 4) rfl, Rb.X (n := 4) rfl, hu, hw]
    refine (c_eqTransition Ru Rw).go ?_
    rintro _ _ ⟨rfl, rfl⟩
    simp -implicitDefEqProofs (disch:=first|omega|(simp only[LnZ];omega))[wrap64]
    refine IteW.mkr (fun hne => ?_) (fun heq => ?_)
    · simp -implicitDefEqProofs (disch:=first|omega|(simp only[LnZ];omega))[wrap64]
      exact RetK.keep (hk _ _ ⟨rfl, by simp; rintro rfl; exact hne rfl⟩)
    simp -implicitDefEqProofs (disch:=first|omega|(simp only[LnZ];omega))[wrap64]
    exact hJ _ _ hlx ⟨rfl, rfl, take_step hxy hlx hly heq⟩
  · simp -implicitDefEqProofs (disch:=first|omega|(simp only[LnZ];omega))[wrap64]
    refine RetK.keep (hk _ _ ⟨rfl, ?_⟩)
    simp
    rw [List.take_of_length_le (by omega), List.take_of_length_le (by omega)] at hxy
    exact hxy
theorem c_markTransitionS {g h : Heap} {Γ : List HP} {v : Value} {x : List Tr} {k0 : Int} (H : HS g (ow v x :: Γ) h) (hk0 : 0 ≤ k0) (hk1 : k0 + Mk.cnt x < 4611686018427387904) : CallE Try.prog fn_laws_markTransitionS [v, .int .i64 k0] h (fun u h' => HS g (ow v (Mk.wr k0 x) :: Γ) h' ∧ u = .int .i64 (k0 + Mk.cnt x)) := by
  refine CallE.gen fun k hk => EN_laws_markTransitionS rfl ?_
  simp -implicitDefEqProofs (disch:=first|omega|(simp only[LnZ];omega))[wrap64]
  refine wp_count x.length (fun i e h' => e = [some v, some (.int .i64 (k0 + cntL (x.take i))), none, some (.int .i64 i)] ∧ ∃ y, HS g (ow v y :: Γ) h' ∧ Mkd k0 x y i) ⟨by simp [cntL], x, H, Mkd.zero⟩ ?_
  rintro J i _ h2 hJ hi ⟨rfl, y, H, M⟩
  have hl := M.len
  have hL := H.rep.lt
  have hcx : Mk.cnt x = cntL x := rfl
  simp -implicitDefEqProofs (disch:=first|omega|(simp only[LnZ];omega))[wrap64, H.rep.len]
  refine IteW.mk (fun hlt => ?_) (fun hge => ?_)
  · have hlx : i < x.length := by omega
    have hly : i < y.length := by omega
    have hb := cntL_le x (i + 1)
    have hc := cntL_take x i hlx
    have h1 : Mk.cnt x[i] = 4 := rfl
    have hok := H.rep.okTr hly
    obtain ⟨q, hq⟩ : ∃ q, q = k0 + cntL (x.take i) := ⟨_, rfl⟩
    rw [← hq]
    simp -implicitDefEqProofs (disch:=first|omega|(simp only[LnZ];omega))[wrap64, H.rep.ian (n := 4) rfl hly, H.rep.fa hly]
    refine H.storeFld (α := Tr) ⟨q, y[i].care, y[i].value, y[i].to⟩ hly rfl rfl rfl rfl (by decide) (by first | rfl | (simp; rfl)) (Tr.ok_iff.2 ⟨by dsimp; omega, hok.care, hok.value, hok.to⟩) fun h3 H => ?_
    have hly' : i < (y.set i ⟨q, y[i].care, y[i].value, y[i].to⟩).length := by simpa using hly
    simp -implicitDefEqProofs (disch:=first|omega|(simp only[LnZ];omega))[wrap64, H.rep.ian (n := 4) rfl hly', H.rep.fa hly']
    refine H.storeFld (α := Tr) ⟨q, q + 1, y[i].value, y[i].to⟩ hly' rfl rfl rfl rfl (by decide) (by first | rfl | (simp; rfl)) (Tr.ok_iff.2 ⟨by dsimp; omega, by dsimp; omega, hok.value, hok.to⟩) fun h3 H => ?_
    rw [List.set_set] at H
    have hly' : i < (y.set i ⟨q, q + 1, y[i].value, y[i].to⟩).length := by simpa using hly
    simp -implicitDefEqProofs (disch:=first|omega|(simp only[LnZ];omega))[wrap64, H.rep.ian (n := 4) rfl hly', H.rep.fa hly']
    refine H.storeFld (α := Tr) ⟨q, q + 1, q + 1 + 1, y[i].to⟩ hly' rfl rfl rfl rfl (by decide) (by first | rfl | (simp; rfl)) (Tr.ok_iff.2 ⟨by dsimp; omega, by dsimp; omega, by dsimp; omega, hok.to⟩) fun h3 H => ?_
    rw [List.set_set] at H
    have hly' : i < (y.set i ⟨q, q + 1, q + 1 + 1, y[i].to⟩).length := by simpa using hly
    simp -implicitDefEqProofs (disch:=first|omega|(simp only[LnZ];omega))[wrap64, H.rep.ian (n := 4) rfl hly', H.rep.fa hly']
    refine H.storeFld (α := Tr) ⟨q, q + 1, q + 1 + 1, q + 1 + 1 + 1⟩ hly' rfl rfl rfl rfl (by decide) (by first | rfl | (simp; rfl)) (Tr.ok_iff.2 ⟨by dsimp; omega, by dsimp; omega, by dsimp; omega, by dsimp; omega⟩) fun h3 H => ?_
    rw [List.set_set] at H
    simp -implicitDefEqProofs (disch:=first|omega|(simp only[LnZ];omega))[wrap64]
    have M' := M.step hlx
    rw [← hq] at M'
    exact hJ _ _ hlx ⟨by rw [hc, h1, hq]; push_cast; simp [Int.add_assoc], _, H, M'⟩
  · simp -implicitDefEqProofs (disch:=first|omega|(simp only[LnZ];omega))[wrap64]
    have h2 : x.take i = x := List.take_of_length_le (by omega)
    refine RetK.keep (hk _ _ ⟨?_, by rw [h2]; rfl⟩)
    have h3 : y = Mk.wr k0 x := M.all (by omega)
    rw [← h3]; exact H
theorem c_toAutomaton {h : Heap} {v : Value} {a : Aut} (Ra : Rep h v a) (hs : Sz.sz a ≤ 1048576) : CallE Try.prog fn_laws_toAutomaton [v] h (fun v h' => HS h [ow v a] h') := by
  have hs' : Sz.sz a.init + Sz.sz a.acc + Sz.sz a.edges ≤ 1048576 := hs
  obtain ⟨v1, v2, v3, rfl, R1, R2, R3⟩ := Rep_Aut.1 Ra
  refine CallE.gen fun k hk => EN_laws_toAutomaton rfl ?_
  have H0 : HS h [] h := HS.init
  simp -implicitDefEqProofs (disch:=first|omega|(simp only[LnZ];omega))[wrap64, setC]
  refine (c_toIntS (R1.on H0) (by omega)).go ?_
  intro u1 h1 G1
  have H1 := HS.app G1 H0
  simp -implicitDefEqProofs (disch:=first|omega|(simp only[LnZ];omega))[wrap64, setC, G1.rep.cells, G1.rep.one]
  refine (c_toBoolS (R2.on H1) (by omega)).go ?_
  intro u2 h2 G2
  have H2 := HS.app G2 H1
  simp -implicitDefEqProofs (disch:=first|omega|(simp only[LnZ];omega))[wrap64, setC, G1.rep.cells, G1.rep.one, G2.rep.cells, G2.rep.one]
  refine (c_toTransitionS (R3.on H2) (by omega)).go ?_
  intro u3 h3 G3
  have H3 := HS.app G3 H2
  simp -implicitDefEqProofs (disch:=first|omega|(simp only[LnZ];omega))[wrap64, setC, G1.rep.cells, G1.rep.one, G2.rep.cells, G2.rep.one, G3.rep.cells, G3.rep.one]
  exact RetK.keep (hk _ _ (HS.mkAut H3.sw1.sw2))
theorem c_szAutomaton {h : Heap} {a : Value} {x : Aut} (Ra : Rep h a x) {n : Int} (hn : 0 ≤ n ∧ n ≤ 1048576) : CallE Try.prog fn_laws_szAutomaton [a, .int .i64 n] h (fun v h' => h' = h ∧ ∃ m : Int, v = .int .i64 m ∧ (m = -1 ∨ (0 ≤ m ∧ m + Sz.sz x = n))) := by
  have hz : Sz.sz x = Sz.sz x.init + Sz.sz x.acc + Sz.sz x.edges := rfl
  obtain ⟨v1, v2, v3, rfl, R1, R2, R3⟩ := Rep_Aut.1 Ra
  refine CallE.gen fun k hk => EN_laws_szAutomaton rfl ?_
  simp -implicitDefEqProofs (disch:=first|omega|(simp only[LnZ];omega))[wrap64]
  refine (c_szIntS R1 (by omega)).go ?_
  rintro _ _ ⟨rfl, m1, rfl, q1⟩
  simp -implicitDefEqProofs (disch:=first|omega|(simp only[LnZ];omega))[wrap64]
  refine IteW.mk (fun hlt => ?_) (fun hge => ?_)
  · simp -implicitDefEqProofs (disch:=first|omega|(simp only[LnZ];omega))[wrap64]
    exact RetK.keep (hk _ _ ⟨rfl, _, rfl, .inl rfl⟩)
  simp -implicitDefEqProofs (disch:=first|omega|(simp only[LnZ];omega))[wrap64]
  refine (c_szBoolS R2 (by omega)).go ?_
  rintro _ _ ⟨rfl, m2, rfl, q2⟩
  simp -implicitDefEqProofs (disch:=first|omega|(simp only[LnZ];omega))[wrap64]
  refine IteW.mk (fun hlt => ?_) (fun hge => ?_)
  · simp -implicitDefEqProofs (disch:=first|omega|(simp only[LnZ];omega))[wrap64]
    exact RetK.keep (hk _ _ ⟨rfl, _, rfl, .inl rfl⟩)
  simp -implicitDefEqProofs (disch:=first|omega|(simp only[LnZ];omega))[wrap64]
  refine (c_szTransitionS R3 (by omega)).go ?_
  rintro _ _ ⟨rfl, m3, rfl, q3⟩
  simp -implicitDefEqProofs (disch:=first|omega|(simp only[LnZ];omega))[wrap64]
  refine IteW.mk (fun hlt => ?_) (fun hge => ?_)
  · simp -implicitDefEqProofs (disch:=first|omega|(simp only[LnZ];omega))[wrap64]
    exact RetK.keep (hk _ _ ⟨rfl, _, rfl, .inl rfl⟩)
  try simp -implicitDefEqProofs (disch:=first|omega|(simp only[LnZ];omega))[wrap64]
  exact RetK.keep (hk _ _ ⟨rfl, _, rfl, .inr (by omega)⟩)
theorem c_eqAutomaton {h : Heap} {a b : Value} {x y : Aut} (Ra : Rep h a x) (Rb : Rep h b y) : CallE Try.prog fn_laws_eqAutomaton [a, b] h (fun v h' => h' = h ∧ v = .bool (decide (x = y))) := by
  obtain ⟨v1, v2, v3, rfl, R1, R2, R3⟩ := Rep_Aut.1 Ra
  obtain ⟨w1, w2, w3, rfl, S1, S2, S3⟩ := Rep_Aut.1 Rb
  refine CallE.gen fun k hk => EN_laws_eqAutomaton rfl ?_
  simp -implicitDefEqProofs (disch:=first|omega|(simp only[LnZ];omega))[wrap64]
  refine (c_eqIntS R1 S1).go ?_
  rintro _ _ ⟨rfl, rfl⟩
  simp -implicitDefEqProofs (disch:=first|omega|(simp only[LnZ];omega))[wrap64]
  refine IteW.mkr (fun h1 => ?_) (fun h1 => ?_)
  · simp -implicitDefEqProofs (disch:=first|omega|(simp only[LnZ];omega))[wrap64]
    exact RetK.keep (hk _ _ ⟨rfl, by simp_all [Aut.ext_iff']⟩)
  simp -implicitDefEqProofs (disch:=first|omega|(simp only[LnZ];omega))[wrap64]
  refine (c_eqBoolS R2 S2).go ?_
  rintro _ _ ⟨rfl, rfl⟩
  simp -implicitDefEqProofs (disch:=first|omega|(simp only[LnZ];omega))[wrap64]
  refine IteW.mkr (fun h2 => ?_) (fun h2 => ?_)
  · simp -implicitDefEqProofs (disch:=first|omega|(simp only[LnZ];omega))[wrap64]
    exact RetK.keep (hk _ _ ⟨rfl, by simp_all [Aut.ext_iff']⟩)
  simp -implicitDefEqProofs (disch:=first|omega|(simp only[LnZ];omega))[wrap64]
  refine (c_eqTransitionS R3 S3).go ?_
  rintro _ _ ⟨rfl, rfl⟩
  simp -implicitDefEqProofs (disch:=first|omega|(simp only[LnZ];omega))[wrap64]
  refine IteW.mkr (fun h3 => ?_) (fun h3 => ?_)
  · simp -implicitDefEqProofs (disch:=first|omega|(simp only[LnZ];omega))[wrap64]
    exact RetK.keep (hk _ _ ⟨rfl, by simp_all [Aut.ext_iff']⟩)
  try simp -implicitDefEqProofs (disch:=first|omega|(simp only[LnZ];omega))[wrap64]
  exact RetK.keep (hk _ _ ⟨rfl, by simp_all [Aut.ext_iff']⟩)
theorem c_markAutomaton {g h : Heap} {Γ : List HP} {v : Value} {x : Aut} {k0 : Int} (H : HS g (ow v x :: Γ) h) (hk0 : 0 ≤ k0) (hk1 : k0 + Mk.cnt x < 4611686018427387904) : CallE Try.prog fn_laws_markAutomaton [v, .int .i64 k0] h (fun u h' => HS g (ow v (Mk.wr k0 x) :: Γ) h' ∧ u = .int .i64 (k0 + Mk.cnt x)) := by
  have hc : Mk.cnt x = Mk.cnt x.init + Mk.cnt x.acc + Mk.cnt x.edges := rfl
  obtain ⟨v1, v2, v3, rfl, H0⟩ := HS.unAut H
  refine CallE.gen fun k hk => EN_laws_markAutomaton rfl ?_
  simp -implicitDefEqProofs (disch:=first|omega|(simp only[LnZ];omega))[wrap64]
  refine (c_markIntS (k0 := k0) H0 (by omega) (by omega)).go ?_
  rintro _ h1 ⟨G1, rfl⟩
  have H1 := G1.bk2
  simp -implicitDefEqProofs (disch:=first|omega|(simp only[LnZ];omega))[wrap64]
  refine (c_markBoolS (k0 := k0 + (Mk.cnt x.init : Nat)) H1 (by omega) (by omega)).go ?_
  rintro _ h2 ⟨G2, rfl⟩
  have H2 := G2.bk2
  simp -implicitDefEqProofs (disch:=first|omega|(simp only[LnZ];omega))[wrap64]
  refine (c_markTransitionS (k0 := k0 + (Mk.cnt x.init : Nat) + (Mk.cnt x.acc : Nat)) H2 (by omega) (by omega)).go ?_
  rintro _ h3 ⟨G3, rfl⟩
  have H3 := G3.bk2
  simp -implicitDefEqProofs (disch:=first|omega|(simp only[LnZ];omega))[wrap64]
  refine RetK.keep (hk _ _ ⟨HS.mkAut H3, ?_⟩)
  rw [hc]; congr 1; omega
end Go.Proofs.Ytglnelcmcimljaa

namespace Go.Proofs.Ytglnelcmcimljaa
open Go
theorem c_Clone_int {h : Heap} {a : Value} {x : List Int} (Ra : Rep h a x) (hs : x.length ≤ 1073741824) : CallE Try.prog fn_slices_Clone_S_int_int [a] h (fun v h' => HS h [ow v x] h') := by
  refine CallE.gen fun k hk => EN_slices_Clone_S_int_int rfl ?_
  obtain ⟨b, hb, hb2⟩ := Ra.isNil
  simp -implicitDefEqProofs (disch:=first|omega|(simp only[LnZ];omega))[wrap64, hb]
  refine IteW.mk (fun h1 => ?_) (fun h1 => ?_)
  · simp -implicitDefEqProofs (disch:=first|omega|(simp only[LnZ];omega))[wrap64]
    have h2 : x = [] := hb2 h1
    subst h2
    exact RetK.keep (hk _ _ HS.init.nil_ow)
  · simp -implicitDefEqProofs (disch:=first|omega|(simp only[LnZ];omega))[wrap64]
    refine HS.init.appPL (α := Int) (l2 := x) (u := a) rfl rfl Ra rfl rfl (by omega) fun v h1 H => ?_
    simp -implicitDefEqProofs (disch:=first|omega|(simp only[LnZ];omega))[wrap64]
    exact RetK.keep (hk _ _ H)
theorem c_Clip_int {g h : Heap} {Γ : List HP} {a : Value} {x : List Int} (H : HS g (ow a x :: Γ) h) : CallE Try.prog fn_slices_Clip_S_int_int [a] h (fun v h' => HS g (ow v x :: Γ) h') := by
  refine CallE.gen fun k hk => EN_slices_Clip_S_int_int rfl ?_
  obtain ⟨v', h1, h2⟩ := H.clip (esz := 1) (k := .i64)
  simp -implicitDefEqProofs (disch:=first|omega|(simp only[LnZ];omega))[wrap64, H.rep.I, h1]
  exact RetK.keep (hk _ _ h2)
theorem c_clone_int {h : Heap} {a : Value} {x : List Int} (Ra : Rep h a x) (hs : x.length ≤ 1073741824) : CallE Try.prog fn_impl_clone_int [a] h (fun v h' => HS h [ow v x] h') := by
  refine CallE.gen fun k hk => EN_impl_clone_int rfl ?_
  simp -implicitDefEqProofs (disch:=first|omega|(simp only[LnZ];omega))[wrap64]
  refine (c_Clone_int Ra hs).go ?_
  intro v h1 H
  simp -implicitDefEqProofs (disch:=first|omega|(simp only[LnZ];omega))[wrap64]
  refine (c_Clip_int H).go ?_
  intro v' h2 H
  simp -implicitDefEqProofs (disch:=first|omega|(simp only[LnZ];omega))[wrap64]
  exact RetK.keep (hk _ _ H)
theorem c_IndexFunc_impl_Transition {h : Heap} {a fv : Value} {x : List Tr} (Ra : Rep h a x) {f : FuncId} {c1 c2 : List Value} (hf : fnOf fv = some (f, c1, c2)) (p : Tr → Bool)
    (hp : ∀ h1, h.le h1 → ∀ (i : Nat) (hi : i < x.length) (u : Value), Rep h1 u x[i] → CallE Try.prog f (c1 ++ u :: c2) h1 (fun v h' => h1.le h' ∧ v = .bool (p x[i]))) :
    CallE Try.prog fn_slices_IndexFunc_S_impl_Transition_impl_Transition [a, fv] h (fun v h' => h.le h' ∧ v = .int .i64 (match x.findIdx? p with | some i => (i : Int) | none => -1)) := by
  refine CallE.gen fun k hk => EN_slices_IndexFunc_S_impl_Transition_impl_Transition rfl ?_
  have hL := Ra.lt
  simp -implicitDefEqProofs (disch:=first|omega|(simp only[LnZ];omega))[wrap64, Ra.len]
  refine wp_count x.length (fun i e h' => e = [some a, some fv, none, none, some (.int .i64 x.length), some (.int .i64 i)] ∧ h.le h' ∧ ∀ (j : Nat) (hj : j < x.length), j < i → p x[j] = false) ⟨rfl, Heap.le.refl h, fun j _ hj => absurd hj (Nat.not_lt_zero j)⟩ ?_
  rintro J i _ h1 hJ hi ⟨rfl, hl, hn⟩
  simp -implicitDefEqProofs (disch:=first|omega|(simp only[LnZ];omega))[wrap64]
  refine IteW.mk (fun hlt => ?_) (fun hge => ?_)
  · have hlx : i < x.length := by omega
    obtain ⟨u, hu, Ru⟩ := (Ra.le hl).ld hlx
    change hload _ (some (elp 4 a i)) (some 4) = some u at hu
    simp -implicitDefEqProofs (disch:=first|omega|(simp only[LnZ];omega))[wrap64, (Ra.le hl).X (n := 4) rfl, hu, hf]
    refine (hp h1 hl i hlx u Ru).go ?_
    rintro _ h2 ⟨hl2, rfl⟩
    simp -implicitDefEqProofs (disch:=first|omega|(simp only[LnZ];omega))[wrap64]
    refine IteW.mk (fun hq => ?_) (fun hq => ?_)
    · simp -implicitDefEqProofs (disch:=first|omega|(simp only[LnZ];omega))[wrap64]
      refine RetK.keep (hk _ _ ⟨hl.trans hl2, ?_⟩)
      have h3 : x.findIdx? p = some i := by
        rw [List.findIdx?_eq_some_iff_getElem]
        exact ⟨hlx, hq, fun j hj => by rw [hn j (by omega) hj]; simp⟩
      rw [h3]
    · simp -implicitDefEqProofs (disch:=first|omega|(simp only[LnZ];omega))[wrap64]
      refine hJ _ _ hlx ⟨rfl, hl.trans hl2, fun j hj hji => ?_⟩
      by_cases hji2 : j = i
      · subst hji2; simpa using hq
      · exact hn j hj (by omega)
  · simp -implicitDefEqProofs (disch:=first|omega|(simp only[LnZ];omega))[wrap64]
    refine RetK.keep (hk _ _ ⟨hl, ?_⟩)
    have h3 : x.findIdx? p = none := by
      rw [List.findIdx?_eq_none_iff]
      intro y hy
      obtain ⟨j, hj, rfl⟩ := List.mem_iff_getElem.1 hy
      exact hn j hj (by omega)
    rw [h3]
theorem c_ContainsFunc_impl_Transition {h : Heap} {a fv : Value} {x : List Tr} (Ra : Rep h a x) {f : FuncId} {c1 c2 : List Value} (hf : fnOf fv = some (f, c1, c2)) (p : Tr → Bool)
    (hp : ∀ h1, h.le h1 → ∀ (i : Nat) (hi : i < x.length) (u : Value), Rep h1 u x[i] → CallE Try.prog f (c1 ++ u :: c2) h1 (fun v h' => h1.le h' ∧ v = .bool (p x[i]))) :
    CallE Try.prog fn_slices_ContainsFunc_S_impl_Transition_impl_Transition [a, fv] h (fun v h' => h.le h' ∧ v = .bool (x.any p)) := by
  refine CallE.gen fun k hk => EN_slices_ContainsFunc_S_impl_Transition_impl_Transition rfl ?_
  simp -implicitDefEqProofs (disch:=first|omega|(simp only[LnZ];omega))[wrap64]
  refine (c_IndexFunc_impl_Transition Ra hf p hp).go ?_
  rintro _ h1 ⟨hl, rfl⟩
  simp -implicitDefEqProofs (disch:=first|omega|(simp only[LnZ];omega))[wrap64]
  refine RetK.keep (hk _ _ ⟨hl, ?_⟩)
  congr 1
  rw [← List.findIdx?_isSome]
  cases x.findIdx? p <;> simp
end Go.Proofs.Ytglnelcmcimljaa

namespace Go.Proofs.Ytglnelcmcimljaa
open Go
theorem empty_ow {g h : Heap} {Γ : List HP} (H : HS g Γ h) : HS g (ow (.agg #[.slice none 0 0, .slice none 0 0, .slice none 0 0]) Aut.empty :: Γ) h :=
  HS.mkAut (a := Aut.empty) H.nil_ow.nil_ow.nil_ow
theorem c_in {h : Heap} {n lo hi : Int} : CallE Try.prog fn_impl_in [.int .i64 n, .int .i64 lo, .int .i64 hi] h (fun u h' => h' = h ∧ u = .bool (decide (lo ≤ n ∧ n ≤ hi))) := by
  refine CallE.gen fun k hk => EN_impl_in rfl ?_
  by_cases h1 : lo ≤ n
  · simp -implicitDefEqProofs (disch:=first|omega|(simp only[LnZ];omega))[wrap64, h1]
    exact RetK.keep (hk _ _ ⟨rfl, by simp [h1]⟩)
  · simp -implicitDefEqProofs (disch:=first|omega|(simp only[LnZ];omega))[wrap64, h1]
    exact RetK.keep (hk _ _ ⟨rfl, by simp [h1]⟩)
theorem c_l7Edge {h : Heap} {v : Value} {t : Tr} (Rt : Rep h v t) {n : Int} : CallE Try.prog fn_spec_l7Edge [v, .int .i64 n] h (fun u h' => h' = h ∧ u = .bool (decide (t.Ok n))) := by
  rw [(Rep_Tr.1 Rt).1]
  refine CallE.gen fun k hk => EN_spec_l7Edge rfl ?_
  unfold Tr.Ok at hk
  by_cases h1 : 0 ≤ t.frm
  case neg => simp -implicitDefEqProofs (disch:=first|omega|(simp only[LnZ];omega))[wrap64, Tr.v, h1]; exact RetK.keep (hk _ _ ⟨rfl, by simp [h1]⟩)
  by_cases h2 : t.frm < n
  case neg => simp -implicitDefEqProofs (disch:=first|omega|(simp only[LnZ];omega))[wrap64, Tr.v, h1, h2]; exact RetK.keep (hk _ _ ⟨rfl, by simp [h2]⟩)
  by_cases h3 : 0 ≤ t.to
  case neg => simp -implicitDefEqProofs (disch:=first|omega|(simp only[LnZ];omega))[wrap64, Tr.v, h1, h2, h3]; exact RetK.keep (hk _ _ ⟨rfl, by simp [h3]⟩)
  by_cases h4 : t.to < n
  case neg => simp -implicitDefEqProofs (disch:=first|omega|(simp only[LnZ];omega))[wrap64, Tr.v, h1, h2, h3, h4]; exact RetK.keep (hk _ _ ⟨rfl, by simp [h4]⟩)
  by_cases h5 : 0 ≤ t.care
  case neg => simp -implicitDefEqProofs (disch:=first|omega|(simp only[LnZ];omega))[wrap64, Tr.v, h1, h2, h3, h4, h5]; exact RetK.keep (hk _ _ ⟨rfl, by simp [h5]⟩)
  by_cases h6 : t.care ≤ 7
  case neg => simp -implicitDefEqProofs (disch:=first|omega|(simp only[LnZ];omega))[wrap64, Tr.v, h1, h2, h3, h4, h5, h6]; exact RetK.keep (hk _ _ ⟨rfl, by simp [h6]⟩)
  by_cases h7 : 0 ≤ t.value
  case neg => simp -implicitDefEqProofs (disch:=first|omega|(simp only[LnZ];omega))[wrap64, Tr.v, h1, h2, h3, h4, h5, h6, h7]; exact RetK.keep (hk _ _ ⟨rfl, by simp [h7]⟩)
  simp -implicitDefEqProofs (disch:=first|omega|(simp only[LnZ];omega))[wrap64, Tr.v, h1, h2, h3, h4, h5, h6, h7]
  exact RetK.keep (hk _ _ ⟨rfl, by simp [h1, h2, h3, h4, h5, h6, h7]⟩)
end Go.Proofs.Ytglnelcmcimljaa

namespace Go.Proofs.Ytglnelcmcimljaa
open Go
theorem i64_toInt (x : BitVec 64) : IntKind.i64.wrap (x.toNat : Int) = x.toInt := by
  rw [IntKind.wrap_i64, BitVec.toInt_eq_toNat_bmod, Int.bmod_def]
  have := x.isLt
  split <;> omega
theorem ofInt_toInt {v : Int} (h1 : -9223372036854775808 ≤ v) (h2 : v < 9223372036854775808) : (BitVec.ofInt 64 v).toInt = v := by
  rw [BitVec.toInt_ofInt, Int.bmod_def]; split <;> omega
theorem bits_in {v c : Int} (h1 : -9223372036854775808 ≤ v) (h2 : v < 9223372036854775808) : andNotI .i64 v c = 0 ↔ andI .i64 v c = v := by
  show IntKind.i64.wrap ((BitVec.ofInt 64 v &&& ~~~ BitVec.ofInt 64 c).toNat : Int) = 0 ↔ IntKind.i64.wrap ((BitVec.ofInt 64 v &&& BitVec.ofInt 64 c).toNat : Int) = v
  have hv := ofInt_toInt h1 h2
  rw [i64_toInt, i64_toInt]
  generalize BitVec.ofInt 64 v = x at *
  generalize BitVec.ofInt 64 c = y at *
  subst hv
  rw [BitVec.toInt_inj, show (0 : Int) = (0#64).toInt from rfl, BitVec.toInt_inj]
  constructor
  · intro h
    apply BitVec.eq_of_getLsbD_eq
    intro i hi
    have h3 := congrArg (fun z => z.getLsbD i) h
    simp only [BitVec.getLsbD_and, BitVec.getLsbD_not, hi, decide_true, Bool.true_and, BitVec.getLsbD_zero] at h3
    rw [BitVec.getLsbD_and]
    cases h4 : x.getLsbD i <;> cases h5 : y.getLsbD i <;> simp_all
  · intro h
    apply BitVec.eq_of_getLsbD_eq
    intro i hi
    have h3 := congrArg (fun z => z.getLsbD i) h
    simp only [BitVec.getLsbD_and] at h3
    rw [BitVec.getLsbD_and, BitVec.getLsbD_not, BitVec.getLsbD_zero]
    cases h4 : x.getLsbD i <;> cases h5 : y.getLsbD i <;> simp_all
theorem c_AutomatonValid_1 {h : Heap} {v : Value} {t : Tr} (Rt : Rep h v t) {b : Nat} {n : Int} (hn : 1 ≤ n ∧ n < 4611686018427387904) (hb : hload h (some (.pointer (some ⟨b, 0, none⟩))) none = some (.int .i64 n)) :
    CallE Try.prog fn_impl_AutomatonValid_1 [v, .pointer (some ⟨b, 0, none⟩)] h (fun u h' => h' = h ∧ u = .bool (!decide (t.Ok n))) := by
  have ht := (Rep_Tr.1 Rt).2
  rw [(Rep_Tr.1 Rt).1]
  have e0 := ht.value
  refine CallE.gen fun k hk => EN_impl_AutomatonValid_1 rfl ?_
  simp -implicitDefEqProofs (disch:=first|omega|(simp only[LnZ];omega))[wrap64, Tr.v, hb]
  refine c_in.go ?_
  rintro _ _ ⟨rfl, rfl⟩
  by_cases h1 : 0 ≤ t.frm ∧ t.frm ≤ n - 1
  case neg =>
    simp -implicitDefEqProofs (disch:=first|omega|(simp only[LnZ];omega))[wrap64, h1]
    have hno : ¬ t.Ok n := fun ho => h1 (by unfold Tr.Ok at ho; omega)
    exact RetK.keep (hk _ _ ⟨rfl, by simp [hno]⟩)
  simp -implicitDefEqProofs (disch:=first|omega|(simp only[LnZ];omega))[wrap64, h1, hb]
  refine c_in.go ?_
  rintro _ _ ⟨rfl, rfl⟩
  by_cases h2 : 0 ≤ t.to ∧ t.to ≤ n - 1
  case neg =>
    simp -implicitDefEqProofs (disch:=first|omega|(simp only[LnZ];omega))[wrap64, h2]
    have hno : ¬ t.Ok n := fun ho => h2 (by unfold Tr.Ok at ho; omega)
    exact RetK.keep (hk _ _ ⟨rfl, by simp [hno]⟩)
  simp -implicitDefEqProofs (disch:=first|omega|(simp only[LnZ];omega))[wrap64, h2]
  refine c_in.go ?_
  rintro _ _ ⟨rfl, rfl⟩
  by_cases h3 : 0 ≤ t.care ∧ t.care ≤ 7
  case neg =>
    simp -implicitDefEqProofs (disch:=first|omega|(simp only[LnZ];omega))[wrap64, h3]
    have hno : ¬ t.Ok n := fun ho => h3 (by unfold Tr.Ok at ho; omega)
    exact RetK.keep (hk _ _ ⟨rfl, by simp [hno]⟩)
  by_cases h4 : t.value < 0
  case pos =>
    simp -implicitDefEqProofs (disch:=first|omega|(simp only[LnZ];omega))[wrap64, h3, h4]
    have hno : ¬ t.Ok n := fun ho => by unfold Tr.Ok at ho; omega
    exact RetK.keep (hk _ _ ⟨rfl, by simp [hno]⟩)
  simp -implicitDefEqProofs (disch:=first|omega|(simp only[LnZ];omega))[wrap64, h3, h4]
  refine RetK.keep (hk _ _ ⟨rfl, ?_⟩)
  have h5 := bits_in (c := t.care) e0.1 e0.2
  by_cases h6 : andNotI .i64 t.value t.care = 0
  · have hyes : t.Ok n := ⟨by omega, by omega, by omega, by omega, by omega, by omega, by omega, h5.1 h6⟩
    simp [h6, hyes]
  · have hno : ¬ t.Ok n := fun h => h6 (h5.2 h.2.2.2.2.2.2.2)
    simp [h6, hno]
theorem drop_cons {α : Type} {l : List α} {i : Nat} (hi : i < l.length) : l.drop i = l[i] :: l.drop (i + 1) := List.drop_eq_getElem_cons hi
theorem incr_cons {n lo x : Int} {l : List Int} : incr n lo (x :: l) ↔ lo < x ∧ x < n ∧ incr n x l := Iff.rfl
theorem c_AutomatonValid {h : Heap} {v : Value} {a : Aut} (Ra : Rep h v a) : CallE Try.prog fn_impl_AutomatonValid [v] h (fun u h' => h.le h' ∧ u = .bool (decide a.Ok)) := by
  obtain ⟨v1, v2, v3, rfl, R1, R2, R3⟩ := Rep_Aut.1 Ra
  refine CallE.gen fun k hk => EN_impl_AutomatonValid rfl ?_
  have l1 := R1.lt
  have l2 := R2.lt
  simp -implicitDefEqProofs (disch:=first|omega|(simp only[LnZ];omega))[wrap64, R1.len, R2.len, R3.len]
  refine HS.init.alloc rfl fun b h1 H => ?_
  simp -implicitDefEqProofs (disch:=first|omega|(simp only[LnZ];omega))[wrap64]
  refine H.bxst (u := .int .i64 a.acc.length) rfl rfl rfl rfl (by simp) fun h2 H => ?_
  simp only [setC, cells_int, List.take_zero, List.nil_append] at H
  simp -implicitDefEqProofs (disch:=first|omega|(simp only[LnZ];omega))[wrap64, R1.len, R2.len, R3.len]
  have H : HS h [bx b [.int .i64 a.acc.length]] h2 := H
  refine wp_count a.init.length (fun i e h' => h' = h2 ∧ ∃ last : Int, e = [none, some (.agg #[v1, v2, v3]), none, some (.pointer (some ⟨b, 0, none⟩)), some (.int .i64 last), none, some v1, some (.int .i64 a.init.length), some (.int .i64 i)] ∧
      -1 ≤ last ∧ last < 4611686018427387904 ∧ (incr a.acc.length (-1) a.init ↔ incr a.acc.length last (a.init.drop i))) ⟨rfl, -1, rfl, by omega, by omega, by simp⟩ ?_
  rintro J i _ _ hJ hi ⟨rfl, last, rfl, hl1, hl2, hin⟩
  simp -implicitDefEqProofs (disch:=first|omega|(simp only[LnZ];omega))[wrap64]
  refine IteW.mk (fun hlt => ?_) (fun hge => ?_)
  · have hlx : i < a.init.length := by omega
    simp -implicitDefEqProofs (disch:=first|omega|(simp only[LnZ];omega))[wrap64, (R1.on H).I, H.bxld0]
    refine c_in.go ?_
    rintro _ _ ⟨rfl, rfl⟩
    simp -implicitDefEqProofs (disch:=first|omega|(simp only[LnZ];omega))[wrap64]
    rw [drop_cons hlx, incr_cons] at hin
    refine IteW.mk (fun hn => ?_) (fun hn => ?_)
    · simp -implicitDefEqProofs (disch:=first|omega|(simp only[LnZ];omega))[wrap64]
      refine RetK.keep (hk _ _ ⟨H.base, ?_⟩)
      have : ¬ a.Ok := by
        intro ho
        have := hin.1 ho.i
        omega
      simp [this]
    · simp -implicitDefEqProofs (disch:=first|omega|(simp only[LnZ];omega))[wrap64]
      exact hJ _ _ hlx ⟨rfl, _, rfl, by omega, by omega, hin.trans ⟨fun h => h.2.2, fun h => ⟨by omega, by omega, h⟩⟩⟩
  · simp -implicitDefEqProofs (disch:=first|omega|(simp only[LnZ];omega))[wrap64, H.bxld0]
    have hin : incr a.acc.length (-1) a.init := hin.2 (by rw [List.drop_eq_nil_of_le (by omega)]; trivial)
    refine c_in.go ?_
    rintro _ _ ⟨rfl, rfl⟩
    by_cases hn : 1 ≤ (a.acc.length : Int) ∧ (a.acc.length : Int) ≤ 64
    case neg =>
      simp -implicitDefEqProofs (disch:=first|omega|(simp only[LnZ];omega))[wrap64, hn]
      refine RetK.keep (hk _ _ ⟨H.base, ?_⟩)
      have : ¬ a.Ok := fun ho => hn (by have := ho.n; omega)
      simp [this]
    by_cases he : (a.edges.length : Int) ≤ 2048
    case neg =>
      simp -implicitDefEqProofs (disch:=first|omega|(simp only[LnZ];omega))[wrap64, hn, he, R3.len]
      refine RetK.keep (hk _ _ ⟨H.base, ?_⟩)
      have : ¬ a.Ok := fun ho => he (by have := ho.e; omega)
      simp [this]
    simp -implicitDefEqProofs (disch:=first|omega|(simp only[LnZ];omega))[wrap64, hn, he, R3.len]
    refine (c_ContainsFunc_impl_Transition (R3.on H) (c1 := []) (fnOf_func) (fun t => !decide (t.Ok a.acc.length)) ?_).go ?_
    · intro h3 hl j hj u Ru
      exact (c_AutomatonValid_1 Ru (by omega) (hload_le hl H.bxld0)).to fun _ _ ⟨h4, h5⟩ => ⟨h4 ▸ Heap.le.refl _, h5⟩
    · rintro _ h3 ⟨hl, rfl⟩
      simp -implicitDefEqProofs (disch:=first|omega|(simp only[LnZ];omega))[wrap64]
      refine RetK.keep (hk _ _ ⟨H.base.trans hl, ?_⟩)
      congr 1
      have hnn : 1 ≤ a.acc.length ∧ a.acc.length ≤ 64 := by omega
      have hee : a.edges.length ≤ 2048 := by omega
      simp only [Aut.Ok, hnn, hee, hin, true_and]
      rw [Bool.eq_iff_iff]
      simp
theorem c_spec_AutomatonValid {h : Heap} {v : Value} {a : Aut} (Ra : Rep h v a) : CallE Try.prog fn_spec_AutomatonValid [v] h (fun u h' => h' = h ∧ u = .bool (decide a.Ok)) := by
  obtain ⟨v1, v2, v3, rfl, R1, R2, R3⟩ := Rep_Aut.1 Ra
  refine CallE.gen fun k hk => EN_spec_AutomatonValid rfl ?_
  have l1 := R1.lt
  have l2 := R2.lt
  have l3 := R3.lt
  simp -implicitDefEqProofs (disch:=first|omega|(simp only[LnZ];omega))[wrap64, R1.len, R2.len, R3.len]
  by_cases h1 : (a.acc.length : Int) < 1
  case pos =>
    simp -implicitDefEqProofs (disch:=first|omega|(simp only[LnZ];omega))[wrap64, h1]
    have hno : ¬ a.Ok := fun ho => by have := ho.n; omega
    exact RetK.keep (hk _ _ ⟨rfl, by simp [hno]⟩)
  by_cases h2 : 64 < (a.acc.length : Int)
  case pos =>
    simp -implicitDefEqProofs (disch:=first|omega|(simp only[LnZ];omega))[wrap64, h1, h2]
    have hno : ¬ a.Ok := fun ho => by have := ho.n; omega
    exact RetK.keep (hk _ _ ⟨rfl, by simp [hno]⟩)
  by_cases h3 : (a.acc.length : Int) < a.init.length
  case pos =>
    simp -implicitDefEqProofs (disch:=first|omega|(simp only[LnZ];omega))[wrap64, h1, h2, R1.len, h3]
    have hno : ¬ a.Ok := fun ho => by
      have h1 := incr_len ho.i (by have := ho.n; omega)
      omega
    exact RetK.keep (hk _ _ ⟨rfl, by simp [hno]⟩)
  by_cases h4 : 2048 < (a.edges.length : Int)
  case pos =>
    simp -implicitDefEqProofs (disch:=first|omega|(simp only[LnZ];omega))[wrap64, h1, h2, R1.len, h3, R3.len, h4]
    have hno : ¬ a.Ok := fun ho => by have := ho.e; omega
    exact RetK.keep (hk _ _ ⟨rfl, by simp [hno]⟩)
  simp -implicitDefEqProofs (disch:=first|omega|(simp only[LnZ];omega))[wrap64, h1, h2, R1.len, h3, R3.len, h4]
  refine wp_count a.init.length (fun i e h' => h' = h ∧ e = [none, some (.agg #[v1, v2, v3]), none, some (.int .i64 a.acc.length), some (.int .i64 i), none] ∧
      (incr a.acc.length (-1) a.init ↔ incr a.acc.length (if i = 0 then -1 else a.init.getD (i - 1) 0) (a.init.drop i))) ⟨rfl, rfl, by simp⟩ ?_
  rintro J i _ _ hJ hi ⟨rfl, rfl, hin⟩
  simp -implicitDefEqProofs (disch:=first|omega|(simp only[LnZ];omega))[wrap64, R1.len]
  refine IteW.mk (fun hlt => ?_) (fun hge => ?_)
  · have hlx : i < a.init.length := by omega
    rw [drop_cons hlx, incr_cons] at hin
    have hgd : a.init.getD (i + 1 - 1) 0 = a.init[i] := by simp [hlx]
    by_cases h5 : a.init[i] < 0
    case pos =>
      simp -implicitDefEqProofs (disch:=first|omega|(simp only[LnZ];omega))[wrap64, R1.I, h5]
      have hno : ¬ a.Ok := fun ho => by have := ho.im hlx; omega
      exact RetK.keep (hk _ _ ⟨rfl, by simp [hno]⟩)
    by_cases h6 : (a.acc.length : Int) ≤ a.init[i]
    case pos =>
      simp -implicitDefEqProofs (disch:=first|omega|(simp only[LnZ];omega))[wrap64, R1.I, h5, h6]
      have hno : ¬ a.Ok := fun ho => by have := ho.im hlx; omega
      exact RetK.keep (hk _ _ ⟨rfl, by simp [hno]⟩)
    by_cases h7 : 0 < i
    · have hj : i - 1 < a.init.length := by omega
      have hii : (i : Int) - 1 = ((i - 1 : Nat) : Int) := by omega
      have hw : IntKind.i64.wrap ((i : Int) - 1) = ((i - 1 : Nat) : Int) := by rw [wrap64 (by omega) (by omega), hii]
      have hgd2 : a.init.getD (i - 1) 0 = a.init[i - 1] := by simp [hj]
      rw [if_neg (by omega), hgd2] at hin
      simp -implicitDefEqProofs (disch:=first|omega|(simp only[LnZ];omega))[wrap64, R1.I, h5, h6, h7, hw]
      refine IteW.mk (fun h8 => ?_) (fun h8 => ?_)
      · simp -implicitDefEqProofs (disch:=first|omega|(simp only[LnZ];omega))[wrap64]
        have hno : ¬ a.Ok := fun ho => by have := (hin.1 ho.i).1; omega
        exact RetK.keep (hk _ _ ⟨rfl, by simp [hno]⟩)
      · simp -implicitDefEqProofs (disch:=first|omega|(simp only[LnZ];omega))[wrap64]
        exact hJ _ _ hlx ⟨rfl, rfl, by rw [if_neg (by omega), hgd]; exact hin.trans ⟨fun h => h.2.2, fun h => ⟨by omega, by omega, h⟩⟩⟩
    · have h0 : i = 0 := by omega
      subst h0
      rw [if_pos rfl] at hin
      simp -implicitDefEqProofs (disch:=first|omega|(simp only[LnZ];omega))[wrap64, R1.I, h5, h6]
      exact hJ _ _ hlx ⟨rfl, rfl, by rw [if_neg (by omega), hgd]; exact hin.trans ⟨fun h => h.2.2, fun h => ⟨by omega, by omega, h⟩⟩⟩
  · have hin : incr a.acc.length (-1) a.init := hin.2 (by rw [List.drop_eq_nil_of_le (by omega)]; trivial)
    simp -implicitDefEqProofs (disch:=first|omega|(simp only[LnZ];omega))[wrap64]
    refine wp_count a.edges.length (fun i e h' => h' = _ ∧ e = [none, some (.agg #[v1, v2, v3]), none, some (.int .i64 a.acc.length), none, some (.int .i64 i)] ∧
      ∀ (j : Nat) (hj : j < a.edges.length), j < i → a.edges[j].Ok a.acc.length) ⟨rfl, rfl, fun j _ hj => absurd hj (Nat.not_lt_zero j)⟩ ?_
    rintro J i _ _ hJ hi ⟨rfl, rfl, hn⟩
    simp -implicitDefEqProofs (disch:=first|omega|(simp only[LnZ];omega))[wrap64, R3.len]
    refine IteW.mk (fun hlt => ?_) (fun hge => ?_)
    · have hlx : i < a.edges.length := by omega
      simp -implicitDefEqProofs (disch:=first|omega|(simp only[LnZ];omega))[wrap64, R3.xTr]
      refine (c_l7Edge (Rep_Tr.2 ⟨rfl, R3.okTr hlx⟩)).go ?_
      rintro _ _ ⟨rfl, rfl⟩
      simp -implicitDefEqProofs (disch:=first|omega|(simp only[LnZ];omega))[wrap64]
      refine IteW.mkr (fun h8 => ?_) (fun h8 => ?_)
      · simp -implicitDefEqProofs (disch:=first|omega|(simp only[LnZ];omega))[wrap64]
        have hno : ¬ a.Ok := fun ho => h8 (ho.t hlx)
        exact RetK.keep (hk _ _ ⟨rfl, by simp [hno]⟩)
      · simp -implicitDefEqProofs (disch:=first|omega|(simp only[LnZ];omega))[wrap64]
        refine hJ _ _ hlx ⟨rfl, rfl, fun j hj hji => ?_⟩
        by_cases hji2 : j = i
        · subst hji2; exact h8
        · exact hn j hj (by omega)
    · simp -implicitDefEqProofs (disch:=first|omega|(simp only[LnZ];omega))[wrap64]
      have hyes : a.Ok := ⟨by omega, by omega, hin, fun t ht => by
        obtain ⟨j, hj, rfl⟩ := List.mem_iff_getElem.1 ht
        exact hn j hj (by omega)⟩
      exact RetK.keep (hk _ _ ⟨rfl, by simp [hyes]⟩)
end Go.Proofs.Ytglnelcmcimljaa

namespace Go.Proofs.Ytglnelcmcimljaa
open Go
section
variable {α : Type} [Ty α] {g h : Heap} {Γ : List HP} {v u : Value} {l : List α}
theorem HS.cut (H : HS g (ow v l :: Γ) h) {n esz : Nat} {k : IntKind} (hn : n ≤ l.length) : ∃ v', sliceVV esz v none (some (some (.int k n))) none = some v' ∧ HS g (ow v' (l.take n) :: Γ) h := by
  obtain ⟨g', r, rfl, d, O, H⟩ := H
  rcases Own_list.1 O with ⟨p, rfl, rfl, rfl, hp⟩ | ⟨b, off, cap, cells, el, r', rfl, ⟨h1, hM⟩, h2, rfl, h4, h5⟩
  · have hn0 : n = 0 := by simpa using hn
    subst hn0
    exact ⟨.slice p 0 0, by simp [sliceVV, bndV], g', Heap.nil, rfl, d, Own_list.2 (.inl ⟨p, rfl, by simp, rfl, hp⟩), H⟩
  · rw [← List.take_append_drop n l] at h5
    obtain ⟨r1, r2, rfl, d2, h6, h7⟩ := ownL_split h5
    obtain ⟨d3, d4⟩ := Dj_add.1 d
    obtain ⟨d5, d6⟩ := Dj_add.1 d4
    obtain ⟨n1, n2⟩ : r1 b = none ∧ r2 b = none := by simpa [Heap.add] using h4
    refine ⟨.slice (some ⟨b, off, none⟩) n cap, ?_, g'.add r2, (Heap.one b (.cells cells.toArray el (0, 0))).add r1, by ac_rfl, ?_, ?_, H.le (le_add d6)⟩
    · have : n ≤ cap := by omega
      simp [sliceVV, bndV, add_none, this]
    · exact Dj_add.2 ⟨add_Dj.2 ⟨d3, (Dj_one.2 n2)⟩, add_Dj.2 ⟨d5, d2.symm⟩⟩
    · have hl : (l.take n).length = n := by simp; omega
      exact Own_list.2 (.inr ⟨b, off, cap, cells, el, r1, by rw [hl], ⟨by omega, by omega⟩, h2, rfl, n1, h6⟩)
end
theorem c_Index_int {h : Heap} {a : Value} {x : List Int} (Ra : Rep h a x) {n : Int} : CallE Try.prog fn_slices_Index_S_int_int [a, .int .i64 n] h (fun v h' => h' = h ∧ ∃ r : Int, v = .int .i64 r ∧ (0 ≤ r ↔ n ∈ x)) := by
  refine CallE.gen fun k hk => EN_slices_Index_S_int_int rfl ?_
  have hL := Ra.lt
  simp -implicitDefEqProofs (disch:=first|omega|(simp only[LnZ];omega))[wrap64, Ra.len]
  refine wp_count x.length (fun i e h' => e = [some a, some (.int .i64 n), none, none, some (.int .i64 x.length), some (.int .i64 i)] ∧ h' = h ∧ ∀ (j : Nat) (hj : j < x.length), j < i → x[j] ≠ n) ⟨rfl, rfl, fun j _ hj => absurd hj (Nat.not_lt_zero j)⟩ ?_
  rintro J i _ h1 hJ hi ⟨rfl, rfl, hn⟩
  simp -implicitDefEqProofs (disch:=first|omega|(simp only[LnZ];omega))[wrap64]
  refine IteW.mk (fun hlt => ?_) (fun hge => ?_)
  · have hlx : i < x.length := by omega
    simp -implicitDefEqProofs (disch:=first|omega|(simp only[LnZ];omega))[wrap64, Ra.I]
    refine IteW.mk (fun hq => ?_) (fun hq => ?_)
    · simp -implicitDefEqProofs (disch:=first|omega|(simp only[LnZ];omega))[wrap64]
      exact RetK.keep (hk _ _ ⟨rfl, i, rfl, by simp only [Int.natCast_nonneg, true_iff]; rw [hq]; exact List.getElem_mem hlx⟩)
    · simp -implicitDefEqProofs (disch:=first|omega|(simp only[LnZ];omega))[wrap64]
      refine hJ _ _ hlx ⟨rfl, rfl, fun j hj hji => ?_⟩
      by_cases hji2 : j = i
      · subst hji2; exact fun e => hq e.symm
      · exact hn j hj (by omega)
  · simp -implicitDefEqProofs (disch:=first|omega|(simp only[LnZ];omega))[wrap64]
    refine RetK.keep (hk _ _ ⟨rfl, -1, rfl, ?_⟩)
    simp only [show ¬ (0 : Int) ≤ -1 by decide, false_iff]
    intro hm
    obtain ⟨j, hj, h1⟩ := List.mem_iff_getElem.1 hm
    exact hn j hj (by omega) h1
theorem c_Contains_int {h : Heap} {a : Value} {x : List Int} (Ra : Rep h a x) {n : Int} : CallE Try.prog fn_slices_Contains_S_int_int [a, .int .i64 n] h (fun v h' => h' = h ∧ v = .bool (decide (n ∈ x))) := by
  refine CallE.gen fun k hk => EN_slices_Contains_S_int_int rfl ?_
  simp -implicitDefEqProofs (disch:=first|omega|(simp only[LnZ];omega))[wrap64]
  refine (c_Index_int Ra).go ?_
  rintro _ h1 ⟨rfl, r, rfl, hr⟩
  simp -implicitDefEqProofs (disch:=first|omega|(simp only[LnZ];omega))[wrap64]
  exact RetK.keep (hk _ _ ⟨rfl, by congr 1; rw [Bool.eq_iff_iff]; simp [hr]⟩)
theorem c_l4In {h : Heap} {a : Value} {x : List Int} (Ra : Rep h a x) {n : Int} : CallE Try.prog fn_spec_l4In [a, .int .i64 n] h (fun v h' => h' = h ∧ v = .bool (decide (n ∈ x))) := by
  refine CallE.gen fun k hk => EN_spec_l4In rfl ?_
  have hL := Ra.lt
  simp -implicitDefEqProofs (disch:=first|omega|(simp only[LnZ];omega))[wrap64]
  refine wp_count x.length (fun i e h' => e = [some a, some (.int .i64 n), none, some (.int .i64 i)] ∧ h' = h ∧ ∀ (j : Nat) (hj : j < x.length), j < i → x[j] ≠ n) ⟨rfl, rfl, fun j _ hj => absurd hj (Nat.not_lt_zero j)⟩ ?_
  rintro J i _ h1 hJ hi ⟨rfl, rfl, hn⟩
  simp -implicitDefEqProofs (disch:=first|omega|(simp only[LnZ];omega))[wrap64, Ra.len]
  refine IteW.mk (fun hlt => ?_) (fun hge => ?_)
  · have hlx : i < x.length := by omega
    simp -implicitDefEqProofs (disch:=first|omega|(simp only[LnZ];omega))[wrap64, Ra.I]
    refine IteW.mk (fun hq => ?_) (fun hq => ?_)
    · simp -implicitDefEqProofs (disch:=first|omega|(simp only[LnZ];omega))[wrap64]
      exact RetK.keep (hk _ _ ⟨rfl, by congr 1; rw [eq_comm, decide_eq_true_iff, ← hq]; exact List.getElem_mem hlx⟩)
    · simp -implicitDefEqProofs (disch:=first|omega|(simp only[LnZ];omega))[wrap64]
      refine hJ _ _ hlx ⟨rfl, rfl, fun j hj hji => ?_⟩
      by_cases hji2 : j = i
      · subst hji2; exact hq
      · exact hn j hj (by omega)
  · simp -implicitDefEqProofs (disch:=first|omega|(simp only[LnZ];omega))[wrap64]
    refine RetK.keep (hk _ _ ⟨rfl, ?_⟩)
    congr 1
    rw [eq_comm, decide_eq_false_iff_not]
    intro hm
    obtain ⟨j, hj, h1⟩ := List.mem_iff_getElem.1 hm
    exact hn j hj (by omega) h1
theorem c_next {h : Heap} {v : Value} {a : Aut} (Ra : Rep h v a) (ha : a.Ok) : CallE Try.prog fn_impl_Automaton_next [v] h (fun u h' => ∃ G, HS h [ow u G] h' ∧ Adj a.E G ∧ G.length = a.acc.length) := by
  obtain ⟨v1, v2, v3, rfl, R1, R2, R3⟩ := Rep_Aut.1 Ra
  refine CallE.gen fun k hk => EN_impl_Automaton_next rfl ?_
  have hn := ha.n
  have he := ha.e
  simp -implicitDefEqProofs (disch:=first|omega|(simp only[LnZ];omega))[wrap64, R2.len]
  refine HS.init.mks (α := List Int) (z := []) rfl rfl own_nils (Nat.le_refl _) (by omega) (by omega) fun w h1 H => ?_
  simp -implicitDefEqProofs (disch:=first|omega|(simp only[LnZ];omega))[wrap64, (R3.on H).len]
  refine wp_count a.edges.length (fun i e h' => ∃ G, e = [none, none, none, some w, none, some v3, some (.int .i64 a.edges.length), some (.int .i64 i)] ∧ HS h [ow w G] h' ∧ NextI a i G) ⟨_, by simp, H, NextI.zero⟩ ?_
  rintro J i _ h2 hJ hi ⟨G, rfl, H, hG⟩
  simp -implicitDefEqProofs (disch:=first|omega|(simp only[LnZ];omega))[wrap64]
  refine IteW.mk (fun hlt => ?_) (fun hge => ?_)
  · have hlx : i < a.edges.length := by omega
    have hx := ha.t hlx
    unfold Tr.Ok at hx
    obtain ⟨f, hf⟩ : ∃ f : Nat, a.edges[i].frm = f := ⟨a.edges[i].frm.toNat, by omega⟩
    obtain ⟨t, ht⟩ : ∃ t : Nat, a.edges[i].to = t := ⟨a.edges[i].to.toNat, by omega⟩
    have hfG : f < G.length := by rw [hG.len]; omega
    have hle := hG.le f hfG
    have R3' := R3.on H
    obtain ⟨u, hu, H⟩ := H.take hfG
    change hload _ (some (elp 1 w f)) none = some u at hu
    simp -implicitDefEqProofs (disch:=first|omega|(simp only[LnZ];omega))[wrap64, R3'.xTr, Tr.v, setC, hf, ht, H.sw1.holeia (n := 1) rfl, hu]
    refine H.app1 (t : Int) rfl rfl rfl ⟨by omega, by omega⟩ rfl rfl (by omega) (by omega) fun u' h3 H => ?_
    simp -implicitDefEqProofs (disch:=first|omega|(simp only[LnZ];omega))[wrap64, H.sw1.holeia (n := 1) rfl]
    refine H.storeH rfl rfl rfl fun h4 H => ?_
    simp -implicitDefEqProofs (disch:=first|omega|(simp only[LnZ];omega))[wrap64]
    exact hJ _ _ hlx ⟨_, rfl, H, hG.step hlx hf ht hfG⟩
  · simp -implicitDefEqProofs (disch:=first|omega|(simp only[LnZ];omega))[wrap64]
    exact RetK.keep (hk _ _ ⟨G, H, hG.done ha (by omega), hG.len⟩)
theorem c_l7Next {h : Heap} {v : Value} {a : Aut} (Ra : Rep h v a) (ha : a.Ok) : CallE Try.prog fn_spec_l7Next [v] h (fun u h' => ∃ G, HS h [ow u G] h' ∧ Adj a.E G ∧ G.length = a.acc.length ∧ ∀ x (hx : x < G.length), G[x].length ≤ 2048) := by
  obtain ⟨v1, v2, v3, rfl, R1, R2, R3⟩ := Rep_Aut.1 Ra
  refine CallE.gen fun k hk => EN_spec_l7Next rfl ?_
  have hn := ha.n
  have he := ha.e
  simp -implicitDefEqProofs (disch:=first|omega|(simp only[LnZ];omega))[wrap64, R2.len]
  refine HS.init.mks (α := List Int) (z := []) rfl rfl own_nils (Nat.le_refl _) (by omega) (by omega) fun w h1 H => ?_
  simp -implicitDefEqProofs (disch:=first|omega|(simp only[LnZ];omega))[wrap64]
  refine wp_count a.edges.length (fun i e h' => ∃ G, e = [none, some (.agg #[v1, v2, v3]), none, some w, some (.int .i64 i), none] ∧ HS h [ow w G] h' ∧ NextI a i G) ⟨_, by simp, H, NextI.zero⟩ ?_
  rintro J i _ h2 hJ hi ⟨G, rfl, H, hG⟩
  simp -implicitDefEqProofs (disch:=first|omega|(simp only[LnZ];omega))[wrap64, (R3.on H).len]
  refine IteW.mk (fun hlt => ?_) (fun hge => ?_)
  · have hlx : i < a.edges.length := by omega
    have hx := ha.t hlx
    unfold Tr.Ok at hx
    obtain ⟨f, hf⟩ : ∃ f : Nat, a.edges[i].frm = f := ⟨a.edges[i].frm.toNat, by omega⟩
    obtain ⟨t, ht⟩ : ∃ t : Nat, a.edges[i].to = t := ⟨a.edges[i].to.toNat, by omega⟩
    have hfG : f < G.length := by rw [hG.len]; omega
    have hle := hG.le f hfG
    have R3' := R3.on H
    obtain ⟨u, hu, Ru⟩ := H.rep.ldL hfG
    simp -implicitDefEqProofs (disch:=first|omega|(simp only[LnZ];omega))[wrap64, R3'.xTr, Tr.v, setC, hf, ht, H.rep.X (n := 1) rfl, hu]
    refine (c_l4In Ru).go ?_
    rintro _ _ ⟨rfl, rfl⟩
    by_cases hm : (t : Int) ∈ G[f]
    · simp -implicitDefEqProofs (disch:=first|omega|(simp only[LnZ];omega))[wrap64, hm]
      exact hJ _ _ hlx ⟨_, by simp, H, hG.skip hlx hf ht hfG hm⟩
    · obtain ⟨u, hu, H⟩ := H.take hfG
      change hload _ (some (elp 1 w f)) none = some u at hu
      simp -implicitDefEqProofs (disch:=first|omega|(simp only[LnZ];omega))[wrap64, hm, hf, ht, H.sw1.holeia (n := 1) rfl, hu]
      refine H.app1 (t : Int) rfl rfl rfl ⟨by omega, by omega⟩ rfl rfl (by omega) (by omega) fun u' h3 H => ?_
      simp -implicitDefEqProofs (disch:=first|omega|(simp only[LnZ];omega))[wrap64, H.sw1.holeia (n := 1) rfl]
      refine H.storeH rfl rfl rfl fun h4 H => ?_
      simp -implicitDefEqProofs (disch:=first|omega|(simp only[LnZ];omega))[wrap64]
      exact hJ _ _ hlx ⟨_, by simp, H, hG.step hlx hf ht hfG⟩
  · simp -implicitDefEqProofs (disch:=first|omega|(simp only[LnZ];omega))[wrap64]
    exact RetK.keep (hk _ _ ⟨G, H, hG.done ha (by omega), hG.len, fun x hx => by have := hG.le x hx; omega⟩)
end Go.Proofs.Ytglnelcmcimljaa

namespace Go.Proofs.Ytglnelcmcimljaa
open Go
theorem take_mem_succ {α : Type} {l : List α} {i : Nat} (hi : i < l.length) {x : α} : x ∈ l.take (i + 1) ↔ x ∈ l.take i ∨ x = l[i] := by
  rw [List.take_add_one, List.getElem?_eq_getElem hi]
  simp only [Option.toList_some, List.mem_append, List.mem_singleton]
theorem snoc_of {α : Type} {l : List α} (h : 0 < l.length) : ∃ l' x, l = l' ++ [x] := by
  refine ⟨l.dropLast, l.getLast (List.ne_nil_of_length_pos h), ?_⟩
  exact (List.dropLast_concat_getLast _).symm
theorem c_reachable {h : Heap} {w s : Value} {G : List (List Int)} {S : List Int} {E : Nat → Nat → Prop} (Rw : Rep h w G) (Rs : Rep h s S) (hG : Adj E G) (hS : ∀ z ∈ S, 0 ≤ z ∧ z < G.length) (hSl : S.length ≤ 1048576) (hGl : G.length ≤ 1048576) :
    CallE Try.prog fn_impl_reachable [w, s] h (fun u h' => ∃ B : List Bool, HS h [ow u B] h' ∧ B.length = G.length ∧ ∀ x, tru B x ↔ ∃ z : Nat, (z : Int) ∈ S ∧ Rch E z x) := by
  refine CallE.gen fun k hk => EN_impl_reachable rfl ?_
  simp -implicitDefEqProofs (disch:=first|omega|(simp only[LnZ];omega))[wrap64, Rw.len]
  refine HS.init.mks (α := Bool) (z := false) rfl rfl own_false (Nat.le_refl _) (by omega) (by omega) fun b h1 H => ?_
  simp -implicitDefEqProofs (disch:=first|omega|(simp only[LnZ];omega))[wrap64]
  refine (c_clone_int (Rs.on H) (by omega)).go ?_
  intro t0 h2 H2
  have H := H2.app H
  simp -implicitDefEqProofs (disch:=first|omega|(simp only[LnZ];omega))[wrap64, (Rs.on H).len]
  refine wp_count S.length (fun i e h' => ∃ B, e = [some w, none, none, some b, some t0, none, none, none, some s, some (.int .i64 S.length), some (.int .i64 i), none, none, none] ∧ HS h [ow t0 S, ow b B] h' ∧ B.length = G.length ∧ ∀ x, tru B x ↔ (x : Int) ∈ S.take i) ⟨_, by simp, H, by simp, fun x => by simp [tru_replicate]⟩ ?_
  rintro J i _ h3 hJ hi ⟨B, rfl, H, hBl, hB⟩
  simp -implicitDefEqProofs (disch:=first|omega|(simp only[LnZ];omega))[wrap64]
  refine IteW.mk (fun hlt => ?_) (fun hge => ?_)
  · have hlx : i < S.length := by omega
    have hz := hS _ (List.getElem_mem hlx)
    obtain ⟨z, hz2⟩ : ∃ z : Nat, S[i] = z := ⟨S[i].toNat, by omega⟩
    have H := H.sw1
    have hzB : z < B.length := by omega
    simp -implicitDefEqProofs (disch:=first|omega|(simp only[LnZ];omega))[wrap64, (Rs.on H).I, hz2, H.rep.B]
    refine H.storeF true (i := z) hzB rfl rfl trivial rfl fun h4 H => ?_
    simp -implicitDefEqProofs (disch:=first|omega|(simp only[LnZ];omega))[wrap64]
    refine hJ _ _ hlx ⟨_, rfl, H.sw1, by simpa using hBl, fun x => ?_⟩
    rw [tru_set hzB, hB, take_mem_succ hlx, hz2]
    exact or_congr Iff.rfl (by omega)
  simp -implicitDefEqProofs (disch:=first|omega|(simp only[LnZ];omega))[wrap64]
  rw [List.take_of_length_le (by omega)] at hB
  have hI : Srch E (fun z => (z : Int) ∈ S) (tru B) (fun z => (z : Int) ∈ S) := Srch.init hB fun _ h => h
  have hcl := List.count_le_length (a := false) (l := B)
  refine wp_while (σ := List Bool × List Int) (fun s e h' => ∃ t, e = [some w, none, none, some b, some t, none, none, none, none, none, none, none, none, none] ∧
      HS h [ow t s.2, ow b s.1] h' ∧ s.1.length = G.length ∧ Srch E (fun z => (z : Int) ∈ S) (tru s.1) (fun z => (z : Int) ∈ s.2) ∧ (∀ z ∈ s.2, ∃ q : Nat, z = q ∧ tru s.1 q) ∧ s.2.length + s.1.count false ≤ S.length + G.length)
    (fun s => s.2.length + s.1.count false) (B, S) ⟨t0, by simp, H, hBl, hI, fun z hz => ⟨z.toNat, by have := hS z hz; omega, by rw [hB]; have := hS z hz; rwa [Int.toNat_of_nonneg this.1]⟩, by dsimp only; omega⟩ ?_
  rintro J ⟨B, T⟩ _ h4 hJ ⟨t, rfl, H, hBl, hI, hT, hm⟩
  dsimp only at H hBl hI hT hm
  simp -implicitDefEqProofs (disch:=first|omega|(simp only[LnZ];omega))[wrap64, H.rep.len]
  refine IteW.mkr (fun h0 => ?_) (fun h0 => ?_)
  · simp -implicitDefEqProofs (disch:=first|omega|(simp only[LnZ];omega))[wrap64]
    have hT0 : T = [] := List.eq_nil_of_length_eq_zero (by omega)
    subst hT0
    exact RetK.keep (hk _ _ ⟨B, H.drop, hBl, fun x => hI.done (by simp)⟩)
  obtain ⟨T, x, rfl⟩ := snoc_of (l := T) (by omega)
  obtain ⟨q, rfl, hq⟩ := hT x (by simp)
  have hqG : q < G.length := by rw [← hBl]; exact tru_lt hq
  obtain ⟨t', ht', H'⟩ := H.cut (n := T.length) (esz := 1) (k := .i64) (by simp)
  have hTl : T.length < 4611686018427387904 := by have := H.rep.lt; simp at this; omega
  rw [List.take_left' rfl] at H'
  obtain ⟨u, hu0, Ru⟩ := Rw.ldL hqG
  have hu := hload_le H.base hu0
  have hul := Ru.lt
  have hlen1 : (T ++ [(q : Int)]).length = T.length + 1 := by simp
  have hi1 : IntKind.i64.wrap ((T.length : Int) + 1 - 1) = T.length := by rw [wrap64 (by omega) (by omega)]; omega
  simp -implicitDefEqProofs (disch:=first|omega|(simp only[LnZ];omega))[wrap64, H.rep.I, hlen1, hi1, ht', (Rw.on H').X (n := 1) rfl, hu, Ru.len]
  have hlt0 := hm
  obtain ⟨m, hmm⟩ : ∃ m, m = T.length + 1 + B.count false := ⟨_, rfl⟩
  refine wp_count G[q].length (fun j e h' => ∃ (t : Value) (B : List Bool) (T' : List Int), e = [some w, none, none, some b, some t, none, none, none, none, none, none, some u, some (.int .i64 G[q].length), some (.int .i64 j)] ∧
      HS h [ow t T', ow b B] h' ∧ B.length = G.length ∧ Srch E (fun z => (z : Int) ∈ S) (tru B) (fun z => (z : Int) ∈ T' ∨ z = q) ∧ tru B q ∧ (∀ z ∈ T', ∃ q : Nat, z = q ∧ tru B q) ∧ T'.length + 1 + B.count false = m ∧
      ∀ j' (hj' : j' < G[q].length), j' < j → ∀ y : Nat, G[q][j'] = y → tru B y) ⟨t', B, T, by simp, H', hBl, hI.congr (fun _ => Iff.rfl) (fun z => by simp [Int.ofNat_inj]), hq, fun z hz => hT z (by simp [hz]), hmm.symm, fun j' _ hj' => absurd hj' (Nat.not_lt_zero j')⟩ ?_
  rintro J2 j _ h5 hJ2 hj ⟨t2, B2, T2, rfl, H, hBl2, hI2, hq2, hT2, hm2, hpr⟩
  simp -implicitDefEqProofs (disch:=first|omega|(simp only[LnZ];omega))[wrap64]
  refine IteW.mk (fun hlt2 => ?_) (fun hge2 => ?_)
  · have hjl : j < G[q].length := by omega
    obtain ⟨y, hy, hxy, hyG⟩ := hG.get hqG hjl
    have H := H.sw1
    have hyB : y < B2.length := by omega
    have hpr2 : ∀ B3, tru B3 y → (∀ z, tru B2 z → tru B3 z) → ∀ j' (hj' : j' < G[q].length), j' < j + 1 → ∀ y : Nat, G[q][j'] = y → tru B3 y := by
      intro B3 h1 h2 j' hj' hlt y' hy'
      by_cases e : j' = j
      · subst e
        rw [hy] at hy'
        obtain rfl : y = y' := by omega
        exact h1
      · exact h2 _ (hpr j' hj' (by omega) y' hy')
    by_cases hb : B2[y] = true
    · simp -implicitDefEqProofs (disch:=first|omega|(simp only[LnZ];omega))[wrap64, (Ru.on H).I, hy, H.rep.B, hb]
      exact hJ2 _ _ hjl ⟨t2, B2, T2, rfl, H.sw1, hBl2, hI2, hq2, hT2, hm2, hpr2 _ ((tru_get hyB).2 hb) fun _ h => h⟩
    · have hb' : B2[y] = false := by simpa using hb
      simp -implicitDefEqProofs (disch:=first|omega|(simp only[LnZ];omega))[wrap64, (Ru.on H).I, hy, H.rep.B, hb']
      refine H.storeF true (i := y) hyB rfl rfl trivial rfl fun h6 H => ?_
      have hcs := count_set hyB hb'
      simp -implicitDefEqProofs (disch:=first|omega|(simp only[LnZ];omega))[wrap64]
      refine H.sw1.app1 (y : Int) rfl rfl rfl ⟨by omega, by omega⟩ rfl rfl (by omega) (by omega) fun t3 h7 H => ?_
      simp -implicitDefEqProofs (disch:=first|omega|(simp only[LnZ];omega))[wrap64]
      refine hJ2 _ _ hjl ⟨t3, _, _, rfl, H, by simpa using hBl2, hI2.add (x := q) (y := y) hq2 hxy (fun z => tru_set hyB) (fun z => ?_), (tru_set hyB).2 (.inl hq2), ?_, ?_, hpr2 _ ((tru_set hyB).2 (.inr rfl)) fun z hz => (tru_set hyB).2 (.inl hz)⟩
      · simp only [List.mem_append, List.mem_singleton]
        constructor
        · rintro ((h | h) | h)
          · exact .inl (.inl h)
          · exact .inr (by omega)
          · exact .inl (.inr h)
        · rintro ((h | h) | h)
          · exact .inl (.inl h)
          · exact .inr h
          · exact .inl (.inr (by omega))
      · intro z hz
        rcases List.mem_append.1 hz with hz | hz
        · obtain ⟨p, h1, h2⟩ := hT2 z hz
          exact ⟨p, h1, (tru_set hyB).2 (.inl h2)⟩
        · exact ⟨y, by simpa using hz, (tru_set hyB).2 (.inr rfl)⟩
      · simp; omega
  · simp -implicitDefEqProofs (disch:=first|omega|(simp only[LnZ];omega))[wrap64]
    refine hJ (B2, T2) _ _ ?_ ⟨t2, rfl, H, hBl2, hI2.drop (x := q) (fun y hxy => ?_) (fun z hz => hz), hT2, ?_⟩
    · dsimp only; rw [hlen1]; omega
    · exact hG.all hqG (C := tru B2) (fun j' hj' y hy => hpr j' hj' (by omega) y hy) hxy
    · dsimp only at hm ⊢; rw [hlen1] at hm; omega
theorem c_l7Reach {h : Heap} {w s : Value} {G : List (List Int)} {S : List Int} {E : Nat → Nat → Prop} (Rw : Rep h w G) (Rs : Rep h s S) (hG : Adj E G) (hS : ∀ z ∈ S, 0 ≤ z ∧ z < G.length) (hGl : G.length ≤ 1048576) :
    CallE Try.prog fn_spec_l7Reach [w, s] h (fun u h' => ∃ Q : List Int, HS h [ow u Q] h' ∧ Q.length ≤ G.length ∧ (∀ z ∈ Q, 0 ≤ z ∧ z < G.length) ∧ ∀ x : Nat, (x : Int) ∈ Q ↔ ∃ z : Nat, (z : Int) ∈ S ∧ Rch E z x) := by
  refine CallE.gen fun k hk => EN_spec_l7Reach rfl ?_
  have hSl := Rs.lt
  simp -implicitDefEqProofs (disch:=first|omega|(simp only[LnZ];omega))[wrap64, Rw.len]
  refine HS.init.mks (α := Bool) (z := false) rfl rfl own_false (Nat.le_refl _) (by omega) (by omega) fun b h1 H => ?_
  simp -implicitDefEqProofs (disch:=first|omega|(simp only[LnZ];omega))[wrap64]
  refine H.bls0 Int fun t0 h2 H => ?_
  simp -implicitDefEqProofs (disch:=first|omega|(simp only[LnZ];omega))[wrap64]
  refine wp_count S.length (fun i e h' => ∃ (t : Value) (B : List Bool) (Q : List Int), e = [some w, some s, none, some b, some t, some (.int .i64 i), none, none, none] ∧ HS h [ow t Q, ow b B] h' ∧ B.length = G.length ∧ Q.length + B.count false = G.length ∧ (∀ z ∈ Q, ∃ q : Nat, z = q ∧ q < G.length) ∧ (∀ x, tru B x ↔ (x : Int) ∈ S.take i) ∧ ∀ x : Nat, tru B x ↔ (x : Int) ∈ Q) ⟨t0, _, [], by simp, H, by simp, by simp, by simp, fun x => by simp [tru_replicate], fun x => by simp [tru_replicate]⟩ ?_
  rintro J i _ h3 hJ hi ⟨t, B, Q, rfl, H, hBl, hQl, hQ, hB, hBQ⟩
  simp -implicitDefEqProofs (disch:=first|omega|(simp only[LnZ];omega))[wrap64, (Rs.on H).len]
  refine IteW.mk (fun hlt => ?_) (fun hge => ?_)
  · have hlx : i < S.length := by omega
    have hz := hS _ (List.getElem_mem hlx)
    obtain ⟨z, hz2⟩ : ∃ z : Nat, S[i] = z := ⟨S[i].toNat, by omega⟩
    have H := H.sw1
    have hzB : z < B.length := by omega
    by_cases hb : B[z] = true
    · simp -implicitDefEqProofs (disch:=first|omega|(simp only[LnZ];omega))[wrap64, (Rs.on H).I, hz2, H.rep.B, hb]
      refine hJ _ _ hlx ⟨t, B, Q, rfl, H.sw1, hBl, hQl, hQ, fun x => ?_, hBQ⟩
      rw [take_mem_succ hlx, hB, hz2]
      constructor
      · exact .inl
      · rintro (h | h)
        · exact h
        · obtain rfl : x = z := by omega
          exact (hB x).1 ((tru_get hzB).2 hb)
    · have hb' : B[z] = false := by simpa using hb
      have hcs := count_set hzB hb'
      simp -implicitDefEqProofs (disch:=first|omega|(simp only[LnZ];omega))[wrap64, (Rs.on H).I, hz2, H.rep.B, hb']
      refine H.storeF true (i := z) hzB rfl rfl trivial rfl fun h4 H => ?_
      simp -implicitDefEqProofs (disch:=first|omega|(simp only[LnZ];omega))[wrap64, (Rs.on H).I, hz2]
      refine H.sw1.app1 (z : Int) rfl rfl rfl ⟨by omega, by omega⟩ rfl rfl (by omega) (by omega) fun t3 h7 H => ?_
      simp -implicitDefEqProofs (disch:=first|omega|(simp only[LnZ];omega))[wrap64]
      refine hJ _ _ hlx ⟨t3, _, _, rfl, H, by simpa using hBl, by simp; omega, ?_, fun x => ?_, fun x => ?_⟩
      · intro y hy
        rcases List.mem_append.1 hy with hy | hy
        · exact hQ y hy
        · exact ⟨z, by simpa using hy, by omega⟩
      · rw [tru_set hzB, hB, take_mem_succ hlx, hz2]
        exact or_congr Iff.rfl (by omega)
      · rw [tru_set hzB, hBQ]
        simp [Int.ofNat_inj]
  simp -implicitDefEqProofs (disch:=first|omega|(simp only[LnZ];omega))[wrap64]
  rw [List.take_of_length_le (by omega)] at hB
  have hI : Srch E (fun z => (z : Int) ∈ S) (tru B) (fun z => (z : Int) ∈ Q.drop 0) := Srch.init hB fun z hz => by rw [List.drop_zero, ← hBQ, hB]; exact hz
  refine wp_while (σ := List Bool × List Int × Nat) (fun s e h' => ∃ t, e = [some w, none, none, some b, some t, none, some (.int .i64 s.2.2), none, none] ∧
      HS h [ow t s.2.1, ow b s.1] h' ∧ s.1.length = G.length ∧ s.2.1.length + s.1.count false = G.length ∧ s.2.2 ≤ s.2.1.length ∧ (∀ z ∈ s.2.1, ∃ q : Nat, z = q ∧ q < G.length) ∧ (∀ x : Nat, tru s.1 x ↔ (x : Int) ∈ s.2.1) ∧ Srch E (fun z => (z : Int) ∈ S) (tru s.1) (fun z => (z : Int) ∈ s.2.1.drop s.2.2))
    (fun s => G.length - s.2.2) (B, Q, 0) ⟨t, by simp, H, hBl, hQl, by dsimp only; omega, hQ, hBQ, hI⟩ ?_
  rintro J ⟨B, Q, i⟩ _ h4 hJ ⟨t, rfl, H, hBl, hQl, hiQ, hQ, hBQ, hI⟩
  dsimp only at H hBl hQl hiQ hQ hBQ hI
  simp -implicitDefEqProofs (disch:=first|omega|(simp only[LnZ];omega))[wrap64, H.rep.len]
  refine IteW.mkr (fun h0 => ?_) (fun h0 => ?_)
  · simp -implicitDefEqProofs (disch:=first|omega|(simp only[LnZ];omega))[wrap64]
    have hd : Q.drop i = [] := List.drop_eq_nil_of_le (by omega)
    rw [hd] at hI
    refine RetK.keep (hk _ _ ⟨Q, H.sw1.drop, by omega, fun z hz => ?_, fun x => ?_⟩)
    · obtain ⟨q, rfl, h2⟩ := hQ z hz; omega
    · rw [← hBQ]; exact hI.done (by simp)
  have hiQ2 : i < Q.length := by omega
  obtain ⟨q, hq, hqG⟩ := hQ _ (List.getElem_mem hiQ2)
  obtain ⟨u, hu0, Ru⟩ := Rw.ldL hqG
  have hul := Ru.lt
  have hqB : tru B q := by rw [hBQ, ← hq]; exact List.getElem_mem hiQ2
  simp -implicitDefEqProofs (disch:=first|omega|(simp only[LnZ];omega))[wrap64]
  refine wp_count G[q].length (fun j e h' => ∃ (t : Value) (B' : List Bool) (W : List Int), e = [some w, none, none, some b, some t, none, some (.int .i64 i), some (.int .i64 j), none] ∧
      HS h [ow t (Q ++ W), ow b B'] h' ∧ B'.length = G.length ∧ (Q ++ W).length + B'.count false = G.length ∧ (∀ z ∈ Q ++ W, ∃ q : Nat, z = q ∧ q < G.length) ∧ (∀ x : Nat, tru B' x ↔ (x : Int) ∈ Q ++ W) ∧ Srch E (fun z => (z : Int) ∈ S) (tru B') (fun z => (z : Int) ∈ (Q ++ W).drop i) ∧
      ∀ j' (hj' : j' < G[q].length), j' < j → ∀ y : Nat, G[q][j'] = y → tru B' y) ⟨t, B, [], by simp, by simpa using H, hBl, by simpa using hQl, by simpa using hQ, by simpa using hBQ, by simpa using hI, fun j' _ hj' => absurd hj' (Nat.not_lt_zero j')⟩ ?_
  rintro J2 j _ h5 hJ2 hj ⟨t2, B2, W, rfl, H, hBl2, hQl2, hQ2, hBQ2, hI2, hpr⟩
  have hiW : i < (Q ++ W).length := by simp; omega
  have hqi : (Q ++ W)[i] = (q : Int) := by rw [List.getElem_append_left hiQ2]; exact hq
  have hu := hload_le H.base hu0
  simp -implicitDefEqProofs (disch:=first|omega|(simp only[LnZ];omega))[wrap64, H.rep.I, hqi, (Rw.on H).X (n := 1) rfl, hu, (Ru.on H).len]
  refine IteW.mk (fun hlt2 => ?_) (fun hge2 => ?_)
  · have hjl : j < G[q].length := by omega
    obtain ⟨y, hy, hxy, hyG⟩ := hG.get hqG hjl
    have H := H.sw1
    have hyB : y < B2.length := by omega
    have hpr2 : ∀ B3, tru B3 y → (∀ z, tru B2 z → tru B3 z) → ∀ j' (hj' : j' < G[q].length), j' < j + 1 → ∀ y : Nat, G[q][j'] = y → tru B3 y := by
      intro B3 h1 h2 j' hj' hlt y' hy'
      by_cases e : j' = j
      · subst e
        rw [hy] at hy'
        obtain rfl : y = y' := by omega
        exact h1
      · exact h2 _ (hpr j' hj' (by omega) y' hy')
    have hqB2 : tru B2 q := by rw [hBQ2, ← hqi]; exact List.getElem_mem hiW
    by_cases hb : B2[y] = true
    · simp -implicitDefEqProofs (disch:=first|omega|(simp only[LnZ];omega))[wrap64, H.sw1.rep.I, hqi, (Rw.on H).X (n := 1) rfl, hu, (Ru.on H).I, hy, H.rep.B, hb]
      exact hJ2 _ _ hjl ⟨t2, B2, W, rfl, H.sw1, hBl2, hQl2, hQ2, hBQ2, hI2, hpr2 _ ((tru_get hyB).2 hb) fun _ h => h⟩
    · have hb' : B2[y] = false := by simpa using hb
      simp -implicitDefEqProofs (disch:=first|omega|(simp only[LnZ];omega))[wrap64, H.sw1.rep.I, hqi, (Rw.on H).X (n := 1) rfl, hu, (Ru.on H).I, hy, H.rep.B, hb']
      refine H.storeF true (i := y) hyB rfl rfl trivial rfl fun h6 H => ?_
      have hcs := count_set hyB hb'
      simp -implicitDefEqProofs (disch:=first|omega|(simp only[LnZ];omega))[wrap64]
      refine H.sw1.app1 (y : Int) rfl rfl rfl ⟨by omega, by omega⟩ rfl rfl (by omega) (by omega) fun t3 h7 H => ?_
      simp -implicitDefEqProofs (disch:=first|omega|(simp only[LnZ];omega))[wrap64]
      have hassoc : Q ++ W ++ [(y : Int)] = Q ++ (W ++ [(y : Int)]) := List.append_assoc _ _ _
      rw [hassoc] at H
      refine hJ2 _ _ hjl ⟨t3, _, W ++ [(y : Int)], rfl, H, by simpa using hBl2, by simp at hQl2 ⊢; omega, ?_, fun x => ?_, hI2.add (x := q) (y := y) hqB2 hxy (fun z => tru_set hyB) (fun z => ?_), hpr2 _ ((tru_set hyB).2 (.inr rfl)) fun z hz => (tru_set hyB).2 (.inl hz)⟩
      · intro z hz
        rw [← hassoc] at hz
        rcases List.mem_append.1 hz with hz | hz
        · exact hQ2 z hz
        · exact ⟨y, by simpa using hz, hyG⟩
      · rw [tru_set hyB, hBQ2, ← hassoc]
        simp [Int.ofNat_inj, or_assoc]
      · rw [← hassoc, List.drop_append_of_le_length (by omega)]
        simp [Int.ofNat_inj]
  · simp -implicitDefEqProofs (disch:=first|omega|(simp only[LnZ];omega))[wrap64]
    refine hJ (B2, Q ++ W, i + 1) _ _ ?_ ⟨t2, rfl, H, hBl2, hQl2, by dsimp only; omega, hQ2, hBQ2, hI2.drop (x := q) (fun y hxy => ?_) (fun z hz => ?_)⟩
    · dsimp only; omega
    · exact hG.all hqG (C := tru B2) (fun j' hj' y hy => hpr j' hj' (by omega) y hy) hxy
    · dsimp only
      rw [List.drop_eq_getElem_cons hiW, hqi] at hz
      rcases List.mem_cons.1 hz with hz | hz
      · exact .inr (by omega)
      · exact .inl hz
end Go.Proofs.Ytglnelcmcimljaa

namespace Go.Proofs.Ytglnelcmcimljaa
open Go
structure LpI (E : Nat → Nat → Prop) (n q : Nat) (B : List Bool) (Q : List Int) (i : Nat) : Prop where
  len : B.length = n
  size : Q.length + 2048 * B.count false ≤ 2048 * (n + 1)
  le : i ≤ Q.length
  snd : ∀ z ∈ Q, ∃ p : Nat, z = p ∧ p < n ∧ ∃ y, E q y ∧ Rch E y p
  start : ∀ y, E q y → (y : Int) ∈ Q
  seen : ∀ x, tru B x → ∀ y, E x y → (y : Int) ∈ Q
  past : ∀ j (hj : j < Q.length), j < i → Q[j] ≠ q ∧ tru B Q[j].toNat
theorem LpI.done {E : Nat → Nat → Prop} {n q : Nat} {B : List Bool} {Q : List Int} {i : Nat} (h : LpI E n q B Q i) (hi : Q.length ≤ i) : ¬ Cyc E q := by
  rintro ⟨y, h1, h2⟩
  have hm : ((q : Nat) : Int) ∈ Q := by
    refine h2.closed (C := fun x => (x : Int) ∈ Q) (fun u v hu huv => ?_) (h.start y h1)
    obtain ⟨j, hj, h3⟩ := List.mem_iff_getElem.1 hu
    have h4 := (h.past j hj (by omega)).2
    rw [h3] at h4
    exact h.seen u h4 v huv
  obtain ⟨j, hj, h3⟩ := List.mem_iff_getElem.1 hm
  exact (h.past j hj (by omega)).1 h3
theorem c_l7Loop {h : Heap} {w : Value} {G : List (List Int)} {E : Nat → Nat → Prop} (Rw : Rep h w G) (hG : Adj E G) (hrow : ∀ x (hx : x < G.length), G[x].length ≤ 2048) (hGl : G.length ≤ 1048576) {q : Nat} (hq : q < G.length) :
    CallE Try.prog fn_spec_l7Loop [w, .int .i64 q] h (fun u h' => h.le h' ∧ ∃ r : Bool, u = .bool r ∧ (r = true ↔ Cyc E q)) := by
  refine CallE.gen fun k hk => EN_spec_l7Loop rfl ?_
  obtain ⟨u, hu0, Ru⟩ := Rw.ldL hq
  have hul := hrow q hq
  simp -implicitDefEqProofs (disch:=first|omega|(simp only[LnZ];omega))[wrap64]
  refine wp_count G[q].length (fun i e h' => e = [some w, some (.int .i64 q), none, some (.int .i64 i), none, none, none, none] ∧ h' = h ∧ ∀ (j : Nat) (hj : j < G[q].length), j < i → G[q][j] ≠ q) ⟨rfl, rfl, fun j _ hj => absurd hj (Nat.not_lt_zero j)⟩ ?_
  rintro J i _ h hJ hi ⟨rfl, rfl, hn⟩
  simp -implicitDefEqProofs (disch:=first|omega|(simp only[LnZ];omega))[wrap64, Rw.X (n := 1) rfl, hu0, Ru.I]
  refine IteW.mk (fun hlt => ?_) (fun hge => ?_)
  · have hlx : i < G[q].length := by omega
    simp -implicitDefEqProofs (disch:=first|omega|(simp only[LnZ];omega))[wrap64, Rw.X (n := 1) rfl, hu0, Ru.I]
    refine IteW.mk (fun he => ?_) (fun he => ?_)
    · simp -implicitDefEqProofs (disch:=first|omega|(simp only[LnZ];omega))[wrap64]
      refine RetK.keep (hk _ _ ⟨Heap.le.refl _, true, rfl, ?_⟩)
      simp only [true_iff]
      obtain ⟨y, h1, h2, _⟩ := hG.get hq hlx
      obtain rfl : y = q := by rw [he] at h1; omega
      exact ⟨y, h2, .refl _⟩
    · simp -implicitDefEqProofs (disch:=first|omega|(simp only[LnZ];omega))[wrap64]
      refine hJ _ _ hlx ⟨rfl, rfl, fun j hj hji => ?_⟩
      by_cases hji2 : j = i
      · subst hji2; exact he
      · exact hn j hj (by omega)
  clear hn
  simp -implicitDefEqProofs (disch:=first|omega|(simp only[LnZ];omega))[wrap64, Rw.len]
  refine HS.init.mks (α := Bool) (z := false) rfl rfl own_false (Nat.le_refl _) (by omega) (by omega) fun b h1 H => ?_
  have hu := hload_le H.base hu0
  simp -implicitDefEqProofs (disch:=first|omega|(simp only[LnZ];omega))[wrap64, (Rw.on H).X (n := 1) rfl, hu]
  refine H.appPL (α := Int) (l2 := G[q]) rfl rfl (Ru.on H) rfl rfl (by omega) fun t h2 H => ?_
  simp -implicitDefEqProofs (disch:=first|omega|(simp only[LnZ];omega))[wrap64]
  have hmem := hG.mem q hq
  have hI : LpI E G.length q (List.replicate G.length false) G[q] 0 := by
    refine ⟨by simp, by simp; omega, by omega, fun z hz => ?_, fun y hy => (hmem y).2 ⟨y, rfl, hy⟩, fun x hx => absurd hx tru_replicate, fun j _ hj => absurd hj (Nat.not_lt_zero j)⟩
    obtain ⟨y, rfl, h2⟩ := (hmem z).1 hz
    exact ⟨y, rfl, (hG.lt _ _ h2).2, y, h2, .refl _⟩
  refine wp_while (σ := List Bool × List Int × Nat) (fun s e h' => ∃ t, e = [some w, some (.int .i64 q), none, none, some b, some t, some (.int .i64 s.2.2), none] ∧
      HS h [ow t s.2.1, ow b s.1] h' ∧ LpI E G.length q s.1 s.2.1 s.2.2) (fun s => s.1.count false * 2049 + (s.2.1.length - s.2.2)) (List.replicate G.length false, G[q], 0) ⟨t, by simp, H, hI⟩ ?_
  rintro J2 ⟨B, Q, i⟩ _ h3 hJ2 ⟨t, rfl, H, hI⟩
  dsimp only at H hI
  have hsz := hI.size
  have hle := hI.le
  have hBl := hI.len
  simp -implicitDefEqProofs (disch:=first|omega|(simp only[LnZ];omega))[wrap64, H.rep.len]
  refine IteW.mkr (fun h0 => ?_) (fun h0 => ?_)
  · simp -implicitDefEqProofs (disch:=first|omega|(simp only[LnZ];omega))[wrap64]
    exact RetK.keep (hk _ _ ⟨H.base, false, rfl, by simpa using hI.done (by omega)⟩)
  have hiQ : i < Q.length := by omega
  obtain ⟨p, hp, hpn, y, hy1, hy2⟩ := hI.snd _ (List.getElem_mem hiQ)
  by_cases hpq : p = q
  · have hp2 : Q[i] = (q : Int) := by rw [hp, hpq]
    simp -implicitDefEqProofs (disch:=first|omega|(simp only[LnZ];omega))[wrap64, H.rep.I, hp2]
    refine RetK.keep (hk _ _ ⟨H.base, true, rfl, ?_⟩)
    simp only [true_iff]
    exact ⟨y, hy1, hpq ▸ hy2⟩
  have hpq2 : ¬ ((p : Int) = q) := by omega
  have H := H.sw1
  have hpB : p < B.length := by omega
  have hpast : ∀ (B' : List Bool) (W : List Int), (∀ x, tru B x → tru B' x) → tru B' p → ∀ j (hj : j < (Q ++ W).length), j < i + 1 → (Q ++ W)[j] ≠ q ∧ tru B' (Q ++ W)[j].toNat := by
    intro B' W h1 h2 j hj hji
    have hjQ : j < Q.length := by omega
    rw [List.getElem_append_left hjQ]
    by_cases e : j = i
    · subst e
      rw [hp]
      exact ⟨hpq2, by simpa using h2⟩
    · have := hI.past j hjQ (by omega)
      exact ⟨this.1, h1 _ this.2⟩
  by_cases hb : B[p] = true
  · simp -implicitDefEqProofs (disch:=first|omega|(simp only[LnZ];omega))[wrap64, H.sw1.rep.I, hp, hpq2, H.rep.B, hb]
    refine hJ2 (B, Q, i + 1) _ _ ?_ ⟨t, rfl, H.sw1, hI.len, hsz, by dsimp only; omega, hI.snd, hI.start, hI.seen, ?_⟩
    · dsimp only; omega
    · dsimp only
      have := hpast B [] (fun _ h => h) ((tru_get hpB).2 hb)
      simpa using this
  · have hb' : B[p] = false := by simpa using hb
    obtain ⟨v, hv0, Rv⟩ := Rw.ldL hpn
    have hrp := hrow p hpn
    have hcs := count_set hpB hb'
    simp -implicitDefEqProofs (disch:=first|omega|(simp only[LnZ];omega))[wrap64, H.sw1.rep.I, hp, hpq2, H.rep.B, hb']
    refine H.storeF true (i := p) hpB rfl rfl trivial rfl fun h4 H => ?_
    have hv := hload_le H.base hv0
    simp -implicitDefEqProofs (disch:=first|omega|(simp only[LnZ];omega))[wrap64, (Rw.on H).X (n := 1) rfl, hv]
    refine H.sw1.appL rfl rfl (Rv.on H) rfl rfl (by omega) (by omega) fun t3 h5 H => ?_
    simp -implicitDefEqProofs (disch:=first|omega|(simp only[LnZ];omega))[wrap64]
    have hmp := hG.mem p hpn
    refine hJ2 (B.set p true, Q ++ G[p], i + 1) _ _ ?_ ⟨t3, rfl, H, by simpa using hI.len, by simp; omega, by simp; omega, ?_, ?_, ?_, hpast _ _ (fun x hx => (tru_set hpB).2 (.inl hx)) ((tru_set hpB).2 (.inr rfl))⟩
    · simp; omega
    · intro z hz
      rcases List.mem_append.1 hz with hz | hz
      · exact hI.snd z hz
      · obtain ⟨y', rfl, h2⟩ := (hmp z).1 hz
        exact ⟨y', rfl, (hG.lt _ _ h2).2, y, hy1, hy2.snoc h2⟩
    · intro y' hy'
      exact List.mem_append_left _ (hI.start y' hy')
    · intro x hx y' hxy
      rcases (tru_set hpB).1 hx with hx | rfl
      · exact List.mem_append_left _ (hI.seen x hx y' hxy)
      · exact List.mem_append_right _ ((hmp _).2 ⟨y', rfl, hxy⟩)
theorem ok_one {n : Int} (h : -9223372036854775808 ≤ n ∧ n < 9223372036854775808) : ∀ x ∈ [n], Flat.ok x := by
  intro x hx
  obtain rfl : x = n := by simpa using hx
  exact h
theorem c_spec_LiveStates {h : Heap} {v : Value} {a : Aut} (Ra : Rep h v a) (ha : a.Ok) : CallE Try.prog fn_spec_LiveStates [v] h (fun u h' => ∃ L : List Bool, HS h [ow u L] h' ∧ L.length = a.acc.length ∧ ∀ q, tru L q ↔ q < a.acc.length ∧ a.Live q) := by
  obtain ⟨v1, v2, v3, rfl, R1, R2, R3⟩ := Rep_Aut.1 Ra
  refine CallE.gen fun k hk => EN_spec_LiveStates rfl ?_
  have hn := ha.n
  simp -implicitDefEqProofs (disch:=first|omega|(simp only[LnZ];omega))[wrap64]
  refine HS.init.bls0 Bool fun o h1 H => ?_
  simp -implicitDefEqProofs (disch:=first|omega|(simp only[LnZ];omega))[wrap64]
  refine (c_spec_AutomatonValid (Ra.on H)).go ?_
  rintro _ h1 ⟨rfl, rfl⟩
  simp -implicitDefEqProofs (disch:=first|omega|(simp only[LnZ];omega))[wrap64, ha]
  refine (c_l7Next (Ra.on H) ha).go ?_
  rintro w h2 ⟨G, H2, hG, hGl, hrow⟩
  have H := H2.app H
  have H := H.sw1
  simp -implicitDefEqProofs (disch:=first|omega|(simp only[LnZ];omega))[wrap64]
  refine wp_count a.acc.length (fun i e h' => ∃ (o : Value) (L : List Bool), e = [none, some (.agg #[v1, v2, v3]), none, some o, some w, some (.int .i64 i), none, none, none] ∧ HS h [ow o L, ow w G] h' ∧ L.length = i ∧ ∀ q, tru L q ↔ q < i ∧ a.Live q) ⟨o, [], by simp, H, rfl, fun q => by simp [tru]⟩ ?_
  rintro J i _ h3 hJ hi ⟨o, L, rfl, H, hLl, hL⟩
  simp -implicitDefEqProofs (disch:=first|omega|(simp only[LnZ];omega))[wrap64, (R2.on H).len]
  refine IteW.mk (fun hlt => ?_) (fun hge => ?_)
  · have hin : i < a.acc.length := by omega
    simp -implicitDefEqProofs (disch:=first|omega|(simp only[LnZ];omega))[wrap64]
    refine H.bls (α := Int) [(i : Int)] (by rfl) rfl (ok_one (by omega)) (by decide) fun s h4 H => ?_
    simp -implicitDefEqProofs (disch:=first|omega|(simp only[LnZ];omega))[wrap64]
    have hS1 : ∀ z ∈ [(i : Int)], 0 ≤ z ∧ z < (G.length : Int) := by
      intro z hz
      have hxi : z = i := by simpa using hz
      omega
    refine (c_l7Reach (S := [(i : Int)]) H.sw2.rep H.rep hG hS1 (by omega)).go ?_
    rintro qv h5 ⟨Q, H5, hQl, hQn, hQ⟩
    have H := H5.app H.drop
    simp -implicitDefEqProofs (disch:=first|omega|(simp only[LnZ];omega))[wrap64]
    refine wp_count Q.length (fun k e h' => ∃ (r : Bool), e = [none, some (.agg #[v1, v2, v3]), none, some o, some w, some (.int .i64 i), some qv, some (.bool r), some (.int .i64 k)] ∧ HS h [ow qv Q, ow o L, ow w G] h' ∧ (r = true → a.Live i) ∧ ∀ j (hj : j < Q.length), j < k → r = false → ¬ (tru a.acc Q[j].toNat ∧ Cyc a.E Q[j].toNat)) ⟨false, by simp, H, by simp, fun j _ hj => absurd hj (Nat.not_lt_zero j)⟩ ?_
    rintro J2 k _ h6 hJ2 hk2 ⟨r, rfl, H, hr1, hr2⟩
    simp -implicitDefEqProofs (disch:=first|omega|(simp only[LnZ];omega))[wrap64, H.rep.len]
    by_cases hx : k < Q.length ∧ r = false
    · obtain ⟨hkl, rfl⟩ := hx
      obtain ⟨hz0, hz1⟩ := hQn _ (List.getElem_mem hkl)
      obtain ⟨z, hz⟩ : ∃ z : Nat, Q[k] = z := ⟨Q[k].toNat, by omega⟩
      have hzG : z < G.length := by omega
      have hzr : Rch a.E i z := by
        have h1 : ((z : Nat) : Int) ∈ Q := by rw [← hz]; exact List.getElem_mem hkl
        obtain ⟨i', h2, h3⟩ := (hQ z).1 h1
        obtain rfl : i' = i := by simpa [Int.ofNat_inj] using h2
        exact h3
      have hnext : ∀ r' : Bool, (r' = true ↔ tru a.acc z ∧ Cyc a.E z) → (r' = true → a.Live i) ∧ ∀ j (hj : j < Q.length), j < k + 1 → r' = false → ¬ (tru a.acc Q[j].toNat ∧ Cyc a.E Q[j].toNat) := by
        intro r' hr'
        refine ⟨fun h => ⟨z, hzr, (hr'.1 h).2, (hr'.1 h).1⟩, fun j hj hjk hf => ?_⟩
        by_cases e : j = k
        · subst e
          rw [hz]
          intro hh
          have := hr'.2 (by simpa using hh)
          rw [hf] at this; simp at this
        · exact hr2 j hj (by omega) rfl
      by_cases hac : tru a.acc z
      · have hac2 := (tru_get (by omega : z < a.acc.length)).1 hac
        simp -implicitDefEqProofs (disch:=first|omega|(simp only[LnZ];omega))[wrap64, hkl, H.rep.I, hz, (R2.on H).B, hac2]
        refine (c_l7Loop H.sw2.rep hG hrow (by omega) hzG).go ?_
        rintro _ h7 ⟨l7, r', rfl, hr'⟩
        have H := H.le l7
        simp -implicitDefEqProofs (disch:=first|omega|(simp only[LnZ];omega))[wrap64]
        have h8 := hnext r' (by rw [hr']; simp [hac])
        exact hJ2 _ _ hkl ⟨r', by simp, H, h8.1, h8.2⟩
      · have hac2 : a.acc[z]'(by omega) = false := by
          have := mt (tru_get (by omega : z < a.acc.length)).2 hac
          simpa using this
        simp -implicitDefEqProofs (disch:=first|omega|(simp only[LnZ];omega))[wrap64, hkl, H.rep.I, hz, (R2.on H).B, hac2]
        have h8 := hnext false (by simp [hac])
        exact hJ2 _ _ hkl ⟨false, by simp, H, h8.1, h8.2⟩
    · have hfin : r = true ↔ a.Live i := by
        refine ⟨hr1, fun ⟨t, h1, h2, h3⟩ => ?_⟩
        cases r with
        | true => rfl
        | false =>
          exfalso
          have hkl : ¬ k < Q.length := fun h => hx ⟨h, rfl⟩
          have hm : ((t : Nat) : Int) ∈ Q := (hQ t).2 ⟨i, by simp, h1⟩
          obtain ⟨j, hj, h4⟩ := List.mem_iff_getElem.1 hm
          refine hr2 j hj (by omega) rfl ?_
          rw [h4]
          exact ⟨by simpa using h3, by simpa using h2⟩
      have hstep : ∀ q, tru (L ++ [r]) q ↔ q < i + 1 ∧ a.Live q := by
        intro q
        by_cases e : q = i
        · subst e
          rw [← hfin]
          simp [tru, ← hLl]
        · have h1 : tru (L ++ [r]) q ↔ tru L q := by
            simp only [tru, List.getD_eq_getElem?_getD]
            by_cases h2 : q < L.length
            · rw [List.getElem?_append_left h2]
            · rw [List.getElem?_eq_none (by simp; omega), List.getElem?_eq_none (by omega)]
          rw [h1, hL]
          constructor
          · rintro ⟨h2, h3⟩; exact ⟨by omega, h3⟩
          · rintro ⟨h2, h3⟩; exact ⟨by omega, h3⟩
      have hcase : (¬ k < Q.length) ∨ (k < Q.length ∧ r = true) := by
        by_cases hkl : k < Q.length
        · exact .inr ⟨hkl, by cases r with | true => rfl | false => exact absurd ⟨hkl, rfl⟩ hx⟩
        · exact .inl hkl
      have H := H.drop
      rcases hcase with hkl | ⟨hkl, rfl⟩
      · simp -implicitDefEqProofs (disch:=first|omega|(simp only[LnZ];omega))[wrap64, hkl]
        refine H.app1 r rfl rfl rfl trivial rfl rfl (by omega) (by omega) fun o' h7 H => ?_
        simp -implicitDefEqProofs (disch:=first|omega|(simp only[LnZ];omega))[wrap64]
        exact hJ _ _ hin ⟨o', _, by simp, H, by simp [hLl], hstep⟩
      · simp -implicitDefEqProofs (disch:=first|omega|(simp only[LnZ];omega))[wrap64, hkl]
        refine H.app1 true rfl rfl rfl trivial rfl rfl (by omega) (by omega) fun o' h7 H => ?_
        simp -implicitDefEqProofs (disch:=first|omega|(simp only[LnZ];omega))[wrap64]
        exact hJ _ _ hin ⟨o', _, by simp, H, by simp [hLl], hstep⟩
  · simp -implicitDefEqProofs (disch:=first|omega|(simp only[LnZ];omega))[wrap64]
    have hia : i = a.acc.length := by omega
    exact RetK.keep (hk _ _ ⟨L, H.sw1.drop, by omega, fun q => by rw [hL, hia]⟩)
end Go.Proofs.Ytglnelcmcimljaa

namespace Go.Proofs.Ytglnelcmcimljaa
open Go
def gd (l : List Int) : Nat → Int := fun x => l.getD x 0
theorem gd_get {l : List Int} {i : Nat} (hi : i < l.length) : gd l i = l[i] := by simp [gd, hi]
theorem gd_set {l : List Int} {i : Nat} {v : Int} (hi : i < l.length) : gd (l.set i v) = fput (gd l) i v := by
  funext x
  simp only [gd, fput, List.getD_eq_getElem?_getD, List.getElem?_set]
  by_cases h : i = x
  · subst h; simp [hi]
  · simp [h, Ne.symm h]
theorem ite_min {a b : Int} : (if b < a then b else a) = min a b := by
  split <;> omega
def unv (n : Nat) (f : Nat → Int) : Nat := ((List.range n).filter fun x => decide (x < n ∧ f x = 0)).length
theorem unv_lt {n : Nat} {f f' : Nat → Int} {a : Nat} (ha : a < n) (h0 : f a = 0) (h1 : f' a ≠ 0) (h : ∀ x, x < n → f x ≠ 0 → f' x ≠ 0) : unv n f' < unv n f := by
  refine filter_lt_of ?_ ⟨a, by simpa using ha, by simp [h1], by simp [h0, ha]⟩
  intro x hx2
  simp at hx2 ⊢
  exact ⟨hx2.1, Classical.byContradiction fun hn => h x hx2.1 hn hx2.2⟩
@[reducible] def FB (bN bL bQ bG bV : Nat) (vn vl vq w fv : Value) (h : Heap) : Prop := hload h (some (.pointer (some ⟨bN, 0, none⟩))) none = some vn ∧ hload h (some (.pointer (some ⟨bL, 0, none⟩))) none = some vl ∧ hload h (some (.pointer (some ⟨bQ, 0, none⟩))) none = some vq ∧
  hload h (some (.pointer (some ⟨bG, 0, none⟩))) none = some w ∧ hload h (some (.pointer (some ⟨bV, 0, none⟩))) none = some fv
theorem FB.on {bN bL bQ bG bV : Nat} {vn vl vq w fv : Value} {g h : Heap} {Γ : List HP} (F : FB bN bL bQ bG bV vn vl vq w fv g) (H : HS g Γ h) : FB bN bL bQ bG bV vn vl vq w fv h :=
  ⟨hload_le H.base F.1, hload_le H.base F.2.1, hload_le H.base F.2.2.1, hload_le H.base F.2.2.2.1, hload_le H.base F.2.2.2.2⟩
@[reducible] def CHs (vn vl vq : Value) (bS bC bP : Nat) (vs : Value) (N L Q : List Int) (s : TS) : List HP :=
  [ow vn N, ow vl L, ow vq Q, ow vs (s.stk.map Int.ofNat), bx bS [vs], bx bC [.int .i64 s.cnt], bx bP [.int .i64 s.prt]]
structure CHl (n : Nat) (N L Q : List Int) (s : TS) : Prop where
  hN : N.length = n
  hL : L.length = n
  hQ : Q.length = n
  num : s.num = gd N
  low : s.low = gd L
  part : s.part = gd Q
  cnt : s.cnt + unv n s.num ≤ n
def CH (g : Heap) (vn vl vq : Value) (bS bC bP n : Nat) (s : TS) (h : Heap) : Prop := ∃ (N L Q : List Int) (vs : Value), CHl n N L Q s ∧ HS g (CHs vn vl vq bS bC bP vs N L Q s) h
theorem TL.mono {n : Nat} {E : Nat → Nat → Prop} {gr sc sc' : Nat → Prop} {s s1 : TS} {a : Nat} (h : TL n E gr s a sc s1) (hs : ∀ y, sc' y → sc y) : TL n E gr s a sc' s1 :=
  ⟨h.inv, h.num, h.part, h.stk, h.na, h.cnt, h.fresh, h.black, h.lowa, h.low, h.min, fun y hy => h.proc y (hs y hy)⟩
def topv (C : List Nat) (m : Nat) : Int := if h : m < C.length then (C[m] : Int) else -1
set_option maxHeartbeats 4000000 in
theorem c_visit {g : Heap} {bN bL bQ bG bV bS bC bP n : Nat} {vn vl vq w fv : Value} {G : List (List Int)} {E : Nat → Nat → Prop} (F : FB bN bL bQ bG bV vn vl vq w fv g) (Rw : Rep g w G) (hG : Adj E G) (hn : G.length = n) (hnl : n ≤ 1048576)
    (hfv : fnOf fv = some (fn_impl_components_1, [], [.pointer (some ⟨bC, 0, none⟩), .pointer (some ⟨bN, 0, none⟩), .pointer (some ⟨bL, 0, none⟩), .pointer (some ⟨bS, 0, none⟩), .pointer (some ⟨bG, 0, none⟩), .pointer (some ⟨bV, 0, none⟩), .pointer (some ⟨bQ, 0, none⟩), .pointer (some ⟨bP, 0, none⟩)])) :
    ∀ (m : Nat) (gr : Nat → Prop) (s : TS) (a : Nat) (h : Heap), unv n s.num = m → CH g vn vl vq bS bC bP n s h → TI n E gr s → a < n → s.num a = 0 → (∀ g, gr g → g ∈ s.stk → Rch E g a) → (∀ g, gr g → g < n ∧ s.num g ≠ 0) →
    CallE Try.prog fn_impl_components_1 [.int .i64 a, .pointer (some ⟨bC, 0, none⟩), .pointer (some ⟨bN, 0, none⟩), .pointer (some ⟨bL, 0, none⟩), .pointer (some ⟨bS, 0, none⟩), .pointer (some ⟨bG, 0, none⟩), .pointer (some ⟨bV, 0, none⟩), .pointer (some ⟨bQ, 0, none⟩), .pointer (some ⟨bP, 0, none⟩)] h
      (fun u h' => ∃ s', CH g vn vl vq bS bC bP n s' h' ∧ TV n E gr s a s') := by
  intro m
  induction m using Nat.strongRecOn with
  | ind m ih =>
  rintro gr s a h hm ⟨N, L, Q, vs, hl, H⟩ hI han ha0 hg1 hg2
  have hE : ∀ x y, E x y → x < n ∧ y < n := fun x y hxy => hn ▸ hG.lt x y hxy
  have hc := hI.cnt
  have hcn := hl.cnt
  have hNl := hl.hN
  have hLl := hl.hL
  have hQl := hl.hQ
  have haG : a < G.length := by omega
  obtain ⟨u, hu0, Ru⟩ := Rw.ldL haG
  have hul := Ru.lt
  refine CallE.gen fun k hk => EN_impl_components_1 rfl ?_
  simp -implicitDefEqProofs (disch:=first|omega|(simp only[LnZ];omega))[wrap64, H.sw5.bxld0]
  refine H.sw5.bxst (u := .int .i64 (s.cnt + 1)) rfl rfl rfl rfl (by simp) fun h1 H => ?_
  simp only [setC, cells_int, List.take_zero, List.nil_append] at H
  have H : HS g (bx bC [.int .i64 (s.cnt + 1)] :: ow vn N :: ow vl L :: ow vq Q :: ow vs (s.stk.map Int.ofNat) :: bx bS [vs] :: [bx bP [.int .i64 s.prt]]) h1 := H
  have H := H.bk5
  simp -implicitDefEqProofs (disch:=first|omega|(simp only[LnZ];omega))[wrap64, F.on H, H.sw5.bxld0, H.rep.I]
  refine H.storeF (s.cnt + 1) (i := a) (by omega) rfl rfl ⟨by omega, by omega⟩ rfl fun h2 H => ?_
  have H := H.sw1
  simp -implicitDefEqProofs (disch:=first|omega|(simp only[LnZ];omega))[wrap64, F.on H, H.sw5.bxld0, H.rep.I]
  refine H.storeF (s.cnt + 1) (i := a) (by omega) rfl rfl ⟨by omega, by omega⟩ rfl fun h3 H => ?_
  have H := H.sw1
  simp -implicitDefEqProofs (disch:=first|omega|(simp only[LnZ];omega))[wrap64, F.on H, H.sw4.bxld0]
  refine H.sw3.app1 (a : Int) rfl rfl rfl ⟨by omega, by omega⟩ rfl rfl (by simp; omega) (by simp; omega) fun vs1 h4 H => ?_
  have H := H.bk3
  simp -implicitDefEqProofs (disch:=first|omega|(simp only[LnZ];omega))[wrap64, F.on H]
  refine H.sw4.bxst (u := vs1) rfl rfl (by rw [H.sw3.rep.cells]; rfl) (by rw [H.sw3.rep.cells]; simp [H.sw3.rep.one]) (by simp [H.sw3.rep.cells]) fun h5 H => ?_
  have H : HS g [ow vn (N.set a (s.cnt + 1)), ow vl (L.set a (s.cnt + 1)), ow vq Q, ow vs1 ((s.push a).stk.map Int.ofNat), bx bS [vs1], bx bC [.int .i64 (s.cnt + 1)], bx bP [.int .i64 s.prt]] h5 := by
    simpa [setC, H.sw4.rep.cells, TS.push] using H.bk4
  have hl1 : CHl n (N.set a (s.cnt + 1)) (L.set a (s.cnt + 1)) Q (s.push a) := by
    refine ⟨by simpa using hNl, by simpa using hLl, hQl, by rw [gd_set (by omega), ← hl.num]; rfl, by rw [gd_set (by omega), ← hl.low]; rfl, hl.part, ?_⟩
    have h1 : unv n (s.push a).num < unv n s.num := by
      refine unv_lt han ha0 (by simp [TS.push]; omega) fun x hx hx0 => ?_
      by_cases e : x = a
      · exact absurd ha0 (e ▸ hx0)
      · simp only [TS.push, fput_ne e]; exact hx0
    show s.cnt + 1 + (unv n (s.push a).num : Int) ≤ n
    omega
  have hT := TL.start hE hI han ha0 hg1
  simp -implicitDefEqProofs (disch:=first|omega|(simp only[LnZ];omega))[wrap64, F.on H, (Rw.on H).X (n := 1) rfl, hload_le H.base hu0, Ru.len]
  refine wp_count G[a].length (fun j e h' => e = [some (.int .i64 a), none, some (.pointer (some ⟨bN, 0, none⟩)), some (.pointer (some ⟨bL, 0, none⟩)), some (.pointer (some ⟨bS, 0, none⟩)), none, some (.pointer (some ⟨bV, 0, none⟩)), some (.pointer (some ⟨bQ, 0, none⟩)), some (.pointer (some ⟨bP, 0, none⟩)), none, none, some u, some (.int .i64 G[a].length), some (.int .i64 j)] ∧
    ∃ s1, CH g vn vl vq bS bC bP n s1 h' ∧ TL n E gr s a (fun y => ∃ (j' : Nat) (hj' : j' < G[a].length), j' < j ∧ G[a][j'] = y) s1) ⟨by simp, _, ⟨_, _, _, _, hl1, H⟩, hT.mono fun y ⟨_, _, h0, _⟩ => absurd h0 (Nat.not_lt_zero _)⟩ ?_
  clear hl1 hT H hl
  rintro J j _ h6 hJ hj ⟨rfl, s1, ⟨N, L, Q, vs, hl, H⟩, hT⟩
  have hNl := hl.hN
  have hLl := hl.hL
  have hQl := hl.hQ
  simp -implicitDefEqProofs (disch:=first|omega|(simp only[LnZ];omega))[wrap64]
  refine IteW.mk (fun hlt => ?_) (fun hge => ?_)
  · have hjl : j < G[a].length := by omega
    obtain ⟨y, hy, hxy, hyG⟩ := hG.get haG hjl
    have hyn : y < n := by omega
    have hsc : ∀ z : Nat, (∃ (j' : Nat) (hj' : j' < G[a].length), j' < j + 1 ∧ G[a][j'] = z) → (∃ (j' : Nat) (hj' : j' < G[a].length), j' < j ∧ G[a][j'] = z) ∨ z = y := by
      rintro z ⟨j', hj', h1, h2⟩
      by_cases e : j' = j
      · subst e; exact .inr (by omega)
      · exact .inl ⟨j', hj', by omega, h2⟩
    have hNy : s1.num y = N[y]'(by omega) := by rw [hl.num, gd_get]
    have hQy : s1.part y = Q[y]'(by omega) := by rw [hl.part, gd_get]
    have hLa : s1.low a = L[a]'(by omega) := by rw [hl.low, gd_get]
    by_cases hy0 : N[y]'(by omega) = 0
    · have hy0' : s1.num y = 0 := by rw [hNy, hy0]
      have hgray := hT.gray hxy hI hg2 han
      have hlt2 : unv n s1.num < m := by
        rw [← hm]
        refine unv_lt han ha0 (by rw [hT.na]; omega) fun x hx hx0 => ?_
        rw [(hT.num x hx hx0).1]; exact hx0
      simp -implicitDefEqProofs (disch:=first|omega|(simp only[LnZ];omega))[wrap64, (Ru.on H).I, hy, F.on H, H.rep.I, hy0, hfv]
      refine (ih (unv n s1.num) hlt2 _ s1 y _ rfl ⟨N, L, Q, vs, hl, H⟩ hT.inv hyn hy0' hgray.1 hgray.2.1).go ?_
      clear H hl hNy hQy hLa
      rintro u' h7 ⟨s2, ⟨N2, L2, Q2, vs2, hl, H⟩, hV⟩
      have hLl2 := hl.hL
      have hLa : L2[a]'(by omega) = s2.low a := by rw [hl.low, gd_get]
      have hLy : L2[y]'(by omega) = s2.low y := by rw [hl.low, gd_get]
      have H := H.sw1
      have hla := H.rep.okI (i := a) (by omega)
      have hly := H.rep.okI (i := y) (by omega)
      simp -implicitDefEqProofs (disch:=first|omega|(simp only[LnZ];omega))[wrap64, F.on H, H.rep.I, ite_min]
      refine H.storeF (min (L2[a]'(by omega)) (L2[y]'(by omega))) (i := a) (by omega) rfl rfl ⟨by omega, by omega⟩ rfl fun h8 H => ?_
      simp -implicitDefEqProofs (disch:=first|omega|(simp only[LnZ];omega))[wrap64]
      refine hJ _ _ hjl ⟨rfl, s2.lower a (s2.low y), ⟨N2, L2.set a (min (L2[a]'(by omega)) (L2[y]'(by omega))), Q2, vs2, ⟨hl.hN, by simpa using hLl2, hl.hQ, hl.num, ?_, hl.part, hl.cnt⟩, H.sw1⟩, (hT.visit hxy hE ha0 hI hy0' hV).mono hsc⟩
      rw [gd_set (by omega), ← hl.low, hLa, hLy]
      rfl
    · have hy0' : s1.num y ≠ 0 := by rw [hNy]; exact hy0
      by_cases hp : Q[y]'(by omega) < 0
      · have hl2 : (L[a]'(by omega)) = s1.low a := hLa.symm
        have H1 := H.sw1
        have hla := H1.rep.okI (i := a) (by omega)
        have hny := H.rep.okI (i := y) (by omega)
        simp -implicitDefEqProofs (disch:=first|omega|(simp only[LnZ];omega))[wrap64, (Ru.on H).I, hy, F.on H, H.rep.I, hy0, H.sw2.rep.I, hp, H.sw1.rep.I, ite_min]
        refine H1.storeF (min (L[a]'(by omega)) (N[y]'(by omega))) (i := a) (by omega) rfl rfl ⟨by omega, by omega⟩ rfl fun h8 H => ?_
        simp -implicitDefEqProofs (disch:=first|omega|(simp only[LnZ];omega))[wrap64]
        refine hJ _ _ hjl ⟨rfl, s1.lower a (s1.num y), ⟨N, L.set a (min (L[a]'(by omega)) (N[y]'(by omega))), Q, vs, ⟨hl.hN, by simpa using hLl, hl.hQ, hl.num, ?_, hl.part, hl.cnt⟩, H.sw1⟩, (hT.seen hxy hE ha0 hI hy0' (by rw [hQy]; exact hp)).mono hsc⟩
        rw [gd_set (by omega), ← hl.low, hl2, ← hNy]
        rfl
      · simp -implicitDefEqProofs (disch:=first|omega|(simp only[LnZ];omega))[wrap64, (Ru.on H).I, hy, F.on H, H.rep.I, hy0, H.sw2.rep.I, hp]
        exact hJ _ _ hjl ⟨rfl, s1, ⟨N, L, Q, vs, hl, H⟩, (hT.skip hI hyn hy0' (by rw [hQy]; omega)).mono hsc⟩
  have hall : ∀ y, E a y → ∃ (j' : Nat) (hj' : j' < G[a].length), j' < j ∧ G[a][j'] = y := by
    intro y hxy
    obtain ⟨_, j', hj', h1⟩ := hG.of hxy
    exact ⟨j', hj', by omega, h1⟩
  have hLa : s1.low a = L[a]'(by omega) := by rw [hl.low, gd_get]
  have hNa : s1.num a = N[a]'(by omega) := by rw [hl.num, gd_get]
  have hc1 := hT.inv.cnt
  by_cases he : L[a]'(by omega) = N[a]'(by omega)
  case neg =>
    simp -implicitDefEqProofs (disch:=first|omega|(simp only[LnZ];omega))[wrap64, F.on H, H.rep.I, H.sw1.rep.I, he]
    exact RetK.keep (hk _ _ ⟨s1, ⟨N, L, Q, vs, hl, H⟩, hT.end1 hall han ha0 hI (by rw [hLa, hNa]; exact he)⟩)
  obtain ⟨wl, hw, hw2⟩ := hT.stk
  have hlen : s1.stk.length = s.stk.length + (a :: wl).length := by rw [hw]; simp
  have hcl : s1.cnt ≤ n := by have := hl.cnt; omega
  have hpr : ∀ x ∈ a :: wl, x < n := fun x hx => hT.inv.stk_lt (by rw [hw]; exact List.mem_append_right _ hx)
  simp -implicitDefEqProofs (disch:=first|omega|(simp only[LnZ];omega))[wrap64, F.on H, H.rep.I, H.sw1.rep.I, he]
  refine wp_while (σ := Nat) (fun m e h' => m ≤ (a :: wl).length ∧ e = [some (.int .i64 a), none, none, none, some (.pointer (some ⟨bS, 0, none⟩)), none, none, some (.pointer (some ⟨bQ, 0, none⟩)), some (.pointer (some ⟨bP, 0, none⟩)), none, some (.int .i64 (topv (a :: wl) m)), none, none, none] ∧
      ∃ Q' vs', Q'.length = n ∧ gd Q' = (fun x => if x ∈ (a :: wl).drop m then s1.prt else s1.part x) ∧ HS g [ow vn N, ow vl L, ow vq Q', ow vs' ((s.stk ++ (a :: wl).take m).map Int.ofNat), bx bS [vs'], bx bC [.int .i64 s1.cnt], bx bP [.int .i64 s1.prt]] h')
    (fun m => m) (a :: wl).length ⟨Nat.le_refl _, by simp [topv], Q, vs, hQl, by rw [List.drop_length]; simp [hl.part], by rw [List.take_length, ← hw]; exact H⟩ ?_
  rintro J2 m _ h7 hJ2 ⟨hml, rfl, Q', vs', hQl', hQ', H⟩
  cases m with
  | zero =>
    have ht : topv (a :: wl) 0 = a := by simp [topv]
    simp -implicitDefEqProofs (disch:=first|omega|(simp only[LnZ];omega))[wrap64, ht, H.sw6.bxld0]
    refine H.sw6.bxst (u := .int .i64 (s1.prt + 1)) rfl rfl rfl rfl (by simp) fun h8 H => ?_
    have H : HS g (bx bP [.int .i64 (s1.prt + 1)] :: ow vn N :: ow vl L :: ow vq Q' :: ow vs' (s.stk.map Int.ofNat) :: bx bS [vs'] :: [bx bC [.int .i64 s1.cnt]]) h8 := by
      simpa [setC] using H
    have H := H.bk6
    simp -implicitDefEqProofs (disch:=first|omega|(simp only[LnZ];omega))[wrap64]
    exact RetK.keep (hk _ _ ⟨s1.pop s.stk (a :: wl), ⟨N, L, Q', vs', ⟨hl.hN, hl.hL, hQl', hl.num, hl.low, by rw [hQ']; rfl, hl.cnt⟩, H⟩, hT.end2 hE hall han ha0 hI hg2 (by rw [hLa, hNa]; exact he) hw⟩)
  | succ m =>
    have hmC : m < (a :: wl).length := by omega
    obtain ⟨c, hc'⟩ : ∃ c, (a :: wl)[m] = c := ⟨_, rfl⟩
    have hcn : c < n := hpr c (hc' ▸ List.getElem_mem hmC)
    have ht : ¬ (topv (a :: wl) (m + 1) = a) := by
      unfold topv
      split
      · rename_i hlt2
        simp only [List.getElem_cons_succ]
        have hm2 : m < wl.length := by simpa using hlt2
        have := (hw2 _ (List.getElem_mem hm2)).2
        omega
      · omega
    have htm : topv (a :: wl) m = c := by simp only [topv, hmC, dif_pos, hc']
    obtain ⟨W, hW⟩ : ∃ W, W = (s.stk ++ (a :: wl).take m).map Int.ofNat := ⟨_, rfl⟩
    have hst : (s.stk ++ (a :: wl).take (m + 1)).map Int.ofNat = W ++ [(c : Int)] := by
      rw [hW, List.take_add_one, List.getElem?_eq_getElem hmC, hc']
      simp
    have hWl : W.length = s.stk.length + m := by
      rw [hW]
      simp at hml ⊢
      omega
    rw [hst] at H
    obtain ⟨v', hv', H'⟩ := H.sw3.cut (n := W.length) (esz := 1) (k := .i64) (by simp)
    rw [List.take_left' rfl] at H'
    have hlen1 : (W ++ [(c : Int)]).length = W.length + 1 := by simp
    have hi1 : IntKind.i64.wrap ((W.length : Int) + 1 - 1) = W.length := by rw [wrap64 (by omega) (by omega)]; omega
    have H' := H'.bk3
    simp -implicitDefEqProofs (disch:=first|omega|(simp only[LnZ];omega))[wrap64, ht, H.sw4.bxld0, H.sw3.rep.I, hlen1, hi1, hv']
    refine H'.sw4.bxst (u := v') rfl rfl (by rw [H'.sw3.rep.cells]; rfl) (by rw [H'.sw3.rep.cells]; simp [H'.sw3.rep.one]) (by simp [H'.sw3.rep.cells]) fun h8 H => ?_
    have H : HS g [ow vn N, ow vl L, ow vq Q', ow v' W, bx bS [v'], bx bC [.int .i64 s1.cnt], bx bP [.int .i64 s1.prt]] h8 := by
      simpa [setC, H'.sw3.rep.cells] using H.bk4
    have hQb := hT.inv.bnd a han
    simp -implicitDefEqProofs (disch:=first|omega|(simp only[LnZ];omega))[wrap64, F.on H, H.sw6.bxld0, H.sw2.rep.I]
    refine H.sw2.storeF s1.prt (i := c) (by omega) rfl rfl ⟨by omega, by omega⟩ rfl fun h9 H => ?_
    have H := H.bk2
    simp -implicitDefEqProofs (disch:=first|omega|(simp only[LnZ];omega))[wrap64]
    refine hJ2 m _ _ (by omega) ⟨by omega, by rw [htm], Q'.set c s1.prt, v', by simpa using hQl', ?_, by rw [← hW]; exact H⟩
    rw [gd_set (by omega), hQ']
    funext x
    rw [List.drop_eq_getElem_cons hmC, hc']
    by_cases e : x = c
    · subst e; simp
    · simp only [fput_ne e, List.mem_cons, e, false_or]
end Go.Proofs.Ytglnelcmcimljaa

namespace Go.Proofs.Ytglnelcmcimljaa
open Go
theorem HS.only {g h : Heap} {Γ : List HP} {p : HP} (H : HS g (p :: Γ) h) : HS g [p] h := by
  obtain ⟨g', r, e, d, hp, H⟩ := H
  exact ⟨g', r, e, d, hp, H.base⟩
structure NmI (n : Nat) (f : Nat → Int) (i : Nat) (l : List (Int × Int)) (Q : List Int) : Prop where
  len : Q.length = n
  le : l.length ≤ i
  done : ∀ x, x < i → mlk l (f x) = some (gd Q x)
  rest : ∀ x, i ≤ x → x < n → gd Q x = f x
  bnd : ∀ a y, mlk l a = some y → 0 ≤ y ∧ y < l.length
  inj : ∀ a b y, mlk l a = some y → mlk l b = some y → a = b
theorem NmI.old {n : Nat} {f : Nat → Int} {i : Nat} {l : List (Int × Int)} {Q : List Int} {y : Int} (h : NmI n f i l Q) (hi : i < n) (hy : mlk l (f i) = some y) : NmI n f (i + 1) l (Q.set i y) := by
  have hl := h.len
  refine ⟨by simpa using hl, by have := h.le; omega, ?_, ?_, h.bnd, h.inj⟩
  · intro x hx
    rw [gd_set (by omega)]
    by_cases e : x = i
    · subst e; simp [hy]
    · rw [fput_ne e]; exact h.done x (by omega)
  · intro x hx hxn
    rw [gd_set (by omega), fput_ne (by omega)]
    exact h.rest x (by omega) hxn
theorem NmI.new {n : Nat} {f : Nat → Int} {i : Nat} {l : List (Int × Int)} {Q : List Int} (h : NmI n f i l Q) (hi : i < n) (hy : mlk l (f i) = none) : NmI n f (i + 1) (l ++ [(f i, (l.length : Int))]) (Q.set i (l.length : Int)) ∧ mlk (l ++ [(f i, (l.length : Int))]) (f i) = some (l.length : Int) := by
  have hl := h.len
  have hs := fun b => mlk_snoc (y := (l.length : Int)) (b := b) hy
  refine ⟨⟨by simpa using hl, by have := h.le; simp; omega, ?_, ?_, ?_, ?_⟩, by rw [hs, if_pos rfl]⟩
  · intro x hx
    rw [gd_set (by omega), hs]
    by_cases e : x = i
    · subst e; simp
    · rw [fput_ne e]
      have h1 := h.done x (by omega)
      rw [if_neg]
      · exact h1
      · intro e2; rw [← e2, hy] at h1; simp at h1
  · intro x hx hxn
    rw [gd_set (by omega), fput_ne (by omega)]
    exact h.rest x (by omega) hxn
  · intro a y ha
    rw [hs] at ha
    split at ha
    · simp at ha; subst ha; simp; omega
    · have := h.bnd a y ha; simp; omega
  · intro a b y ha hb
    rw [hs] at ha hb
    split at ha
    · simp at ha
      split at hb
      · rename_i e1 e2; rw [← e1, ← e2]
      · have := h.bnd b y hb; omega
    · split at hb
      · simp at hb
        have := h.bnd a y ha; omega
      · exact h.inj a b y ha hb
theorem NmI.result {n : Nat} {f : Nat → Int} {l : List (Int × Int)} {Q : List Int} (h : NmI n f n l Q) : (∀ x, x < n → 0 ≤ gd Q x ∧ gd Q x < n) ∧ ∀ x y, x < n → y < n → (gd Q x = gd Q y ↔ f x = f y) := by
  refine ⟨fun x hx => ?_, fun x y hx hy => ⟨fun e => ?_, fun e => ?_⟩⟩
  · have := h.bnd _ _ (h.done x hx)
    have := h.le
    omega
  · have h1 := h.done x hx
    have h2 := h.done y hy
    rw [e] at h1
    exact h.inj _ _ _ h1 h2
  · have h1 := h.done x hx
    have h2 := h.done y hy
    rw [e, h2] at h1
    simpa using h1.symm
set_option maxHeartbeats 4000000 in
theorem c_components {h : Heap} {w : Value} {G : List (List Int)} {E : Nat → Nat → Prop} (Rw : Rep h w G) (hG : Adj E G) (hnl : G.length ≤ 1048576) :
    CallE Try.prog fn_impl_components [w] h (fun u h' => ∃ Q : List Int, HS h [ow u Q] h' ∧ Q.length = G.length ∧ (∀ x, x < G.length → 0 ≤ gd Q x ∧ gd Q x < G.length) ∧ ∀ x y, x < G.length → y < G.length → (gd Q x = gd Q y ↔ Scc E x y)) := by
  refine CallE.gen fun k hk => EN_impl_components rfl ?_
  simp -implicitDefEqProofs (disch:=first|omega|(simp only[LnZ];omega))[wrap64]
  refine HS.init.alloc rfl fun bG h1 H => ?_
  have H : HS h [bx bG [w]] h1 := by simpa [Rw.cells] using H
  simp -implicitDefEqProofs (disch:=first|omega|(simp only[LnZ];omega))[wrap64, H.bxld0, Rw.len]
  refine H.mks (α := Int) (z := 0) rfl rfl (own_zero (by decide) (by decide)) (Nat.le_refl _) (by omega) (by omega) fun vn h2 H => ?_
  simp -implicitDefEqProofs (disch:=first|omega|(simp only[LnZ];omega))[wrap64]
  refine H.mks (α := Int) (z := 0) rfl rfl (own_zero (by decide) (by decide)) (Nat.le_refl _) (by omega) (by omega) fun vl h3 H => ?_
  simp -implicitDefEqProofs (disch:=first|omega|(simp only[LnZ];omega))[wrap64]
  refine H.mks (α := Int) (z := 0) rfl rfl (own_zero (by decide) (by decide)) (Nat.le_refl _) (by omega) (by omega) fun vq h4 H => ?_
  simp -implicitDefEqProofs (disch:=first|omega|(simp only[LnZ];omega))[wrap64]
  refine H.alloc rfl fun bN h5 H => ?_
  simp -implicitDefEqProofs (disch:=first|omega|(simp only[LnZ];omega))[wrap64]
  refine H.alloc rfl fun bL h6 H => ?_
  simp -implicitDefEqProofs (disch:=first|omega|(simp only[LnZ];omega))[wrap64]
  refine H.alloc rfl fun bQ h7 H => ?_
  simp -implicitDefEqProofs (disch:=first|omega|(simp only[LnZ];omega))[wrap64]
  have R0 := H.sw3.rep
  have R1 := H.sw4.rep
  have R2 := H.sw5.rep
  refine H.sw2.bxst (u := vn) rfl rfl (by rw [R2.cells]; rfl) (by rw [R2.cells]; simp [R2.one]) (by simp [R2.cells]) fun h8 H => ?_
  simp -implicitDefEqProofs (disch:=first|omega|(simp only[LnZ];omega))[wrap64]
  refine H.sw2.bxst (u := vl) rfl rfl (by rw [R1.cells]; rfl) (by rw [R1.cells]; simp [R1.one]) (by simp [R1.cells]) fun h9 H => ?_
  simp -implicitDefEqProofs (disch:=first|omega|(simp only[LnZ];omega))[wrap64]
  refine H.sw2.bxst (u := vq) rfl rfl (by rw [R0.cells]; rfl) (by rw [R0.cells]; simp [R0.one]) (by simp [R0.cells]) fun h10 H => ?_
  have H : HS h [bx bQ [vq], bx bL [vl], bx bN [vn], ow vq (List.replicate G.length (0 : Int)), ow vl (List.replicate G.length (0 : Int)), ow vn (List.replicate G.length (0 : Int)), bx bG [w]] h10 := by
    simpa [setC, R0.cells, R1.cells, R2.cells] using H
  have H := H.sw3
  simp -implicitDefEqProofs (disch:=first|omega|(simp only[LnZ];omega))[wrap64, H.sw1.bxld0, H.rep.len]
  refine wp_count G.length (fun i e h' => e = [none, some (.pointer (some ⟨bG, 0, none⟩)), none, some (.int .i64 G.length), some (.pointer (some ⟨bN, 0, none⟩)), some (.pointer (some ⟨bL, 0, none⟩)), some (.pointer (some ⟨bQ, 0, none⟩)), none, none, none, none, none, none, none, none, none, none, some (.int .i64 G.length), some (.int .i64 i), none, none, none, none, none] ∧
    ∃ Q : List Int, HS h [ow vq Q, bx bQ [vq], bx bL [vl], bx bN [vn], ow vl (List.replicate G.length (0 : Int)), ow vn (List.replicate G.length (0 : Int)), bx bG [w]] h' ∧ Q.length = G.length ∧ ∀ x, x < i → gd Q x = -1) ⟨by simp, _, H, by simp, fun x hx => absurd hx (Nat.not_lt_zero x)⟩ ?_
  clear H
  rintro J i _ h11 hJ hi ⟨rfl, Q, H, hQl, hQ⟩
  simp -implicitDefEqProofs (disch:=first|omega|(simp only[LnZ];omega))[wrap64]
  refine IteW.mk (fun hlt => ?_) (fun hge => ?_)
  · have hin : i < G.length := by omega
    simp -implicitDefEqProofs (disch:=first|omega|(simp only[LnZ];omega))[wrap64, H.sw1.bxld0, H.rep.I]
    refine H.storeF (-1) (i := i) (by omega) rfl rfl ⟨by decide, by decide⟩ rfl fun h12 H => ?_
    simp -implicitDefEqProofs (disch:=first|omega|(simp only[LnZ];omega))[wrap64]
    refine hJ _ _ hin ⟨rfl, _, H, by simpa using hQl, fun x hx => ?_⟩
    rw [gd_set (by omega)]
    by_cases e : x = i
    · subst e; simp
    · rw [fput_ne e]; exact hQ x (by omega)
  have hin : i = G.length := by omega
  subst hin
  simp -implicitDefEqProofs (disch:=first|omega|(simp only[LnZ];omega))[wrap64]
  refine H.alloc rfl fun bS h12 H => ?_
  simp -implicitDefEqProofs (disch:=first|omega|(simp only[LnZ];omega))[wrap64]
  refine H.alloc rfl fun bC h13 H => ?_
  simp -implicitDefEqProofs (disch:=first|omega|(simp only[LnZ];omega))[wrap64]
  refine H.alloc rfl fun bP h14 H => ?_
  simp -implicitDefEqProofs (disch:=first|omega|(simp only[LnZ];omega))[wrap64]
  refine H.sw1.bxst (u := .int .i64 0) rfl rfl rfl rfl (by simp) fun h15 H => ?_
  simp -implicitDefEqProofs (disch:=first|omega|(simp only[LnZ];omega))[wrap64]
  refine H.sw1.bxst (u := .int .i64 0) rfl rfl rfl rfl (by simp) fun h16 H => ?_
  simp -implicitDefEqProofs (disch:=first|omega|(simp only[LnZ];omega))[wrap64]
  refine H.alloc rfl fun bV h17 H => ?_
  simp -implicitDefEqProofs (disch:=first|omega|(simp only[LnZ];omega))[wrap64]
  obtain ⟨fv, hfv⟩ : ∃ fv, fv = Value.func (.func fn_impl_components_1) #[] #[.pointer (some ⟨bC, 0, none⟩), .pointer (some ⟨bN, 0, none⟩), .pointer (some ⟨bL, 0, none⟩), .pointer (some ⟨bS, 0, none⟩), .pointer (some ⟨bG, 0, none⟩), .pointer (some ⟨bV, 0, none⟩), .pointer (some ⟨bQ, 0, none⟩), .pointer (some ⟨bP, 0, none⟩)] := ⟨_, rfl⟩
  have hfn : fnOf fv = some (fn_impl_components_1, [], [.pointer (some ⟨bC, 0, none⟩), .pointer (some ⟨bN, 0, none⟩), .pointer (some ⟨bL, 0, none⟩), .pointer (some ⟨bS, 0, none⟩), .pointer (some ⟨bG, 0, none⟩), .pointer (some ⟨bV, 0, none⟩), .pointer (some ⟨bQ, 0, none⟩), .pointer (some ⟨bP, 0, none⟩)]) := by subst hfv; rfl
  have hfc : fv.cells = #[fv] := by subst hfv; rfl
  have hf1 : fv.oneCell' = true := by subst hfv; rfl
  rw [← hfv]
  refine H.bxst (u := fv) rfl rfl (by rw [hfc]; rfl) (by rw [hfc]; simp [hf1]) (by simp) fun h18 H => ?_
  have H : HS h [bx bV [fv], bx bP [.int .i64 0], bx bC [.int .i64 0], bx bS [.slice none 0 0], ow vq Q, bx bQ [vq], bx bL [vl], bx bN [vn], ow vl (List.replicate G.length (0 : Int)), ow vn (List.replicate G.length (0 : Int)), bx bG [w]] h18 := by
    simpa [setC, hfc] using H
  have H := H.nil_ow (α := Int)
  have H := H.sw1.sw11.sw7.sw8.sw9.sw6.sw7.sw8.sw8.sw9.sw10.sw11
  obtain ⟨g1, H0, H⟩ := HS.rebase (Δ := [ow vn (List.replicate G.length (0 : Int)), ow vl (List.replicate G.length (0 : Int)), ow vq Q, ow (.slice none 0 0) ([] : List Int), bx bS [.slice none 0 0], bx bC [.int .i64 0], bx bP [.int .i64 0]]) (Γ := [bx bN [vn], bx bL [vl], bx bQ [vq], bx bG [w], bx bV [fv]]) H
  have F : FB bN bL bQ bG bV vn vl vq w fv g1 := ⟨H0.bxld0, H0.sw1.bxld0, H0.sw2.bxld0, H0.sw3.bxld0, H0.sw4.bxld0⟩
  have Rw1 := Rw.on H0
  have hg0 : ∀ x, gd (List.replicate G.length (0 : Int)) x = 0 := by
    intro x
    simp only [gd, List.getD_eq_getElem?_getD, List.getElem?_replicate]
    split <;> rfl
  have hE := hG.lt
  have hC0 : ∃ s, CH g1 vn vl vq bS bC bP G.length s h18 ∧ TI G.length E (fun _ => False) s ∧ ∀ x, x < 0 → s.num x ≠ 0 := by
    refine ⟨⟨gd (List.replicate G.length (0 : Int)), gd (List.replicate G.length (0 : Int)), gd Q, [], 0, 0⟩, ⟨_, _, Q, .slice none 0 0, ⟨by simp, by simp, hQl, rfl, rfl, rfl, ?_⟩, H⟩, TI.start (fun x _ => hg0 x) (fun x hx => hQ x hx) rfl rfl rfl, fun x hx => absurd hx (Nat.not_lt_zero x)⟩
    have := List.length_filter_le (fun x => decide (x < G.length ∧ gd (List.replicate G.length (0 : Int)) x = 0)) (List.range G.length)
    simp only [List.length_range] at this
    show (0 : Int) + ((unv G.length (gd (List.replicate G.length (0 : Int))) : Nat) : Int) ≤ _
    unfold unv
    omega
  simp -implicitDefEqProofs (disch:=first|omega|(simp only[LnZ];omega))[wrap64]
  refine wp_count G.length (fun i e h' => e = [none, none, none, none, some (.pointer (some ⟨bN, 0, none⟩)), none, some (.pointer (some ⟨bQ, 0, none⟩)), none, none, none, none, some (.pointer (some ⟨bV, 0, none⟩)), none, none, none, none, none, none, none, some (.int .i64 G.length), some (.int .i64 i), none, none, none] ∧
    ∃ s, CH g1 vn vl vq bS bC bP G.length s h' ∧ TI G.length E (fun _ => False) s ∧ ∀ x, x < i → s.num x ≠ 0) ⟨by simp, hC0⟩ ?_
  clear H hC0 hQ hQl hJ
  rintro J2 i _ h19 hJ2 hi2 ⟨rfl, s, ⟨N, L, Q, vs, hl, H⟩, hI, hv⟩
  have hNl := hl.hN
  simp -implicitDefEqProofs (disch:=first|omega|(simp only[LnZ];omega))[wrap64]
  refine IteW.mk (fun hlt2 => ?_) (fun hge2 => ?_)
  · have hin : i < G.length := by omega
    have hNi : s.num i = N[i]'(by omega) := by rw [hl.num, gd_get]
    by_cases h0 : N[i]'(by omega) = 0
    · simp -implicitDefEqProofs (disch:=first|omega|(simp only[LnZ];omega))[wrap64, F.on H, H.rep.I, h0, hfn]
      refine (c_visit F Rw1 hG rfl hnl hfn _ (fun _ => False) s i _ rfl ⟨N, L, Q, vs, hl, H⟩ hI hin (by rw [hNi, h0]) (fun _ h => h.elim) (fun _ h => h.elim)).go ?_
      rintro u h20 ⟨s2, hC2, hV⟩
      simp -implicitDefEqProofs (disch:=first|omega|(simp only[LnZ];omega))[wrap64]
      refine hJ2 _ _ hin ⟨rfl, s2, hC2, hV.inv, fun x hx => ?_⟩
      by_cases e : x = i
      · subst e; exact hV.vis
      · have h1 := hv x (by omega)
        rw [(hV.num x (by omega) h1).1]; exact h1
    · simp -implicitDefEqProofs (disch:=first|omega|(simp only[LnZ];omega))[wrap64, F.on H, H.rep.I, h0]
      refine hJ2 _ _ hin ⟨rfl, s, ⟨N, L, Q, vs, hl, H⟩, hI, fun x hx => ?_⟩
      by_cases e : x = i
      · subst e; rw [hNi]; exact h0
      · exact hv x (by omega)
  have hin : i = G.length := by omega
  subst hin
  obtain ⟨hr1, hr2⟩ := hI.result hv
  have hQl := hl.hQ
  have H := H.sw2.only
  simp -implicitDefEqProofs (disch:=first|omega|(simp only[LnZ];omega))[wrap64]
  refine H.mkm (fun n : Int => .int .i64 n) (fun n : Int => .int .i64 n) fun bm h20 H => ?_
  have H := H.sw1
  simp -implicitDefEqProofs (disch:=first|omega|(simp only[LnZ];omega))[wrap64, F.on H, H.rep.len]
  refine wp_count G.length (fun i e h' => e = [none, none, none, none, none, none, some (.pointer (some ⟨bQ, 0, none⟩)), none, none, none, none, none, none, some (.map (some bm)), none, none, none, none, none, none, none, some vq, some (.int .i64 G.length), some (.int .i64 i)] ∧
    ∃ (l : List (Int × Int)) (Q : List Int), HS g1 [ow vq Q, mpo (fun n : Int => .int .i64 n) (fun n : Int => .int .i64 n) bm l] h' ∧ NmI G.length s.part i l Q) ⟨by simp [hQl], [], Q, H, hQl, by simp, fun x hx => absurd hx (Nat.not_lt_zero x), fun x _ _ => by rw [hl.part], fun a y h => by simp [mlk_nil] at h, fun a b y h => by simp [mlk_nil] at h⟩ ?_
  clear H hQl hl
  rintro J3 i _ h21 hJ3 hi3 ⟨rfl, l, Q, H, hM⟩
  have hQl := hM.len
  have hle := hM.le
  simp -implicitDefEqProofs (disch:=first|omega|(simp only[LnZ];omega))[wrap64]
  refine IteW.mk (fun hlt3 => ?_) (fun hge3 => ?_)
  · have hin : i < G.length := by omega
    have hQi : Q[i]'(by omega) = s.part i := by rw [← gd_get, hM.rest i (Nat.le_refl _) hin]
    simp -implicitDefEqProofs (disch:=first|omega|(simp only[LnZ];omega))[wrap64, H.rep.I, hQi]
    refine H.sw1.mget (a := s.part i) rfl rfl keyEq_int ?_
    cases hlk : mlk l (s.part i) with
    | some y =>
      have hyb := hM.bnd _ _ hlk
      simp -implicitDefEqProofs (disch:=first|omega|(simp only[LnZ];omega))[wrap64, F.on H]
      refine H.sw1.mget (a := s.part i) rfl rfl keyEq_int ?_
      rw [hlk]
      simp -implicitDefEqProofs (disch:=first|omega|(simp only[LnZ];omega))[wrap64, F.on H, H.rep.I]
      refine H.storeF y (i := i) (by omega) rfl rfl ⟨by omega, by omega⟩ rfl fun h22 H => ?_
      simp -implicitDefEqProofs (disch:=first|omega|(simp only[LnZ];omega))[wrap64]
      exact hJ3 _ _ hin ⟨rfl, l, _, H, hM.old hin hlk⟩
    | none =>
      obtain ⟨hn1, hn2⟩ := hM.new hin hlk
      simp -implicitDefEqProofs (disch:=first|omega|(simp only[LnZ];omega))[wrap64]
      refine H.sw1.mlen rfl ?_
      simp -implicitDefEqProofs (disch:=first|omega|(simp only[LnZ];omega))[wrap64]
      refine H.sw1.mput (a := s.part i) (v := (l.length : Int)) rfl rfl rfl keyEq_int hlk fun h22 H => ?_
      simp -implicitDefEqProofs (disch:=first|omega|(simp only[LnZ];omega))[wrap64, F.on H]
      refine H.mget (a := s.part i) rfl rfl keyEq_int ?_
      rw [hn2]
      have H := H.sw1
      simp -implicitDefEqProofs (disch:=first|omega|(simp only[LnZ];omega))[wrap64, F.on H, H.rep.I]
      refine H.storeF (l.length : Int) (i := i) (by omega) rfl rfl ⟨by omega, by omega⟩ rfl fun h23 H => ?_
      simp -implicitDefEqProofs (disch:=first|omega|(simp only[LnZ];omega))[wrap64]
      exact hJ3 _ _ hin ⟨rfl, _, _, H, hn1⟩
  have hin : i = G.length := by omega
  subst hin
  simp -implicitDefEqProofs (disch:=first|omega|(simp only[LnZ];omega))[wrap64, F.on H]
  obtain ⟨hb, hc⟩ := hM.result
  have Hf := (H.app H0).only
  exact RetK.keep (hk _ _ ⟨Q, Hf, hQl, hb, fun x y hx hy => by rw [hc x y hx hy, hr2 x y hx hy]⟩)
end Go.Proofs.Ytglnelcmcimljaa

namespace Go.Proofs.Ytglnelcmcimljaa
open Go
def cntP (Q : List Int) (i : Nat) (p : Int) : Nat := ((List.range i).filter fun y => decide (gd Q y = p)).length
theorem cntP_succ {Q : List Int} {i : Nat} {p : Int} : cntP Q (i + 1) p = cntP Q i p + if gd Q i = p then 1 else 0 := by
  simp only [cntP, List.range_succ, List.filter_append, List.length_append, List.filter_cons, List.filter_nil]
  by_cases h : gd Q i = p <;> simp [h]
theorem cntP_le {Q : List Int} {i : Nat} {p : Int} : cntP Q i p ≤ i := by
  have := List.length_filter_le (fun y => decide (gd Q y = p)) (List.range i)
  simpa [cntP] using this
theorem c_cyclic {h : Heap} {w : Value} {G : List (List Int)} {E : Nat → Nat → Prop} (Rw : Rep h w G) (hG : Adj E G) (hnl : G.length ≤ 1048576) :
    CallE Try.prog fn_impl_cyclic [w] h (fun u h' => ∃ C : List Bool, HS h [ow u C] h' ∧ C.length = G.length ∧ ∀ x, x < G.length → (tru C x ↔ Cyc E x)) := by
  refine CallE.gen fun k hk => EN_impl_cyclic rfl ?_
  simp -implicitDefEqProofs (disch:=first|omega|(simp only[LnZ];omega))[wrap64]
  refine (c_components Rw hG hnl).go ?_
  rintro p h1 ⟨Q, H, hQl, hQb, hQ⟩
  simp -implicitDefEqProofs (disch:=first|omega|(simp only[LnZ];omega))[wrap64, (Rw.on H).len]
  refine H.mks (α := Int) (z := 0) rfl rfl (own_zero (by decide) (by decide)) (Nat.le_refl _) (by omega) (by omega) fun z h2 H => ?_
  simp -implicitDefEqProofs (disch:=first|omega|(simp only[LnZ];omega))[wrap64, H.sw1.rep.len]
  refine wp_count G.length (fun i e h' => e = [some w, none, some p, some z, none, none, none, some p, some (.int .i64 G.length), some (.int .i64 i), none, none] ∧ ∃ Z : List Int, HS h [ow z Z, ow p Q] h' ∧ Z.length = G.length ∧ ∀ x, x < G.length → gd Z x = cntP Q i x) ⟨by simp [hQl], _, H, by simp, fun x hx => by rw [gd_get (by simpa using hx)]; simp [cntP]⟩ ?_
  clear H
  rintro J i _ h3 hJ hi ⟨rfl, Z, H, hZl, hZ⟩
  simp -implicitDefEqProofs (disch:=first|omega|(simp only[LnZ];omega))[wrap64]
  refine IteW.mk (fun hlt => ?_) (fun hge => ?_)
  · have hin : i < G.length := by omega
    have hq := hQb i hin
    obtain ⟨q, hqi⟩ : ∃ q : Nat, Q[i]'(by omega) = q := ⟨(Q[i]'(by omega)).toNat, by rw [← gd_get]; omega⟩
    have hqn : q < G.length := by rw [gd_get (by omega), hqi] at hq; omega
    have hzq : Z[q]'(by omega) = cntP Q i q := by rw [← gd_get, hZ q hqn]
    have hcl := cntP_le (Q := Q) (i := i) (p := q)
    simp -implicitDefEqProofs (disch:=first|omega|(simp only[LnZ];omega))[wrap64, H.sw1.rep.I, hqi, H.rep.I, hzq]
    refine H.storeF ((cntP Q i q : Int) + 1) (i := q) (by omega) rfl rfl ⟨by omega, by omega⟩ rfl fun h4 H => ?_
    simp -implicitDefEqProofs (disch:=first|omega|(simp only[LnZ];omega))[wrap64]
    refine hJ _ _ hin ⟨rfl, _, H, by simpa using hZl, fun x hx => ?_⟩
    rw [gd_set (by omega), cntP_succ, gd_get (by omega), hqi]
    by_cases e : x = q
    · subst e; simp
    · rw [fput_ne e, hZ x hx, if_neg (by omega)]; simp
  have hin : i = G.length := by omega
  subst hin
  simp -implicitDefEqProofs (disch:=first|omega|(simp only[LnZ];omega))[wrap64, (Rw.on H).len]
  refine H.mks (α := Bool) (z := false) rfl rfl own_false (Nat.le_refl _) (by omega) (by omega) fun c h4 H => ?_
  simp -implicitDefEqProofs (disch:=first|omega|(simp only[LnZ];omega))[wrap64, (Rw.on H).len]
  refine wp_count G.length (fun i e h' => e = [some w, none, some p, some z, none, some c, none, none, none, none, some (.int .i64 G.length), some (.int .i64 i)] ∧ ∃ C : List Bool, HS h [ow c C, ow z Z, ow p Q] h' ∧ C.length = G.length ∧ ∀ x, x < i → (tru C x ↔ Cyc E x)) ⟨by simp, _, H, by simp, fun x hx => absurd hx (Nat.not_lt_zero x)⟩ ?_
  clear H hJ
  rintro J i _ h5 hJ hi ⟨rfl, C, H, hCl, hC⟩
  simp -implicitDefEqProofs (disch:=first|omega|(simp only[LnZ];omega))[wrap64]
  refine IteW.mk (fun hlt2 => ?_) (fun hge2 => ?_)
  · have hin : i < G.length := by omega
    have hq := hQb i hin
    obtain ⟨q, hqi⟩ : ∃ q : Nat, Q[i]'(by omega) = q := ⟨(Q[i]'(by omega)).toNat, by rw [← gd_get]; omega⟩
    have hqn : q < G.length := by rw [gd_get (by omega), hqi] at hq; omega
    have hzq : Z[q]'(by omega) = cntP Q G.length q := by rw [← gd_get, hZ q hqn]
    have hpc := part_cycle hQ hG.lt hin
    have hcnt : ((List.range G.length).filter fun y => decide (gd Q y = gd Q i)).length = cntP Q G.length q := by
      rw [gd_get (by omega), hqi]; rfl
    rw [hcnt] at hpc
    have hstep : ∀ b : Bool, (b = true ↔ Cyc E i) → ∀ x, x < i + 1 → (tru (C.set i b) x ↔ Cyc E x) := by
      intro b hb x hx
      have h1 : tru (C.set i b) x ↔ if x = i then b = true else tru C x := by
        simp only [tru, List.getD_eq_getElem?_getD, List.getElem?_set]
        by_cases e : i = x
        · subst e; simp [show i < C.length by omega]
        · simp [e, Ne.symm e]
      rw [h1]
      split
      · rename_i e; subst e; exact hb
      · exact hC x (by omega)
    by_cases h1 : (1 : Int) < cntP Q G.length q
    · simp -implicitDefEqProofs (disch:=first|omega|(simp only[LnZ];omega))[wrap64, H.sw2.rep.I, hqi, H.sw1.rep.I, hzq, h1, H.rep.B]
      refine H.storeF true (i := i) (by omega) rfl rfl trivial rfl fun h6 H => ?_
      simp -implicitDefEqProofs (disch:=first|omega|(simp only[LnZ];omega))[wrap64]
      exact hJ _ _ hin ⟨rfl, _, H, by simpa using hCl, hstep true (by rw [hpc]; simp; omega)⟩
    · obtain ⟨u, hu0, Ru⟩ := Rw.ldL hin
      simp -implicitDefEqProofs (disch:=first|omega|(simp only[LnZ];omega))[wrap64, H.sw2.rep.I, hqi, H.sw1.rep.I, hzq, h1, H.rep.B, (Rw.on H).X (n := 1) rfl, hload_le H.base hu0]
      refine (c_Contains_int (Ru.on H)).go ?_
      rintro _ _ ⟨rfl, rfl⟩
      simp -implicitDefEqProofs (disch:=first|omega|(simp only[LnZ];omega))[wrap64, H.rep.B]
      refine H.storeF (decide ((i : Int) ∈ G[i])) (i := i) (by omega) rfl rfl trivial rfl fun h6 H => ?_
      simp -implicitDefEqProofs (disch:=first|omega|(simp only[LnZ];omega))[wrap64]
      refine hJ _ _ hin ⟨rfl, _, H, by simpa using hCl, hstep _ ?_⟩
      rw [hpc, decide_eq_true_iff, hG.mem i hin]
      constructor
      · rintro ⟨y, h2, h3⟩
        obtain rfl : i = y := by omega
        exact .inr h3
      · rintro (h2 | h2)
        · omega
        · exact ⟨i, rfl, h2⟩
  have hin : i = G.length := by omega
  subst hin
  simp -implicitDefEqProofs (disch:=first|omega|(simp only[LnZ];omega))[wrap64]
  exact RetK.keep (hk _ _ ⟨C, H.only, hCl, hC⟩)
theorem c_live {h : Heap} {v : Value} {a : Aut} (Ra : Rep h v a) (ha : a.Ok) : CallE Try.prog fn_impl_Automaton_live [v] h (fun u h' => ∃ L : List Bool, HS h [ow u L] h' ∧ L.length = a.acc.length ∧ ∀ q, tru L q ↔ q < a.acc.length ∧ a.Live q) := by
  obtain ⟨v1, v2, v3, rfl, R1, R2, R3⟩ := Rep_Aut.1 Ra
  have hn := ha.n
  refine CallE.gen fun k hk => EN_impl_Automaton_live rfl ?_
  simp -implicitDefEqProofs (disch:=first|omega|(simp only[LnZ];omega))[wrap64]
  refine (c_next Ra ha).go ?_
  rintro w h1 ⟨G, H, hG, hGl⟩
  simp -implicitDefEqProofs (disch:=first|omega|(simp only[LnZ];omega))[wrap64]
  refine (c_cyclic H.rep hG (by omega)).go ?_
  rintro c h2 ⟨C, H2, hCl, hC⟩
  have H := H2.app H
  simp -implicitDefEqProofs (disch:=first|omega|(simp only[LnZ];omega))[wrap64, H.sw1.rep.len]
  refine H.mks (α := Bool) (z := false) rfl rfl own_false (Nat.le_refl _) (by omega) (by omega) fun o h3 H => ?_
  simp -implicitDefEqProofs (disch:=first|omega|(simp only[LnZ];omega))[wrap64, H.sw2.rep.len]
  refine wp_count G.length (fun i e h' => e = [none, some (.agg #[v1, v2, v3]), none, some w, some c, some o, none, none, none, some (.int .i64 G.length), some (.int .i64 i), none, none, none] ∧ ∃ L : List Bool, HS h [ow o L, ow c C, ow w G] h' ∧ L.length = G.length ∧ ∀ q, tru L q ↔ q < i ∧ a.Live q) ⟨by simp, _, H, by simp, fun q => by simp [tru_replicate]⟩ ?_
  clear H
  rintro J i _ h4 hJ hi ⟨rfl, L, H, hLl, hL⟩
  simp -implicitDefEqProofs (disch:=first|omega|(simp only[LnZ];omega))[wrap64]
  refine IteW.mk (fun hlt => ?_) (fun hge => ?_)
  · have hin : i < G.length := by omega
    simp -implicitDefEqProofs (disch:=first|omega|(simp only[LnZ];omega))[wrap64]
    refine H.bls (α := Int) [(i : Int)] (by rfl) rfl (ok_one (by omega)) (by decide) fun s h4 H => ?_
    simp -implicitDefEqProofs (disch:=first|omega|(simp only[LnZ];omega))[wrap64]
    have hS1 : ∀ z ∈ [(i : Int)], 0 ≤ z ∧ z < (G.length : Int) := by
      intro z hz
      have hxi : z = i := by simpa using hz
      omega
    refine (c_reachable (S := [(i : Int)]) H.sw3.rep H.rep hG hS1 (by simp) (by omega)).go ?_
    rintro r h5 ⟨B, H5, hBl, hB⟩
    have H := H5.app H.drop
    simp -implicitDefEqProofs (disch:=first|omega|(simp only[LnZ];omega))[wrap64, H.rep.len]
    refine wp_count G.length (fun k e h' => e = [none, some (.agg #[v1, v2, v3]), none, some w, some c, some o, some (.int .i64 i), none, none, some (.int .i64 G.length), some (.int .i64 i), some r, some (.int .i64 G.length), some (.int .i64 k)] ∧ ∃ (L' : List Bool), HS h [ow r B, ow o L', ow c C, ow w G] h' ∧ L'.length = G.length ∧ (∀ q, q ≠ i → (tru L' q ↔ q < i ∧ a.Live q)) ∧ (tru L' i ↔ ∃ t, t < k ∧ tru B t ∧ tru C t ∧ tru a.acc t)) ⟨by simp [hBl], L, H, hLl, fun q _ => hL q, by rw [hL]; simp⟩ ?_
    rintro J2 k _ h6 hJ2 hk2 ⟨rfl, L', H, hLl', hL1, hL2⟩
    simp -implicitDefEqProofs (disch:=first|omega|(simp only[LnZ];omega))[wrap64]
    refine IteW.mk (fun hlt2 => ?_) (fun hge2 => ?_)
    · have hkn : k < G.length := by omega
      have H := H.sw1
      have hold : tru L' i ↔ L'[i]'(by omega) = true := tru_get (by omega)
      have hstep : ∀ b : Bool, (b = true ↔ tru L' i ∨ (tru B k ∧ tru C k ∧ tru a.acc k)) → (∀ q, q ≠ i → (tru (L'.set i b) q ↔ q < i ∧ a.Live q)) ∧ (tru (L'.set i b) i ↔ ∃ t, t < k + 1 ∧ tru B t ∧ tru C t ∧ tru a.acc t) := by
        intro b hb
        have h1 : ∀ x, tru (L'.set i b) x ↔ if x = i then b = true else tru L' x := by
          intro x
          simp only [tru, List.getD_eq_getElem?_getD, List.getElem?_set]
          by_cases e : i = x
          · subst e; simp [show i < L'.length by omega]
          · simp [e, Ne.symm e]
        refine ⟨fun q hq => by rw [h1, if_neg hq]; exact hL1 q hq, ?_⟩
        rw [h1, if_pos rfl, hb, hL2]
        constructor
        · rintro (⟨t, h2, h3⟩ | h3)
          · exact ⟨t, by omega, h3⟩
          · exact ⟨k, by omega, h3⟩
        · rintro ⟨t, h2, h3⟩
          by_cases e : t = k
          · subst e; exact .inr h3
          · exact .inl ⟨t, by omega, h3⟩
      have hgB := tru_get (B := B) (i := k) (by omega)
      have hgC := tru_get (B := C) (i := k) (by omega)
      have hgA := tru_get (B := a.acc) (i := k) (by omega)
      have hfin : ∀ b : Bool, (b = true ↔ tru L' i ∨ (tru B k ∧ tru C k ∧ tru a.acc k)) → ∀ h8, HS h [ow o (L'.set i b), ow r B, ow c C, ow w G] h8 → J2 [none, some (.agg #[v1, v2, v3]), none, some w, some c, some o, some (.int .i64 i), none, none, some (.int .i64 G.length), some (.int .i64 i), some r, some (.int .i64 G.length), some (.int .i64 ((k + 1 : Nat) : Int))] h8 :=
        fun b hb h8 H => hJ2 _ _ hkn ⟨rfl, _, H.sw1, by simpa using hLl', hstep b hb⟩
      by_cases e0 : L'[i]'(by omega) = true
      · simp -implicitDefEqProofs (disch:=first|omega|(simp only[LnZ];omega))[wrap64, H.sw1.rep.B, H.rep.B, e0]
        refine H.storeF true (i := i) (by omega) rfl rfl trivial rfl fun h7 H => ?_
        simp -implicitDefEqProofs (disch:=first|omega|(simp only[LnZ];omega))[wrap64]
        exact hfin true (by simp [hold, e0]) _ H
      by_cases e1 : B[k]'(by omega) = true
      case neg =>
        simp -implicitDefEqProofs (disch:=first|omega|(simp only[LnZ];omega))[wrap64, H.sw1.rep.B, H.rep.B, e0, e1]
        refine H.storeF false (i := i) (by omega) rfl rfl trivial rfl fun h7 H => ?_
        simp -implicitDefEqProofs (disch:=first|omega|(simp only[LnZ];omega))[wrap64]
        exact hfin false (by simp [hold, e0, hgB, e1]) _ H
      by_cases e2 : C[k]'(by omega) = true
      case neg =>
        simp -implicitDefEqProofs (disch:=first|omega|(simp only[LnZ];omega))[wrap64, H.sw1.rep.B, H.sw2.rep.B, H.rep.B, e0, e1, e2]
        refine H.storeF false (i := i) (by omega) rfl rfl trivial rfl fun h7 H => ?_
        simp -implicitDefEqProofs (disch:=first|omega|(simp only[LnZ];omega))[wrap64]
        exact hfin false (by simp [hold, e0, hgC, e2]) _ H
      by_cases e3 : a.acc[k]'(by omega) = true
      · simp -implicitDefEqProofs (disch:=first|omega|(simp only[LnZ];omega))[wrap64, H.sw1.rep.B, H.sw2.rep.B, H.rep.B, (R2.on H).B, e0, e1, e2, e3]
        refine H.storeF true (i := i) (by omega) rfl rfl trivial rfl fun h7 H => ?_
        simp -implicitDefEqProofs (disch:=first|omega|(simp only[LnZ];omega))[wrap64]
        exact hfin true (by simp [hgB, hgC, hgA, e1, e2, e3]) _ H
      · simp -implicitDefEqProofs (disch:=first|omega|(simp only[LnZ];omega))[wrap64, H.sw1.rep.B, H.sw2.rep.B, H.rep.B, (R2.on H).B, e0, e1, e2, e3]
        refine H.storeF false (i := i) (by omega) rfl rfl trivial rfl fun h7 H => ?_
        simp -implicitDefEqProofs (disch:=first|omega|(simp only[LnZ];omega))[wrap64]
        exact hfin false (by simp [hold, e0, hgA, e3]) _ H
    · simp -implicitDefEqProofs (disch:=first|omega|(simp only[LnZ];omega))[wrap64]
      refine hJ _ _ hin ⟨rfl, L', H.drop, hLl', fun q => ?_⟩
      by_cases e : q = i
      · subst e
        rw [hL2]
        constructor
        · rintro ⟨t, h1, h2, h3, h4⟩
          obtain ⟨z, h5, h6⟩ := (hB t).1 h2
          obtain rfl : z = q := by simpa [Int.ofNat_inj] using h5
          exact ⟨by omega, t, h6, (hC t (by rw [← hBl]; exact tru_lt h2)).1 h3, h4⟩
        · rintro ⟨_, t, h1, h2, h3⟩
          have htn : t < G.length := by rw [hGl]; exact tru_lt h3
          exact ⟨t, by omega, (hB t).2 ⟨q, by simp, h1⟩, (hC t htn).2 h2, h3⟩
      · rw [hL1 q e]
        constructor
        · rintro ⟨h1, h2⟩; exact ⟨by omega, h2⟩
        · rintro ⟨h1, h2⟩; exact ⟨by omega, h2⟩
  have hin : i = G.length := by omega
  subst hin
  simp -implicitDefEqProofs (disch:=first|omega|(simp only[LnZ];omega))[wrap64]
  exact RetK.keep (hk _ _ ⟨L, H.only, by omega, by rw [← hGl]; exact hL⟩)
end Go.Proofs.Ytglnelcmcimljaa

namespace Go.Proofs.Ytglnelcmcimljaa
open Go
end Go.Proofs.Ytglnelcmcimljaa

namespace Go.Proofs.Ytglnelcmcimljaa
open Go
end Go.Proofs.Ytglnelcmcimljaa

namespace Go.Proofs.Ytglnelcmcimljaa
open Go
end Go.Proofs.Ytglnelcmcimljaa

namespace Go.Proofs.Ytglnelcmcimljaa
open Go
end Go.Proofs.Ytglnelcmcimljaa

namespace Go.Proofs.Ytglnelcmcimljaa
open Go
end Go.Proofs.Ytglnelcmcimljaa

namespace Go.Proofs.Ytglnelcmcimljaa
open Go
end Go.Proofs.Ytglnelcmcimljaa

namespace Go.Proofs.Ytglnelcmcimljaa
open Go
end Go.Proofs.Ytglnelcmcimljaa

namespace Go.Proofs.Ytglnelcmcimljaa
open Go
end Go.Proofs.Ytglnelcmcimljaa

namespace Go.Proofs.Ytglnelcmcimljaa
open Go
end Go.Proofs.Ytglnelcmcimljaa

namespace Go.Proofs.Ytglnelcmcimljaa
open Go
end Go.Proofs.Ytglnelcmcimljaa

namespace Go.Proofs.Ytglnelcmcimljaa
open Go
end Go.Proofs.Ytglnelcmcimljaa

namespace Go.Proofs.Ytglnelcmcimljaa
open Go
theorem Rep.cut {α : Type} [Ty α] {h : Heap} {v : Value} {l : List α} (R : Rep h v l) {n esz : Nat} {k : IntKind} (hn : n ≤ l.length) : ∃ v', sliceVV esz v none (some (some (.int k n))) none = some v' ∧ Rep h v' (l.take n) := by
  obtain ⟨p, cap, rfl, h1, h2, h3⟩ := Rep_list.1 R
  have hl : (l.take n).length = n := by simp; omega
  have hc : n ≤ cap := by omega
  cases n with
  | zero =>
    cases p with
    | none =>
      refine ⟨.slice none 0 cap, ?_, Rep_list.2 ⟨none, cap, by simp, by simp, trivial, fun i hi => by simp at hi⟩⟩
      simp [sliceVV, bndV]
    | some a =>
      by_cases hz : cap = 0
      · refine ⟨.slice (some a) 0 cap, ?_, Rep_list.2 ⟨some a, cap, by simp, by simp, trivial, fun i hi => by simp at hi⟩⟩
        simp [sliceVV, bndV, hz]
      · refine ⟨.slice (some (a.add 0)) 0 cap, ?_, Rep_list.2 ⟨some (a.add 0), cap, by simp, by simp, trivial, fun i hi => by simp at hi⟩⟩
        simp [sliceVV, bndV, hz]
  | succ n =>
    obtain ⟨b, off, vs, rfl, _⟩ := h3 0 (by omega)
    refine ⟨.slice (some ⟨b, off, none⟩) (n + 1) cap, ?_, Rep_list.2 ⟨_, cap, by rw [hl], by rw [hl]; omega, trivial, fun i hi => ?_⟩⟩
    · simp [sliceVV, bndV, add_none]
      rw [if_pos (by omega)]
    · rw [hl] at hi
      obtain ⟨b', off', vs, e1, e2, e3⟩ := h3 i (by omega)
      exact ⟨b', off', vs, e1, e2, by simpa using e3⟩
@[simp] theorem nilcV_ptr {a : Addr} : nilcV (.pointer (some a)) = some (.pointer (some a)) := rfl
instance instTyU8 : Ty (BitVec 8) where
  agg := false
  sz := 1
  rep := fun _ cs n => cs = [.int .u8 n.toNat]
  own := fun r cs n => r = Heap.nil ∧ cs = [.int .u8 n.toNat]
  one := fun _ => rfl
  len := by rintro h cs x rfl; rfl
  cell := by rintro h cs x rfl v hv; simp at hv; subst hv; rfl
  mono := fun _ hr => hr
  own_rep := fun ho => ho.2
instance instFlatU8 : Flat (BitVec 8) := ⟨fun n => [.int .u8 n.toNat], fun _ => True, by simp [Ty.rep], by simp [Ty.own]⟩
end Go.Proofs.Ytglnelcmcimljaa

namespace Go.Proofs.Ytglnelcmcimljaa
open Go
end Go.Proofs.Ytglnelcmcimljaa

namespace Go.Proofs.Ytglnelcmcimljaa
open Go
end Go.Proofs.Ytglnelcmcimljaa

namespace Go.Proofs.Ytglnelcmcimljaa
open Go
end Go.Proofs.Ytglnelcmcimljaa

namespace Go.Proofs.Ytglnelcmcimljaa
open Go
end Go.Proofs.Ytglnelcmcimljaa

namespace Go.Proofs.Ytglnelcmcimljaa
open Go
section
variable {α : Type} [Ty α] {h h' : Heap} {v : Value} {l : List α} {M : List (Mix α)}
theorem Raws.le (H : Raws h l M) (hl : h.le h') : Raws h' l M := ⟨H.len, fun i hi => by
  obtain ⟨c, h1, h2⟩ := H.at' i hi
  exact ⟨c, h1, Ty.mono hl h2⟩⟩
theorem Raws.nil : Raws h ([] : List α) [] := ⟨rfl, fun i hi => absurd hi (Nat.not_lt_zero i)⟩
theorem Raws.set (H : Raws h l M) {i : Nat} {y : α} {c : List Value} (hy : Ty.rep h c y) : Raws h (l.set i y) (M.set i (.raw c)) := by
  refine ⟨by simp [H.len], fun j hj => ?_⟩
  rw [List.length_set] at hj
  by_cases e : i = j
  · subst e
    exact ⟨c, by rw [List.getElem?_set_self (by rw [H.len]; exact hj)], by simpa using hy⟩
  · obtain ⟨c', h1, h2⟩ := H.at' j hj
    exact ⟨c', by rw [List.getElem?_set_ne e]; exact h1, by rw [List.getElem_set_ne e]; exact h2⟩
theorem Raws.push (H : Raws h l M) {y : α} {c : List Value} (hy : Ty.rep h c y) : Raws h (l ++ [y]) (M ++ [.raw c]) := by
  refine ⟨by simp [H.len], fun j hj => ?_⟩
  by_cases e : j < l.length
  · obtain ⟨c', h1, h2⟩ := H.at' j e
    exact ⟨c', by rw [List.getElem?_append_left (by rw [H.len]; exact e)]; exact h1, by rw [List.getElem_append_left e]; exact h2⟩
  · obtain rfl : j = l.length := by simp at hj; omega
    exact ⟨c, by rw [← H.len, List.getElem?_append_right (Nat.le_refl _)]; simp, by simpa using hy⟩
end
end Go.Proofs.Ytglnelcmcimljaa

namespace Go.Proofs.Ytglnelcmcimljaa
open Go
structure Bas (B : List Exq) : Prop where
  n5 : B.length ≤ 5
  ok : ∀ y ∈ B, Fm.Shp 6 y ∧ Fm.bas y = true
theorem Bas.at {B : List Exq} (h : Bas B) {i : Nat} (hi : i < B.length) : Fm.Shp 6 B[i] := (h.ok _ (List.getElem_mem hi)).1
end Go.Proofs.Ytglnelcmcimljaa

namespace Go.Proofs.Ytglnelcmcimljaa
open Go
end Go.Proofs.Ytglnelcmcimljaa

namespace Go.Proofs.Ytglnelcmcimljaa
open Go
end Go.Proofs.Ytglnelcmcimljaa

namespace Go.Proofs.Ytglnelcmcimljaa
open Go
theorem okL {xs : List Int} (h : ∀ x ∈ xs, -9223372036854775808 ≤ x ∧ x < 9223372036854775808) : ∀ x ∈ xs, Flat.ok x := h
end Go.Proofs.Ytglnelcmcimljaa

namespace Go.Proofs.Ytglnelcmcimljaa
open Go
namespace Fm
end Fm
end Go.Proofs.Ytglnelcmcimljaa

namespace Go.Proofs.Ytglnelcmcimljaa
open Go
theorem HS.only1 {g h : Heap} {Γ : List HP} {p : HP} (H : HS g (p :: Γ) h) : HS g [p] h := by
  obtain ⟨g', r, e, d, hp, H⟩ := H
  exact ⟨g', r, e, d, hp, H.base⟩
end Go.Proofs.Ytglnelcmcimljaa

namespace Go.Proofs.Ytglnelcmcimljaa
open Go
end Go.Proofs.Ytglnelcmcimljaa

namespace Go.Proofs.Ytglnelcmcimljaa
open Go
end Go.Proofs.Ytglnelcmcimljaa

namespace Go.Proofs.Ytglnelcmcimljaa
open Go
theorem c_nextX {h : Heap} {v : Value} {a : Aut} (Ra : Rep h v a) (ha : a.Ok) : CallE Try.prog fn_impl_Automaton_next [v] h (fun u h' => HS h [ow u (Bf.nx a)] h') := by
  obtain ⟨v1, v2, v3, rfl, R1, R2, R3⟩ := Rep_Aut.1 Ra
  refine CallE.gen fun k hk => EN_impl_Automaton_next rfl ?_
  have hn := ha.n
  have he := ha.e
  simp -implicitDefEqProofs (disch:=first|omega|(simp only[LnZ];omega))[wrap64, R2.len]
  refine HS.init.mks (α := List Int) (z := []) rfl rfl own_nils (Nat.le_refl _) (by omega) (by omega) fun w h1 H => ?_
  simp -implicitDefEqProofs (disch:=first|omega|(simp only[LnZ];omega))[wrap64, (R3.on H).len]
  refine wp_count a.edges.length (fun i e h' => e = [none, none, none, some w, none, some v3, some (.int .i64 a.edges.length), some (.int .i64 i)] ∧ HS h [ow w (Bf.NX a i)] h') ⟨by simp, by rw [Bf.NX_zero]; exact H⟩ ?_
  clear H
  rintro J i _ h2 hJ hi ⟨rfl, H⟩
  simp -implicitDefEqProofs (disch:=first|omega|(simp only[LnZ];omega))[wrap64]
  refine IteW.mk (fun hlt => ?_) (fun hge => ?_)
  · have hlx : i < a.edges.length := by omega
    obtain ⟨f, t, hf, ht, hfn, htn⟩ := ha.tr (List.getElem_mem hlx)
    have hfG : f < (Bf.NX a i).length := by rw [Bf.NX_len]; exact hfn
    have hle : (Bf.NX a i)[f].length ≤ i := by rw [Bf.NX_at hfn]; exact Bf.row_len
    have hsu := Bf.NX_succ hlx hf hfn
    rw [ht] at hsu
    have R3' := R3.on H
    obtain ⟨G, hG⟩ : ∃ G, G = Bf.NX a i := ⟨_, rfl⟩
    rw [← hG] at H
    have hfG : f < G.length := by rw [hG]; exact hfG
    have hle : G[f].length ≤ i := by subst hG; exact hle
    have hsu : Bf.NX a (i + 1) = G.set f (G[f] ++ [(t : Int)]) := by subst hG; exact hsu
    obtain ⟨u, hu, H⟩ := H.take hfG
    change hload _ (some (elp 1 w f)) none = some u at hu
    simp -implicitDefEqProofs (disch:=first|omega|(simp only[LnZ];omega))[wrap64, R3'.xTr, Tr.v, setC, hf, ht, H.sw1.holeia (n := 1) rfl, hu]
    refine H.app1 (t : Int) rfl rfl rfl ⟨by omega, by omega⟩ rfl rfl (by omega) (by omega) fun u' h3 H => ?_
    simp -implicitDefEqProofs (disch:=first|omega|(simp only[LnZ];omega))[wrap64, H.sw1.holeia (n := 1) rfl]
    refine H.storeH rfl rfl rfl fun h4 H => ?_
    simp -implicitDefEqProofs (disch:=first|omega|(simp only[LnZ];omega))[wrap64]
    exact hJ _ _ hlx ⟨rfl, by rw [hsu]; exact H⟩
  · obtain rfl : i = a.edges.length := by omega
    simp -implicitDefEqProofs (disch:=first|omega|(simp only[LnZ];omega))[wrap64]
    exact RetK.keep (hk _ _ H)
namespace Bf
def sen (f : List Int) : List Bool := f.map fun x => decide (x ≠ -2)
theorem sen_len {f : List Int} : (sen f).length = f.length := by simp [sen]
theorem sen_at {f : List Int} {x : Nat} (hx : x < f.length) : (sen f)[x]'(by rw [sen_len]; exact hx) = decide (f[x] ≠ -2) := by simp [sen]
theorem sen_set {f : List Int} {x : Nat} {a : Int} (ha : a ≠ -2) : sen (f.set x a) = (sen f).set x true := by
  unfold sen
  rw [List.map_set]
  simp [ha]
theorem s0_take {n : Nat} {S : List Int} (hS : incr n (-1) S) : ∀ k, k ≤ S.length → sF (S.take k) (-1) (List.replicate n (-2), []) = ((S.take k).foldl (fun f s => f.set s.toNat (-1)) (List.replicate n (-2)), S.take k)
  | 0, _ => by simp [sF]
  | k + 1, hk => by
    have ih := s0_take hS k (by omega)
    have hkl : k < S.length := by omega
    rw [sF_take hkl, ih, List.take_add_one, List.getElem?_eq_getElem hkl]
    have hx := incr_mem hS _ (List.getElem_mem hkl)
    have hp := (incr_iff.1 hS).1
    have key : ∀ (T : List Int) (f : List Int), f.length = n → (∀ y ∈ T, 0 ≤ y ∧ y ≠ S[k]) → (T.foldl (fun f s => f.set s.toNat (-1)) f).getD S[k].toNat 0 = f.getD S[k].toNat 0 := by
      intro T
      induction T with
      | nil => intro f _ _; rfl
      | cons y T ih2 =>
        intro f hf hT
        have hy := hT y (by simp)
        show (T.foldl _ (f.set y.toNat (-1))).getD _ _ = _
        rw [ih2 _ (by simpa using hf) (fun z hz => hT z (by simp [hz]))]
        by_cases hyl : y.toNat < f.length
        · rw [set_getD hyl, if_neg (by omega)]
        · rw [List.set_eq_of_length_le (by omega)]
    have h2 := key (S.take k) (List.replicate n (-2)) (by simp) (fun y hy => by
      have h3 := incr_mem hS y (List.mem_of_mem_take hy)
      obtain ⟨j, hj, rfl⟩ := List.mem_iff_getElem.1 hy
      rw [List.length_take] at hj
      have := List.pairwise_iff_getElem.1 hp j k (by omega) hkl (by omega)
      rw [List.getElem_take]
      rw [List.getElem_take] at h3
      omega)
    unfold s1
    simp only
    rw [h2, if_pos (by simp [show S[k].toNat < n by omega]), List.foldl_append]
    rfl
theorem s0_sF {n : Nat} {S : List Int} (hS : incr n (-1) S) : sF S (-1) (List.replicate n (-2), []) = s0 n S := by
  have := s0_take hS S.length (Nat.le_refl _)
  rw [List.take_length] at this
  exact this
end Bf
theorem c_find {g h : Heap} {Γ : List HP} {b3 b4 : Nat} {vm vo : Value} {p : Bf.SP} {x : Nat} {a : Int} (H : HS g (bx b3 [vm] :: ow vm (Bf.sen p.1) :: bx b4 [vo] :: ow vo p.2 :: Γ) h) (hx : x < p.1.length) (hlen : p.2.length ≤ 1048576) (ha : a ≠ -2) :
    CallE Try.prog fn_impl_order_1 [.int .i64 x, .pointer (some ⟨b3, 0, none⟩), .pointer (some ⟨b4, 0, none⟩)] h (fun u h' => ∃ vo', HS g (bx b3 [vm] :: ow vm (Bf.sen (Bf.s1 a p x).1) :: bx b4 [vo'] :: ow vo' (Bf.s1 a p x).2 :: Γ) h') := by
  have hsl : x < (Bf.sen p.1).length := by rw [Bf.sen_len]; exact hx
  have hxd : p.1.getD x 0 = p.1[x] := by simp [hx]
  have hat := Bf.sen_at hx
  refine CallE.gen fun k hk => EN_impl_order_1 rfl ?_
  rw [Bf.s1, Int.toNat_natCast, hxd] at hk
  by_cases q : p.1[x] = -2
  · rw [if_pos q] at hk
    have hat2 : (Bf.sen p.1)[x] = false := by rw [hat]; simp [q]
    have hset : Bf.sen (p.1.set x a) = (Bf.sen p.1).set x true := Bf.sen_set ha
    rw [hset] at hk
    have hxl := H.sw1.rep.lt
    simp -implicitDefEqProofs (disch:=first|omega|(simp only[LnZ];omega))[wrap64, H.bxld0, H.sw1.rep.B, hat2]
    refine H.sw1.storeF true (i := x) hsl rfl rfl trivial rfl fun h1 H => ?_
    have H := H.sw1
    simp -implicitDefEqProofs (disch:=first|omega|(simp only[LnZ];omega))[wrap64, H.sw2.bxld0]
    refine H.sw3.app1 (x : Int) rfl rfl rfl ⟨by omega, by omega⟩ rfl rfl (by omega) (by omega) fun vo' h2 H => ?_
    have o := H.rep.one
    have c := H.rep.cells
    simp -implicitDefEqProofs (disch:=first|omega|(simp only[LnZ];omega))[wrap64]
    refine H.sw3.bxst (u := vo') rfl rfl (by rw [c]; rfl) (by rw [c]; simp [o]) (by simp [c]) fun h3 H => ?_
    simp -implicitDefEqProofs (disch:=first|omega|(simp only[LnZ];omega))[wrap64]
    have H : HS g (bx b4 [vo'] :: ow vo' (p.2 ++ [(x : Int)]) :: bx b3 [vm] :: ow vm ((Bf.sen p.1).set x true) :: Γ) h3 := by simpa [setC, c] using H
    exact RetK.keep (hk _ _ ⟨vo', H.sw2.under fun _ H => H.sw2⟩)
  · rw [if_neg q] at hk
    have hat2 : (Bf.sen p.1)[x] = true := by rw [hat]; simp [q]
    simp -implicitDefEqProofs (disch:=first|omega|(simp only[LnZ];omega))[wrap64, H.bxld0, H.sw1.rep.B, hat2]
    exact RetK.keep (hk _ _ ⟨vo, H⟩)
set_option maxHeartbeats 1000000 in
theorem c_order {h : Heap} {v w : Value} {G : List (List Int)} {S : List Int} (Rv : Rep h v G) (Rs : Rep h w S) (hn : Bf.NOk G) (hS : incr G.length (-1) S) (hGl : G.length ≤ 65536) : CallE Try.prog fn_impl_order [v, w] h (fun u h' => HS h [ow u (Bf.fin G S).2] h') := by
  have hSl := incr_len hS
  refine CallE.gen fun k hk => EN_impl_order rfl ?_
  simp -implicitDefEqProofs (disch:=first|omega|(simp only[LnZ];omega))[wrap64, Rv.len]
  refine HS.init.mks (α := Bool) (z := false) rfl rfl own_false (Nat.le_refl _) (by omega) (by omega) fun vm h1 H => ?_
  have o := H.rep.one
  have c := H.rep.cells
  simp -implicitDefEqProofs (disch:=first|omega|(simp only[LnZ];omega))[wrap64]
  refine H.alloc rfl fun b3 h2 H => ?_
  simp -implicitDefEqProofs (disch:=first|omega|(simp only[LnZ];omega))[wrap64]
  refine H.bxst (u := vm) rfl rfl (by rw [c]; rfl) (by rw [c]; simp [o]) (by simp [c]) fun h3 H => ?_
  have H : HS h [bx b3 [vm], ow vm (List.replicate G.length false)] h3 := by simpa [setC, c] using H
  simp -implicitDefEqProofs (disch:=first|omega|(simp only[LnZ];omega))[wrap64]
  refine H.alloc rfl fun b4 h4 H => ?_
  have H : HS h [bx b4 [.slice none 0 0], bx b3 [vm], ow vm (List.replicate G.length false)] h4 := H
  have hs0 : List.replicate G.length false = Bf.sen (List.replicate G.length (-2)) := by simp [Bf.sen]
  rw [hs0] at H
  have H : HS h [bx b3 [vm], ow vm (Bf.sen (List.replicate G.length (-2))), bx b4 [.slice none 0 0], ow (.slice none 0 0) ([] : List Int)] h4 := (H.nil_ow (α := Int)).sw2.under fun _ H => H.sw2.under fun _ H => H.sw1
  simp -implicitDefEqProofs (disch:=first|omega|(simp only[LnZ];omega))[wrap64]
  obtain ⟨fv, hfv⟩ : ∃ fv, fv = Value.func (.func fn_impl_order_1) #[] #[.pointer (some ⟨b3, 0, none⟩), .pointer (some ⟨b4, 0, none⟩)] := ⟨_, rfl⟩
  have hfn : fnOf fv = some (fn_impl_order_1, [], [.pointer (some ⟨b3, 0, none⟩), .pointer (some ⟨b4, 0, none⟩)]) := by subst hfv; rfl
  rw [← hfv]
  simp -implicitDefEqProofs (disch:=first|omega|(simp only[LnZ];omega))[wrap64, (Rs.on H).len]
  refine wp_count S.length (fun i e h' => e = [some v, none, none, none, some (.pointer (some ⟨b4, 0, none⟩)), some fv, none, none, none, some w, some (.int .i64 S.length), some (.int .i64 i), none, none, none] ∧ ∃ vo, HS h [bx b3 [vm], ow vm (Bf.sen (Bf.sF (S.take i) (-1) (List.replicate G.length (-2), [])).1), bx b4 [vo], ow vo (Bf.sF (S.take i) (-1) (List.replicate G.length (-2), [])).2] h') ⟨by simp, .slice none 0 0, by simpa [Bf.sF] using H⟩ ?_
  clear H
  rintro J i _ h5 hJ hi ⟨rfl, vo, H⟩
  simp -implicitDefEqProofs (disch:=first|omega|(simp only[LnZ];omega))[wrap64]
  refine IteW.mk (fun hlt => ?_) (fun hge => ?_)
  · have hix : i < S.length := by omega
    have hst := Bf.s0_take hS i (by omega)
    have hsx := incr_mem hS _ (List.getElem_mem hix)
    have hsu := Bf.sF_take (a := (-1 : Int)) (p := (List.replicate G.length (-2), [])) hix
    have hfl : (Bf.sF (S.take i) (-1) (List.replicate G.length (-2), [])).1.length = G.length ∧ (Bf.sF (S.take i) (-1) (List.replicate G.length (-2), [])).2.length = i := by
      rw [hst]
      refine ⟨?_, by simp; omega⟩
      have : ∀ (T : List Int) (f : List Int), (T.foldl (fun f s => f.set s.toNat (-1)) f).length = f.length := by
        intro T
        induction T with
        | nil => intro f; rfl
        | cons y T ih => intro f; show (T.foldl _ (f.set y.toNat (-1))).length = _; rw [ih]; simp
      rw [this]; simp
    generalize Bf.sF (S.take i) (-1) (List.replicate G.length (-2), []) = p at *
    obtain ⟨x, hx⟩ : ∃ x : Nat, S[i] = x := ⟨S[i].toNat, by omega⟩
    rw [hx] at hsu
    simp -implicitDefEqProofs (disch:=first|omega|(simp only[LnZ];omega))[wrap64, (Rs.on H).I, hx, hfn]
    refine (c_find (a := -1) H (x := x) (by omega) (by omega) (by decide)).go ?_
    rintro _ h6 ⟨vo', H⟩
    simp -implicitDefEqProofs (disch:=first|omega|(simp only[LnZ];omega))[wrap64]
    exact hJ _ _ hix ⟨by simp, vo', by rw [hsu]; exact H⟩
  have hiS : i = S.length := by omega
  subst hiS
  rw [List.take_length, Bf.s0_sF hS] at H
  simp -implicitDefEqProofs (disch:=first|omega|(simp only[LnZ];omega))[wrap64]
  refine wp_while (σ := Nat) (fun i e h' => e = [some v, none, none, none, some (.pointer (some ⟨b4, 0, none⟩)), some fv, none, some (.int .i64 i), none, none, none, none, none, none, none] ∧ i ≤ (Bf.sN G S i).2.length ∧ ∃ vo, HS h [bx b3 [vm], ow vm (Bf.sen (Bf.sN G S i).1), bx b4 [vo], ow vo (Bf.sN G S i).2] h') (fun i => G.length + 1 - i) 0 ⟨by simp, by omega, vo, H⟩ ?_
  clear H
  rintro J i _ h6 hJ ⟨rfl, hil, vo, H⟩
  obtain ⟨bi, bd⟩ := Bf.sN_inv hn hS i
  have hle := bi.le
  have hst := Bf.sN_stop (next := G) (S := S) (n := i)
  have hsu := Bf.sN_succ (next := G) (S := S) (n := i)
  have hfe := Bf.fin_eq hn hS (n := i)
  have hnl := Bf.sN_le hn hS (show i ≤ i + 1 by omega)
  simp -implicitDefEqProofs (disch:=first|omega|(simp only[LnZ];omega))[wrap64, H.sw2.bxld0, H.sw3.rep.len]
  refine IteW.mk (fun hlt => ?_) (fun hge => ?_)
  · have hlt : i < (Bf.sN G S i).2.length := by omega
    have hsu := hsu hlt
    have hat := bi.at hlt
    have hrow := hn.row bi hlt
    obtain ⟨a, ha⟩ : ∃ a : Nat, (Bf.sN G S i).2.getD i 0 = a := ⟨_, (Int.toNat_of_nonneg hat.1).symm⟩
    have ha' : (Bf.sN G S i).2[i] = a := by rw [← ha]; simp [hlt]
    rw [ha, Int.toNat_natCast] at hat hsu hrow
    have haN : a < G.length := by omega
    obtain ⟨u, hu, Ru⟩ := Rv.ldL haN
    have hgd : G.getD a [] = G[a] := by simp [haN]
    rw [hgd] at hsu hrow
    have hu := hload_le H.base hu
    have RuH := Ru.on H
    have hul := Ru.lt
    simp -implicitDefEqProofs (disch:=first|omega|(simp only[LnZ];omega))[wrap64, H.sw2.bxld0, H.sw3.rep.I, ha', (Rv.on H).X (n := 1) rfl, hu, RuH.len]
    refine wp_count G[a].length (fun m e h' => e = [some v, none, none, none, some (.pointer (some ⟨b4, 0, none⟩)), some fv, none, some (.int .i64 i), none, none, none, none, some u, some (.int .i64 G[a].length), some (.int .i64 m)] ∧ ∃ vo, HS h [bx b3 [vm], ow vm (Bf.sen (Bf.sF (G[a].take m) a (Bf.sN G S i)).1), bx b4 [vo], ow vo (Bf.sF (G[a].take m) a (Bf.sN G S i)).2] h') ⟨by simp, vo, by simpa [Bf.sF] using H⟩ ?_
    clear H RuH
    rintro J2 m _ h7 hJ2 hm ⟨rfl, vo, H⟩
    simp -implicitDefEqProofs (disch:=first|omega|(simp only[LnZ];omega))[wrap64]
    refine IteW.mk (fun hlt2 => ?_) (fun hge2 => ?_)
    · have hmx : m < G[a].length := by omega
      have hx := hrow _ (List.getElem_mem hmx)
      obtain ⟨x, hxx⟩ : ∃ x : Nat, G[a][m] = x := ⟨G[a][m].toNat, by omega⟩
      have hs1 := Bf.sF_take (a := (a : Int)) (p := Bf.sN G S i) hmx
      have hfo := bi.fold (i := i) hlt (l := G[a].take m) (fun y hy => by rw [ha]; exact hrow y (List.mem_of_mem_take hy))
      rw [ha] at hfo
      have hfl := hfo.1.fl
      have hfle := hfo.1.le
      rw [hxx] at hs1 hx
      generalize Bf.sF (G[a].take m) a (Bf.sN G S i) = p at *
      simp -implicitDefEqProofs (disch:=first|omega|(simp only[LnZ];omega))[wrap64, (Ru.on H).I, hxx, hfn]
      refine (c_find (a := (a : Int)) H (x := x) (by omega) (by omega) (by omega)).go ?_
      rintro _ h8 ⟨vo', H⟩
      simp -implicitDefEqProofs (disch:=first|omega|(simp only[LnZ];omega))[wrap64]
      exact hJ2 _ _ hmx ⟨by simp, vo', by rw [hs1]; exact H⟩
    have hmG : m = G[a].length := by omega
    subst hmG
    rw [List.take_length, ← hsu] at H
    have hlen := hnl.len
    simp -implicitDefEqProofs (disch:=first|omega|(simp only[LnZ];omega))[wrap64]
    exact hJ (i + 1) _ _ (by omega) ⟨by simp, by omega, vo, H⟩
  · rw [hfe (by omega)] at H
    simp -implicitDefEqProofs (disch:=first|omega|(simp only[LnZ];omega))[wrap64, H.sw2.bxld0]
    exact RetK.keep (hk _ _ (H.sw3.only1))
end Go.Proofs.Ytglnelcmcimljaa
