/-
  Texts of this proof, one behind the other.
-/
import Derived.WalkKit
import Derived.ProofKit
import Derived.OpenShut
import Derived.Carry
import Derived.Deep.Slices
import Derived.SizedLaws
import Derived.Test.YtonjglbachhdcaaM5
/-
  From a law as a call to the row's statement: what is read as data stands for a piece of plain data; what was there before stays.
-/
namespace Go.Proofs.Ytonjglbachhdcaa
open Go Go.RowKit
set_option linter.all false
set_option linter.unusedVariables false
set_option linter.unusedSimpArgs false
set_option linter.defProp false
set_option maxRecDepth 1000000

/-- the whole memory -/
def whole (w : World) : Heap := fun b => w.heap[b]?

theorem calls_law {P : Program} {f : FuncId} {fn : Func} {args : List Value} {W : World} (hf : P.funcs[f]? = some fn) (hname : (fn.name == "runtime.NumGoroutine") = false) (hb : fn.body.isSome = true)
    (h : CallE P f args (whole W) (fun u h' => (whole W).le h' ∧ u = .bool true)) : Calls P f args.toArray W fun e W' => e = .returned (.bool true) ∧ Below W.heap.size W W' := by
  have h1 := h W (fun b o hb => hb)
  obtain ⟨bd, hbd⟩ := Option.isSome_iff_exists.1 hb
  have hname' : ¬ fn.name = "runtime.NumGoroutine" := by simpa using hname
  have hcall : (callFunc f args.toArray).run P W = .ok (.enter f args.toArray) W := by
    simp [callFunc, hf, hname', hbd]
  rw [hcall] at h1
  refine Calls.mono h1 ?_
  rintro e W' ⟨v, h', rfl, ⟨hl, rfl⟩, hs, hF⟩
  refine ⟨rfl, hF.os, hF.tape, hF.output, hF.size, ?_⟩
  intro k hk
  have h2 : whole W k = some W.heap[k] := by simp [whole, hk]
  rw [hs _ _ (hl _ _ h2)]
  simp [hk]

section
variable {H : Type} {enc : TypeId × Value → H} {P : Program}
theorem trodAll_below (hl : laidOutB P = true) {W W' : World} : ∀ {ts : List TypeId} {vs : List Value} {ds : List (DataW H)} {ps : List MemPlace}, (∀ t ∈ ts, P.readableRec t = true ∧ t < P.types.size) →
    DataW.TrodAll enc P W 0 (fun _ => true) true ts vs ds ps → Below W.heap.size W W' → (∀ x ∈ ps, x.block < W.heap.size) → DataW.TrodAll enc P W' 0 (fun b => decide (b < W.heap.size)) true ts vs ds ps
  | [], [], [], _, _, h, _, _ => h
  | _ :: _, _ :: _, _ :: _, _, ht, ⟨p, q, h1, h2, e⟩, hb, hlt =>
    ⟨p, q, Below.trod hl (ht _ (by simp)).1 (ht _ (by simp)).2 h1 hb (fun x hx => hlt x (by rw [e]; exact List.mem_append_left _ hx)),
      trodAll_below hl (fun t h => ht t (by simp [h])) h2 hb (fun x hx => hlt x (by rw [e]; exact List.mem_append_right _ hx)), e⟩

theorem kept_below {W W' : World} (hb : Below W.heap.size W W') (may : MemPlace → Prop) : W.keptBut W' may := by
  refine ⟨hb.os, hb.output, fun i hi => ?_⟩
  rw [hb.block i hi]
  split
  · rename_i h1 h2; rw [h1] at h2; simp only [Option.some.injEq, Obj.cells.injEq] at h2; obtain ⟨rfl, rfl, rfl⟩ := h2; exact ⟨rfl, rfl, rfl, fun _ _ => rfl⟩
  · rename_i h1 h2; rw [h1] at h2; simp only [Option.some.injEq, Obj.map.injEq] at h2; obtain ⟨rfl, rfl⟩ := h2; exact .inr ⟨rfl, rfl⟩
  · rfl

/-- THE LAW's CONTRACT: true; the arguments as they were -/
theorem post_law {f : Func} {s : ChangeSpec} {W W' : World} {args : Array Value} {ds gs : List (DataW H)} {before : List MemPlace} (hl : laidOutB P = true) (hvars : s.vars = []) (ht : ∀ t ∈ f.params.toList, P.readableRec t = true ∧ t < P.types.size)
    (hr : ∃ t, f.resultTypes = #[t] ∧ P.underlying t = some .bool) (hspec : (s.fn H (ds ++ gs)).results = [.lit (.bool true)] ∧ (s.fn H (ds ++ gs)).args = ds ∧ (s.fn H (ds ++ gs)).vars = [])
    (hW : DataW.Whole enc P f.params.toList s.vars false W args.toList ds gs before) (hb : Below W.heap.size W W') : s.post enc P f false true false false W args (.bool true) W' := by
  obtain ⟨t, ht1, ht2⟩ := hr
  obtain ⟨h1, h2, h3⟩ := hspec
  have hW' := hW
  obtain ⟨p, q, hA, hV, rfl, hz, hn⟩ := hW
  rw [hvars] at hV
  obtain ⟨rfl, rfl⟩ := Go.ChangeShapes.trodVars_none hV
  have hlt : ∀ x ∈ p ++ [], x.block < W.heap.size := fun x hx => by simpa using hW'.lt x hx
  refine ⟨ds, [], p ++ [], [], p, [], hW', ?_, ?_, ?_, World.keptBut_mono (fun x hx => ⟨by simpa using hx, .inr (.inl (by simpa using hx))⟩) (kept_below hb (fun x => x ∈ p)), by simp⟩
  · rw [h1, ht1]
    exact trodAll_cons_mk (shut_bool ht2 _) Go.ChangeShapes.trodAll_mk0
  · rw [h2]
    exact trodAll_below hl ht hA hb (fun x hx => hlt x (by simpa using hx))
  · rw [h3, hvars]; rfl
end

/-- what a piece of data weighs is within the reach -/
def wOk {H : Type} (P : Program) (t : TypeId) (d : DataW H) : Prop := ∀ n ∈ d.weights P t, n ≤ reachBytes
theorem wOk_all {H : Type} {P : Program} {e : TypeId} : ∀ {l : List (DataW H)}, (∀ n ∈ DataW.weightsAll P e l, n ≤ reachBytes) → ∀ d ∈ l, wOk P e d
  | [], _, d, hd => by simp at hd
  | x :: l, h, d, hd => by
    simp only [DataW.weightsAll, List.mem_append] at h
    rcases List.mem_cons.1 hd with rfl | hd
    · exact fun n hn => h n (.inl hn)
    · exact wOk_all (fun n hn => h n (.inr hn)) d hd
theorem wOk_each {H : Type} {P : Program} : ∀ {ts : List TypeId} {l : List (DataW H)}, (∀ n ∈ DataW.weightsEach P ts l, n ≤ reachBytes) → ∀ (i : Nat) t d, ts[i]? = some t → l[i]? = some d → wOk P t d
  | [], _, _, i, t, d, h1, _ => by simp at h1
  | _ :: _, [], _, i, t, d, _, h2 => by simp at h2
  | t0 :: ts, x :: l, h, 0, t, d, h1, h2 => by
    simp at h1 h2; subst h1 h2
    exact fun n hn => h n (by simp only [DataW.weightsEach, List.mem_append]; exact .inl hn)
  | t0 :: ts, x :: l, h, i + 1, t, d, h1, h2 => wOk_each (ts := ts) (l := l) (fun n hn => h n (by simp only [DataW.weightsEach, List.mem_append]; exact .inr hn)) i t d (by simpa using h1) (by simpa using h2)

/- what is read stands for plain data -/
def RdT (P : Program) (t : TypeId) (α : Type) [Ty α] : Prop := ∀ {H : Type} (enc : TypeId × Value → H) (W : World) (sp : Nat → Bool) (fuel : Nat) (cs : List Value) (x : DataW H × List MemPlace),
  DataW.trod enc P W 0 sp true fuel t cs = some x → wOk P t x.1 → ∃ y : α, Ty.rep (whole W) cs y

section
variable {P : Program} {t : TypeId}
theorem cells_whole {W : World} {b off : Nat} : ∀ {n : Nat} {l : List Value}, W.cells? 0 ⟨b, off, none⟩ n = some l → hcells (whole W) b off n = some l := by
  have key : ∀ n o l, (List.range' o n).mapM (fun i => W.cell? ((⟨b, off, none⟩ : Addr).add i)) = some l → hcells (whole W) b (off + o) n = some l := by
    intro n
    induction n with
    | zero => intro o l h; simpa [hcells] using h
    | succ n ih =>
      intro o l h
      rw [List.range'_succ, List.mapM_cons] at h
      simp only [Option.bind_eq_bind, Option.bind_eq_some_iff, Option.pure_def, Option.some.injEq] at h
      obtain ⟨v, h1, r, h2, rfl⟩ := h
      have h3 := ih (o + 1) r h2
      have h4 : hcell (whole W) b (off + o) = some v := by
        rw [addr_add0] at h1
        simp only [World.cell?, Option.isSome_none, Bool.false_eq_true, if_false] at h1
        simp only [hcell, whole]
        split at h1
        · rename_i hb; rw [hb]; exact h1
        · simp at h1
      simp only [hcells, h4]
      rw [show off + o + 1 = off + (o + 1) by omega, h3]
  intro n l h
  simp only [World.cells?, Nat.zero_le, if_true] at h
  rw [List.range_eq_range'] at h
  exact key n 0 l h

theorem cells_spot {W : World} {b off s n : Nat} (hn : 0 < n) : W.cells? 0 ⟨b, off, some s⟩ n = none := by
  simp only [World.cells?, Nat.zero_le, if_true]
  cases n with
  | zero => omega
  | succ n =>
    rw [List.range_succ_eq_map, List.mapM_cons]
    have : W.cell? ((⟨b, off, some s⟩ : Addr).add 0) = none := by
      simp only [Addr.add, if_true, World.cell?]
      split <;> simp
    rw [this]; rfl

theorem rd_list {α : Type} [Ty α] {e : TypeId} (ht : P.underlying t = some (.slice e)) (hc : P.cellsOf e = Ty.sz α) (hpos : 0 < Ty.sz α) (hby : 0 < P.bytesOf e) (he : RdT P e α) : RdT P t (List α) := by
  intro H enc W sp fuel cs x h hwt
  rcases Go.Deep.open_slice ht h with ⟨rfl, _⟩ | ⟨a, len, cap, m, n, D, Pl, rfl, _, hlen, hcap, hm, rfl, hel⟩
  · exact ⟨[], none, 0, rfl, by simp, trivial, fun i hi => by simp at hi⟩
  · have hle : len ≤ m := by rw [hm]; split <;> omega
    simp only [wOk, DataW.weights, ht, List.mem_cons, List.mem_append] at hwt
    have hsz : len ≤ reachBytes := by
      have h1 := hwt _ (.inl rfl)
      simp only [List.length_map, List.length_range] at h1
      have h2 : len * 1 ≤ (len + (m - len)) * P.bytesOf e := Nat.mul_le_mul (by omega) hby
      omega
    have hwe := wOk_all (fun n hn => hwt n (.inr (.inl hn)))
    have hall : ∀ i, i < len → ∃ y : α, ∃ b off vs, some a = some (⟨b, off, none⟩ : Addr) ∧ hcells (whole W) b (off + i * Ty.sz α) (Ty.sz α) = some vs ∧ Ty.rep (whole W) vs y := by
      intro i hi
      obtain ⟨cs', h1, h2⟩ := hel i (by omega)
      obtain ⟨y, hy⟩ := he enc W sp n cs' _ h2 (hwe _ (List.mem_map.2 ⟨i, by simpa using hi, rfl⟩))
      obtain ⟨b, off, spot⟩ := a
      rw [hc] at h1
      -- the address is plain: its first element could be read
      have h0 : spot = none := by
        cases spot with
        | none => rfl
        | some s =>
          obtain ⟨cs0, g1, _⟩ := hel 0 (by omega)
          rw [hc] at g1
          simp only [Nat.zero_mul, Addr.add, if_true] at g1
          rw [cells_spot hpos] at g1
          simp at g1
      subst h0
      rw [addr_add0] at h1
      exact ⟨y, b, off, cs', rfl, cells_whole h1, hy⟩
    have hch : ∃ l : List α, l.length = len ∧ ∀ i (hi : i < l.length), ∃ b off vs, some a = some (⟨b, off, none⟩ : Addr) ∧ hcells (whole W) b (off + i * Ty.sz α) (Ty.sz α) = some vs ∧ Ty.rep (whole W) vs l[i] := by
      refine ⟨(List.finRange len).map fun i => Classical.choose (hall i.1 i.2), by simp, fun i hi => ?_⟩
      have hi' : i < len := by simpa using hi
      have := Classical.choose_spec (hall i hi')
      simpa using this
    obtain ⟨l, hl, hr⟩ := hch
    refine ⟨l, some a, cap, by rw [hl], ⟨by omega, ?_⟩, trivial, hr⟩
    have : reachBytes < 4611686018427387904 := by decide
    omega

end

section
variable {P : Program} {W : World} {r : Reach} {base : Nat} {t e : TypeId} {v : Value}
theorem okWide_slice (ht : P.underlying t = some (.slice e)) (h : Value.okWide P W r base t v) : ∃ a n c, v = .slice a n c := by
  unfold Value.okWide at h
  rw [ht] at h
  simp only [Cell.okWide, ht] at h
  cases v <;> simp [Cell.ok, ht] at h ⊢
end
end Go.Proofs.Ytonjglbachhdcaa

/-
  Bytes as arguments of laws.
-/
namespace Go.Proofs.Ytonjglbachhdcaa
open Go
set_option linter.all false
set_option linter.unusedVariables false
set_option linter.unusedSimpArgs false
set_option linter.defProp false
set_option maxRecDepth 1000000
theorem rd_u8 {P : Program} {t : TypeId} (ht : P.underlying t = some (.int .u8)) : RdT P t (BitVec 8) := by
  intro H enc W sp fuel cs x h hwt
  cases fuel with
  | zero => simp [DataW.trod] at h
  | succ n =>
    unfold DataW.trod at h
    rw [ht] at h
    split at h
    case h_2 k k' m h1 =>
      simp only [Option.some.injEq, TypeDesc.int.injEq] at h1
      subst h1
      split at h
      case isTrue hc =>
        obtain ⟨rfl, hw⟩ := hc
        have := bounds_u8 hw
        refine ⟨BitVec.ofNat 8 m.toNat, ?_⟩
        show _ = [Value.int .u8 ((BitVec.ofNat 8 m.toNat).toNat : Int)]
        have e : ((BitVec.ofNat 8 m.toNat).toNat : Int) = m := by
          rw [BitVec.toNat_ofNat, Nat.mod_eq_of_lt (by omega)]; omega
        rw [e]
      case isFalse => simp at h
    all_goals simp_all
end Go.Proofs.Ytonjglbachhdcaa

/-
  Bodies of functions in the small language, as a program printed them, and that each is what the translation gives.
-/
namespace Go.Proofs.Ytonjglbachhdcaa
open Go
set_option linter.all false
set_option linter.defProp false
set_option maxRecDepth 1000000

def H_laws_FnProjectStep : Hint := ⟨[(0, false), (2, false), (3, true), (4, false), (5, true), (6, true), (7, false), (8, true), (9, false), (10, true), (11, false), (12, false), (13, false), (14, false), (15, true), (16, false), (17, true), (18, false), (19, true), (20, false)], [[0, 1, 6, 7, 8, 10, 14, 15, 16, 17, 18, 19]]⟩
def K6_1 : C := .seq (.pl <| .st (.ext 20 0) <|
    .st (.act none (.px (some 1) (.mv (.c (.bool true))))) .done) (.ret)
@[simp] def W6_1 := @C.wpe _ _ K6_1.eq_1
def K6_2 : C := .pl <| .st (.ext 20 2) <|
    .st (.act none (.px (some 20) (.mv (.v 13)))) <|
    .st (.act none (.px (some 21) (.bin .add (.v 20) (.c (.int .i64 1))))) <|
    .st (.act none (.px (some 13) (.mv (.v 21)))) .done
@[simp] def W6_2 := @C.wpe _ _ K6_2.eq_1
def K6_3 : C := .seq (.pl <| .st (.ext 20 0) <|
    .st (.act none (.px (some 1) (.mv (.c (.bool false))))) .done) (.ret)
@[simp] def W6_3 := @C.wpe _ _ K6_3.eq_1
def K6_4 : C := .cond 20 (.v 46) K6_3 (.skip)
@[simp] def W6_4 := @C.wpe _ _ K6_4.eq_1
def K6_5 : Pl := .st (.act (some (.v 41, false)) (.px (some 45) (.un .not (.v 44)))) <|
    .st (.act none (.px (some 46) (.pick (.v 41) (.c (.bool true)) (.v 45)))) .done
@[simp] def W6_5 := @Pl.wpe _ _ K6_5.eq_1
def K6_6 : C := .seq (.pl <| .st (.ext 20 27) <|
    .st (.act none (.px (some 20) (.mv (.v 11)))) <|
    .st (.act none (.px (some 21) (.mv (.v 13)))) <|
    .st (.act none (.px (some 22) (.ia 4 (.v 20) (.v 21)))) <|
    .st (.act none (.ld (some 23) (.v 22) (some 4))) <|
    .st (.act none (.px (some 24) (.mv (.v 12)))) <|
    .st (.act none (.px (some 25) (.mv (.v 13)))) <|
    .st (.act none (.px (some 26) (.ia 4 (.v 24) (.v 25)))) <|
    .st (.act none (.ld (some 27) (.v 26) (some 4))) <|
    .st (.act none (.px (some 28) (.eqf true [.i, .i, .i, .i] (.v 23) (.v 27)))) <|
    .st (.act none (.px (some 29) (.mv (.v 28)))) <|
    .st (.act (some (.v 29, false)) (.px (some 30) (.mv (.v 15)))) <|
    .st (.act (some (.v 29, false)) (.px (some 31) (.un .not (.v 30)))) <|
    .st (.act none (.px (some 32) (.pick (.v 29) (.c (.bool true)) (.v 31)))) <|
    .st (.act none (.px (some 33) (.mv (.v 32)))) <|
    .st (.act (some (.v 33, false)) (.px (some 34) (.mv (.v 17)))) <|
    .st (.act (some (.v 33, false)) (.px (some 35) (.un .not (.v 34)))) <|
    .st (.act none (.px (some 36) (.pick (.v 33) (.c (.bool true)) (.v 35)))) <|
    .st (.act none (.px (some 37) (.mv (.v 36)))) <|
    .st (.act (some (.v 37, false)) (.px (some 38) (.mv (.v 19)))) <|
    .st (.act (some (.v 37, false)) (.px (some 39) (.un .not (.v 38)))) <|
    .st (.act none (.px (some 40) (.pick (.v 37) (.c (.bool true)) (.v 39)))) <|
    .st (.act none (.px (some 41) (.mv (.v 40)))) <|
    .st (.act (some (.v 41, false)) (.pget (some 42) none 16 0 (some 2))) <|
    .st (.act (some (.v 41, false)) (.pget (some 43) none 18 0 (some 2))) <|
    .st (.act (some (.v 41, false)) (.ex (some 44) (.call fn_impl_StateSame [.v 42, .v 43]))) K6_5) K6_4
@[simp] def W6_6 := @C.wpe _ _ K6_6.eq_1
def K6_7 : Pl := .st (.act none (.px (some 24) (.mv (.v 23)))) <|
    .st (.act none (.px (some 25) (.extract 0 (.v 24)))) <|
    .st (.act none (.px (some 26) (.extract 1 (.v 24)))) <|
    .st (.act none (.pnew 18 (.c (.agg #[.slice none 0 0, .slice none 0 0])) [])) <|
    .st (.act none (.pset none 18 0 2 (.v 25))) <|
    .st (.act none (.px (some 19) (.mv (.v 26)))) .done
@[simp] def W6_7 := @Pl.wpe _ _ K6_7.eq_1
def K6_8 : C := .seq (.pl <| .st (.ext 20 7) <|
    .st (.act none (.pget (some 20) none 2 0 (some 2))) <|
    .st (.act none (.px (some 21) (.mv (.v 3)))) <|
    .st (.act none (.pget (some 22) none 14 0 (some 2))) <|
    .st (.act none (.ex (some 23) (.call fn_impl_ProjectState [.v 20, .v 21, .v 22]))) K6_7) K6_6
@[simp] def W6_8 := @C.wpe _ _ K6_8.eq_1
def K6_9 : Pl := .st (.act none (.px (some 27) (.mv (.v 26)))) <|
    .st (.act none (.px (some 28) (.extract 0 (.v 27)))) <|
    .st (.act none (.px (some 29) (.extract 1 (.v 27)))) <|
    .st (.act none (.pset none 16 0 2 (.v 28))) <|
    .st (.act none (.px (some 17) (.mv (.v 29)))) .done
@[simp] def W6_9 := @Pl.wpe _ _ K6_9.eq_1
def K6_10 : C := .seq (.pl <| .st (.ext 20 10) <|
    .st (.act none (.pget (some 20) none 9 0 (some 2))) <|
    .st (.act none (.pget (some 21) none 5 0 (some 2))) <|
    .st (.act none (.px (some 22) (.mv (.v 12)))) <|
    .st (.act none (.px (some 23) (.mv (.v 13)))) <|
    .st (.act none (.px (some 24) (.ia 4 (.v 22) (.v 23)))) <|
    .st (.act none (.ld (some 25) (.v 24) (some 4))) <|
    .st (.act none (.pnew 16 (.c (.agg #[.slice none 0 0, .slice none 0 0])) [])) <|
    .st (.act none (.ex (some 26) (.call fn_impl_ApplyStep [.v 20, .v 21, .v 25]))) K6_9) K6_8
@[simp] def W6_10 := @C.wpe _ _ K6_10.eq_1
def K6_11 : Pl := .st (.act none (.px (some 27) (.mv (.v 26)))) <|
    .st (.act none (.px (some 28) (.extract 0 (.v 27)))) <|
    .st (.act none (.px (some 29) (.extract 1 (.v 27)))) <|
    .st (.act none (.pset none 14 0 2 (.v 28))) <|
    .st (.act none (.px (some 15) (.mv (.v 29)))) .done
@[simp] def W6_11 := @Pl.wpe _ _ K6_11.eq_1
def K6_12 : C := .seq (.block 1 (.seq (.pl <| .st (.ext 20 10) <|
    .st (.act none (.pget (some 20) none 2 0 (some 2))) <|
    .st (.act none (.pget (some 21) none 4 0 (some 2))) <|
    .st (.act none (.px (some 22) (.mv (.v 11)))) <|
    .st (.act none (.px (some 23) (.mv (.v 13)))) <|
    .st (.act none (.px (some 24) (.ia 4 (.v 22) (.v 23)))) <|
    .st (.act none (.ld (some 25) (.v 24) (some 4))) <|
    .st (.act none (.pnew 14 (.c (.agg #[.slice none 0 0, .slice none 0 0])) [])) <|
    .st (.act none (.ex (some 26) (.call fn_impl_ApplyStep [.v 20, .v 21, .v 25]))) K6_11) K6_10)) K6_2
@[simp] def W6_12 := @C.wpe _ _ K6_12.eq_1
def K6_13 : C := .cond 20 (.v 23) (.skip) (.exit 0)
@[simp] def W6_13 := @C.wpe _ _ K6_13.eq_1
def K6_14 : C := .seq (.seq (.pl <| .st (.ext 20 4) <|
    .st (.act none (.px (some 20) (.mv (.v 13)))) <|
    .st (.act none (.px (some 21) (.mv (.v 11)))) <|
    .st (.act none (.px (some 22) (.lenV (.v 21)))) <|
    .st (.act none (.px (some 23) (.bin .lss (.v 20) (.v 22)))) .done) K6_13) K6_12
@[simp] def W6_14 := @C.wpe _ _ K6_14.eq_1
def K6_15 : C := .block 0 (.loop 20 [0, 1, 6, 7, 8, 10, 14, 15, 16, 17, 18, 19] K6_14)
@[simp] def W6_15 := @C.wpe _ _ K6_15.eq_1
def K6_16 : C := .seq (.seq (.pl <| .st (.ext 20 0) <|
    .st (.act none (.px (some 13) (.mv (.c (.int .i64 0))))) .done) K6_15) K6_1
@[simp] def W6_16 := @C.wpe _ _ K6_16.eq_1
def K6_17 : C := .seq (.pl <| .st (.ext 20 0) <|
    .st (.act none (.px (some 1) (.mv (.c (.bool false))))) .done) (.ret)
@[simp] def W6_17 := @C.wpe _ _ K6_17.eq_1
def K6_18 : C := .cond 20 (.v 28) K6_17 (.skip)
@[simp] def W6_18 := @C.wpe _ _ K6_18.eq_1
def K6_19 : C := .seq (.seq (.pl <| .st (.ext 20 9) <|
    .st (.act none (.px (some 20) (.mv (.v 10)))) <|
    .st (.act none (.px (some 21) (.un .not (.v 20)))) <|
    .st (.act none (.px (some 22) (.mv (.v 21)))) <|
    .st (.act (some (.v 22, false)) (.px (some 23) (.mv (.v 11)))) <|
    .st (.act (some (.v 22, false)) (.px (some 24) (.lenV (.v 23)))) <|
    .st (.act (some (.v 22, false)) (.px (some 25) (.mv (.v 12)))) <|
    .st (.act (some (.v 22, false)) (.px (some 26) (.lenV (.v 25)))) <|
    .st (.act (some (.v 22, false)) (.px (some 27) (.bin .neq (.v 24) (.v 26)))) <|
    .st (.act none (.px (some 28) (.pick (.v 22) (.c (.bool true)) (.v 27)))) .done) K6_18) K6_16
@[simp] def W6_19 := @C.wpe _ _ K6_19.eq_1
def K6_20 : Pl := .st (.act none (.px (some 12) (.mv (.v 22)))) .done
@[simp] def W6_20 := @Pl.wpe _ _ K6_20.eq_1
def K6_21 : C := .seq (.pl <| .st (.ext 20 3) <|
    .st (.act none (.pget (some 20) none 9 0 (some 2))) <|
    .st (.act none (.pget (some 21) none 5 0 (some 2))) <|
    .st (.act none (.ex (some 22) (.call fn_impl_EnabledSteps [.v 20, .v 21]))) K6_20) K6_19
@[simp] def W6_21 := @C.wpe _ _ K6_21.eq_1
def K6_22 : Pl := .st (.act none (.px (some 11) (.mv (.v 22)))) .done
@[simp] def W6_22 := @Pl.wpe _ _ K6_22.eq_1
def K6_23 : C := .seq (.pl <| .st (.ext 20 3) <|
    .st (.act none (.pget (some 20) none 2 0 (some 2))) <|
    .st (.act none (.pget (some 21) none 4 0 (some 2))) <|
    .st (.act none (.ex (some 22) (.call fn_impl_EnabledSteps [.v 20, .v 21]))) K6_22) K6_21
@[simp] def W6_23 := @C.wpe _ _ K6_23.eq_1
def K6_24 : Pl := .st (.act none (.px (some 23) (.mv (.v 22)))) <|
    .st (.act none (.px (some 24) (.extract 0 (.v 23)))) <|
    .st (.act none (.px (some 25) (.extract 1 (.v 23)))) <|
    .st (.act none (.pnew 9 (.c (.agg #[.slice none 0 0, .slice none 0 0])) [])) <|
    .st (.act none (.pset none 9 0 2 (.v 24))) <|
    .st (.act none (.px (some 10) (.mv (.v 25)))) .done
@[simp] def W6_24 := @Pl.wpe _ _ K6_24.eq_1
def K6_25 : C := .seq (.pl <| .st (.ext 20 6) <|
    .st (.act none (.pget (some 20) none 2 0 (some 2))) <|
    .st (.act none (.px (some 21) (.mv (.v 3)))) <|
    .st (.act none (.ex (some 22) (.call fn_impl_SliceSystem [.v 20, .v 21]))) K6_24) K6_23
@[simp] def W6_25 := @C.wpe _ _ K6_25.eq_1
def K6_26 : Pl := .st (.act none (.px (some 27) (.pick (.v 23) (.v 26) (.c (.bool false))))) <|
    .st (.act none (.px (some 1) (.mv (.v 27)))) .done
@[simp] def W6_26 := @Pl.wpe _ _ K6_26.eq_1
def K6_27 : C := .seq (.pl <| .st (.ext 20 8) <|
    .st (.act none (.px (some 20) (.mv (.v 6)))) <|
    .st (.act none (.px (some 21) (.mv (.v 8)))) <|
    .st (.act none (.px (some 22) (.eqb false (.v 20) (.v 21)))) <|
    .st (.act none (.px (some 23) (.mv (.v 22)))) <|
    .st (.act (some (.v 23, true)) (.pget (some 24) none 5 0 (some 2))) <|
    .st (.act (some (.v 23, true)) (.pget (some 25) none 7 0 (some 2))) <|
    .st (.act (some (.v 23, true)) (.ex (some 26) (.call fn_impl_StateSame [.v 24, .v 25]))) K6_26) (.ret)
@[simp] def W6_27 := @C.wpe _ _ K6_27.eq_1
def K6_28 : C := .cond 20 (.v 32) K6_27 (.skip)
@[simp] def W6_28 := @C.wpe _ _ K6_28.eq_1
def K6_29 : Pl := .st (.act (some (.v 23, false)) (.px (some 27) (.un .not (.v 26)))) <|
    .st (.act none (.px (some 28) (.pick (.v 23) (.c (.bool true)) (.v 27)))) <|
    .st (.act none (.px (some 29) (.mv (.v 28)))) <|
    .st (.act (some (.v 29, false)) (.px (some 30) (.mv (.v 6)))) <|
    .st (.act (some (.v 29, false)) (.px (some 31) (.un .not (.v 30)))) <|
    .st (.act none (.px (some 32) (.pick (.v 29) (.c (.bool true)) (.v 31)))) .done
@[simp] def W6_29 := @Pl.wpe _ _ K6_29.eq_1
def K6_30 : C := .seq (.seq (.pl <| .st (.ext 20 13) <|
    .st (.act none (.px (some 20) (.mv (.v 6)))) <|
    .st (.act none (.px (some 21) (.mv (.v 8)))) <|
    .st (.act none (.px (some 22) (.eqb true (.v 20) (.v 21)))) <|
    .st (.act none (.px (some 23) (.mv (.v 22)))) <|
    .st (.act (some (.v 23, false)) (.pget (some 24) none 5 0 (some 2))) <|
    .st (.act (some (.v 23, false)) (.pget (some 25) none 7 0 (some 2))) <|
    .st (.act (some (.v 23, false)) (.ex (some 26) (.call fn_impl_StateSame [.v 24, .v 25]))) K6_29) K6_28) K6_25
@[simp] def W6_30 := @C.wpe _ _ K6_30.eq_1
def K6_31 : Pl := .st (.act none (.px (some 24) (.mv (.v 23)))) <|
    .st (.act none (.px (some 25) (.extract 0 (.v 24)))) <|
    .st (.act none (.px (some 26) (.extract 1 (.v 24)))) <|
    .st (.act none (.pnew 7 (.c (.agg #[.slice none 0 0, .slice none 0 0])) [])) <|
    .st (.act none (.pset none 7 0 2 (.v 25))) <|
    .st (.act none (.px (some 8) (.mv (.v 26)))) .done
@[simp] def W6_31 := @Pl.wpe _ _ K6_31.eq_1
def K6_32 : C := .seq (.pl <| .st (.ext 20 7) <|
    .st (.act none (.pget (some 20) none 2 0 (some 2))) <|
    .st (.act none (.px (some 21) (.mv (.v 3)))) <|
    .st (.act none (.pget (some 22) none 4 0 (some 2))) <|
    .st (.act none (.ex (some 23) (.call fn_spec_ProjectState [.v 20, .v 21, .v 22]))) K6_31) K6_30
@[simp] def W6_32 := @C.wpe _ _ K6_32.eq_1
def K6_33 : Pl := .st (.act none (.px (some 24) (.mv (.v 23)))) <|
    .st (.act none (.px (some 25) (.extract 0 (.v 24)))) <|
    .st (.act none (.px (some 26) (.extract 1 (.v 24)))) <|
    .st (.act none (.pnew 5 (.c (.agg #[.slice none 0 0, .slice none 0 0])) [])) <|
    .st (.act none (.pset none 5 0 2 (.v 25))) <|
    .st (.act none (.px (some 6) (.mv (.v 26)))) .done
@[simp] def W6_33 := @Pl.wpe _ _ K6_33.eq_1
def K6_34 : C := .seq (.pl <| .st (.ext 20 7) <|
    .st (.act none (.pget (some 20) none 2 0 (some 2))) <|
    .st (.act none (.px (some 21) (.mv (.v 3)))) <|
    .st (.act none (.pget (some 22) none 4 0 (some 2))) <|
    .st (.act none (.ex (some 23) (.call fn_impl_ProjectState [.v 20, .v 21, .v 22]))) K6_33) K6_32
@[simp] def W6_34 := @C.wpe _ _ K6_34.eq_1
def K6_35 : Pl := .st (.act none (.px (some 22) (.mv (.v 21)))) <|
    .st (.act none (.px (some 23) (.extract 0 (.v 22)))) <|
    .st (.act none (.px (some 24) (.extract 1 (.v 22)))) <|
    .st (.act none (.px (some 25) (.extract 2 (.v 22)))) <|
    .st (.act none (.pnew 2 (.c (.agg #[.slice none 0 0, .slice none 0 0])) [])) <|
    .st (.act none (.pnew 4 (.c (.agg #[.slice none 0 0, .slice none 0 0])) [])) <|
    .st (.act none (.pset none 2 0 2 (.v 23))) <|
    .st (.act none (.px (some 3) (.mv (.v 24)))) <|
    .st (.act none (.pset none 4 0 2 (.v 25))) .done
@[simp] def W6_35 := @Pl.wpe _ _ K6_35.eq_1
def K6_36 : C := .seq (.pl <| .st (.ext 20 6) <|
    .st (.act none (.px (some 20) (.mv (.v 0)))) <|
    .st (.act none (.ex (some 21) (.call fn_spec_DrawProjectState [.v 20]))) K6_35) K6_34
@[simp] def W6_36 := @C.wpe _ _ K6_36.eq_1
def K6_37 : C := .seq (.pl <| .st (.ext 20 0) <|
    .st (.act none (.px (some 1) (.mv (.c (.bool true))))) .done) (.ret)
@[simp] def W6_37 := @C.wpe _ _ K6_37.eq_1
def K6_38 : C := .cond 20 (.v 22) K6_37 (.skip)
@[simp] def W6_38 := @C.wpe _ _ K6_38.eq_1
def K6_39 : C := .seq (.seq (.pl <| .st (.ext 20 3) <|
    .st (.act none (.px (some 20) (.mv (.v 0)))) <|
    .st (.act none (.px (some 21) (.lenV (.v 20)))) <|
    .st (.act none (.px (some 22) (.bin .gtr (.v 21) (.c (.int .i64 1048576))))) .done) K6_38) K6_36
@[simp] def W6_39 := @C.wpe _ _ K6_39.eq_1
def B_laws_FnProjectStep : C := .seq (.pl <| .st (.ext 20 0) <|
    .st (.act none (.px (some 1) (.mv (.c (.bool false))))) .done) K6_39
@[simp] def WB_laws_FnProjectStep := @C.wpe _ _ B_laws_FnProjectStep.eq_1
def R_laws_FnProjectStep : FIR := ⟨B_laws_FnProjectStep, 20, [(1, none)]⟩
theorem IR_laws_FnProjectStep : cfun Try.prog H_laws_FnProjectStep Try.f6 = some R_laws_FnProjectStep := by kernel_rfl
theorem EN_laws_FnProjectStep {args : List Value} {h : Heap} {k : Value → Heap → Prop} (hargs : args.length = 1) (hw : B_laws_FnProjectStep.wp Try.prog (retQ [(1, none)] k) (env0 args 20) h) : CallE Try.prog fn_laws_FnProjectStep args h k := enter Try.func6 rfl IR_laws_FnProjectStep hargs hw


end Go.Proofs.Ytonjglbachhdcaa

/-
  Bodies of functions in the small language, as a program printed them, and that each is what the translation gives.
-/
namespace Go.Proofs.Ytonjglbachhdcaa
open Go
set_option linter.all false
set_option linter.defProp false
set_option maxRecDepth 1000000

def H_spec_DrawProjectState : Hint := ⟨[(0, false), (2, true), (3, false), (4, true), (5, false), (6, false), (7, true), (8, true)], []⟩
def K20_1 : Pl := .st (.act none (.pset none 1 0 2 (.v 10))) <|
    .st (.act none (.px (some 2) (.mv (.v 11)))) <|
    .st (.act none (.pset none 3 0 2 (.v 12))) .done
@[simp] def W20_1 := @Pl.wpe _ _ K20_1.eq_1
def K20_2 : C := .seq (.pl <| .st (.ext 8 5) <|
    .st (.act none (.px (some 8) (.mv (.v 4)))) <|
    .st (.act none (.pget (some 9) none 6 0 (some 2))) <|
    .st (.act none (.px (some 11) (.mv (.v 5)))) <|
    .st (.act none (.pget (some 12) none 7 0 (some 2))) <|
    .st (.act none (.ex (some 10) (.call fn_spec_l2Mutate [.v 8, .v 9]))) K20_1) (.ret)
@[simp] def W20_2 := @C.wpe _ _ K20_2.eq_1
def K20_3 : Pl := .st (.act none (.pnew 7 (.c (.agg #[.slice none 0 0, .slice none 0 0])) [])) <|
    .st (.act none (.pset none 7 0 2 (.v 12))) .done
@[simp] def W20_3 := @Pl.wpe _ _ K20_3.eq_1
def K20_4 : Pl := .st (.act none (.ex (some 12) (.call fn_spec_l3Mutate [.v 8, .v 11]))) K20_3
@[simp] def W20_4 := @Pl.wpe _ _ K20_4.eq_1
def K20_5 : C := .seq (.pl <| .st (.ext 8 5) <|
    .st (.act none (.px (some 8) (.mv (.v 4)))) <|
    .st (.act none (.px (some 9) (.mv (.v 4)))) <|
    .st (.act none (.pget (some 10) none 6 0 (some 2))) <|
    .st (.act none (.ex (some 11) (.call fn_spec_l3State [.v 9, .v 10]))) K20_4) K20_2
@[simp] def W20_5 := @C.wpe _ _ K20_5.eq_1
def K20_6 : Pl := .st (.act none (.pnew 6 (.c (.agg #[.slice none 0 0, .slice none 0 0])) [])) <|
    .st (.act none (.pset none 6 0 2 (.v 9))) .done
@[simp] def W20_6 := @Pl.wpe _ _ K20_6.eq_1
def K20_7 : C := .seq (.pl <| .st (.ext 8 2) <|
    .st (.act none (.px (some 8) (.mv (.v 4)))) <|
    .st (.act none (.ex (some 9) (.call fn_spec_l14System [.v 8]))) K20_6) K20_5
@[simp] def W20_7 := @C.wpe _ _ K20_7.eq_1
def K20_8 : Pl := .st (.act none (.px (some 5) (.mv (.v 9)))) .done
@[simp] def W20_8 := @Pl.wpe _ _ K20_8.eq_1
def K20_9 : C := .seq (.pl <| .st (.ext 8 2) <|
    .st (.act none (.px (some 8) (.mv (.v 4)))) <|
    .st (.act none (.ex (some 9) (.call fn_spec_l14Labels [.v 8]))) K20_8) K20_7
@[simp] def W20_9 := @C.wpe _ _ K20_9.eq_1
def K20_10 : Pl := .st (.act none (.px (some 4) (.mv (.v 9)))) .done
@[simp] def W20_10 := @Pl.wpe _ _ K20_10.eq_1
def K20_11 : C := .seq (.pl <| .st (.ext 8 2) <|
    .st (.act none (.px (some 8) (.mv (.v 0)))) <|
    .st (.act none (.ex (some 9) (.call fn_spec_l16Open [.v 8]))) K20_10) K20_9
@[simp] def W20_11 := @C.wpe _ _ K20_11.eq_1
def B_spec_DrawProjectState : C := .seq (.pl <| .st (.ext 8 0) <|
    .st (.act none (.pnew 1 (.c (.agg #[.slice none 0 0, .slice none 0 0])) [])) <|
    .st (.act none (.px (some 2) (.mv (.c (.slice none 0 0))))) <|
    .st (.act none (.pnew 3 (.c (.agg #[.slice none 0 0, .slice none 0 0])) [])) .done) K20_11
@[simp] def WB_spec_DrawProjectState := @C.wpe _ _ B_spec_DrawProjectState.eq_1
def R_spec_DrawProjectState : FIR := ⟨B_spec_DrawProjectState, 8, [(1, some (some 2)), (2, none), (3, some (some 2))]⟩
theorem IR_spec_DrawProjectState : cfun Try.prog H_spec_DrawProjectState Try.f20 = some R_spec_DrawProjectState := by kernel_rfl
theorem EN_spec_DrawProjectState {args : List Value} {h : Heap} {k : Value → Heap → Prop} (hargs : args.length = 1) (hw : B_spec_DrawProjectState.wp Try.prog (retQ [(1, some (some 2)), (2, none), (3, some (some 2))] k) (env0 args 8) h) : CallE Try.prog fn_spec_DrawProjectState args h k := enter Try.func20 rfl IR_spec_DrawProjectState hargs hw

def H_spec_ProjectState : Hint := ⟨[(0, false), (1, false), (2, false), (3, true), (5, true), (6, true), (7, false), (8, false), (9, false), (10, true), (11, false)], [[0, 1, 2, 4, 6, 8]]⟩
def K22_1 : C := .seq (.pl <| .st (.ext 11 1) <|
    .st (.act none (.pget (some 11) none 9 0 (some 2))) <|
    .st (.act none (.pset none 5 0 2 (.v 11))) <|
    .st (.act none (.px (some 6) (.mv (.c (.bool true))))) .done) (.ret)
@[simp] def W22_1 := @C.wpe _ _ K22_1.eq_1
def K22_2 : C := .pl <| .st (.ext 11 2) <|
    .st (.act none (.px (some 11) (.mv (.v 10)))) <|
    .st (.act none (.px (some 12) (.bin .add (.v 11) (.c (.int .i64 1))))) <|
    .st (.act none (.px (some 10) (.mv (.v 12)))) .done
@[simp] def W22_2 := @C.wpe _ _ K22_2.eq_1
def K22_3 : C := .pl <| .st (.ext 11 9) <|
    .st (.act none (.als 11 none 9)) <|
    .st (.act none (.pget (some 12) (some 11) 9 1 none)) <|
    .st (.act none (.px (some 13) (.mv (.v 10)))) <|
    .st (.act none (.als 14 none 3)) <|
    .st (.act none (.pget (some 15) (some 14) 3 0 none)) <|
    .st (.act none (.px (some 16) (.mv (.v 10)))) <|
    .st (.act none (.px (some 17) (.ia 1 (.v 15) (.v 16)))) <|
    .st (.act none (.ld (some 18) (.v 17) none)) <|
    .st (.act none (.px (some 19) (.ia 1 (.v 12) (.v 13)))) <|
    .st (.act none (.ex none (.store 1 (.v 19) (.v 18)))) .done
@[simp] def W22_3 := @C.wpe _ _ K22_3.eq_1
def K22_4 : C := .cond 11 (.v 15) K22_3 (.skip)
@[simp] def W22_4 := @C.wpe _ _ K22_4.eq_1
def K22_5 : C := .seq (.block 1 (.seq (.pl <| .st (.ext 11 5) <|
    .st (.act none (.px (some 11) (.mv (.v 7)))) <|
    .st (.act none (.px (some 12) (.mv (.v 10)))) <|
    .st (.act none (.px (some 13) (.ia 1 (.v 11) (.v 12)))) <|
    .st (.act none (.ld (some 14) (.v 13) none)) <|
    .st (.act none (.px (some 15) (.un .not (.v 14)))) .done) K22_4)) K22_2
@[simp] def W22_5 := @C.wpe _ _ K22_5.eq_1
def K22_6 : C := .cond 11 (.v 15) (.skip) (.exit 0)
@[simp] def W22_6 := @C.wpe _ _ K22_6.eq_1
def K22_7 : C := .seq (.seq (.pl <| .st (.ext 11 5) <|
    .st (.act none (.px (some 11) (.mv (.v 10)))) <|
    .st (.act none (.als 12 none 9)) <|
    .st (.act none (.pget (some 13) (some 12) 9 1 none)) <|
    .st (.act none (.px (some 14) (.lenV (.v 13)))) <|
    .st (.act none (.px (some 15) (.bin .lss (.v 11) (.v 14)))) .done) K22_6) K22_5
@[simp] def W22_7 := @C.wpe _ _ K22_7.eq_1
def K22_8 : C := .block 0 (.loop 11 [0, 1, 2, 4, 6, 8] K22_7)
@[simp] def W22_8 := @C.wpe _ _ K22_8.eq_1
def K22_9 : C := .seq (.seq (.pl <| .st (.ext 11 0) <|
    .st (.act none (.px (some 10) (.mv (.c (.int .i64 0))))) .done) K22_8) K22_1
@[simp] def W22_9 := @C.wpe _ _ K22_9.eq_1
def K22_10 : Pl := .st (.act none (.px (some 19) (.build [.slice none 0 0, .slice none 0 0] [(0, 1, .v 14), (1, 1, .v 18)]))) <|
    .st (.act none (.pset none 9 0 2 (.v 19))) .done
@[simp] def W22_10 := @Pl.wpe _ _ K22_10.eq_1
def K22_11 : Pl := .st (.act none (.ex (some 18) (.app 8 1 [.int .i64 0] (.p 0 15) (.o (.v 17))))) K22_10
@[simp] def W22_11 := @Pl.wpe _ _ K22_11.eq_1
def K22_12 : C := .seq (.pl <| .st (.ext 11 9) <|
    .st (.act none (.psl 11 [] [])) <|
    .st (.act none (.als 12 none 4)) <|
    .st (.act none (.pget (some 13) (some 12) 4 0 none)) <|
    .st (.act none (.psl 15 [] [])) <|
    .st (.act none (.als 16 none 4)) <|
    .st (.act none (.pget (some 17) (some 16) 4 1 none)) <|
    .st (.act none (.pnew 9 (.c (.agg #[.slice none 0 0, .slice none 0 0])) [])) <|
    .st (.act none (.ex (some 14) (.app 8 1 [.int .i64 0] (.p 0 11) (.o (.v 13))))) K22_11) K22_9
@[simp] def W22_12 := @C.wpe _ _ K22_12.eq_1
def K22_13 : C := .seq (.pl <| .st (.ext 11 1) <|
    .st (.act none (.px (some 11) (.build [.slice none 0 0, .slice none 0 0] []))) <|
    .st (.act none (.pset none 5 0 2 (.v 11))) <|
    .st (.act none (.px (some 6) (.mv (.c (.bool false))))) .done) (.ret)
@[simp] def W22_13 := @C.wpe _ _ K22_13.eq_1
def K22_14 : C := .cond 11 (.v 18) K22_13 (.skip)
@[simp] def W22_14 := @C.wpe _ _ K22_14.eq_1
def K22_15 : Pl := .st (.act (some (.v 13, false)) (.px (some 17) (.un .not (.v 16)))) <|
    .st (.act none (.px (some 18) (.pick (.v 13) (.c (.bool true)) (.v 17)))) .done
@[simp] def W22_15 := @Pl.wpe _ _ K22_15.eq_1
def K22_16 : C := .seq (.seq (.pl <| .st (.ext 11 8) <|
    .st (.act none (.px (some 11) (.mv (.v 8)))) <|
    .st (.act none (.px (some 12) (.un .not (.v 11)))) <|
    .st (.act none (.px (some 13) (.mv (.v 12)))) <|
    .st (.act (some (.v 13, false)) (.pget (some 14) none 3 0 (some 2))) <|
    .st (.act (some (.v 13, false)) (.pget (some 15) none 4 0 (some 2))) <|
    .st (.act (some (.v 13, false)) (.ex (some 16) (.call fn_spec_StateValid [.v 14, .v 15]))) K22_15) K22_14) K22_12
@[simp] def W22_16 := @C.wpe _ _ K22_16.eq_1
def K22_17 : Pl := .st (.act none (.px (some 14) (.mv (.v 13)))) <|
    .st (.act none (.px (some 15) (.extract 0 (.v 14)))) <|
    .st (.act none (.px (some 16) (.extract 1 (.v 14)))) <|
    .st (.act none (.px (some 7) (.mv (.v 15)))) <|
    .st (.act none (.px (some 8) (.mv (.v 16)))) .done
@[simp] def W22_17 := @Pl.wpe _ _ K22_17.eq_1
def K22_18 : C := .seq (.pl <| .st (.ext 11 6) <|
    .st (.act none (.pget (some 11) none 3 0 (some 2))) <|
    .st (.act none (.px (some 12) (.mv (.v 1)))) <|
    .st (.act none (.ex (some 13) (.call fn_spec_RelevantVars [.v 11, .v 12]))) K22_17) K22_16
@[simp] def W22_18 := @C.wpe _ _ K22_18.eq_1
def B_spec_ProjectState : C := .seq (.pl <| .st (.ext 11 0) <|
    .st (.act none (.pnew 3 (.v 0) [])) <|
    .st (.act none (.pnew 4 (.v 2) [])) <|
    .st (.act none (.pnew 5 (.c (.agg #[.slice none 0 0, .slice none 0 0])) [])) <|
    .st (.act none (.px (some 6) (.mv (.c (.bool false))))) .done) K22_18
@[simp] def WB_spec_ProjectState := @C.wpe _ _ B_spec_ProjectState.eq_1
def R_spec_ProjectState : FIR := ⟨B_spec_ProjectState, 11, [(5, some (some 2)), (6, none)]⟩
theorem IR_spec_ProjectState : cfun Try.prog H_spec_ProjectState Try.f22 = some R_spec_ProjectState := by kernel_rfl
theorem EN_spec_ProjectState {args : List Value} {h : Heap} {k : Value → Heap → Prop} (hargs : args.length = 3) (hw : B_spec_ProjectState.wp Try.prog (retQ [(5, some (some 2)), (6, none)] k) (env0 args 11) h) : CallE Try.prog fn_spec_ProjectState args h k := enter Try.func22 rfl IR_spec_ProjectState hargs hw


end Go.Proofs.Ytonjglbachhdcaa

/-
  Bodies of functions in the small language, as a program printed them, and that each is what the translation gives.
-/
namespace Go.Proofs.Ytonjglbachhdcaa
open Go
set_option linter.all false
set_option linter.defProp false
set_option maxRecDepth 1000000

end Go.Proofs.Ytonjglbachhdcaa

/-
  Bodies of functions in the small language, as a program printed them, and that each is what the translation gives.
-/
namespace Go.Proofs.Ytonjglbachhdcaa
open Go
set_option linter.all false
set_option linter.defProp false
set_option maxRecDepth 1000000

end Go.Proofs.Ytonjglbachhdcaa

/-
  Arguments of laws: expressions that are drawn.
-/
namespace Go.Proofs.Ytonjglbachhdcaa
open Go
set_option linter.all false
set_option linter.unusedVariables false
set_option linter.unusedSimpArgs false
set_option linter.defProp false
set_option maxRecDepth 1000000

theorem okL {xs : List Int} (h : ∀ x ∈ xs, -9223372036854775808 ≤ x ∧ x < 9223372036854775808) : ∀ x ∈ xs, Flat.ok x := h
theorem Exq.nods_append : ∀ {l l2 : List Exq}, Exq.nods (l ++ l2) = Exq.nods l + Exq.nods l2
  | [], _ => by simp [Exq.nods]
  | x :: l, l2 => by simp [Exq.nods, Exq.nods_append (l := l) (l2 := l2)]; omega
theorem Exq.arity_le {k : Int} : Exq.arity k ≤ 2 := by
  unfold Exq.arity; repeat' split
  all_goals omega
theorem Exq.arity_ge {k : Int} : -1 ≤ Exq.arity k := by
  unfold Exq.arity; repeat' split
  all_goals omega

theorem c_l1Random {b : Nat} {sl : Value} {l : List (BitVec 8)} : ∀ (d : Nat), d ≤ 4 → ∀ {g h : Heap} {Γ : List HP} {p : Int}, Rep g sl l → HS g (rb b sl p :: Γ) h → 0 ≤ p → p + 4 * (2 ^ d : Nat) ≤ 1000000000000 →
    CallE Try.prog fn_spec_l1Random [.pointer (some ⟨b, 0, none⟩), .int .i64 d] h (fun u h' => ∃ (y : Exq) (p' : Int), HS g (ow u y :: rb b sl p' :: Γ) h' ∧ y.nod < 2 ^ (d + 1) ∧ p ≤ p' ∧ p' ≤ p + (4 * (2 ^ d : Nat) - 2)) := by
  intro d
  induction d with
  | zero =>
    intro _ g h Γ p R H hp hp2
    refine CallE.gen fun k hk => EN_spec_l1Random rfl ?_
    simp -implicitDefEqProofs (disch := first | omega | (simp only [List.length_set, List.length_replicate, List.length_append, List.length_map, List.length_take, List.length_cons, List.length_nil]; omega)) [wrap64]
    refine (c_pick R H (by omega) (by omega) ⟨by decide, by decide⟩).go ?_
    rintro _ hL1 ⟨r1, rfl, o1, z1, y1, H⟩
    by_cases c1 : r1 = 0
    · simp -implicitDefEqProofs (disch := first | omega | (simp only [List.length_set, List.length_replicate, List.length_append, List.length_map, List.length_take, List.length_cons, List.length_nil]; omega)) [wrap64, c1]
      refine (c_pick R H (by omega) (by omega) ⟨by decide, by decide⟩).go ?_
      rintro _ hL2 ⟨r2, rfl, o2, z2, y2, H⟩
      simp -implicitDefEqProofs (disch := first | omega | (simp only [List.length_set, List.length_replicate, List.length_append, List.length_map, List.length_take, List.length_cons, List.length_nil]; omega)) [wrap64, setC]
      exact RetK.keep (hk _ _ ⟨Exq.mk 1 r2 [], _, HS.mkExq' H.nil_ow ⟨by decide, by decide⟩ o2, by simp [Exq.nod, Exq.nods] <;> omega, by omega, by omega⟩)
    · simp -implicitDefEqProofs (disch := first | omega | (simp only [List.length_set, List.length_replicate, List.length_append, List.length_map, List.length_take, List.length_cons, List.length_nil]; omega)) [wrap64, c1]
      refine H.bls [(0 : Int), 1, 0, 2] rfl rfl (okL (by decide)) (by decide) fun v hL2 H => ?_
      simp -implicitDefEqProofs (disch := first | omega | (simp only [List.length_set, List.length_replicate, List.length_append, List.length_map, List.length_take, List.length_cons, List.length_nil]; omega)) [wrap64]
      refine (c_num R H (by omega) (by omega) (by simp)).go ?_
      rintro _ hL3 ⟨r2, rfl, o2, _, H⟩
      simp -implicitDefEqProofs (disch := first | omega | (simp only [List.length_set, List.length_replicate, List.length_append, List.length_map, List.length_take, List.length_cons, List.length_nil]; omega)) [wrap64, setC]
      exact RetK.keep (hk _ _ ⟨Exq.mk 2 r2 [], _, HS.mkExq' H.nil_ow ⟨by decide, by decide⟩ o2, by simp [Exq.nod, Exq.nods] <;> omega, by omega, by omega⟩)
  | succ d ih =>
    intro hd g h Γ p R H hp hp2
    have hq0 : 2 ^ (d + 1) = 2 * 2 ^ d := by rw [Nat.pow_succ]; omega
    have hq1 : 2 ^ (d + 1 + 1) = 4 * 2 ^ d := by rw [Nat.pow_succ, Nat.pow_succ]; omega
    have hqp : 0 < 2 ^ d := Nat.two_pow_pos d
    refine CallE.gen fun k hk => EN_spec_l1Random rfl ?_
    rw [hq0, hq1] at hk
    rw [hq0] at ih
    generalize hQ : 2 ^ d = q at *
    by_cases h2 : d = 0
    · simp -implicitDefEqProofs (disch := first | omega | (simp only [List.length_set, List.length_replicate, List.length_append, List.length_map, List.length_take, List.length_cons, List.length_nil]; omega)) [wrap64, h2]
      refine (c_pick R H (by omega) (by omega) ⟨by decide, by decide⟩).go ?_
      rintro _ hL1 ⟨r1, rfl, o1, z1, y1, H⟩
      by_cases c1 : r1 = 0
      · simp -implicitDefEqProofs (disch := first | omega | (simp only [List.length_set, List.length_replicate, List.length_append, List.length_map, List.length_take, List.length_cons, List.length_nil]; omega)) [wrap64, c1]
        refine (c_pick R H (by omega) (by omega) ⟨by decide, by decide⟩).go ?_
        rintro _ hL2 ⟨r2, rfl, o2, z2, y2, H⟩
        simp -implicitDefEqProofs (disch := first | omega | (simp only [List.length_set, List.length_replicate, List.length_append, List.length_map, List.length_take, List.length_cons, List.length_nil]; omega)) [wrap64, setC]
        exact RetK.keep (hk _ _ ⟨Exq.mk 1 r2 [], _, HS.mkExq' H.nil_ow ⟨by decide, by decide⟩ o2, by simp [Exq.nod, Exq.nods] <;> omega, by omega, by omega⟩)
      · simp -implicitDefEqProofs (disch := first | omega | (simp only [List.length_set, List.length_replicate, List.length_append, List.length_map, List.length_take, List.length_cons, List.length_nil]; omega)) [wrap64, c1]
        refine H.bls [(0 : Int), 1, 0, 2] rfl rfl (okL (by decide)) (by decide) fun v hL2 H => ?_
        simp -implicitDefEqProofs (disch := first | omega | (simp only [List.length_set, List.length_replicate, List.length_append, List.length_map, List.length_take, List.length_cons, List.length_nil]; omega)) [wrap64]
        refine (c_num R H (by omega) (by omega) (by simp)).go ?_
        rintro _ hL3 ⟨r2, rfl, o2, _, H⟩
        simp -implicitDefEqProofs (disch := first | omega | (simp only [List.length_set, List.length_replicate, List.length_append, List.length_map, List.length_take, List.length_cons, List.length_nil]; omega)) [wrap64, setC]
        exact RetK.keep (hk _ _ ⟨Exq.mk 2 r2 [], _, HS.mkExq' H.nil_ow ⟨by decide, by decide⟩ o2, by simp [Exq.nod, Exq.nods] <;> omega, by omega, by omega⟩)
    · have h3 : ¬ ((d : Int) + 1 < 2) := by omega
      simp -implicitDefEqProofs (disch := first | omega | (simp only [List.length_set, List.length_replicate, List.length_append, List.length_map, List.length_take, List.length_cons, List.length_nil]; omega)) [wrap64, h3]
      refine (c_pick R H (by omega) (by omega) ⟨by decide, by decide⟩).go ?_
      rintro _ h1 ⟨r0, rfl, o0, z0, y0, H⟩
      by_cases c0 : r0 = 0
      · simp -implicitDefEqProofs (disch := first | omega | (simp only [List.length_set, List.length_replicate, List.length_append, List.length_map, List.length_take, List.length_cons, List.length_nil]; omega)) [wrap64, c0]
        refine (c_pick R H (by omega) (by omega) ⟨by decide, by decide⟩).go ?_
        rintro _ hL1 ⟨r1, rfl, o1, z1, y1, H⟩
        by_cases c1 : r1 = 0
        · simp -implicitDefEqProofs (disch := first | omega | (simp only [List.length_set, List.length_replicate, List.length_append, List.length_map, List.length_take, List.length_cons, List.length_nil]; omega)) [wrap64, c1]
          refine (c_pick R H (by omega) (by omega) ⟨by decide, by decide⟩).go ?_
          rintro _ hL2 ⟨r2, rfl, o2, z2, y2, H⟩
          simp -implicitDefEqProofs (disch := first | omega | (simp only [List.length_set, List.length_replicate, List.length_append, List.length_map, List.length_take, List.length_cons, List.length_nil]; omega)) [wrap64, setC]
          exact RetK.keep (hk _ _ ⟨Exq.mk 1 r2 [], _, HS.mkExq' H.nil_ow ⟨by decide, by decide⟩ o2, by simp [Exq.nod, Exq.nods] <;> omega, by omega, by omega⟩)
        · simp -implicitDefEqProofs (disch := first | omega | (simp only [List.length_set, List.length_replicate, List.length_append, List.length_map, List.length_take, List.length_cons, List.length_nil]; omega)) [wrap64, c1]
          refine H.bls [(0 : Int), 1, 0, 2] rfl rfl (okL (by decide)) (by decide) fun v hL2 H => ?_
          simp -implicitDefEqProofs (disch := first | omega | (simp only [List.length_set, List.length_replicate, List.length_append, List.length_map, List.length_take, List.length_cons, List.length_nil]; omega)) [wrap64]
          refine (c_num R H (by omega) (by omega) (by simp)).go ?_
          rintro _ hL3 ⟨r2, rfl, o2, _, H⟩
          simp -implicitDefEqProofs (disch := first | omega | (simp only [List.length_set, List.length_replicate, List.length_append, List.length_map, List.length_take, List.length_cons, List.length_nil]; omega)) [wrap64, setC]
          exact RetK.keep (hk _ _ ⟨Exq.mk 2 r2 [], _, HS.mkExq' H.nil_ow ⟨by decide, by decide⟩ o2, by simp [Exq.nod, Exq.nods] <;> omega, by omega, by omega⟩)
      · simp -implicitDefEqProofs (disch := first | omega | (simp only [List.length_set, List.length_replicate, List.length_append, List.length_map, List.length_take, List.length_cons, List.length_nil]; omega)) [wrap64, c0]
        refine H.bls [(6 : Int), 8, 7, 4, 3, 5, 9] rfl rfl (okL (by decide)) (by decide) fun v h2 H => ?_
        simp -implicitDefEqProofs (disch := first | omega | (simp only [List.length_set, List.length_replicate, List.length_append, List.length_map, List.length_take, List.length_cons, List.length_nil]; omega)) [wrap64]
        refine (c_num R H (by omega) (by omega) (by simp)).go ?_
        rintro _ h4 ⟨kd, rfl, okd, _, H⟩
        have ha := Exq.arity_le (k := kd)
        have ha2 := Exq.arity_ge (k := kd)
        simp -implicitDefEqProofs (disch := first | omega | (simp only [List.length_set, List.length_replicate, List.length_append, List.length_map, List.length_take, List.length_cons, List.length_nil]; omega)) [wrap64, setC]
        refine c_l1Arity.go ?_
        rintro _ h4 ⟨rfl, rfl⟩
        obtain ⟨ar, har⟩ : ∃ ar, ar = Exq.arity kd := ⟨_, rfl⟩
        rw [← har] at ha ha2
        simp -implicitDefEqProofs (disch := first | omega | (simp only [List.length_set, List.length_replicate, List.length_append, List.length_map, List.length_take, List.length_cons, List.length_nil]; omega)) [wrap64, ← har]
        refine wp_while (σ := Nat) (fun j e h' => ∃ (ks : List Exq) (w : Value) (p' : Int), e = [some (.pointer (some ⟨b, 0, none⟩)), some (.int .i64 ((d : Int) + 1)), some (.agg #[.int .i64 0, .int .i64 0, .slice none 0 0]), none, some (.agg #[.int .i64 kd, .int .i64 0, w]), some (.int .i64 (ar - j))] ∧ HS g (ow w ks :: rb b sl p' :: Γ) h' ∧ ks.length = j ∧ Exq.nods ks ≤ j * (2 * q - 1) ∧ j ≤ 2 ∧ p ≤ p' ∧ p' ≤ p + 2 + j * (4 * q - 2)) (fun j => 3 - j) 0 ⟨[], .slice none 0 0, _, by simp, H.nil_ow, rfl, by simp [Exq.nods], by omega, by omega, by omega⟩ ?_
        clear H
        rintro J j _ h5 hJ ⟨ks, w, p', rfl, H, hkl, hkn, hj, hp3, hp4⟩
        by_cases c2 : (j : Int) < ar
        · have hj2 : j = 0 ∨ j = 1 := by omega
          simp -implicitDefEqProofs (disch := first | omega | (simp only [List.length_set, List.length_replicate, List.length_append, List.length_map, List.length_take, List.length_cons, List.length_nil]; omega)) [wrap64, c2]
          refine (ih (by omega) R H.sw1 (by omega) (by rcases hj2 with rfl | rfl <;> omega)).go ?_
          rintro _ h6 ⟨y, p2, H, hy, hp5, hp6⟩
          obtain ⟨wy, rfl, k1, k2, H'⟩ := H.unExq
          have hO' := H'.rep.one
          have hC' := H'.rep.cells
          simp -implicitDefEqProofs (disch := first | omega | (simp only [List.length_set, List.length_replicate, List.length_append, List.length_map, List.length_take, List.length_cons, List.length_nil]; omega)) [wrap64, setC, hO', hC']
          refine HS.appO (bytes := 40) H.sw2.sw1 rfl rfl rfl rfl rfl (by omega) (by omega) fun w' h7 H => ?_
          have hO := H.rep.one
          have hC := H.rep.cells
          simp -implicitDefEqProofs (disch := first | omega | (simp only [List.length_set, List.length_replicate, List.length_append, List.length_map, List.length_take, List.length_cons, List.length_nil]; omega)) [wrap64, setC, hO, hC]
          refine hJ (j + 1) _ _ (by omega) ⟨ks ++ [y], w', p2, by simp; omega, H, by simp [hkl], ?_, by omega, by omega, ?_⟩
          · rw [Exq.nods_append, show Exq.nods [y] = y.nod by simp [Exq.nods]]
            rcases hj2 with rfl | rfl <;> omega
          · rcases hj2 with rfl | rfl <;> omega
        · have hO := H.rep.one
          have hC := H.rep.cells
          simp -implicitDefEqProofs (disch := first | omega | (simp only [List.length_set, List.length_replicate, List.length_append, List.length_map, List.length_take, List.length_cons, List.length_nil]; omega)) [wrap64, c2, setC, hO, hC]
          refine RetK.keep (hk _ _ ⟨Exq.mk kd 0 ks, p', HS.mkExq' H okd ⟨by decide, by decide⟩, ?_, by omega, ?_⟩)
          · rw [Exq.nod_eq, Exq.kids_mk]
            obtain rfl | rfl | rfl : j = 0 ∨ j = 1 ∨ j = 2 := by omega
            all_goals omega
          · obtain rfl | rfl | rfl : j = 0 ∨ j = 1 ∨ j = 2 := by omega
            all_goals omega
end Go.Proofs.Ytonjglbachhdcaa

/-
  Slices that are written out, with elements that are owned; a step in between.
-/
namespace Go.Proofs.Ytonjglbachhdcaa
open Go
set_option linter.all false
set_option linter.unusedVariables false
set_option linter.unusedSimpArgs false
set_option linter.defProp false
set_option maxRecDepth 1000000

/-- a slice that is written out, with one element that is owned -/
theorem HS.blsO1 {α : Type} [Ty α] {P : Program} {k : Env → Heap → Prop} {e : Env} {g h : Heap} {Γ : List HP} {u : Value} {y : α} (H : HS g (ow u y :: Γ) h) {esz : Nat} {zero : List Value} {parts : List (Nat × Nat × O)} {dst : Nat} (hf : fillP e (reps 1 zero) parts = some u.cells.toList)
    (K : ∀ v' h', HS g (ow v' [y] :: Γ) h' → k (eset e dst (some v')) h') : (A.ex (some dst) (.bls esz 1 zero parts)).wp P k e h := by
  obtain ⟨g1, ru, rfl, d2, ⟨cs, rfl, ho⟩, H⟩ := H
  have h1 := Ty.len (Ty.own_rep ho)
  rw [rep_cells (Ty.own_rep ho)] at hf
  refine ⟨_, hf, fun b el hb => Fgt.keep ?_⟩
  rw [set_new hb]
  have n1 : g1 b = none ∧ ru b = none := by simpa [Heap.add] using hb
  rw [add_assoc]
  refine K _ _ ⟨g1, _, rfl, Dj_add.2 ⟨d2, Dj_one.2 n1.1⟩, ?_, H⟩
  rw [(Dj_one.2 n1.2).comm]
  refine Own_list.2 (.inr ⟨b, 0, 1, cs, el, ru, rfl, ⟨Nat.le_refl _, by simp⟩, by simp [h1], rfl, n1.2, ?_⟩)
  exact ⟨ru, Heap.nil, by simp, by simp, by simpa [← h1] using ho, rfl⟩

theorem HS.blsO2 {α : Type} [Ty α] {P : Program} {k : Env → Heap → Prop} {e : Env} {g h : Heap} {Γ : List HP} {u u2 : Value} {y y2 : α} (H : HS g (ow u y :: ow u2 y2 :: Γ) h) {esz : Nat} {zero : List Value} {parts : List (Nat × Nat × O)} {dst : Nat} (hf : fillP e (reps 2 zero) parts = some (u.cells.toList ++ u2.cells.toList))
    (K : ∀ v' h', HS g (ow v' [y, y2] :: Γ) h' → k (eset e dst (some v')) h') : (A.ex (some dst) (.bls esz 2 zero parts)).wp P k e h := by
  obtain ⟨g0, ru, rfl, d2, ⟨cs, rfl, ho⟩, g1, ru2, rfl, d3, ⟨cs2, rfl, ho2⟩, H⟩ := H
  have h1 := Ty.len (Ty.own_rep ho)
  have h2 := Ty.len (Ty.own_rep ho2)
  rw [rep_cells (Ty.own_rep ho), rep_cells (Ty.own_rep ho2)] at hf
  obtain ⟨d4, d5⟩ := add_Dj.1 d2
  refine ⟨_, hf, fun b el hb => Fgt.keep ?_⟩
  rw [set_new hb]
  have n1 : (g1 b = none ∧ ru2 b = none) ∧ ru b = none := by simpa [Heap.add] using hb
  rw [add_assoc, add_assoc]
  refine K _ _ ⟨g1, _, rfl, Dj_add.2 ⟨d3, Dj_add.2 ⟨d4, Dj_one.2 n1.1.1⟩⟩, ?_, H⟩
  rw [← add_assoc, (Dj_one.2 (show (ru2.add ru) b = none by simp [Heap.add, n1])).comm]
  refine Own_list.2 (.inr ⟨b, 0, 2, cs ++ cs2, el, ru2.add ru, rfl, ⟨Nat.le_refl _, by simp⟩, by simp [h1, h2]; omega, rfl, by simp [Heap.add, n1], ?_⟩)
  rw [d5.comm]
  refine ⟨ru, ru2, rfl, d5.symm, by simpa [← h1] using ho, ru2, Heap.nil, by simp, by simp, ?_, rfl⟩
  have e1 : List.drop (Ty.sz α) (cs ++ cs2) = cs2 := by rw [← h1, List.drop_left]
  simp only [List.drop_zero]
  rw [e1, List.take_of_length_le (by omega)]
  exact ho2

/-- a step in between, within a region -/
theorem pl_cut {P : Program} {k : Env → Heap → Prop} {p : Pl} {e : Env} {h : Heap} (M : Env → Heap → Prop) (ha : ∀ J : Env → Heap → Prop, (∀ e h, M e h → J e h) → p.wp P J e h) (hb : ∀ e h, M e h → k e h) : p.wp P k e h := ha k hb

end Go.Proofs.Ytonjglbachhdcaa

/-
  Arguments of laws: valid expressions, copies, guards that are drawn.
-/
namespace Go.Proofs.Ytonjglbachhdcaa
open Go
set_option linter.all false
set_option linter.unusedVariables false
set_option linter.unusedSimpArgs false
set_option linter.defProp false
set_option maxRecDepth 1000000

theorem Exq.len_nods : ∀ {l : List Exq}, l.length ≤ Exq.nods l
  | [] => by simp
  | x :: l => by
    have := Exq.len_nods (l := l)
    have := x.nod_pos
    simp only [List.length_cons, Exq.nods]; omega
theorem HS.mkE0 {g h : Heap} {Γ : List HP} {kd vl : Int} (H : HS g Γ h) (h1 : I64 kd) (h2 : I64 vl) : HS g (ow (.agg #[.int .i64 kd, .int .i64 vl, .slice none 0 0]) (Exq.mk kd vl []) :: Γ) h := HS.mkExq' H.nil_ow h1 h2
theorem Exq.nod_mk0 {k v : Int} : (Exq.mk k v []).nod = 1 := rfl

theorem c_l1Expr {g h : Heap} {Γ : List HP} {b : Nat} {sl : Value} {l : List (BitVec 8)} {p : Int} (R : Rep g sl l) (H : HS g (rb b sl p :: Γ) h) (hp : 0 ≤ p) (hp2 : p + 100 ≤ 1000000000000) :
    CallE Try.prog fn_spec_l1Expr [.pointer (some ⟨b, 0, none⟩)] h (fun u h' => ∃ (y : Exq) (p' : Int), HS g (ow u y :: rb b sl p' :: Γ) h' ∧ y.nod ≤ 31 ∧ p ≤ p' ∧ p' ≤ p + 70) := by
  refine CallE.gen fun k hk => EN_spec_l1Expr rfl ?_
  simp -implicitDefEqProofs (disch := first | omega | (simp only [List.length_set, List.length_replicate, List.length_append, List.length_map, List.length_take, List.length_cons, List.length_nil]; omega)) [wrap64]
  refine H.bls [(3 : Int), 2, 3, 4] rfl rfl (okL (by decide)) (by decide) fun v h1 H => ?_
  simp -implicitDefEqProofs (disch := first | omega | (simp only [List.length_set, List.length_replicate, List.length_append, List.length_map, List.length_take, List.length_cons, List.length_nil]; omega)) [wrap64]
  refine (c_num R H (by omega) (by omega) (by simp)).go ?_
  rintro _ h2 ⟨r, rfl, _, hr, H⟩
  obtain ⟨d, rfl, hd, hpw⟩ : ∃ d : Nat, r = d ∧ d ≤ 4 ∧ 2 ^ d ≤ 16 := by
    simp at hr
    rcases hr with rfl | rfl | rfl | rfl
    · exact ⟨3, rfl, by decide, by decide⟩
    · exact ⟨2, rfl, by decide, by decide⟩
    · exact ⟨3, rfl, by decide, by decide⟩
    · exact ⟨4, rfl, by decide, by decide⟩
  simp -implicitDefEqProofs (disch := first | omega | (simp only [List.length_set, List.length_replicate, List.length_append, List.length_map, List.length_take, List.length_cons, List.length_nil]; omega)) [wrap64]
  refine (c_l1Random d hd R H (by omega) (by omega)).go ?_
  rintro _ h3 ⟨y, p1, H, hy, hp3, hp4⟩
  have hy2 : y.nod ≤ 31 := by rw [Nat.pow_succ] at hy; omega
  have FA := H.rep.aExq
  simp -implicitDefEqProofs (disch := first | omega | (simp only [List.length_set, List.length_replicate, List.length_append, List.length_map, List.length_take, List.length_cons, List.length_nil]; omega)) [wrap64, FA]
  refine (c_spec_ExprValid H.rep).go ?_
  rintro _ h3 ⟨rfl, rfl⟩
  by_cases q : y.Ok
  · simp -implicitDefEqProofs (disch := first | omega | (simp only [List.length_set, List.length_replicate, List.length_append, List.length_map, List.length_take, List.length_cons, List.length_nil]; omega)) [wrap64, q, FA, setC]
    exact RetK.keep (hk _ _ ⟨y, p1, H, hy2, by omega, by omega⟩)
  · simp -implicitDefEqProofs (disch := first | omega | (simp only [List.length_set, List.length_replicate, List.length_append, List.length_map, List.length_take, List.length_cons, List.length_nil]; omega)) [wrap64, q]
    refine (c_pick (n := 3) R H.sw1 (by omega) (by omega) ⟨by decide, by decide⟩).go ?_
    rintro _ h4 ⟨r1, rfl, o1, z1, y1, H⟩
    simp -implicitDefEqProofs (disch := first | omega | (simp only [List.length_set, List.length_replicate, List.length_append, List.length_map, List.length_take, List.length_cons, List.length_nil]; omega)) [wrap64, setC]
    exact RetK.keep (hk _ _ ⟨Exq.mk 2 r1 [], _, (H.sw1.drop).mkE0 ⟨by decide, by decide⟩ o1, by rw [Exq.nod_mk0]; omega, by omega, by omega⟩)

/-- expressions without parts -/
def ez : Value := .agg #[.int .i64 0, .int .i64 0, .slice none 0 0]
theorem c_l1SubstB0 {h : Heap} : CallE Try.prog fn_spec_l1Subst [ez, .int .i64 (-1), ez] h (fun u h' => HS h [ow u Exq.zero] h') := by
  refine CallE.gen fun k hk => EN_spec_l1Subst rfl ?_
  simp -implicitDefEqProofs (disch := first | omega | (simp only [List.length_set, List.length_replicate, List.length_append, List.length_map, List.length_take, List.length_cons, List.length_nil]; omega)) [wrap64, ez, setC]
  refine wp_count 0 (fun i e h' => e = [none, some (.int .i64 (-1)), none, some ez, some ez, some ez, some ez, some (.int .i64 i)] ∧ h' = h) ⟨by simp [ez], rfl⟩ ?_
  rintro J i _ h1 hJ hi ⟨rfl, rfl⟩
  obtain rfl : i = 0 := by omega
  have hL0 : lenVV (.slice none 0 0) = some (.int .i64 0) := rfl
  simp -implicitDefEqProofs (disch := first | omega | (simp only [List.length_set, List.length_replicate, List.length_append, List.length_map, List.length_take, List.length_cons, List.length_nil]; omega)) [wrap64, ez, setC, hL0]
  exact RetK.keep (hk _ _ (HS.mkE0 HS.init ⟨by decide, by decide⟩ ⟨by decide, by decide⟩))
theorem c_l1SubstB : ∀ (x : Exq) {h : Heap} {v : Value}, Rep h v x → x.nod ≤ 1000 → CallE Try.prog fn_spec_l1Subst [v, .int .i64 (-1), ez] h (fun u h' => ∃ y : Exq, HS h [ow u y] h' ∧ y.nod ≤ x.nod) := by
  refine Exq.ind fun x ih => ?_
  intro h v R hn
  have hne := Exq.nod_eq x
  obtain ⟨w, rfl, k1, k2, Rw⟩ := Rep_Exq.1 R
  have hR1 := Rw.one
  have hkl : x.kids.length ≤ Exq.nods x.kids := Exq.len_nods
  refine CallE.gen fun k hk => EN_spec_l1Subst rfl ?_
  by_cases c1 : x.kind = 2 ∧ x.val = -1
  · simp -implicitDefEqProofs (disch := first | omega | (simp only [List.length_set, List.length_replicate, List.length_append, List.length_map, List.length_take, List.length_cons, List.length_nil]; omega)) [wrap64, ez, setC, hR1, c1]
    refine c_l1SubstB0.go ?_
    intro u h1 H
    have hA := H.rep.aExq
    simp -implicitDefEqProofs (disch := first | omega | (simp only [List.length_set, List.length_replicate, List.length_append, List.length_map, List.length_take, List.length_cons, List.length_nil]; omega)) [wrap64, setC, hA]
    exact RetK.keep (hk _ _ ⟨_, H, by rw [show Exq.zero.nod = 1 from rfl]; omega⟩)
  · have c1' : x.kind = 2 → ¬ x.val = -1 := fun e e2 => c1 ⟨e, e2⟩
    by_cases c2 : x.kind = 2
    · have c3 := c1' c2
      simp -implicitDefEqProofs (disch := first | omega | (simp only [List.length_set, List.length_replicate, List.length_append, List.length_map, List.length_take, List.length_cons, List.length_nil]; omega)) [wrap64, ez, setC, hR1, c2, c3]
      refine wp_count x.kids.length (fun i e h' => ∃ (ks : List Exq) (w' : Value), e = [none, some (.int .i64 (-1)), none, some (.agg #[.int .i64 2, .int .i64 x.val, w]), some ez, some ez, some (.agg #[.int .i64 2, .int .i64 x.val, w']), some (.int .i64 i)] ∧ HS h [ow w' ks] h' ∧ ks.length = i ∧ Exq.nods ks ≤ Exq.nods (x.kids.take i)) ⟨[], .slice none 0 0, by simp [ez], HS.init.nil_ow, rfl, by simp [Exq.nods]⟩ ?_
      rintro J i _ h1 hJ hi ⟨ks, w', rfl, H, hkl2, hkn⟩
      have hO := H.rep.one
      have hC := H.rep.cells
      simp -implicitDefEqProofs (disch := first | omega | (simp only [List.length_set, List.length_replicate, List.length_append, List.length_map, List.length_take, List.length_cons, List.length_nil]; omega)) [wrap64, Rw.len]
      refine IteW.mk (fun hlt => ?_) (fun hge => ?_)
      · have hlx : i < x.kids.length := by omega
        obtain ⟨u, hu, Ru⟩ := (Rw.on H).ld hlx
        change hload _ (some (elp 3 w i)) (some 3) = some u at hu
        have hnt := Exq.nods_take hlx
        have hnl := Exq.nods_le x.kids (i + 1)
        simp -implicitDefEqProofs (disch := first | omega | (simp only [List.length_set, List.length_replicate, List.length_append, List.length_map, List.length_take, List.length_cons, List.length_nil]; omega)) [wrap64, ez, setC, (Rw.on H).X (n := 3) rfl, hu, Ru.aExq]
        refine (ih _ (List.getElem_mem hlx) Ru (by omega)).go ?_
        rintro o h2 ⟨y, G, hy⟩
        obtain ⟨wy, rfl, ky1, ky2, G'⟩ := G.unExq
        have hO' := G'.rep.one
        have hC' := G'.rep.cells
        have H := G.app H
        simp -implicitDefEqProofs (disch := first | omega | (simp only [List.length_set, List.length_replicate, List.length_append, List.length_map, List.length_take, List.length_cons, List.length_nil]; omega)) [wrap64, ez, setC, hO', hC']
        refine HS.appO (bytes := 40) H rfl rfl rfl rfl rfl (by omega) (by omega) fun w2 h3 H => ?_
        have hO2 := H.rep.one
        have hC2 := H.rep.cells
        simp -implicitDefEqProofs (disch := first | omega | (simp only [List.length_set, List.length_replicate, List.length_append, List.length_map, List.length_take, List.length_cons, List.length_nil]; omega)) [wrap64, ez, setC, hO2, hC2]
        refine hJ _ _ hlx ⟨ks ++ [y], w2, by simp [ez], H, by simp [hkl2], ?_⟩
        rw [Exq.nods_append, show Exq.nods [y] = y.nod by simp [Exq.nods]]
        omega
      · simp -implicitDefEqProofs (disch := first | omega | (simp only [List.length_set, List.length_replicate, List.length_append, List.length_map, List.length_take, List.length_cons, List.length_nil]; omega)) [wrap64, ez, setC, hO, hC]
        rw [List.take_of_length_le (by omega)] at hkn
        refine RetK.keep (hk _ _ ⟨Exq.mk 2 x.val ks, HS.mkExq' H ⟨by decide, by decide⟩ k2, ?_⟩)
        rw [Exq.nod_eq, Exq.kids_mk]; omega
    · simp -implicitDefEqProofs (disch := first | omega | (simp only [List.length_set, List.length_replicate, List.length_append, List.length_map, List.length_take, List.length_cons, List.length_nil]; omega)) [wrap64, ez, setC, hR1, c2]
      refine wp_count x.kids.length (fun i e h' => ∃ (ks : List Exq) (w' : Value), e = [none, some (.int .i64 (-1)), none, some (.agg #[.int .i64 x.kind, .int .i64 x.val, w]), some ez, some ez, some (.agg #[.int .i64 x.kind, .int .i64 x.val, w']), some (.int .i64 i)] ∧ HS h [ow w' ks] h' ∧ ks.length = i ∧ Exq.nods ks ≤ Exq.nods (x.kids.take i)) ⟨[], .slice none 0 0, by simp [ez], HS.init.nil_ow, rfl, by simp [Exq.nods]⟩ ?_
      rintro J i _ h1 hJ hi ⟨ks, w', rfl, H, hkl2, hkn⟩
      have hO := H.rep.one
      have hC := H.rep.cells
      simp -implicitDefEqProofs (disch := first | omega | (simp only [List.length_set, List.length_replicate, List.length_append, List.length_map, List.length_take, List.length_cons, List.length_nil]; omega)) [wrap64, Rw.len]
      refine IteW.mk (fun hlt => ?_) (fun hge => ?_)
      · have hlx : i < x.kids.length := by omega
        obtain ⟨u, hu, Ru⟩ := (Rw.on H).ld hlx
        change hload _ (some (elp 3 w i)) (some 3) = some u at hu
        have hnt := Exq.nods_take hlx
        have hnl := Exq.nods_le x.kids (i + 1)
        simp -implicitDefEqProofs (disch := first | omega | (simp only [List.length_set, List.length_replicate, List.length_append, List.length_map, List.length_take, List.length_cons, List.length_nil]; omega)) [wrap64, ez, setC, (Rw.on H).X (n := 3) rfl, hu, Ru.aExq]
        refine (ih _ (List.getElem_mem hlx) Ru (by omega)).go ?_
        rintro o h2 ⟨y, G, hy⟩
        obtain ⟨wy, rfl, ky1, ky2, G'⟩ := G.unExq
        have hO' := G'.rep.one
        have hC' := G'.rep.cells
        have H := G.app H
        simp -implicitDefEqProofs (disch := first | omega | (simp only [List.length_set, List.length_replicate, List.length_append, List.length_map, List.length_take, List.length_cons, List.length_nil]; omega)) [wrap64, ez, setC, hO', hC']
        refine HS.appO (bytes := 40) H rfl rfl rfl rfl rfl (by omega) (by omega) fun w2 h3 H => ?_
        have hO2 := H.rep.one
        have hC2 := H.rep.cells
        simp -implicitDefEqProofs (disch := first | omega | (simp only [List.length_set, List.length_replicate, List.length_append, List.length_map, List.length_take, List.length_cons, List.length_nil]; omega)) [wrap64, ez, setC, hO2, hC2]
        refine hJ _ _ hlx ⟨ks ++ [y], w2, by simp [ez], H, by simp [hkl2], ?_⟩
        rw [Exq.nods_append, show Exq.nods [y] = y.nod by simp [Exq.nods]]
        omega
      · simp -implicitDefEqProofs (disch := first | omega | (simp only [List.length_set, List.length_replicate, List.length_append, List.length_map, List.length_take, List.length_cons, List.length_nil]; omega)) [wrap64, ez, setC, hO, hC]
        rw [List.take_of_length_le (by omega)] at hkn
        refine RetK.keep (hk _ _ ⟨Exq.mk x.kind x.val ks, HS.mkExq' H k1 k2, ?_⟩)
        rw [Exq.nod_eq, Exq.kids_mk]; omega
end Go.Proofs.Ytonjglbachhdcaa

/-
  Arguments of laws: changed expressions, guards that are drawn.
-/
namespace Go.Proofs.Ytonjglbachhdcaa
open Go
set_option linter.all false
set_option linter.unusedVariables false
set_option linter.unusedSimpArgs false
set_option linter.defProp false
set_option maxRecDepth 1000000

theorem c_l1Mutate {g h : Heap} {Γ : List HP} {b : Nat} {sl v : Value} {l : List (BitVec 8)} {p : Int} {x : Exq} (R : Rep g sl l) (Rx : Rep g v x) (hx : x.nod ≤ 1000) (H : HS g (rb b sl p :: Γ) h) (hp : 0 ≤ p) (hp2 : p + 100 ≤ 1000000000000) :
    CallE Try.prog fn_spec_l1Mutate [.pointer (some ⟨b, 0, none⟩), v] h (fun u h' => ∃ (y : Exq) (p' : Int), HS g (ow u y :: rb b sl p' :: Γ) h' ∧ y.nod ≤ x.nod + 1 ∧ p ≤ p' ∧ p' ≤ p + 2) := by
  have FX := Rx.aExq
  have hnp := x.nod_pos
  refine CallE.gen fun k hk => EN_spec_l1Mutate rfl ?_
  simp -implicitDefEqProofs (disch := first | omega | (simp only [List.length_set, List.length_replicate, List.length_append, List.length_map, List.length_take, List.length_cons, List.length_nil]; omega)) [wrap64, FX]
  refine (c_l1SubstB x (Rx.on H) hx).go ?_
  rintro o h1 ⟨y, G, hy⟩
  obtain ⟨w, rfl, k1, k2, G'⟩ := G.unExq
  have hO := G'.rep.one
  have hC := G'.rep.cells
  have H := G'.app H
  have hyn := Exq.nod_eq y
  have hyl := Exq.len_nods (l := y.kids)
  simp -implicitDefEqProofs (disch := first | omega | (simp only [List.length_set, List.length_replicate, List.length_append, List.length_map, List.length_take, List.length_cons, List.length_nil]; omega)) [wrap64, setC, hO, hC]
  refine (c_pick (n := 40) R H.sw1 (by omega) (by omega) ⟨by decide, by decide⟩).go ?_
  rintro _ h2 ⟨r, rfl, o1, z1, y1, H⟩
  by_cases c0 : r = 0
  · simp -implicitDefEqProofs (disch := first | omega | (simp only [List.length_set, List.length_replicate, List.length_append, List.length_map, List.length_take, List.length_cons, List.length_nil]; omega)) [wrap64, c0]
    refine H.bls [(0 : Int), 10, -1, 1, 2, 3, 4] rfl rfl (okL (by decide)) (by decide) fun q h3 H => ?_
    simp -implicitDefEqProofs (disch := first | omega | (simp only [List.length_set, List.length_replicate, List.length_append, List.length_map, List.length_take, List.length_cons, List.length_nil]; omega)) [wrap64]
    refine (c_num R H (by omega) (by omega) (by simp)).go ?_
    rintro _ h4 ⟨r2, rfl, o2, _, H⟩
    simp -implicitDefEqProofs (disch := first | omega | (simp only [List.length_set, List.length_replicate, List.length_append, List.length_map, List.length_take, List.length_cons, List.length_nil]; omega)) [wrap64, setC, hO, hC]
    exact RetK.keep (hk _ _ ⟨Exq.mk r2 y.val y.kids, _, HS.mkExq' H.sw1 o2 k2, by rw [Exq.nod_eq, Exq.kids_mk]; omega, by omega, by omega⟩)
  by_cases c1 : r = 1
  · simp -implicitDefEqProofs (disch := first | omega | (simp only [List.length_set, List.length_replicate, List.length_append, List.length_map, List.length_take, List.length_cons, List.length_nil]; omega)) [wrap64, c0, c1]
    refine H.bls [(-1 : Int), 4, 3, 9223372036854775807] rfl rfl (okL (by decide)) (by decide) fun q h3 H => ?_
    simp -implicitDefEqProofs (disch := first | omega | (simp only [List.length_set, List.length_replicate, List.length_append, List.length_map, List.length_take, List.length_cons, List.length_nil]; omega)) [wrap64]
    refine (c_num R H (by omega) (by omega) (by simp)).go ?_
    rintro _ h4 ⟨r2, rfl, o2, _, H⟩
    simp -implicitDefEqProofs (disch := first | omega | (simp only [List.length_set, List.length_replicate, List.length_append, List.length_map, List.length_take, List.length_cons, List.length_nil]; omega)) [wrap64, setC, hO, hC]
    exact RetK.keep (hk _ _ ⟨Exq.mk y.kind r2 y.kids, _, HS.mkExq' H.sw1 k1 o2, by rw [Exq.nod_eq, Exq.kids_mk]; omega, by omega, by omega⟩)
  by_cases c2 : r = 2
  · simp -implicitDefEqProofs (disch := first | omega | (simp only [List.length_set, List.length_replicate, List.length_append, List.length_map, List.length_take, List.length_cons, List.length_nil]; omega)) [wrap64, c0, c1, c2, setC]
    refine HS.appO (bytes := 40) (H.sw1.mkE0 (kd := 1) (vl := 0) ⟨by decide, by decide⟩ ⟨by decide, by decide⟩) rfl rfl rfl rfl rfl (by omega) (by omega) fun w2 h3 H => ?_
    have hO2 := H.rep.one
    have hC2 := H.rep.cells
    simp -implicitDefEqProofs (disch := first | omega | (simp only [List.length_set, List.length_replicate, List.length_append, List.length_map, List.length_take, List.length_cons, List.length_nil]; omega)) [wrap64, setC, hO2, hC2]
    refine RetK.keep (hk _ _ ⟨Exq.mk y.kind y.val _, _, HS.mkExq' H k1 k2, ?_, by omega, by omega⟩)
    rw [Exq.nod_eq, Exq.kids_mk, Exq.nods_append, show Exq.nods [Exq.mk 1 0 []] = 1 from rfl]; omega
  by_cases c3 : r = 3
  · simp -implicitDefEqProofs (disch := first | omega | (simp only [List.length_set, List.length_replicate, List.length_append, List.length_map, List.length_take, List.length_cons, List.length_nil]; omega)) [wrap64, c0, c1, c2, c3, setC]
    exact RetK.keep (hk _ _ ⟨Exq.mk 0 0 [], _, (H.sw1.drop).mkE0 ⟨by decide, by decide⟩ ⟨by decide, by decide⟩, by rw [Exq.nod_mk0]; omega, by omega, by omega⟩)
  · simp -implicitDefEqProofs (disch := first | omega | (simp only [List.length_set, List.length_replicate, List.length_append, List.length_map, List.length_take, List.length_cons, List.length_nil]; omega)) [wrap64, c0, c1, c2, c3, setC, hO, hC]
    exact RetK.keep (hk _ _ ⟨y, _, HS.mkExq H.sw1 k1 k2, by omega, by omega, by omega⟩)

theorem c_l2Guard {g h : Heap} {Γ : List HP} {b : Nat} {sl : Value} {l : List (BitVec 8)} {p : Int} (R : Rep g sl l) (H : HS g (rb b sl p :: Γ) h) (hp : 0 ≤ p) (hp2 : p + 100 ≤ 1000000000000) :
    CallE Try.prog fn_spec_l2Guard [.pointer (some ⟨b, 0, none⟩)] h (fun u h' => ∃ (y : Exq) (p' : Int), HS g (ow u y :: rb b sl p' :: Γ) h' ∧ y.nod ≤ 4 ∧ p ≤ p' ∧ p' ≤ p + 5) := by
  refine CallE.gen fun k hk => EN_spec_l2Guard rfl ?_
  simp -implicitDefEqProofs (disch := first | omega | (simp only [List.length_set, List.length_replicate, List.length_append, List.length_map, List.length_take, List.length_cons, List.length_nil]; omega)) [wrap64]
  refine (c_pick (n := 3) R H (by omega) (by omega) ⟨by decide, by decide⟩).go ?_
  rintro _ h1 ⟨r1, rfl, o1, z1, y1, H⟩
  by_cases c1 : r1 = 0
  · simp -implicitDefEqProofs (disch := first | omega | (simp only [List.length_set, List.length_replicate, List.length_append, List.length_map, List.length_take, List.length_cons, List.length_nil]; omega)) [wrap64, c1, setC]
    exact RetK.keep (hk _ _ ⟨Exq.mk 1 1 [], _, H.mkE0 ⟨by decide, by decide⟩ ⟨by decide, by decide⟩, by rw [Exq.nod_mk0]; omega, by omega, by omega⟩)
  simp -implicitDefEqProofs (disch := first | omega | (simp only [List.length_set, List.length_replicate, List.length_append, List.length_map, List.length_take, List.length_cons, List.length_nil]; omega)) [wrap64, c1]
  refine H.bls [(0 : Int), 1, 0, 2] rfl rfl (okL (by decide)) (by decide) fun q h3 H => ?_
  simp -implicitDefEqProofs (disch := first | omega | (simp only [List.length_set, List.length_replicate, List.length_append, List.length_map, List.length_take, List.length_cons, List.length_nil]; omega)) [wrap64]
  refine (c_num R H (by omega) (by omega) (by simp)).go ?_
  rintro _ h4 ⟨r2, rfl, o2, _, H⟩
  simp -implicitDefEqProofs (disch := first | omega | (simp only [List.length_set, List.length_replicate, List.length_append, List.length_map, List.length_take, List.length_cons, List.length_nil]; omega)) [wrap64, setC]
  refine (c_pick (n := 3) R H (by omega) (by omega) ⟨by decide, by decide⟩).go ?_
  rintro _ h1 ⟨r3, rfl, o3, z3, y3, H⟩
  simp -implicitDefEqProofs (disch := first | omega | (simp only [List.length_set, List.length_replicate, List.length_append, List.length_map, List.length_take, List.length_cons, List.length_nil]; omega)) [wrap64, setC]
  refine pl_cut (fun e' h' => ∃ kd w r, e' = some (.pointer (some ⟨b, 0, none⟩)) :: some ez :: some (.agg #[.int .i64 2, .int .i64 r2, .slice none 0 0]) :: some (.agg #[.int .i64 1, .int .i64 r3, .slice none 0 0]) :: some (.agg #[.int .i64 kd, .int .i64 0, w]) :: r ∧ I64 kd ∧ HS g (ow w [Exq.mk 2 r2 [], Exq.mk 1 r3 []] :: rb b sl (p + 1 + 1 + 1 + 1) :: Γ) h') (fun K hK => ?_) ?_
  · refine ⟨?_, ?_⟩
    · simp -implicitDefEqProofs (disch := first | omega | (simp only [List.length_set, List.length_replicate, List.length_append, List.length_map, List.length_take, List.length_cons, List.length_nil]; omega)) [wrap64]
      refine H.bls [(6 : Int), 7, 6] rfl rfl (okL (by decide)) (by decide) fun q h6 H => ?_
      refine ⟨?_, ?_⟩
      · simp -implicitDefEqProofs (disch := first | omega | (simp only [List.length_set, List.length_replicate, List.length_append, List.length_map, List.length_take, List.length_cons, List.length_nil]; omega)) [wrap64]
        refine (c_num R H (by omega) (by omega) (by simp)).go ?_
        rintro _ h7 ⟨kd, rfl, okd, _, H⟩
        simp -implicitDefEqProofs (disch := first | omega | (simp only [List.length_set, List.length_replicate, List.length_append, List.length_map, List.length_take, List.length_cons, List.length_nil]; omega)) [wrap64]
        refine HS.blsO2 ((H.mkE0 (kd := 1) (vl := r3) ⟨by decide, by decide⟩ o3).mkE0 (kd := 2) (vl := r2) ⟨by decide, by decide⟩ o2) rfl fun w h8 H => ?_
        simp -implicitDefEqProofs (disch := first | omega | (simp only [List.length_set, List.length_replicate, List.length_append, List.length_map, List.length_take, List.length_cons, List.length_nil]; omega)) [wrap64, setC, H.rep.one, H.rep.cells]
        exact hK _ _ ⟨kd, w, _, rfl, okd, H⟩
      · simp -implicitDefEqProofs (disch := first | omega | (simp only [List.length_set, List.length_replicate, List.length_append, List.length_map, List.length_take, List.length_cons, List.length_nil]; omega)) [wrap64]
        refine HS.blsO2 ((H.mkE0 (kd := 1) (vl := r3) ⟨by decide, by decide⟩ o3).mkE0 (kd := 2) (vl := r2) ⟨by decide, by decide⟩ o2) rfl fun w h8 H => ?_
        simp -implicitDefEqProofs (disch := first | omega | (simp only [List.length_set, List.length_replicate, List.length_append, List.length_map, List.length_take, List.length_cons, List.length_nil]; omega)) [wrap64]
        refine (c_num R H.bk2 (by omega) (by omega) (by simp)).go ?_
        rintro _ h7 ⟨kd, rfl, okd, _, H⟩
        simp -implicitDefEqProofs (disch := first | omega | (simp only [List.length_set, List.length_replicate, List.length_append, List.length_map, List.length_take, List.length_cons, List.length_nil]; omega)) [wrap64, setC, H.sw1.rep.one, H.sw1.rep.cells]
        exact hK _ _ ⟨kd, w, _, rfl, okd, H.sw1⟩
    · simp -implicitDefEqProofs (disch := first | omega | (simp only [List.length_set, List.length_replicate, List.length_append, List.length_map, List.length_take, List.length_cons, List.length_nil]; omega)) [wrap64]
      refine HS.blsO2 ((H.mkE0 (kd := 1) (vl := r3) ⟨by decide, by decide⟩ o3).mkE0 (kd := 2) (vl := r2) ⟨by decide, by decide⟩ o2) rfl fun w h8 H => ?_
      simp -implicitDefEqProofs (disch := first | omega | (simp only [List.length_set, List.length_replicate, List.length_append, List.length_map, List.length_take, List.length_cons, List.length_nil]; omega)) [wrap64]
      refine H.bls [(6 : Int), 7, 6] rfl rfl (okL (by decide)) (by decide) fun q h6 H => ?_
      simp -implicitDefEqProofs (disch := first | omega | (simp only [List.length_set, List.length_replicate, List.length_append, List.length_map, List.length_take, List.length_cons, List.length_nil]; omega)) [wrap64]
      refine (c_num R H.sw1.bk2 (by omega) (by omega) (by simp)).go ?_
      rintro _ h7 ⟨kd, rfl, okd, _, H⟩
      simp -implicitDefEqProofs (disch := first | omega | (simp only [List.length_set, List.length_replicate, List.length_append, List.length_map, List.length_take, List.length_cons, List.length_nil]; omega)) [wrap64, setC, H.sw1.rep.one, H.sw1.rep.cells]
      exact hK _ _ ⟨kd, w, _, rfl, okd, H.sw1⟩
  rintro _ h5 ⟨kd, w, r, rfl, okd, H⟩
  have hO := H.rep.one
  have hC := H.rep.cells
  simp -implicitDefEqProofs (disch := first | omega | (simp only [List.length_set, List.length_replicate, List.length_append, List.length_map, List.length_take, List.length_cons, List.length_nil]; omega)) [wrap64]
  refine (c_pick (n := 5) R H.sw1 (by omega) (by omega) ⟨by decide, by decide⟩).go ?_
  rintro _ h6 ⟨r4, rfl, o4, z4, y4, H⟩
  by_cases c2 : r4 = 0
  · simp -implicitDefEqProofs (disch := first | omega | (simp only [List.length_set, List.length_replicate, List.length_append, List.length_map, List.length_take, List.length_cons, List.length_nil]; omega)) [wrap64, c2, setC, hO, hC]
    refine HS.blsO1 (HS.mkExq' (kd := kd) (vl := 0) H.sw1 okd ⟨by decide, by decide⟩) rfl fun w2 h7 H => ?_
    have hO2 := H.rep.one
    have hC2 := H.rep.cells
    simp -implicitDefEqProofs (disch := first | omega | (simp only [List.length_set, List.length_replicate, List.length_append, List.length_map, List.length_take, List.length_cons, List.length_nil]; omega)) [wrap64, setC, hO2, hC2, ez]
    exact RetK.keep (hk _ _ ⟨Exq.mk 3 0 _, _, HS.mkExq' H ⟨by decide, by decide⟩ ⟨by decide, by decide⟩, by simp [Exq.nods, Exq.nod], by omega, by omega⟩)
  · simp -implicitDefEqProofs (disch := first | omega | (simp only [List.length_set, List.length_replicate, List.length_append, List.length_map, List.length_take, List.length_cons, List.length_nil]; omega)) [wrap64, c2, setC, hO, hC, ez]
    exact RetK.keep (hk _ _ ⟨_, _, HS.mkExq' H.sw1 okd ⟨by decide, by decide⟩, by rw [Exq.nod_eq, Exq.kids_mk]; simp [Exq.nods, Exq.nod], by omega, by omega⟩)
end Go.Proofs.Ytonjglbachhdcaa

/-
  Arguments of laws: systems that are drawn.
-/
namespace Go.Proofs.Ytonjglbachhdcaa
open Go
set_option linter.all false
set_option linter.unusedVariables false
set_option linter.unusedSimpArgs false
set_option linter.defProp false
set_option maxRecDepth 1000000

structure Ed.Sm (n : Nat) (e : Ed) : Prop where
  g : e.guard.nod ≤ n
  v : e.value.nod ≤ n
structure Pr.Sm (n : Nat) (p : Pr) : Prop where
  el : p.edges.length ≤ n
  ee : ∀ e ∈ p.edges, e.Sm n
structure Sy.Sm (n : Nat) (s : Sy) : Prop where
  il : s.init.length ≤ n
  pl : s.procs.length ≤ n
  pp : ∀ p ∈ s.procs, p.Sm n

theorem c_l2DrawEdge {g h : Heap} {Γ : List HP} {b : Nat} {sl : Value} {l : List (BitVec 8)} {p n : Int} (R : Rep g sl l) (H : HS g (rb b sl p :: Γ) h) (hp : 0 ≤ p) (hp2 : p + 200 ≤ 1000000000000) (hn : I64 n) :
    CallE Try.prog fn_spec_l2DrawEdge [.pointer (some ⟨b, 0, none⟩), .int .i64 n] h (fun u h' => ∃ (y : Ed) (p' : Int), HS g (ow u y :: rb b sl p' :: Γ) h' ∧ y.Sm 40 ∧ p ≤ p' ∧ p' ≤ p + 90) := by
  have i0 : I64 0 := ⟨by decide, by decide⟩
  have i1 : I64 1 := ⟨by decide, by decide⟩
  have im : I64 (-1) := ⟨by decide, by decide⟩
  have i8 : I64 8 := ⟨by decide, by decide⟩
  have i9 : I64 9 := ⟨by decide, by decide⟩
  refine CallE.gen fun k hk => EN_spec_l2DrawEdge rfl ?_
  simp -implicitDefEqProofs (disch := first | omega | (simp only [List.length_set, List.length_replicate, List.length_append, List.length_map, List.length_take, List.length_cons, List.length_nil]; omega)) [wrap64]
  refine (c_pick R H (by omega) (by omega) hn).go ?_
  rintro _ h1 ⟨r1, rfl, o1, z1, y1, H⟩
  simp -implicitDefEqProofs (disch := first | omega | (simp only [List.length_set, List.length_replicate, List.length_append, List.length_map, List.length_take, List.length_cons, List.length_nil]; omega)) [wrap64]
  refine (c_pick R H (by omega) (by omega) hn).go ?_
  rintro _ h1 ⟨r2, rfl, o2, z2, y2, H⟩
  simp -implicitDefEqProofs (disch := first | omega | (simp only [List.length_set, List.length_replicate, List.length_append, List.length_map, List.length_take, List.length_cons, List.length_nil]; omega)) [wrap64]
  refine (c_l2Guard R H (by omega) (by omega)).go ?_
  rintro _ h1 ⟨gu, p1, H, hgn, hp3, hp4⟩
  obtain ⟨wg, rfl, k1, k2, H⟩ := H.unExq
  have hOg := H.rep.one
  have hCg := H.rep.cells
  simp -implicitDefEqProofs (disch := first | omega | (simp only [List.length_set, List.length_replicate, List.length_append, List.length_map, List.length_take, List.length_cons, List.length_nil]; omega)) [wrap64, setC, hOg, hCg]
  refine (c_pick (n := 3) R H.sw1 (by omega) (by omega) ⟨by decide, by decide⟩).go ?_
  rintro _ h1 ⟨r3, rfl, o3, z3, y3, H⟩
  by_cases c3 : 0 < r3
  case neg =>
    simp -implicitDefEqProofs (disch := first | omega | (simp only [List.length_set, List.length_replicate, List.length_append, List.length_map, List.length_take, List.length_cons, List.length_nil]; omega)) [wrap64, c3]
    have H := (H.sw1.nil_ow (α := Exq)).sw2
    refine (c_pick (n := 4) R H (by omega) (by omega) ⟨by decide, by decide⟩).go ?_
    rintro _ ht ⟨r9, rfl, o9, z9, y9, H⟩
    by_cases c9 : r9 = 0
    · simp -implicitDefEqProofs (disch := first | omega | (simp only [List.length_set, List.length_replicate, List.length_append, List.length_map, List.length_take, List.length_cons, List.length_nil]; omega)) [wrap64, c9]
      refine H.bls [(1 : Int), -1, 1, -1, 2, -2] rfl rfl (okL (by decide)) (by decide) fun q hq H => ?_
      simp -implicitDefEqProofs (disch := first | omega | (simp only [List.length_set, List.length_replicate, List.length_append, List.length_map, List.length_take, List.length_cons, List.length_nil]; omega)) [wrap64]
      refine (c_num R H (by omega) (by omega) (by simp)).go ?_
      rintro _ ht2 ⟨sy, rfl, osy, _, H⟩
      simp -implicitDefEqProofs (disch := first | omega | (simp only [List.length_set, List.length_replicate, List.length_append, List.length_map, List.length_take, List.length_cons, List.length_nil]; omega)) [wrap64, setC, hOg, hCg]
      exact RetK.keep (hk _ _ ⟨⟨r1, r2, gu, -1, (Exq.mk 0 0 []), sy⟩, _, HS.mkEd (e := ⟨r1, r2, gu, -1, (Exq.mk 0 0 []), sy⟩) (H.bk2.sw1) ⟨o1, o2, k1, k2, im, i0, i0, osy⟩, ⟨by dsimp only; omega, by simp [Exq.nod, Exq.nods]⟩, by omega, by omega⟩)
    · simp -implicitDefEqProofs (disch := first | omega | (simp only [List.length_set, List.length_replicate, List.length_append, List.length_map, List.length_take, List.length_cons, List.length_nil]; omega)) [wrap64, c9, setC, hOg, hCg]
      exact RetK.keep (hk _ _ ⟨⟨r1, r2, gu, -1, (Exq.mk 0 0 []), 0⟩, _, HS.mkEd (e := ⟨r1, r2, gu, -1, (Exq.mk 0 0 []), 0⟩) (H.bk2.sw1) ⟨o1, o2, k1, k2, im, i0, i0, i0⟩, ⟨by dsimp only; omega, by simp [Exq.nod, Exq.nods]⟩, by omega, by omega⟩)
  simp -implicitDefEqProofs (disch := first | omega | (simp only [List.length_set, List.length_replicate, List.length_append, List.length_map, List.length_take, List.length_cons, List.length_nil]; omega)) [wrap64, c3]
  refine H.bls [(0 : Int), 1, 0, 2] rfl rfl (okL (by decide)) (by decide) fun q hq H => ?_
  simp -implicitDefEqProofs (disch := first | omega | (simp only [List.length_set, List.length_replicate, List.length_append, List.length_map, List.length_take, List.length_cons, List.length_nil]; omega)) [wrap64]
  refine (c_num R H (by omega) (by omega) (by simp)).go ?_
  rintro _ ht2 ⟨vr, rfl, ovr, _, H⟩
  simp -implicitDefEqProofs (disch := first | omega | (simp only [List.length_set, List.length_replicate, List.length_append, List.length_map, List.length_take, List.length_cons, List.length_nil]; omega)) [wrap64, setC, hOg, hCg]
  refine (c_pick (n := 4) R H (by omega) (by omega) ⟨by decide, by decide⟩).go ?_
  rintro _ h1 ⟨r5, rfl, o5, z5, y5, H⟩
  by_cases d0 : r5 = 0
  · simp -implicitDefEqProofs (disch := first | omega | (simp only [List.length_set, List.length_replicate, List.length_append, List.length_map, List.length_take, List.length_cons, List.length_nil]; omega)) [wrap64, d0]
    refine (c_pick (n := 3) R H (by omega) (by omega) ⟨by decide, by decide⟩).go ?_
    rintro _ h1 ⟨r6, rfl, o6, z6, y6, H⟩
    simp -implicitDefEqProofs (disch := first | omega | (simp only [List.length_set, List.length_replicate, List.length_append, List.length_map, List.length_take, List.length_cons, List.length_nil]; omega)) [wrap64, setC, hOg, hCg]
    have H := (H.sw1.nil_ow (α := Exq)).sw2
    refine (c_pick (n := 4) R H (by omega) (by omega) ⟨by decide, by decide⟩).go ?_
    rintro _ ht ⟨r9, rfl, o9, z9, y9, H⟩
    by_cases c9 : r9 = 0
    · simp -implicitDefEqProofs (disch := first | omega | (simp only [List.length_set, List.length_replicate, List.length_append, List.length_map, List.length_take, List.length_cons, List.length_nil]; omega)) [wrap64, c9]
      refine H.bls [(1 : Int), -1, 1, -1, 2, -2] rfl rfl (okL (by decide)) (by decide) fun q hq H => ?_
      simp -implicitDefEqProofs (disch := first | omega | (simp only [List.length_set, List.length_replicate, List.length_append, List.length_map, List.length_take, List.length_cons, List.length_nil]; omega)) [wrap64]
      refine (c_num R H (by omega) (by omega) (by simp)).go ?_
      rintro _ ht2 ⟨sy, rfl, osy, _, H⟩
      simp -implicitDefEqProofs (disch := first | omega | (simp only [List.length_set, List.length_replicate, List.length_append, List.length_map, List.length_take, List.length_cons, List.length_nil]; omega)) [wrap64, setC, hOg, hCg]
      exact RetK.keep (hk _ _ ⟨⟨r1, r2, gu, vr, (Exq.mk 1 r6 []), sy⟩, _, HS.mkEd (e := ⟨r1, r2, gu, vr, (Exq.mk 1 r6 []), sy⟩) (H.bk2.sw1) ⟨o1, o2, k1, k2, ovr, i1, o6, osy⟩, ⟨by dsimp only; omega, by simp [Exq.nod, Exq.nods]⟩, by omega, by omega⟩)
    · simp -implicitDefEqProofs (disch := first | omega | (simp only [List.length_set, List.length_replicate, List.length_append, List.length_map, List.length_take, List.length_cons, List.length_nil]; omega)) [wrap64, c9, setC, hOg, hCg]
      exact RetK.keep (hk _ _ ⟨⟨r1, r2, gu, vr, (Exq.mk 1 r6 []), 0⟩, _, HS.mkEd (e := ⟨r1, r2, gu, vr, (Exq.mk 1 r6 []), 0⟩) (H.bk2.sw1) ⟨o1, o2, k1, k2, ovr, i1, o6, i0⟩, ⟨by dsimp only; omega, by simp [Exq.nod, Exq.nods]⟩, by omega, by omega⟩)
  by_cases d1 : r5 = 1
  · simp -implicitDefEqProofs (disch := first | omega | (simp only [List.length_set, List.length_replicate, List.length_append, List.length_map, List.length_take, List.length_cons, List.length_nil]; omega)) [wrap64, d0, d1, setC]
    refine HS.blsO2 ((H.mkE0 (kd := 1) (vl := 1) ⟨by decide, by decide⟩ ⟨by decide, by decide⟩).mkE0 (kd := 2) (vl := vr) ⟨by decide, by decide⟩ ovr) rfl fun w h8 H => ?_
    have hOv := H.rep.one
    have hCv := H.rep.cells
    simp -implicitDefEqProofs (disch := first | omega | (simp only [List.length_set, List.length_replicate, List.length_append, List.length_map, List.length_take, List.length_cons, List.length_nil]; omega)) [wrap64, setC, hOg, hCg, hOv, hCv]
    have H := H.sw1
    refine (c_pick (n := 4) R H (by omega) (by omega) ⟨by decide, by decide⟩).go ?_
    rintro _ ht ⟨r9, rfl, o9, z9, y9, H⟩
    by_cases c9 : r9 = 0
    · simp -implicitDefEqProofs (disch := first | omega | (simp only [List.length_set, List.length_replicate, List.length_append, List.length_map, List.length_take, List.length_cons, List.length_nil]; omega)) [wrap64, c9]
      refine H.bls [(1 : Int), -1, 1, -1, 2, -2] rfl rfl (okL (by decide)) (by decide) fun q hq H => ?_
      simp -implicitDefEqProofs (disch := first | omega | (simp only [List.length_set, List.length_replicate, List.length_append, List.length_map, List.length_take, List.length_cons, List.length_nil]; omega)) [wrap64]
      refine (c_num R H (by omega) (by omega) (by simp)).go ?_
      rintro _ ht2 ⟨sy, rfl, osy, _, H⟩
      simp -implicitDefEqProofs (disch := first | omega | (simp only [List.length_set, List.length_replicate, List.length_append, List.length_map, List.length_take, List.length_cons, List.length_nil]; omega)) [wrap64, setC, hOg, hCg, hOv, hCv]
      exact RetK.keep (hk _ _ ⟨⟨r1, r2, gu, vr, (Exq.mk 8 0 [Exq.mk 2 vr [], Exq.mk 1 1 []]), sy⟩, _, HS.mkEd (e := ⟨r1, r2, gu, vr, (Exq.mk 8 0 [Exq.mk 2 vr [], Exq.mk 1 1 []]), sy⟩) (H.bk2.sw1) ⟨o1, o2, k1, k2, ovr, i8, i0, osy⟩, ⟨by dsimp only; omega, by simp [Exq.nod, Exq.nods]⟩, by omega, by omega⟩)
    · simp -implicitDefEqProofs (disch := first | omega | (simp only [List.length_set, List.length_replicate, List.length_append, List.length_map, List.length_take, List.length_cons, List.length_nil]; omega)) [wrap64, c9, setC, hOg, hCg, hOv, hCv]
      exact RetK.keep (hk _ _ ⟨⟨r1, r2, gu, vr, (Exq.mk 8 0 [Exq.mk 2 vr [], Exq.mk 1 1 []]), 0⟩, _, HS.mkEd (e := ⟨r1, r2, gu, vr, (Exq.mk 8 0 [Exq.mk 2 vr [], Exq.mk 1 1 []]), 0⟩) (H.bk2.sw1) ⟨o1, o2, k1, k2, ovr, i8, i0, i0⟩, ⟨by dsimp only; omega, by simp [Exq.nod, Exq.nods]⟩, by omega, by omega⟩)
  by_cases d2 : r5 = 2
  · simp -implicitDefEqProofs (disch := first | omega | (simp only [List.length_set, List.length_replicate, List.length_append, List.length_map, List.length_take, List.length_cons, List.length_nil]; omega)) [wrap64, d0, d1, d2, setC]
    refine HS.blsO2 ((H.mkE0 (kd := 2) (vl := vr) ⟨by decide, by decide⟩ ovr).mkE0 (kd := 1) (vl := 1) ⟨by decide, by decide⟩ ⟨by decide, by decide⟩) rfl fun w h8 H => ?_
    have hOv := H.rep.one
    have hCv := H.rep.cells
    simp -implicitDefEqProofs (disch := first | omega | (simp only [List.length_set, List.length_replicate, List.length_append, List.length_map, List.length_take, List.length_cons, List.length_nil]; omega)) [wrap64, setC, hOg, hCg, hOv, hCv]
    have H := H.sw1
    refine (c_pick (n := 4) R H (by omega) (by omega) ⟨by decide, by decide⟩).go ?_
    rintro _ ht ⟨r9, rfl, o9, z9, y9, H⟩
    by_cases c9 : r9 = 0
    · simp -implicitDefEqProofs (disch := first | omega | (simp only [List.length_set, List.length_replicate, List.length_append, List.length_map, List.length_take, List.length_cons, List.length_nil]; omega)) [wrap64, c9]
      refine H.bls [(1 : Int), -1, 1, -1, 2, -2] rfl rfl (okL (by decide)) (by decide) fun q hq H => ?_
      simp -implicitDefEqProofs (disch := first | omega | (simp only [List.length_set, List.length_replicate, List.length_append, List.length_map, List.length_take, List.length_cons, List.length_nil]; omega)) [wrap64]
      refine (c_num R H (by omega) (by omega) (by simp)).go ?_
      rintro _ ht2 ⟨sy, rfl, osy, _, H⟩
      simp -implicitDefEqProofs (disch := first | omega | (simp only [List.length_set, List.length_replicate, List.length_append, List.length_map, List.length_take, List.length_cons, List.length_nil]; omega)) [wrap64, setC, hOg, hCg, hOv, hCv]
      exact RetK.keep (hk _ _ ⟨⟨r1, r2, gu, vr, (Exq.mk 9 0 [Exq.mk 1 1 [], Exq.mk 2 vr []]), sy⟩, _, HS.mkEd (e := ⟨r1, r2, gu, vr, (Exq.mk 9 0 [Exq.mk 1 1 [], Exq.mk 2 vr []]), sy⟩) (H.bk2.sw1) ⟨o1, o2, k1, k2, ovr, i9, i0, osy⟩, ⟨by dsimp only; omega, by simp [Exq.nod, Exq.nods]⟩, by omega, by omega⟩)
    · simp -implicitDefEqProofs (disch := first | omega | (simp only [List.length_set, List.length_replicate, List.length_append, List.length_map, List.length_take, List.length_cons, List.length_nil]; omega)) [wrap64, c9, setC, hOg, hCg, hOv, hCv]
      exact RetK.keep (hk _ _ ⟨⟨r1, r2, gu, vr, (Exq.mk 9 0 [Exq.mk 1 1 [], Exq.mk 2 vr []]), 0⟩, _, HS.mkEd (e := ⟨r1, r2, gu, vr, (Exq.mk 9 0 [Exq.mk 1 1 [], Exq.mk 2 vr []]), 0⟩) (H.bk2.sw1) ⟨o1, o2, k1, k2, ovr, i9, i0, i0⟩, ⟨by dsimp only; omega, by simp [Exq.nod, Exq.nods]⟩, by omega, by omega⟩)
  · simp -implicitDefEqProofs (disch := first | omega | (simp only [List.length_set, List.length_replicate, List.length_append, List.length_map, List.length_take, List.length_cons, List.length_nil]; omega)) [wrap64, d0, d1, d2]
    refine (c_l1Expr R H (by omega) (by omega)).go ?_
    rintro _ h1 ⟨va, p5, H, hvn, hp5, hp6⟩
    obtain ⟨wv, rfl, k3, k4, H⟩ := H.unExq
    have hOv := H.rep.one
    have hCv := H.rep.cells
    simp -implicitDefEqProofs (disch := first | omega | (simp only [List.length_set, List.length_replicate, List.length_append, List.length_map, List.length_take, List.length_cons, List.length_nil]; omega)) [wrap64, setC, hOg, hCg, hOv, hCv]
    have H := H.sw1
    refine (c_pick (n := 4) R H (by omega) (by omega) ⟨by decide, by decide⟩).go ?_
    rintro _ ht ⟨r9, rfl, o9, z9, y9, H⟩
    by_cases c9 : r9 = 0
    · simp -implicitDefEqProofs (disch := first | omega | (simp only [List.length_set, List.length_replicate, List.length_append, List.length_map, List.length_take, List.length_cons, List.length_nil]; omega)) [wrap64, c9]
      refine H.bls [(1 : Int), -1, 1, -1, 2, -2] rfl rfl (okL (by decide)) (by decide) fun q hq H => ?_
      simp -implicitDefEqProofs (disch := first | omega | (simp only [List.length_set, List.length_replicate, List.length_append, List.length_map, List.length_take, List.length_cons, List.length_nil]; omega)) [wrap64]
      refine (c_num R H (by omega) (by omega) (by simp)).go ?_
      rintro _ ht2 ⟨sy, rfl, osy, _, H⟩
      simp -implicitDefEqProofs (disch := first | omega | (simp only [List.length_set, List.length_replicate, List.length_append, List.length_map, List.length_take, List.length_cons, List.length_nil]; omega)) [wrap64, setC, hOg, hCg, hOv, hCv]
      exact RetK.keep (hk _ _ ⟨⟨r1, r2, gu, vr, va, sy⟩, _, HS.mkEd (e := ⟨r1, r2, gu, vr, va, sy⟩) (H.bk2.sw1) ⟨o1, o2, k1, k2, ovr, k3, k4, osy⟩, ⟨by dsimp only; omega, by dsimp only; omega⟩, by omega, by omega⟩)
    · simp -implicitDefEqProofs (disch := first | omega | (simp only [List.length_set, List.length_replicate, List.length_append, List.length_map, List.length_take, List.length_cons, List.length_nil]; omega)) [wrap64, c9, setC, hOg, hCg, hOv, hCv]
      exact RetK.keep (hk _ _ ⟨⟨r1, r2, gu, vr, va, 0⟩, _, HS.mkEd (e := ⟨r1, r2, gu, vr, va, 0⟩) (H.bk2.sw1) ⟨o1, o2, k1, k2, ovr, k3, k4, i0⟩, ⟨by dsimp only; omega, by dsimp only; omega⟩, by omega, by omega⟩)
end Go.Proofs.Ytonjglbachhdcaa

/-
  Arguments of laws: systems that are drawn.
-/
namespace Go.Proofs.Ytonjglbachhdcaa
open Go
set_option linter.all false
set_option linter.unusedVariables false
set_option linter.unusedSimpArgs false
set_option linter.defProp false
set_option maxRecDepth 1000000

theorem c_l2System {g h : Heap} {Γ : List HP} {b : Nat} {sl : Value} {l : List (BitVec 8)} {p : Int} (R : Rep g sl l) (H : HS g (rb b sl p :: Γ) h) (hp : 0 ≤ p) (hp2 : p + 2000 ≤ 1000000000000) :
    CallE Try.prog fn_spec_l2System [.pointer (some ⟨b, 0, none⟩)] h (fun u h' => ∃ (y : Sy) (p' : Int), HS g (ow u y :: rb b sl p' :: Γ) h' ∧ y.Sm 40 ∧ p ≤ p' ∧ p' ≤ p + 1400) := by
  have i0 : I64 0 := ⟨by decide, by decide⟩
  refine CallE.gen fun k hk => EN_spec_l2System rfl ?_
  simp -implicitDefEqProofs (disch := first | omega | (simp only [List.length_set, List.length_replicate, List.length_append, List.length_map, List.length_take, List.length_cons, List.length_nil]; omega)) [wrap64]
  refine (c_pick (n := 2) R H (by omega) (by omega) ⟨by decide, by decide⟩).go ?_
  rintro _ h1 ⟨r1, rfl, o1, z1, y1, H⟩
  simp -implicitDefEqProofs (disch := first | omega | (simp only [List.length_set, List.length_replicate, List.length_append, List.length_map, List.length_take, List.length_cons, List.length_nil]; omega)) [wrap64]
  refine H.bls [(0 : Int), 0, 1, 3] rfl rfl (okL (by decide)) (by decide) fun q hq H => ?_
  simp -implicitDefEqProofs (disch := first | omega | (simp only [List.length_set, List.length_replicate, List.length_append, List.length_map, List.length_take, List.length_cons, List.length_nil]; omega)) [wrap64]
  refine (c_num R H (by omega) (by omega) (by simp)).go ?_
  rintro _ h1 ⟨r2, rfl, o2, _, H⟩
  simp -implicitDefEqProofs (disch := first | omega | (simp only [List.length_set, List.length_replicate, List.length_append, List.length_map, List.length_take, List.length_cons, List.length_nil]; omega)) [wrap64]
  refine H.bls [r1, r2, 0] rfl rfl (by intro x hx; simp at hx; rcases hx with rfl | rfl | rfl <;> first | exact o1 | exact o2 | exact i0) (by decide) fun wi hq H => ?_
  have hOi := H.rep.one
  have hCi := H.rep.cells
  simp -implicitDefEqProofs (disch := first | omega | (simp only [List.length_set, List.length_replicate, List.length_append, List.length_map, List.length_take, List.length_cons, List.length_nil]; omega)) [wrap64, setC, hOi, hCi]
  refine H.bls [(2 : Int), 1, 2, 3] rfl rfl (okL (by decide)) (by decide) fun q hq H => ?_
  simp -implicitDefEqProofs (disch := first | omega | (simp only [List.length_set, List.length_replicate, List.length_append, List.length_map, List.length_take, List.length_cons, List.length_nil]; omega)) [wrap64]
  refine (c_num R H.sw1.bk2 (by omega) (by omega) (by simp)).go ?_
  rintro _ h1 ⟨r3, rfl, o3, hr3, H⟩
  obtain ⟨n, rfl, hn⟩ : ∃ n : Nat, r3 = n ∧ n ≤ 3 := by
    simp at hr3
    rcases hr3 with rfl | rfl | rfl | rfl <;> first | exact ⟨2, rfl, by decide⟩ | exact ⟨1, rfl, by decide⟩ | exact ⟨3, rfl, by decide⟩
  simp -implicitDefEqProofs (disch := first | omega | (simp only [List.length_set, List.length_replicate, List.length_append, List.length_map, List.length_take, List.length_cons, List.length_nil]; omega)) [wrap64]
  refine wp_while (σ := Nat) (fun i e h' => ∃ (ps : List Pr) (w : Value) (p' : Int), e = [some (.pointer (some ⟨b, 0, none⟩)), some (.agg #[.slice none 0 0, .slice none 0 0]), some (.agg #[wi, w]), some (.int .i64 i), none, none] ∧ HS g (ow w ps :: ow wi [r1, r2, 0] :: rb b sl p' :: Γ) h' ∧ ps.length + i ≤ 3 ∧ (∀ x ∈ ps, x.Sm 40) ∧ p ≤ p' ∧ p' + 452 * i ≤ p + 3 + 3 * 452) (fun i => i) n ⟨[], .slice none 0 0, _, by simp, H.sw1.nil_ow, by simpa using hn, by simp, by omega, by omega⟩ ?_
  clear H hOi hCi
  rintro J i _ h3 hJ ⟨ps, w, p1, rfl, H, hpl, hps, hp3, hp4⟩
  have hOi := H.sw1.rep.one
  have hCi := H.sw1.rep.cells
  have hOw := H.rep.one
  have hCw := H.rep.cells
  by_cases c0 : 0 < i
  · have c0' : (0 : Int) < i := by omega
    simp -implicitDefEqProofs (disch := first | omega | (simp only [List.length_set, List.length_replicate, List.length_append, List.length_map, List.length_take, List.length_cons, List.length_nil]; omega)) [wrap64, c0, c0']
    refine H.bls [(2 : Int), 3, 1, 2] rfl rfl (okL (by decide)) (by decide) fun q hq H => ?_
    simp -implicitDefEqProofs (disch := first | omega | (simp only [List.length_set, List.length_replicate, List.length_append, List.length_map, List.length_take, List.length_cons, List.length_nil]; omega)) [wrap64]
    refine (c_num R (H.under fun _ H => H.sw2) (by omega) (by omega) (by simp)).go ?_
    rintro _ h4 ⟨lo, rfl, olo, _, H⟩
    simp -implicitDefEqProofs (disch := first | omega | (simp only [List.length_set, List.length_replicate, List.length_append, List.length_map, List.length_take, List.length_cons, List.length_nil]; omega)) [wrap64, setC]
    refine H.bls [(3 : Int), 4, 2, 5, 1] rfl rfl (okL (by decide)) (by decide) fun q hq H => ?_
    simp -implicitDefEqProofs (disch := first | omega | (simp only [List.length_set, List.length_replicate, List.length_append, List.length_map, List.length_take, List.length_cons, List.length_nil]; omega)) [wrap64]
    refine (c_num R H (by omega) (by omega) (by simp)).go ?_
    rintro _ h4 ⟨r5, rfl, o5, hr5, H⟩
    obtain ⟨n5, rfl, hn5⟩ : ∃ n : Nat, r5 = n ∧ n ≤ 5 := by
      simp at hr5
      rcases hr5 with rfl | rfl | rfl | rfl | rfl <;> first | exact ⟨3, rfl, by decide⟩ | exact ⟨4, rfl, by decide⟩ | exact ⟨2, rfl, by decide⟩ | exact ⟨5, rfl, by decide⟩ | exact ⟨1, rfl, by decide⟩
    simp -implicitDefEqProofs (disch := first | omega | (simp only [List.length_set, List.length_replicate, List.length_append, List.length_map, List.length_take, List.length_cons, List.length_nil]; omega)) [wrap64]
    refine wp_while (σ := Nat) (fun k e h' => ∃ (es : List Ed) (we : Value) (p' : Int), e = [some (.pointer (some ⟨b, 0, none⟩)), some (.agg #[.slice none 0 0, .slice none 0 0]), some (.agg #[wi, w]), some (.int .i64 i), some (.agg #[.int .i64 lo, we]), some (.int .i64 k)] ∧ HS g (ow we es :: rb b sl p' :: ow w ps :: ow wi [r1, r2, 0] :: Γ) h' ∧ es.length + k ≤ 5 ∧ (∀ x ∈ es, x.Sm 40) ∧ p1 ≤ p' ∧ p' + 90 * k ≤ p1 + 2 + 450) (fun i => i) n5 ⟨[], .slice none 0 0, _, by simp, H.nil_ow, by simpa using hn5, by simp, by omega, by omega⟩ ?_
    clear H
    rintro J2 k2 _ h5 hJ2 ⟨es, we, p2, rfl, H, hel, hes, hp5, hp6⟩
    by_cases c1 : 0 < k2
    · have c1' : (0 : Int) < k2 := by omega
      simp -implicitDefEqProofs (disch := first | omega | (simp only [List.length_set, List.length_replicate, List.length_append, List.length_map, List.length_take, List.length_cons, List.length_nil]; omega)) [wrap64, c1, c1', setC]
      refine (c_l2DrawEdge R H.sw1 (by omega) (by omega) olo).go ?_
      rintro _ h6 ⟨y, p3, H, hy, hp7, hp8⟩
      obtain ⟨w1, w2, rfl, ok, H'⟩ := H.unEd
      have hO1 := H'.rep.one
      have hC1 := H'.rep.cells
      have hO2 := H'.sw1.rep.one
      have hC2 := H'.sw1.rep.cells
      simp -implicitDefEqProofs (disch := first | omega | (simp only [List.length_set, List.length_replicate, List.length_append, List.length_map, List.length_take, List.length_cons, List.length_nil]; omega)) [wrap64, setC, Ed.cs, hO1, hC1, hO2, hC2]
      refine HS.appO (bytes := 112) H.sw2.sw1 rfl rfl rfl rfl rfl (by omega) (by omega) fun we' h7 H => ?_
      simp -implicitDefEqProofs (disch := first | omega | (simp only [List.length_set, List.length_replicate, List.length_append, List.length_map, List.length_take, List.length_cons, List.length_nil]; omega)) [wrap64, setC, H.rep.one, H.rep.cells]
      refine hJ2 (k2 - 1) _ _ (by omega) ⟨es ++ [y], we', p3, by simp; omega, H, by simp; omega, ?_, by omega, by omega⟩
      intro x hx
      simp only [List.mem_append, List.mem_singleton] at hx
      rcases hx with hx | rfl
      · exact hes x hx
      · exact hy
    · have c1' : ¬ ((0 : Int) < k2) := by omega
      have hOe := H.rep.one
      have hCe := H.rep.cells
      simp -implicitDefEqProofs (disch := first | omega | (simp only [List.length_set, List.length_replicate, List.length_append, List.length_map, List.length_take, List.length_cons, List.length_nil]; omega)) [wrap64, c1, c1', setC, hOe, hCe]
      refine HS.appO (bytes := 32) (HS.mkPr (p := ⟨lo, es⟩) H olo |>.sw2.sw1) rfl rfl rfl rfl rfl (by omega) (by omega) fun w' h7 H => ?_
      simp -implicitDefEqProofs (disch := first | omega | (simp only [List.length_set, List.length_replicate, List.length_append, List.length_map, List.length_take, List.length_cons, List.length_nil]; omega)) [wrap64, setC, H.rep.one, H.rep.cells]
      refine hJ (i - 1) _ _ (by omega) ⟨ps ++ [⟨lo, es⟩], w', p2, by simp; omega, H.under fun _ H => H.sw1, by simp; omega, ?_, by omega, by omega⟩
      intro x hx
      simp only [List.mem_append, List.mem_singleton] at hx
      rcases hx with hx | rfl
      · exact hps x hx
      · exact ⟨by dsimp only; omega, hes⟩
  · have c0' : ¬ ((0 : Int) < i) := by omega
    simp -implicitDefEqProofs (disch := first | omega | (simp only [List.length_set, List.length_replicate, List.length_append, List.length_map, List.length_take, List.length_cons, List.length_nil]; omega)) [wrap64, c0, c0', setC, hOi, hCi, hOw, hCw]
    exact RetK.keep (hk _ _ ⟨⟨[r1, r2, 0], ps⟩, p1, HS.mkSy (s := ⟨[r1, r2, 0], ps⟩) H.sw1, ⟨by simp, by dsimp only; omega, hps⟩, by omega, by omega⟩)
end Go.Proofs.Ytonjglbachhdcaa

/-
  Arguments of laws: copies of systems.
-/
namespace Go.Proofs.Ytonjglbachhdcaa
open Go
set_option linter.all false
set_option linter.unusedVariables false
set_option linter.unusedSimpArgs false
set_option linter.defProp false
set_option maxRecDepth 1000000

theorem c_l2CopyB {h : Heap} {v : Value} {s : Sy} {n : Nat} (R : Rep h v s) (hs : s.Sm n) (hn : n ≤ 1000) : CallE Try.prog fn_spec_l2Copy [v] h (fun u h' => ∃ y : Sy, HS h [ow u y] h' ∧ y.Sm n ∧ y.procs.length = s.procs.length) := by
  obtain ⟨v1, v2, rfl, R1, R2'⟩ := Rep_Sy.1 R
  have hil := hs.il
  have hpl := hs.pl
  have hO1 := R1.one
  have hO2 := R2'.one
  refine CallE.gen fun k hk => EN_spec_l2Copy rfl ?_
  simp -implicitDefEqProofs (disch := first | omega | (simp only [List.length_set, List.length_replicate, List.length_append, List.length_map, List.length_take, List.length_cons, List.length_nil]; omega)) [wrap64]
  refine HS.appPL (α := Int) (l2 := s.init) HS.init rfl rfl R1 rfl rfl (by omega) fun wi h1 H => ?_
  simp -implicitDefEqProofs (disch := first | omega | (simp only [List.length_set, List.length_replicate, List.length_append, List.length_map, List.length_take, List.length_cons, List.length_nil]; omega)) [wrap64, setC, H.rep.one, H.rep.cells]
  refine wp_count s.procs.length (fun i e h' => ∃ (ps : List Pr) (w : Value), e = [none, some (.agg #[v1, v2]), some (.agg #[.slice none 0 0, .slice none 0 0]), some (.agg #[wi, w]), some (.int .i64 i), none, none, none] ∧ HS h [ow w ps, ow wi s.init] h' ∧ ps.length = i ∧ ∀ x ∈ ps, x.Sm n) ⟨[], .slice none 0 0, by simp, H.nil_ow, rfl, by simp⟩ ?_
  clear H
  rintro J i _ h2 hJ hi ⟨ps, w, rfl, H, hpsl, hps⟩
  have hOi := H.sw1.rep.one
  have hCi := H.sw1.rep.cells
  have hOw := H.rep.one
  have hCw := H.rep.cells
  simp -implicitDefEqProofs (disch := first | omega | (simp only [List.length_set, List.length_replicate, List.length_append, List.length_map, List.length_take, List.length_cons, List.length_nil]; omega)) [wrap64, (R2'.on H).len]
  refine IteW.mk (fun hlt => ?_) (fun hge => ?_)
  · have hi : i < s.procs.length := by omega
    have hpi := hs.pp _ (List.getElem_mem hi)
    have hel := hpi.el
    obtain ⟨u, hu, Ru⟩ := R2'.ld hi
    change hload _ (some (elp 2 v2 i)) (some 2) = some u at hu
    obtain ⟨we, rfl, k1, R3⟩ := Rep_Pr.1 Ru
    have hP : ∀ {h'}, h.le h' → _ := fun {h'} (hl : h.le h') => hld_parts (hload_le hl hu)
    have hP1 := (hP H.base).1
    have hP2 := (hP H.base).2.2.1
    simp -implicitDefEqProofs (disch := first | omega | (simp only [List.length_set, List.length_replicate, List.length_append, List.length_map, List.length_take, List.length_cons, List.length_nil]; omega)) [wrap64, R2'.X (n := 2) rfl, hP1, hP2, setC]
    refine wp_count s.procs[i].edges.length (fun k e h' => ∃ (es : List Ed) (wp : Value), e = [none, some (.agg #[v1, v2]), some (.agg #[.slice none 0 0, .slice none 0 0]), some (.agg #[wi, w]), some (.int .i64 i), some (.agg #[.int .i64 s.procs[i].locs, wp]), some (.int .i64 k), none] ∧ HS h [ow wp es, ow w ps, ow wi s.init] h' ∧ es.length = k ∧ ∀ x ∈ es, x.Sm n) ⟨[], .slice none 0 0, by simp, H.nil_ow, rfl, by simp⟩ ?_
    clear H hP1 hP2
    rintro J2 k2 _ h3 hJ2 hk2 ⟨es, wp, rfl, H, hesl, hes⟩
    have hP1 := (hP H.base).1
    have hP2 := (hP H.base).2.2.1
    simp -implicitDefEqProofs (disch := first | omega | (simp only [List.length_set, List.length_replicate, List.length_append, List.length_map, List.length_take, List.length_cons, List.length_nil]; omega)) [wrap64, R2'.X (n := 2) rfl, hP1, hP2, R3.len]
    refine IteW.mk (fun hlt2 => ?_) (fun hge2 => ?_)
    · have hk2 : k2 < s.procs[i].edges.length := by omega
      have hek := hpi.ee _ (List.getElem_mem hk2)
      obtain ⟨u2, hu2, Ru2⟩ := R3.ld hk2
      have hu2 := hload_le H.base hu2
      change hload _ (some (elp 10 we k2)) (some 10) = some u2 at hu2
      obtain ⟨w1, w2, rfl, ok, G1, G2⟩ := Rep_Ed.1 Ru2
      have hF1 := G1.one
      have hF2 := G2.one
      have hF3 := G1.cells
      have hF4 := G2.cells
      simp -implicitDefEqProofs (disch := first | omega | (simp only [List.length_set, List.length_replicate, List.length_append, List.length_map, List.length_take, List.length_cons, List.length_nil]; omega)) [wrap64, R2'.X (n := 2) rfl, hP1, hP2, R3.X (n := 10) rfl, hu2, Ed.cs, setC, hF1, hF2]
      refine (c_l1SubstB _ ((Rep.gd (w2 := w2) ok G1).on H) (by have := hek.g; omega)).go ?_
      rintro _ h4 ⟨gu, G, hgn⟩
      obtain ⟨wg, rfl, kg1, kg2, G'⟩ := G.unExq
      have hOg := G'.rep.one
      have hCg := G'.rep.cells
      have H := G'.app H
      simp -implicitDefEqProofs (disch := first | omega | (simp only [List.length_set, List.length_replicate, List.length_append, List.length_map, List.length_take, List.length_cons, List.length_nil]; omega)) [wrap64, setC, hF1, hF2, hOg, hCg]
      refine (c_l1SubstB _ ((Rep.vl ok G2).on H) (by have := hek.v; omega)).go ?_
      rintro _ h4 ⟨va, G, hvn⟩
      obtain ⟨wv, rfl, kv1, kv2, G'⟩ := G.unExq
      have hOv := G'.rep.one
      have hCv := G'.rep.cells
      have H := G'.app H
      simp -implicitDefEqProofs (disch := first | omega | (simp only [List.length_set, List.length_replicate, List.length_append, List.length_map, List.length_take, List.length_cons, List.length_nil]; omega)) [wrap64, setC, hF1, hF2, hOg, hCg, hOv, hCv]
      have H := HS.mkEd (e := ⟨s.procs[i].edges[k2].frm, s.procs[i].edges[k2].to, gu, s.procs[i].edges[k2].var, va, s.procs[i].edges[k2].sync⟩) H.sw1 ⟨ok.frm, ok.to, kg1, kg2, ok.var, kv1, kv2, ok.sync⟩
      refine HS.appO (bytes := 112) H rfl rfl rfl rfl rfl (by omega) (by omega) fun we' h7 H => ?_
      simp -implicitDefEqProofs (disch := first | omega | (simp only [List.length_set, List.length_replicate, List.length_append, List.length_map, List.length_take, List.length_cons, List.length_nil]; omega)) [wrap64, setC, H.rep.one, H.rep.cells]
      refine hJ2 _ _ hk2 ⟨_, we', by simp, H, by simp [hesl], ?_⟩
      intro x hx
      simp only [List.mem_append, List.mem_singleton] at hx
      rcases hx with hx | rfl
      · exact hes x hx
      · exact ⟨by have := hek.g; dsimp only; omega, by have := hek.v; dsimp only; omega⟩
    · have hOe := H.rep.one
      have hCe := H.rep.cells
      simp -implicitDefEqProofs (disch := first | omega | (simp only [List.length_set, List.length_replicate, List.length_append, List.length_map, List.length_take, List.length_cons, List.length_nil]; omega)) [wrap64, setC, hOe, hCe, hOw, hCw, hOi, hCi]
      refine HS.appO (bytes := 32) (HS.mkPr (p := ⟨s.procs[i].locs, es⟩) H k1) rfl rfl rfl rfl rfl (by omega) (by omega) fun w' h7 H => ?_
      simp -implicitDefEqProofs (disch := first | omega | (simp only [List.length_set, List.length_replicate, List.length_append, List.length_map, List.length_take, List.length_cons, List.length_nil]; omega)) [wrap64, setC, H.rep.one, H.rep.cells, hOi, hCi]
      refine hJ _ _ hi ⟨_, w', by simp, H, by simp [hpsl], ?_⟩
      intro x hx
      simp only [List.mem_append, List.mem_singleton] at hx
      rcases hx with hx | rfl
      · exact hps x hx
      · exact ⟨by dsimp only; omega, hes⟩
  · simp -implicitDefEqProofs (disch := first | omega | (simp only [List.length_set, List.length_replicate, List.length_append, List.length_map, List.length_take, List.length_cons, List.length_nil]; omega)) [wrap64, setC, hOi, hCi, hOw, hCw]
    exact RetK.keep (hk _ _ ⟨⟨s.init, ps⟩, HS.mkSy (s := ⟨s.init, ps⟩) H.sw1, ⟨hs.il, by dsimp only; omega, hps⟩, by dsimp only; omega⟩)
end Go.Proofs.Ytonjglbachhdcaa

/-
  Arguments of laws: changed systems.
-/
namespace Go.Proofs.Ytonjglbachhdcaa
open Go
set_option linter.all false
set_option linter.unusedVariables false
set_option linter.unusedSimpArgs false
set_option linter.defProp false
set_option maxRecDepth 1000000

theorem Ed.Sm.le {n m : Nat} {e : Ed} (h : e.Sm n) (hn : n ≤ m) : e.Sm m := ⟨by have := h.g; omega, by have := h.v; omega⟩
theorem Pr.Sm.le {n m : Nat} {p : Pr} (h : p.Sm n) (hn : n ≤ m) : p.Sm m := ⟨by have := h.el; omega, fun e he => (h.ee e he).le hn⟩
theorem Sy.Sm.le {n m : Nat} {s : Sy} (h : s.Sm n) (hn : n ≤ m) : s.Sm m := ⟨by have := h.il; omega, by have := h.pl; omega, fun p hp => (h.pp p hp).le hn⟩
theorem Sy.Sm.set {n : Nat} {s : Sy} (h : s.Sm n) {i : Nat} (hi : i < s.procs.length) (he : 0 < s.procs[i].edges.length) {e : Ed} (hs : e.Sm n) : Sy.Sm n ⟨s.init, s.procs.set i ⟨s.procs[i].locs, s.procs[i].edges.set 0 e⟩⟩ := by
  refine ⟨h.il, by simpa using h.pl, fun p hp => ?_⟩
  rcases List.mem_or_eq_of_mem_set hp with h1 | rfl
  · exact h.pp p h1
  · have h2 := h.pp _ (List.getElem_mem hi)
    refine ⟨by simpa using h2.el, fun x hx => ?_⟩
    rcases List.mem_or_eq_of_mem_set hx with h3 | rfl
    · exact h2.ee x h3
    · exact hs

set_option maxHeartbeats 2000000 in
theorem c_l2Mutate {g h : Heap} {Γ : List HP} {b n : Nat} {sl v : Value} {l : List (BitVec 8)} {p : Int} {s : Sy} (R : Rep g sl l) (Rs : Rep g v s) (hs : s.Sm n) (hn : 40 ≤ n) (hn2 : n ≤ 900) (H : HS g (rb b sl p :: Γ) h) (hp : 0 ≤ p) (hp2 : p + 200 ≤ 1000000000000) :
    CallE Try.prog fn_spec_l2Mutate [.pointer (some ⟨b, 0, none⟩), v] h (fun u h' => ∃ (y : Sy) (p' : Int), HS g (ow u y :: rb b sl p' :: Γ) h' ∧ y.Sm (n + 1) ∧ p ≤ p' ∧ p' ≤ p + 100) := by
  have FS := Rs.aSy
  have Rs0 := Rs
  obtain ⟨v1, v2, rfl, R1, R2'⟩ := Rep_Sy.1 Rs
  have hspl := hs.pl
  refine CallE.gen fun k hk => EN_spec_l2Mutate rfl ?_
  simp -implicitDefEqProofs (disch := first | omega | (simp only [List.length_set, List.length_replicate, List.length_append, List.length_map, List.length_take, List.length_cons, List.length_nil]; omega)) [wrap64, FS]
  refine (c_l2CopyB (Rs0.on H) hs (by omega)).go ?_
  rintro _ h1 ⟨y, G, hyn, hypl⟩
  obtain ⟨wi, w, rfl, G'⟩ := G.unSy
  have H := G'.app H
  have hy := hyn.le (show n ≤ n + 1 by omega)
  have hyil := hyn.il
  have hOi := H.rep.one
  have hCi := H.rep.cells
  have hOw := H.sw1.rep.one
  have hCw := H.sw1.rep.cells
  have hL2 := (R2'.on H).len
  simp -implicitDefEqProofs (disch := first | omega | (simp only [List.length_set, List.length_replicate, List.length_append, List.length_map, List.length_take, List.length_cons, List.length_nil]; omega)) [wrap64, setC, hOi, hCi, hOw, hCw, hL2]
  have H := H.sw2
  refine (c_pick R H (by omega) (by omega) ⟨by omega, by omega⟩).go ?_
  rintro _ h2 ⟨r, rfl, o0, z0, y0, H⟩
  have y0 := y0 (by omega)
  obtain ⟨p1, hp1⟩ : ∃ p1, p1 = p + 1 := ⟨_, rfl⟩
  rw [← hp1] at H
  have hL2 := (R2'.on H).len
  by_cases q0 : r = s.procs.length
  · simp -implicitDefEqProofs (disch := first | omega | (simp only [List.length_set, List.length_replicate, List.length_append, List.length_map, List.length_take, List.length_cons, List.length_nil]; omega)) [wrap64, hL2, q0]
    refine (c_pick (n := 50) R H (by omega) (by omega) ⟨by decide, by decide⟩).go ?_
    rintro _ h3 ⟨r6, rfl, o6, z6, y6, H⟩
    by_cases c0 : r6 = 0
    · simp -implicitDefEqProofs (disch := first | omega | (simp only [List.length_set, List.length_replicate, List.length_append, List.length_map, List.length_take, List.length_cons, List.length_nil]; omega)) [wrap64, c0, setC]
      refine HS.app1 (bytes := 8) H.sw1 (0 : Int) rfl rfl rfl ⟨by decide, by decide⟩ rfl rfl (by omega) (by omega) fun wi' h5 H => ?_
      simp -implicitDefEqProofs (disch := first | omega | (simp only [List.length_set, List.length_replicate, List.length_append, List.length_map, List.length_take, List.length_cons, List.length_nil]; omega)) [wrap64, setC, H.rep.one, H.rep.cells, hOw, hCw]
      exact RetK.keep (hk _ _ ⟨⟨y.init ++ [0], y.procs⟩, _, HS.mkSy (s := ⟨y.init ++ [0], y.procs⟩) (H.under fun _ H => H.sw1), ⟨by have := hyn.il; simp; omega, hy.pl, hy.pp⟩, by omega, by omega⟩)
    by_cases c1 : r6 = 1
    · simp -implicitDefEqProofs (disch := first | omega | (simp only [List.length_set, List.length_replicate, List.length_append, List.length_map, List.length_take, List.length_cons, List.length_nil]; omega)) [wrap64, c0, c1]
      refine H.bls [(0 : Int), 1, 4, 5] rfl rfl (okL (by decide)) (by decide) fun q hq H => ?_
      simp -implicitDefEqProofs (disch := first | omega | (simp only [List.length_set, List.length_replicate, List.length_append, List.length_map, List.length_take, List.length_cons, List.length_nil]; omega)) [wrap64]
      refine (c_num R H (by omega) (by omega) (by simp)).go ?_
      rintro _ h4 ⟨r7, rfl, o7, _, H⟩
      simp -implicitDefEqProofs (disch := first | omega | (simp only [List.length_set, List.length_replicate, List.length_append, List.length_map, List.length_take, List.length_cons, List.length_nil]; omega)) [wrap64, setC]
      have H := HS.mkPr (p := ⟨r7, []⟩) (H.nil_ow (α := Ed)) o7
      refine HS.appO (bytes := 32) (H.sw3.sw1) rfl rfl rfl rfl rfl (by omega) (by omega) fun w' h7 H => ?_
      simp -implicitDefEqProofs (disch := first | omega | (simp only [List.length_set, List.length_replicate, List.length_append, List.length_map, List.length_take, List.length_cons, List.length_nil]; omega)) [wrap64, setC, hOi, hCi, H.rep.one, H.rep.cells]
      refine RetK.keep (hk _ _ ⟨_, _, HS.mkSy (s := ⟨y.init, y.procs ++ [⟨r7, []⟩]⟩) H.sw2, ⟨hy.il, by have := hyn.pl; simp; omega, ?_⟩, by omega, by omega⟩)
      intro x hx
      simp only [List.mem_append, List.mem_singleton] at hx
      rcases hx with hx | rfl
      · exact hy.pp x hx
      · exact ⟨by simp, by simp⟩
    by_cases c2 : r6 = 2
    · simp -implicitDefEqProofs (disch := first | omega | (simp only [List.length_set, List.length_replicate, List.length_append, List.length_map, List.length_take, List.length_cons, List.length_nil]; omega)) [wrap64, c0, c1, c2, setC, hOi, hCi, hOw, hCw]
      exact RetK.keep (hk _ _ ⟨y, _, HS.mkSy H.sw2.sw2, hy, by omega, by omega⟩)
    by_cases c3 : r6 = 3
    · simp -implicitDefEqProofs (disch := first | omega | (simp only [List.length_set, List.length_replicate, List.length_append, List.length_map, List.length_take, List.length_cons, List.length_nil]; omega)) [wrap64, c0, c1, c2, c3, setC, hOi, hCi, hOw, hCw]
      exact RetK.keep (hk _ _ ⟨y, _, HS.mkSy H.sw2.sw2, hy, by omega, by omega⟩)
    by_cases c4 : r6 = 4
    · simp -implicitDefEqProofs (disch := first | omega | (simp only [List.length_set, List.length_replicate, List.length_append, List.length_map, List.length_take, List.length_cons, List.length_nil]; omega)) [wrap64, c0, c1, c2, c3, c4, setC, hOi, hCi, hOw, hCw]
      exact RetK.keep (hk _ _ ⟨y, _, HS.mkSy H.sw2.sw2, hy, by omega, by omega⟩)
    by_cases c5 : r6 = 5
    · simp -implicitDefEqProofs (disch := first | omega | (simp only [List.length_set, List.length_replicate, List.length_append, List.length_map, List.length_take, List.length_cons, List.length_nil]; omega)) [wrap64, c0, c1, c2, c3, c4, c5, setC, hOi, hCi, hOw, hCw]
      exact RetK.keep (hk _ _ ⟨y, _, HS.mkSy H.sw2.sw2, hy, by omega, by omega⟩)
    by_cases c6 : r6 = 6
    · simp -implicitDefEqProofs (disch := first | omega | (simp only [List.length_set, List.length_replicate, List.length_append, List.length_map, List.length_take, List.length_cons, List.length_nil]; omega)) [wrap64, c0, c1, c2, c3, c4, c5, c6, setC]
      exact RetK.keep (hk _ _ ⟨⟨[], []⟩, p1 + 1, HS.mkSy (s := ⟨[], []⟩) (H.sw2.drop.sw1.drop.nil_ow.nil_ow), ⟨by simp, by simp, by simp⟩, by omega, by omega⟩)
    · simp -implicitDefEqProofs (disch := first | omega | (simp only [List.length_set, List.length_replicate, List.length_append, List.length_map, List.length_take, List.length_cons, List.length_nil]; omega)) [wrap64, c0, c1, c2, c3, c4, c5, c6, setC, hOi, hCi, hOw, hCw]
      exact RetK.keep (hk _ _ ⟨y, _, HS.mkSy H.sw2.sw2, hy, by omega, by omega⟩)
  obtain ⟨i, rfl⟩ : ∃ i : Nat, r = i := ⟨r.toNat, (Int.toNat_of_nonneg z0).symm⟩
  have hi : i < y.procs.length := by omega
  have hpi := hyn.pp _ (List.getElem_mem hi)
  obtain ⟨u, hu, Ru⟩ := H.sw2.rep.ld hi
  change hload _ (some (elp 2 w i)) (some 2) = some u at hu
  obtain ⟨we, rfl, kl, R3⟩ := Rep_Pr.1 Ru
  have hP := hld_parts (cs := [.int .i64 y.procs[i].locs, we]) hu
  obtain ⟨ln, hln⟩ : ∃ ln : Int, ln = y.procs[i].edges.length := ⟨_, rfl⟩
  have hlen := R3.len
  rw [← hln] at hlen
  have hX := H.sw2.rep.X (n := 2) rfl
  by_cases q1 : ln = 0
  · simp -implicitDefEqProofs (disch := first | omega | (simp only [List.length_set, List.length_replicate, List.length_append, List.length_map, List.length_take, List.length_cons, List.length_nil]; omega)) [wrap64, hL2, q0, hX, hP.1, hP.2.2.1, hlen, q1]
    refine (c_pick (n := 50) R H (by omega) (by omega) ⟨by decide, by decide⟩).go ?_
    rintro _ h3 ⟨r6, rfl, o6, z6, y6, H⟩
    by_cases c0 : r6 = 0
    · simp -implicitDefEqProofs (disch := first | omega | (simp only [List.length_set, List.length_replicate, List.length_append, List.length_map, List.length_take, List.length_cons, List.length_nil]; omega)) [wrap64, c0, setC]
      refine HS.app1 (bytes := 8) H.sw1 (0 : Int) rfl rfl rfl ⟨by decide, by decide⟩ rfl rfl (by omega) (by omega) fun wi' h5 H => ?_
      simp -implicitDefEqProofs (disch := first | omega | (simp only [List.length_set, List.length_replicate, List.length_append, List.length_map, List.length_take, List.length_cons, List.length_nil]; omega)) [wrap64, setC, H.rep.one, H.rep.cells, hOw, hCw]
      exact RetK.keep (hk _ _ ⟨⟨y.init ++ [0], y.procs⟩, _, HS.mkSy (s := ⟨y.init ++ [0], y.procs⟩) (H.under fun _ H => H.sw1), ⟨by have := hyn.il; simp; omega, hy.pl, hy.pp⟩, by omega, by omega⟩)
    by_cases c1 : r6 = 1
    · simp -implicitDefEqProofs (disch := first | omega | (simp only [List.length_set, List.length_replicate, List.length_append, List.length_map, List.length_take, List.length_cons, List.length_nil]; omega)) [wrap64, c0, c1]
      refine H.bls [(0 : Int), 1, 4, 5] rfl rfl (okL (by decide)) (by decide) fun q hq H => ?_
      simp -implicitDefEqProofs (disch := first | omega | (simp only [List.length_set, List.length_replicate, List.length_append, List.length_map, List.length_take, List.length_cons, List.length_nil]; omega)) [wrap64]
      refine (c_num R H (by omega) (by omega) (by simp)).go ?_
      rintro _ h4 ⟨r7, rfl, o7, _, H⟩
      simp -implicitDefEqProofs (disch := first | omega | (simp only [List.length_set, List.length_replicate, List.length_append, List.length_map, List.length_take, List.length_cons, List.length_nil]; omega)) [wrap64, setC]
      have H := HS.mkPr (p := ⟨r7, []⟩) (H.nil_ow (α := Ed)) o7
      refine HS.appO (bytes := 32) (H.sw3.sw1) rfl rfl rfl rfl rfl (by omega) (by omega) fun w' h7 H => ?_
      simp -implicitDefEqProofs (disch := first | omega | (simp only [List.length_set, List.length_replicate, List.length_append, List.length_map, List.length_take, List.length_cons, List.length_nil]; omega)) [wrap64, setC, hOi, hCi, H.rep.one, H.rep.cells]
      refine RetK.keep (hk _ _ ⟨_, _, HS.mkSy (s := ⟨y.init, y.procs ++ [⟨r7, []⟩]⟩) H.sw2, ⟨hy.il, by have := hyn.pl; simp; omega, ?_⟩, by omega, by omega⟩)
      intro x hx
      simp only [List.mem_append, List.mem_singleton] at hx
      rcases hx with hx | rfl
      · exact hy.pp x hx
      · exact ⟨by simp, by simp⟩
    by_cases c2 : r6 = 2
    · simp -implicitDefEqProofs (disch := first | omega | (simp only [List.length_set, List.length_replicate, List.length_append, List.length_map, List.length_take, List.length_cons, List.length_nil]; omega)) [wrap64, c0, c1, c2, setC, hOi, hCi, hOw, hCw]
      exact RetK.keep (hk _ _ ⟨y, _, HS.mkSy H.sw2.sw2, hy, by omega, by omega⟩)
    by_cases c3 : r6 = 3
    · simp -implicitDefEqProofs (disch := first | omega | (simp only [List.length_set, List.length_replicate, List.length_append, List.length_map, List.length_take, List.length_cons, List.length_nil]; omega)) [wrap64, c0, c1, c2, c3, setC, hOi, hCi, hOw, hCw]
      exact RetK.keep (hk _ _ ⟨y, _, HS.mkSy H.sw2.sw2, hy, by omega, by omega⟩)
    by_cases c4 : r6 = 4
    · simp -implicitDefEqProofs (disch := first | omega | (simp only [List.length_set, List.length_replicate, List.length_append, List.length_map, List.length_take, List.length_cons, List.length_nil]; omega)) [wrap64, c0, c1, c2, c3, c4, setC, hOi, hCi, hOw, hCw]
      exact RetK.keep (hk _ _ ⟨y, _, HS.mkSy H.sw2.sw2, hy, by omega, by omega⟩)
    by_cases c5 : r6 = 5
    · simp -implicitDefEqProofs (disch := first | omega | (simp only [List.length_set, List.length_replicate, List.length_append, List.length_map, List.length_take, List.length_cons, List.length_nil]; omega)) [wrap64, c0, c1, c2, c3, c4, c5, setC, hOi, hCi, hOw, hCw]
      exact RetK.keep (hk _ _ ⟨y, _, HS.mkSy H.sw2.sw2, hy, by omega, by omega⟩)
    by_cases c6 : r6 = 6
    · simp -implicitDefEqProofs (disch := first | omega | (simp only [List.length_set, List.length_replicate, List.length_append, List.length_map, List.length_take, List.length_cons, List.length_nil]; omega)) [wrap64, c0, c1, c2, c3, c4, c5, c6, setC]
      exact RetK.keep (hk _ _ ⟨⟨[], []⟩, p1 + 1, HS.mkSy (s := ⟨[], []⟩) (H.sw2.drop.sw1.drop.nil_ow.nil_ow), ⟨by simp, by simp, by simp⟩, by omega, by omega⟩)
    · simp -implicitDefEqProofs (disch := first | omega | (simp only [List.length_set, List.length_replicate, List.length_append, List.length_map, List.length_take, List.length_cons, List.length_nil]; omega)) [wrap64, c0, c1, c2, c3, c4, c5, c6, setC, hOi, hCi, hOw, hCw]
      exact RetK.keep (hk _ _ ⟨y, _, HS.mkSy H.sw2.sw2, hy, by omega, by omega⟩)
  have he : 0 < y.procs[i].edges.length := by omega
  have hek := hpi.ee _ (List.getElem_mem he)
  have heg : y.procs[i].edges[0].guard.nod ≤ n + 1 := by have := hek.g; omega
  have hev : y.procs[i].edges[0].value.nod ≤ n + 1 := by have := hek.v; omega
  simp -implicitDefEqProofs (disch := first | omega | (simp only [List.length_set, List.length_replicate, List.length_append, List.length_map, List.length_take, List.length_cons, List.length_nil]; omega)) [wrap64, hL2, q0, hX, hP.1, hP.2.2.1, hlen, q1]
  refine (c_pick (n := 50) R H (by omega) (by omega) ⟨by decide, by decide⟩).go ?_
  rintro _ h3 ⟨r6, rfl, o6, z6, y6, H⟩
  by_cases c0 : r6 = 0
  · simp -implicitDefEqProofs (disch := first | omega | (simp only [List.length_set, List.length_replicate, List.length_append, List.length_map, List.length_take, List.length_cons, List.length_nil]; omega)) [wrap64, c0, setC]
    refine HS.app1 (bytes := 8) H.sw1 (0 : Int) rfl rfl rfl ⟨by decide, by decide⟩ rfl rfl (by omega) (by omega) fun wi' h5 H => ?_
    simp -implicitDefEqProofs (disch := first | omega | (simp only [List.length_set, List.length_replicate, List.length_append, List.length_map, List.length_take, List.length_cons, List.length_nil]; omega)) [wrap64, setC, H.rep.one, H.rep.cells, hOw, hCw]
    exact RetK.keep (hk _ _ ⟨⟨y.init ++ [0], y.procs⟩, _, HS.mkSy (s := ⟨y.init ++ [0], y.procs⟩) (H.under fun _ H => H.sw1), ⟨by have := hyn.il; simp; omega, hy.pl, hy.pp⟩, by omega, by omega⟩)
  by_cases c1 : r6 = 1
  · simp -implicitDefEqProofs (disch := first | omega | (simp only [List.length_set, List.length_replicate, List.length_append, List.length_map, List.length_take, List.length_cons, List.length_nil]; omega)) [wrap64, c0, c1]
    refine H.bls [(0 : Int), 1, 4, 5] rfl rfl (okL (by decide)) (by decide) fun q hq H => ?_
    simp -implicitDefEqProofs (disch := first | omega | (simp only [List.length_set, List.length_replicate, List.length_append, List.length_map, List.length_take, List.length_cons, List.length_nil]; omega)) [wrap64]
    refine (c_num R H (by omega) (by omega) (by simp)).go ?_
    rintro _ h4 ⟨r7, rfl, o7, _, H⟩
    simp -implicitDefEqProofs (disch := first | omega | (simp only [List.length_set, List.length_replicate, List.length_append, List.length_map, List.length_take, List.length_cons, List.length_nil]; omega)) [wrap64, setC]
    have H := HS.mkPr (p := ⟨r7, []⟩) (H.nil_ow (α := Ed)) o7
    refine HS.appO (bytes := 32) (H.sw3.sw1) rfl rfl rfl rfl rfl (by omega) (by omega) fun w' h7 H => ?_
    simp -implicitDefEqProofs (disch := first | omega | (simp only [List.length_set, List.length_replicate, List.length_append, List.length_map, List.length_take, List.length_cons, List.length_nil]; omega)) [wrap64, setC, hOi, hCi, H.rep.one, H.rep.cells]
    refine RetK.keep (hk _ _ ⟨_, _, HS.mkSy (s := ⟨y.init, y.procs ++ [⟨r7, []⟩]⟩) H.sw2, ⟨hy.il, by have := hyn.pl; simp; omega, ?_⟩, by omega, by omega⟩)
    intro x hx
    simp only [List.mem_append, List.mem_singleton] at hx
    rcases hx with hx | rfl
    · exact hy.pp x hx
    · exact ⟨by simp, by simp⟩
  by_cases c2 : r6 = 2
  · have H := H.sw2
    obtain ⟨uP, huP, H⟩ := HS.take H hi
    obtain ⟨we, rfl, kl, H⟩ := H.unPr
    obtain ⟨uE, huE, H⟩ := HS.take H he
    obtain ⟨x1, x2, rfl, ok, H⟩ := H.unEd
    have hiaP := HS.holeia H.sw3 (n := 2) (kd := .i64) rfl hi
    have hPP := hld_parts (cs := [.int .i64 y.procs[i].locs, we]) (HS.holeP H.sw3 (n := 2) rfl rfl)
    have hiaE : iaV 10 we (.int .i64 0) = some (elp 10 we 0) := HS.holeia H.sw2 (n := 10) (kd := .i64) rfl he
    have H := H.sw4
    simp -implicitDefEqProofs (disch := first | omega | (simp only [List.length_set, List.length_replicate, List.length_append, List.length_map, List.length_take, List.length_cons, List.length_nil]; omega)) [wrap64, c0, c1, c2, hiaP, hPP.1, hPP.2.2.1, hiaE]
    refine (c_l1Expr R H (by omega) (by omega)).go ?_
    rintro _ h4 ⟨e1, p3, H, hen, hp5, hp6⟩
    have FA := H.rep.aExq
    have hPP := hld_parts (cs := [.int .i64 y.procs[i].locs, we]) (HS.holeP H.sw5 (n := 2) rfl rfl)
    simp -implicitDefEqProofs (disch := first | omega | (simp only [List.length_set, List.length_replicate, List.length_append, List.length_map, List.length_take, List.length_cons, List.length_nil]; omega)) [wrap64, hiaP, hPP.1, hPP.2.2.1, hiaE, FA]
    obtain ⟨g1, H1, H2⟩ := HS.rebase (Δ := [rb b sl p3]) H.sw1
    refine (c_l1Mutate (R.on H1) H1.rep (by omega) H2 (by omega) (by omega)).go ?_
    rintro _ h5 ⟨y2, p4, H3, hyn, hp7, hp8⟩
    have H := H3.app H1
    obtain ⟨w2, rfl, k3, k4, H⟩ := H.unExq
    have hO2 := H.rep.one
    have hPP := hld_parts (cs := [.int .i64 y.procs[i].locs, we]) (HS.holeP H.sw6 (n := 2) rfl rfl)
    have hPE := hld_parts (HS.holeP H.sw5 (n := 10) rfl rfl)
    simp -implicitDefEqProofs (disch := first | omega | (simp only [List.length_set, List.length_replicate, List.length_append, List.length_map, List.length_take, List.length_cons, List.length_nil]; omega)) [wrap64, hiaP, hPP.1, hPP.2.2.1, hiaE, hPE.1]
    refine HS.holest H.sw5 rfl (n := 10) rfl rfl rfl rfl (by simp [hO2]) (by decide) fun h5 H => ?_
    have H : HS g (hole we y.procs[i].edges 0 (.agg (Ed.cs ⟨y.procs[i].edges[0].frm, y.procs[i].edges[0].to, y2, y.procs[i].edges[0].var, y.procs[i].edges[0].value, y.procs[i].edges[0].sync⟩ w2 x2).toArray) :: ow w2 y2.kids :: rb b sl p4 :: ow _ e1 :: ow x1 y.procs[i].edges[0].guard.kids :: ow x2 y.procs[i].edges[0].value.kids :: hole w y.procs i (.agg #[.int .i64 y.procs[i].locs, we]) :: ow wi y.init :: Γ) h5 := H
    have H := HS.put (HS.mkEd (e := ⟨y.procs[i].edges[0].frm, y.procs[i].edges[0].to, y2, y.procs[i].edges[0].var, y.procs[i].edges[0].value, y.procs[i].edges[0].sync⟩) H.sw5.sw2 ⟨ok.frm, ok.to, k3, k4, ok.var, ok.vk, ok.vv, ok.sync⟩)
    have H := HS.put ((HS.mkPr (p := ⟨y.procs[i].locs, y.procs[i].edges.set 0 ⟨y.procs[i].edges[0].frm, y.procs[i].edges[0].to, y2, y.procs[i].edges[0].var, y.procs[i].edges[0].value, y.procs[i].edges[0].sync⟩⟩) H kl).under fun _ H => H.sw3)
    have hOi := H.sw4.rep.one
    have hCi := H.sw4.rep.cells
    have hOw := H.rep.one
    have hCw := H.rep.cells
    simp -implicitDefEqProofs (disch := first | omega | (simp only [List.length_set, List.length_replicate, List.length_append, List.length_map, List.length_take, List.length_cons, List.length_nil]; omega)) [wrap64, setC, hOi, hCi, hOw, hCw]
    exact RetK.keep (hk _ _ ⟨_, _, (HS.mkSy (s := ⟨y.init, y.procs.set i ⟨y.procs[i].locs, y.procs[i].edges.set 0 ⟨y.procs[i].edges[0].frm, y.procs[i].edges[0].to, y2, y.procs[i].edges[0].var, y.procs[i].edges[0].value, y.procs[i].edges[0].sync⟩⟩⟩) H.sw4).sw3.drop.sw2.drop, Sy.Sm.set hy hi he ⟨by first | omega | (dsimp only; omega), hev⟩, by omega, by omega⟩)
  by_cases c3 : r6 = 3
  · have H := H.sw2
    obtain ⟨uP, huP, H⟩ := HS.take H hi
    obtain ⟨we, rfl, kl, H⟩ := H.unPr
    obtain ⟨uE, huE, H⟩ := HS.take H he
    obtain ⟨x1, x2, rfl, ok, H⟩ := H.unEd
    have hiaP := HS.holeia H.sw3 (n := 2) (kd := .i64) rfl hi
    have hPP := hld_parts (cs := [.int .i64 y.procs[i].locs, we]) (HS.holeP H.sw3 (n := 2) rfl rfl)
    have hiaE : iaV 10 we (.int .i64 0) = some (elp 10 we 0) := HS.holeia H.sw2 (n := 10) (kd := .i64) rfl he
    simp -implicitDefEqProofs (disch := first | omega | (simp only [List.length_set, List.length_replicate, List.length_append, List.length_map, List.length_take, List.length_cons, List.length_nil]; omega)) [wrap64, c0, c1, c2, c3, hiaP, hPP.1, hPP.2.2.1, hiaE]
    refine H.bls [(-1 : Int), 3, 0, -2] rfl rfl (okL (by decide)) (by decide) fun q hq H => ?_
    have H := H.sw5.sw1
    have hPP := hld_parts (cs := [.int .i64 y.procs[i].locs, we]) (HS.holeP H.sw5 (n := 2) rfl rfl)
    simp -implicitDefEqProofs (disch := first | omega | (simp only [List.length_set, List.length_replicate, List.length_append, List.length_map, List.length_take, List.length_cons, List.length_nil]; omega)) [wrap64, hiaP, hPP.1, hPP.2.2.1, hiaE]
    refine (c_num R H (by omega) (by omega) (by simp)).go ?_
    rintro _ h4 ⟨r7, rfl, o7, _, H⟩
    have hPP := hld_parts (cs := [.int .i64 y.procs[i].locs, we]) (HS.holeP H.sw4 (n := 2) rfl rfl)
    have hPE := hld_parts (HS.holeP H.sw3 (n := 10) rfl rfl)
    simp -implicitDefEqProofs (disch := first | omega | (simp only [List.length_set, List.length_replicate, List.length_append, List.length_map, List.length_take, List.length_cons, List.length_nil]; omega)) [wrap64, hiaP, hPP.1, hPP.2.2.1, hiaE, hPE.1]
    refine HS.holest H.sw3 rfl (n := 10) rfl rfl rfl rfl rfl (by decide) fun h5 H => ?_
    have H : HS g (hole we y.procs[i].edges 0 (.agg (Ed.cs ⟨y.procs[i].edges[0].frm, y.procs[i].edges[0].to, y.procs[i].edges[0].guard, r7, y.procs[i].edges[0].value, y.procs[i].edges[0].sync⟩ x1 x2).toArray) :: rb b sl (p1 + 1 + 1) :: ow x1 y.procs[i].edges[0].guard.kids :: ow x2 y.procs[i].edges[0].value.kids :: hole w y.procs i (.agg #[.int .i64 y.procs[i].locs, we]) :: ow wi y.init :: Γ) h5 := H
    have H := HS.put (HS.mkEd (e := ⟨y.procs[i].edges[0].frm, y.procs[i].edges[0].to, y.procs[i].edges[0].guard, r7, y.procs[i].edges[0].value, y.procs[i].edges[0].sync⟩) H.sw3.sw3 ⟨ok.frm, ok.to, ok.gk, ok.gv, o7, ok.vk, ok.vv, ok.sync⟩)
    have H := HS.put ((HS.mkPr (p := ⟨y.procs[i].locs, y.procs[i].edges.set 0 ⟨y.procs[i].edges[0].frm, y.procs[i].edges[0].to, y.procs[i].edges[0].guard, r7, y.procs[i].edges[0].value, y.procs[i].edges[0].sync⟩⟩) H kl).under fun _ H => H.sw1)
    have hOi := H.sw2.rep.one
    have hCi := H.sw2.rep.cells
    have hOw := H.rep.one
    have hCw := H.rep.cells
    simp -implicitDefEqProofs (disch := first | omega | (simp only [List.length_set, List.length_replicate, List.length_append, List.length_map, List.length_take, List.length_cons, List.length_nil]; omega)) [wrap64, setC, hOi, hCi, hOw, hCw]
    exact RetK.keep (hk _ _ ⟨_, _, HS.mkSy (s := ⟨y.init, y.procs.set i ⟨y.procs[i].locs, y.procs[i].edges.set 0 ⟨y.procs[i].edges[0].frm, y.procs[i].edges[0].to, y.procs[i].edges[0].guard, r7, y.procs[i].edges[0].value, y.procs[i].edges[0].sync⟩⟩⟩) H.sw2, Sy.Sm.set hy hi he ⟨heg, hev⟩, by omega, by omega⟩)
  by_cases c4 : r6 = 4
  · have H := H.sw2
    obtain ⟨uP, huP, H⟩ := HS.take H hi
    obtain ⟨we, rfl, kl, H⟩ := H.unPr
    obtain ⟨uE, huE, H⟩ := HS.take H he
    obtain ⟨x1, x2, rfl, ok, H⟩ := H.unEd
    have hiaP := HS.holeia H.sw3 (n := 2) (kd := .i64) rfl hi
    have hPP := hld_parts (cs := [.int .i64 y.procs[i].locs, we]) (HS.holeP H.sw3 (n := 2) rfl rfl)
    have hiaE : iaV 10 we (.int .i64 0) = some (elp 10 we 0) := HS.holeia H.sw2 (n := 10) (kd := .i64) rfl he
    simp -implicitDefEqProofs (disch := first | omega | (simp only [List.length_set, List.length_replicate, List.length_append, List.length_map, List.length_take, List.length_cons, List.length_nil]; omega)) [wrap64, c0, c1, c2, c3, c4, hiaP, hPP.1, hPP.2.2.1, hiaE]
    refine H.bls [(3 : Int), -3, 2, -9223372036854775808] rfl rfl (okL (by decide)) (by decide) fun q hq H => ?_
    have H := H.sw5.sw1
    have hPP := hld_parts (cs := [.int .i64 y.procs[i].locs, we]) (HS.holeP H.sw5 (n := 2) rfl rfl)
    simp -implicitDefEqProofs (disch := first | omega | (simp only [List.length_set, List.length_replicate, List.length_append, List.length_map, List.length_take, List.length_cons, List.length_nil]; omega)) [wrap64, hiaP, hPP.1, hPP.2.2.1, hiaE]
    refine (c_num R H (by omega) (by omega) (by simp)).go ?_
    rintro _ h4 ⟨r7, rfl, o7, _, H⟩
    have hPP := hld_parts (cs := [.int .i64 y.procs[i].locs, we]) (HS.holeP H.sw4 (n := 2) rfl rfl)
    have hPE := hld_parts (HS.holeP H.sw3 (n := 10) rfl rfl)
    simp -implicitDefEqProofs (disch := first | omega | (simp only [List.length_set, List.length_replicate, List.length_append, List.length_map, List.length_take, List.length_cons, List.length_nil]; omega)) [wrap64, hiaP, hPP.1, hPP.2.2.1, hiaE, hPE.1]
    refine HS.holest H.sw3 rfl (n := 10) rfl rfl rfl rfl rfl (by decide) fun h5 H => ?_
    have H : HS g (hole we y.procs[i].edges 0 (.agg (Ed.cs ⟨y.procs[i].edges[0].frm, y.procs[i].edges[0].to, y.procs[i].edges[0].guard, y.procs[i].edges[0].var, y.procs[i].edges[0].value, r7⟩ x1 x2).toArray) :: rb b sl (p1 + 1 + 1) :: ow x1 y.procs[i].edges[0].guard.kids :: ow x2 y.procs[i].edges[0].value.kids :: hole w y.procs i (.agg #[.int .i64 y.procs[i].locs, we]) :: ow wi y.init :: Γ) h5 := H
    have H := HS.put (HS.mkEd (e := ⟨y.procs[i].edges[0].frm, y.procs[i].edges[0].to, y.procs[i].edges[0].guard, y.procs[i].edges[0].var, y.procs[i].edges[0].value, r7⟩) H.sw3.sw3 ⟨ok.frm, ok.to, ok.gk, ok.gv, ok.var, ok.vk, ok.vv, o7⟩)
    have H := HS.put ((HS.mkPr (p := ⟨y.procs[i].locs, y.procs[i].edges.set 0 ⟨y.procs[i].edges[0].frm, y.procs[i].edges[0].to, y.procs[i].edges[0].guard, y.procs[i].edges[0].var, y.procs[i].edges[0].value, r7⟩⟩) H kl).under fun _ H => H.sw1)
    have hOi := H.sw2.rep.one
    have hCi := H.sw2.rep.cells
    have hOw := H.rep.one
    have hCw := H.rep.cells
    simp -implicitDefEqProofs (disch := first | omega | (simp only [List.length_set, List.length_replicate, List.length_append, List.length_map, List.length_take, List.length_cons, List.length_nil]; omega)) [wrap64, setC, hOi, hCi, hOw, hCw]
    exact RetK.keep (hk _ _ ⟨_, _, HS.mkSy (s := ⟨y.init, y.procs.set i ⟨y.procs[i].locs, y.procs[i].edges.set 0 ⟨y.procs[i].edges[0].frm, y.procs[i].edges[0].to, y.procs[i].edges[0].guard, y.procs[i].edges[0].var, y.procs[i].edges[0].value, r7⟩⟩⟩) H.sw2, Sy.Sm.set hy hi he ⟨heg, hev⟩, by omega, by omega⟩)
  by_cases c5 : r6 = 5
  · have H := H.sw2
    obtain ⟨uP, huP, H⟩ := HS.take H hi
    obtain ⟨we, rfl, kl, H⟩ := H.unPr
    obtain ⟨uE, huE, H⟩ := HS.take H he
    obtain ⟨x1, x2, rfl, ok, H⟩ := H.unEd
    have hiaP := HS.holeia H.sw3 (n := 2) (kd := .i64) rfl hi
    have hPP := hld_parts (cs := [.int .i64 y.procs[i].locs, we]) (HS.holeP H.sw3 (n := 2) rfl rfl)
    have hiaE : iaV 10 we (.int .i64 0) = some (elp 10 we 0) := HS.holeia H.sw2 (n := 10) (kd := .i64) rfl he
    simp -implicitDefEqProofs (disch := first | omega | (simp only [List.length_set, List.length_replicate, List.length_append, List.length_map, List.length_take, List.length_cons, List.length_nil]; omega)) [wrap64, c0, c1, c2, c3, c4, c5, hiaP, hPP.1, hPP.2.2.1, hiaE]
    refine H.bls [(-1 : Int), 4, 0, 9223372036854775807] rfl rfl (okL (by decide)) (by decide) fun q hq H => ?_
    have H := H.sw5.sw1
    have hPP := hld_parts (cs := [.int .i64 y.procs[i].locs, we]) (HS.holeP H.sw5 (n := 2) rfl rfl)
    simp -implicitDefEqProofs (disch := first | omega | (simp only [List.length_set, List.length_replicate, List.length_append, List.length_map, List.length_take, List.length_cons, List.length_nil]; omega)) [wrap64, hiaP, hPP.1, hPP.2.2.1, hiaE]
    refine (c_num R H (by omega) (by omega) (by simp)).go ?_
    rintro _ h4 ⟨r7, rfl, o7, _, H⟩
    have hPP := hld_parts (cs := [.int .i64 y.procs[i].locs, we]) (HS.holeP H.sw4 (n := 2) rfl rfl)
    have hPE := hld_parts (HS.holeP H.sw3 (n := 10) rfl rfl)
    simp -implicitDefEqProofs (disch := first | omega | (simp only [List.length_set, List.length_replicate, List.length_append, List.length_map, List.length_take, List.length_cons, List.length_nil]; omega)) [wrap64, hiaP, hPP.1, hPP.2.2.1, hiaE, hPE.1]
    refine HS.holest H.sw3 rfl (n := 10) rfl rfl rfl rfl rfl (by decide) fun h5 H => ?_
    have H : HS g (hole we y.procs[i].edges 0 (.agg (Ed.cs ⟨y.procs[i].edges[0].frm, r7, y.procs[i].edges[0].guard, y.procs[i].edges[0].var, y.procs[i].edges[0].value, y.procs[i].edges[0].sync⟩ x1 x2).toArray) :: rb b sl (p1 + 1 + 1) :: ow x1 y.procs[i].edges[0].guard.kids :: ow x2 y.procs[i].edges[0].value.kids :: hole w y.procs i (.agg #[.int .i64 y.procs[i].locs, we]) :: ow wi y.init :: Γ) h5 := H
    have H := HS.put (HS.mkEd (e := ⟨y.procs[i].edges[0].frm, r7, y.procs[i].edges[0].guard, y.procs[i].edges[0].var, y.procs[i].edges[0].value, y.procs[i].edges[0].sync⟩) H.sw3.sw3 ⟨ok.frm, o7, ok.gk, ok.gv, ok.var, ok.vk, ok.vv, ok.sync⟩)
    have H := HS.put ((HS.mkPr (p := ⟨y.procs[i].locs, y.procs[i].edges.set 0 ⟨y.procs[i].edges[0].frm, r7, y.procs[i].edges[0].guard, y.procs[i].edges[0].var, y.procs[i].edges[0].value, y.procs[i].edges[0].sync⟩⟩) H kl).under fun _ H => H.sw1)
    have hOi := H.sw2.rep.one
    have hCi := H.sw2.rep.cells
    have hOw := H.rep.one
    have hCw := H.rep.cells
    simp -implicitDefEqProofs (disch := first | omega | (simp only [List.length_set, List.length_replicate, List.length_append, List.length_map, List.length_take, List.length_cons, List.length_nil]; omega)) [wrap64, setC, hOi, hCi, hOw, hCw]
    exact RetK.keep (hk _ _ ⟨_, _, HS.mkSy (s := ⟨y.init, y.procs.set i ⟨y.procs[i].locs, y.procs[i].edges.set 0 ⟨y.procs[i].edges[0].frm, r7, y.procs[i].edges[0].guard, y.procs[i].edges[0].var, y.procs[i].edges[0].value, y.procs[i].edges[0].sync⟩⟩⟩) H.sw2, Sy.Sm.set hy hi he ⟨heg, hev⟩, by omega, by omega⟩)
  by_cases c6 : r6 = 6
  · simp -implicitDefEqProofs (disch := first | omega | (simp only [List.length_set, List.length_replicate, List.length_append, List.length_map, List.length_take, List.length_cons, List.length_nil]; omega)) [wrap64, c0, c1, c2, c3, c4, c5, c6, setC]
    exact RetK.keep (hk _ _ ⟨⟨[], []⟩, p1 + 1, HS.mkSy (s := ⟨[], []⟩) (H.sw2.drop.sw1.drop.nil_ow.nil_ow), ⟨by simp, by simp, by simp⟩, by omega, by omega⟩)
  · simp -implicitDefEqProofs (disch := first | omega | (simp only [List.length_set, List.length_replicate, List.length_append, List.length_map, List.length_take, List.length_cons, List.length_nil]; omega)) [wrap64, c0, c1, c2, c3, c4, c5, c6, setC, hOi, hCi, hOw, hCw]
    exact RetK.keep (hk _ _ ⟨y, _, HS.mkSy H.sw2.sw2, hy, by omega, by omega⟩)
end Go.Proofs.Ytonjglbachhdcaa

/-
  Arguments of laws: labels that are drawn.
-/
namespace Go.Proofs.Ytonjglbachhdcaa
open Go
set_option linter.all false
set_option linter.unusedVariables false
set_option linter.unusedSimpArgs false
set_option linter.defProp false
set_option maxRecDepth 1000000

/-- the front of a list -/
theorem HS.cutF {α : Type} [Ty α] {g h : Heap} {Γ : List HP} {v : Value} {l : List α} (H : HS g (ow v l :: Γ) h) {n esz : Nat} {k : IntKind} (hn : n ≤ l.length) : ∃ v', sliceVV esz v none (some (some (.int k n))) none = some v' ∧ HS g (ow v' (l.take n) :: Γ) h := by
  obtain ⟨g', r, rfl, d, O, H⟩ := H
  rcases Own_list.1 O with ⟨p, rfl, rfl, rfl, hp⟩ | ⟨b, off, cap, cells, el, r', rfl, ⟨h1, hM⟩, h2, rfl, h4, h5⟩
  · have hn0 : n = 0 := by simpa using hn
    subst hn0
    exact ⟨.slice p 0 0, by simp [sliceVV, bndV], g', Heap.nil, rfl, d, Own_list.2 (.inl ⟨p, rfl, by simp, rfl, hp⟩), H⟩
  · rw [← List.take_append_drop n l] at h5
    obtain ⟨r1, r2, rfl, d2, h6, h7⟩ := ownL_split h5
    obtain ⟨d3, d4⟩ := Dj_add.1 d
    obtain ⟨d5, d6⟩ := Dj_add.1 d4
    obtain ⟨n1, n2⟩ : r1 b = none ∧ r2 b = none := by simpa [Heap.add] using h4
    refine ⟨.slice (some ⟨b, off, none⟩) n cap, ?_, g'.add r2, (Heap.one b (.cells cells.toArray el (0, 0))).add r1, by ac_rfl, ?_, ?_, H.le (le_add d6)⟩
    · have : n ≤ cap := by omega
      simp [sliceVV, bndV, add_none, this]
    · exact Dj_add.2 ⟨add_Dj.2 ⟨d3, (Dj_one.2 n2)⟩, add_Dj.2 ⟨d5, d2.symm⟩⟩
    · have hl : (l.take n).length = n := by simp; omega
      exact Own_list.2 (.inr ⟨b, off, cap, cells, el, r1, by rw [hl], ⟨by omega, by omega⟩, h2, rfl, n1, h6⟩)

theorem c_l8Labels {g h : Heap} {Γ : List HP} {b : Nat} {sl : Value} {l : List (BitVec 8)} {p : Int} (R : Rep g sl l) (H : HS g (rb b sl p :: Γ) h) (hp : 0 ≤ p) (hp2 : p + 200 ≤ 1000000000000) :
    CallE Try.prog fn_spec_l8Labels [.pointer (some ⟨b, 0, none⟩)] h (fun u h' => ∃ (y : List Exq) (p' : Int), HS g (ow u y :: rb b sl p' :: Γ) h' ∧ y.length ≤ 3 ∧ p ≤ p' ∧ p' ≤ p + 50) := by
  refine CallE.gen fun k hk => EN_spec_l8Labels rfl ?_
  simp -implicitDefEqProofs (disch := first | omega | (simp only [List.length_set, List.length_replicate, List.length_append, List.length_map, List.length_take, List.length_cons, List.length_nil]; omega)) [wrap64]
  refine H.bls0 Exq fun o h1 H => ?_
  simp -implicitDefEqProofs (disch := first | omega | (simp only [List.length_set, List.length_replicate, List.length_append, List.length_map, List.length_take, List.length_cons, List.length_nil]; omega)) [wrap64]
  refine wp_count 3 (fun i e h' => ∃ (ls : List Exq) (w : Value) (p' : Int), e = [some (.pointer (some ⟨b, 0, none⟩)), none, some w, some (.int .i64 i), none, none] ∧ HS g (ow w ls :: rb b sl p' :: Γ) h' ∧ ls.length = i ∧ (∀ x ∈ ls, x.nod ≤ 4) ∧ p ≤ p' ∧ p' ≤ p + 6 * i) ⟨[], o, _, by simp, H, rfl, by simp, by omega, by omega⟩ ?_
  clear H
  rintro J i _ h2 hJ hi ⟨ls, w, p1, rfl, H, hl, hls, hp3, hp4⟩
  simp -implicitDefEqProofs (disch := first | omega | (simp only [List.length_set, List.length_replicate, List.length_append, List.length_map, List.length_take, List.length_cons, List.length_nil]; omega)) [wrap64]
  refine IteW.mk (fun hlt => ?_) (fun hge => ?_)
  · simp -implicitDefEqProofs (disch := first | omega | (simp only [List.length_set, List.length_replicate, List.length_append, List.length_map, List.length_take, List.length_cons, List.length_nil]; omega)) [wrap64]
    refine (c_l2Guard R H.sw1 (by omega) (by omega)).go ?_
    rintro _ h3 ⟨y, p2, H, hy, hp5, hp6⟩
    obtain ⟨wy, rfl, k1, k2, H'⟩ := H.unExq
    have hO := H'.rep.one
    have hC := H'.rep.cells
    by_cases c1 : y.kind = 1
    · simp -implicitDefEqProofs (disch := first | omega | (simp only [List.length_set, List.length_replicate, List.length_append, List.length_map, List.length_take, List.length_cons, List.length_nil]; omega)) [wrap64, setC, hO, hC, c1]
      refine (c_pick (n := 3) R H.sw1 (by omega) (by omega) ⟨by decide, by decide⟩).go ?_
      rintro _ h1 ⟨r1, rfl, o1, z1, y1, H⟩
      simp -implicitDefEqProofs (disch := first | omega | (simp only [List.length_set, List.length_replicate, List.length_append, List.length_map, List.length_take, List.length_cons, List.length_nil]; omega)) [wrap64, setC]
      refine HS.appO (bytes := 40) ((H.sw1.drop.sw1).mkE0 (kd := 2) (vl := r1) ⟨by decide, by decide⟩ o1) rfl rfl rfl rfl rfl (by omega) (by omega) fun w' h7 H => ?_
      simp -implicitDefEqProofs (disch := first | omega | (simp only [List.length_set, List.length_replicate, List.length_append, List.length_map, List.length_take, List.length_cons, List.length_nil]; omega)) [wrap64]
      refine hJ _ _ (by omega) ⟨_, w', _, by simp, H, by simp [hl], ?_, by omega, by push_cast; omega⟩
      intro x hx
      simp only [List.mem_append, List.mem_singleton] at hx
      rcases hx with hx | rfl
      · exact hls x hx
      · rw [Exq.nod_mk0]; omega
    · simp -implicitDefEqProofs (disch := first | omega | (simp only [List.length_set, List.length_replicate, List.length_append, List.length_map, List.length_take, List.length_cons, List.length_nil]; omega)) [wrap64, setC, hO, hC, c1]
      refine HS.appO (bytes := 40) (H.sw2.sw1) rfl rfl rfl rfl rfl (by omega) (by omega) fun w' h7 H => ?_
      simp -implicitDefEqProofs (disch := first | omega | (simp only [List.length_set, List.length_replicate, List.length_append, List.length_map, List.length_take, List.length_cons, List.length_nil]; omega)) [wrap64]
      refine hJ _ _ (by omega) ⟨_, w', _, by simp, H, by simp [hl], ?_, by omega, by push_cast; omega⟩
      intro x hx
      simp only [List.mem_append, List.mem_singleton] at hx
      rcases hx with hx | rfl
      · exact hls x hx
      · exact hy
  obtain rfl : i = 3 := by omega
  simp -implicitDefEqProofs (disch := first | omega | (simp only [List.length_set, List.length_replicate, List.length_append, List.length_map, List.length_take, List.length_cons, List.length_nil]; omega)) [wrap64]
  refine (c_pick (n := 40) R H.sw1 (by omega) (by omega) ⟨by decide, by decide⟩).go ?_
  rintro _ h3 ⟨r1, rfl, o1, z1, y1, H⟩
  by_cases c0 : r1 = 0
  · obtain ⟨w', e1, H'⟩ := H.sw1.cutF (n := 2) (esz := 3) (k := .i64) (by omega)
    have e2 : sliceVV 3 w none (some (some (.int .i64 2))) none = some w' := e1
    simp -implicitDefEqProofs (disch := first | omega | (simp only [List.length_set, List.length_replicate, List.length_append, List.length_map, List.length_take, List.length_cons, List.length_nil]; omega)) [wrap64, c0, e2]
    exact RetK.keep (hk _ _ ⟨_, _, H', by simp; omega, by omega, by omega⟩)
  by_cases c1 : r1 = 1
  · have h1l : 1 < ls.length := by omega
    obtain ⟨g1, H1, H2⟩ := HS.rebase (Δ := [rb b sl (p1 + 1)]) H
    obtain ⟨u, hu, Ru⟩ := H1.rep.ld h1l
    have hu2 := hload_le H2.base hu
    change hload _ (some (elp 3 w 1)) (some 3) = some u at hu2
    have hia : iaV 3 w (.int .i64 1) = some (elp 3 w 1) := (H1.rep.X (n := 3) rfl).1 .i64 1 h1l
    have hx := hls _ (List.getElem_mem h1l)
    simp -implicitDefEqProofs (disch := first | omega | (simp only [List.length_set, List.length_replicate, List.length_append, List.length_map, List.length_take, List.length_cons, List.length_nil]; omega)) [wrap64, c0, c1, hia, hu2, Ru.aExq]
    refine (c_l1Mutate (R.on H1) Ru (by omega) H2 (by omega) (by omega)).go ?_
    rintro _ h4 ⟨y2, p2, H3, hyn, hp5, hp6⟩
    have H := H3.app H1
    have FA := H.rep.aExq
    simp -implicitDefEqProofs (disch := first | omega | (simp only [List.length_set, List.length_replicate, List.length_append, List.length_map, List.length_take, List.length_cons, List.length_nil]; omega)) [wrap64, FA]
    obtain ⟨g2, H1, H2⟩ := HS.rebase (Δ := [rb b sl p2]) H.sw1
    refine (c_l1Mutate (R.on H1) H1.rep (by omega) H2 (by omega) (by omega)).go ?_
    rintro _ h4 ⟨y3, p3, H3, hyn, hp7, hp8⟩
    have H := H3.app H1
    have FB := H.rep.aExq
    simp -implicitDefEqProofs (disch := first | omega | (simp only [List.length_set, List.length_replicate, List.length_append, List.length_map, List.length_take, List.length_cons, List.length_nil]; omega)) [wrap64, hia, FB]
    refine HS.store H.sw3.sw1 (i := 1) h1l rfl rfl rfl fun h5 H => ?_
    simp -implicitDefEqProofs (disch := first | omega | (simp only [List.length_set, List.length_replicate, List.length_append, List.length_map, List.length_take, List.length_cons, List.length_nil]; omega)) [wrap64]
    exact RetK.keep (hk _ _ ⟨_, _, H.sw2.drop, by simp; omega, by omega, by omega⟩)
  · simp -implicitDefEqProofs (disch := first | omega | (simp only [List.length_set, List.length_replicate, List.length_append, List.length_map, List.length_take, List.length_cons, List.length_nil]; omega)) [wrap64, c0, c1]
    exact RetK.keep (hk _ _ ⟨ls, _, H.sw1, by omega, by omega, by omega⟩)
end Go.Proofs.Ytonjglbachhdcaa

/-
  Arguments of laws: systems with labels.
-/
namespace Go.Proofs.Ytonjglbachhdcaa
open Go
set_option linter.all false
set_option linter.unusedVariables false
set_option linter.unusedSimpArgs false
set_option linter.defProp false
set_option maxRecDepth 1000000

theorem c_l14Labels {g h : Heap} {Γ : List HP} {b : Nat} {sl : Value} {l : List (BitVec 8)} {p : Int} (R : Rep g sl l) (H : HS g (rb b sl p :: Γ) h) (hp : 0 ≤ p) (hp2 : p + 200 ≤ 1000000000000) :
    CallE Try.prog fn_spec_l14Labels [.pointer (some ⟨b, 0, none⟩)] h (fun u h' => ∃ (y : List Exq) (p' : Int), HS g (ow u y :: rb b sl p' :: Γ) h' ∧ y.length ≤ 3 ∧ p ≤ p' ∧ p' ≤ p + 60) := by
  refine CallE.gen fun k hk => EN_spec_l14Labels rfl ?_
  simp -implicitDefEqProofs (disch := first | omega | (simp only [List.length_set, List.length_replicate, List.length_append, List.length_map, List.length_take, List.length_cons, List.length_nil]; omega)) [wrap64]
  refine (c_l8Labels R H (by omega) (by omega)).go ?_
  rintro w h1 ⟨y, p1, H, hyl, hp3, hp4⟩
  simp -implicitDefEqProofs (disch := first | omega | (simp only [List.length_set, List.length_replicate, List.length_append, List.length_map, List.length_take, List.length_cons, List.length_nil]; omega)) [wrap64]
  refine wp_count y.length (fun i e h' => ∃ (ls : List Exq) (p' : Int), e = [some (.pointer (some ⟨b, 0, none⟩)), none, some w, some (.int .i64 i)] ∧ HS g (ow w ls :: rb b sl p' :: Γ) h' ∧ ls.length = y.length ∧ p1 ≤ p' ∧ p' ≤ p1 + 2 * i) ⟨y, p1, by simp, H, rfl, by omega, by omega⟩ ?_
  clear H
  rintro J i _ h2 hJ hi ⟨ls, p2, rfl, H, hl, hp5, hp6⟩
  simp -implicitDefEqProofs (disch := first | omega | (simp only [List.length_set, List.length_replicate, List.length_append, List.length_map, List.length_take, List.length_cons, List.length_nil]; omega)) [wrap64, H.rep.len]
  refine IteW.mk (fun hlt => ?_) (fun hge => ?_)
  · simp -implicitDefEqProofs (disch := first | omega | (simp only [List.length_set, List.length_replicate, List.length_append, List.length_map, List.length_take, List.length_cons, List.length_nil]; omega)) [wrap64]
    refine (c_pick (n := 2) R H.sw1 (by omega) (by omega) ⟨by decide, by decide⟩).go ?_
    rintro _ h3 ⟨r1, rfl, o1, z1, y1, H⟩
    by_cases c0 : r1 = 0
    · simp -implicitDefEqProofs (disch := first | omega | (simp only [List.length_set, List.length_replicate, List.length_append, List.length_map, List.length_take, List.length_cons, List.length_nil]; omega)) [wrap64, c0]
      refine (c_pick (n := 3) R H (by omega) (by omega) ⟨by decide, by decide⟩).go ?_
      rintro _ h3 ⟨r2, rfl, o2, z2, y2, H⟩
      simp -implicitDefEqProofs (disch := first | omega | (simp only [List.length_set, List.length_replicate, List.length_append, List.length_map, List.length_take, List.length_cons, List.length_nil]; omega)) [wrap64, setC]
      refine HS.blsO2 ((H.mkE0 (kd := 1) (vl := r2) ⟨by decide, by decide⟩ o2).mkE0 (kd := 2) (vl := 0) ⟨by decide, by decide⟩ ⟨by decide, by decide⟩) rfl fun q h4 H => ?_
      have hO := H.rep.one
      have hC := H.rep.cells
      have hil : i < ls.length := by omega
      simp -implicitDefEqProofs (disch := first | omega | (simp only [List.length_set, List.length_replicate, List.length_append, List.length_map, List.length_take, List.length_cons, List.length_nil]; omega)) [wrap64, setC, hO, hC, H.sw2.rep.X (n := 3) rfl]
      have H := HS.mkExq' (kd := 6) (vl := 0) H ⟨by decide, by decide⟩ ⟨by decide, by decide⟩
      refine HS.store H.sw2.sw1 (i := i) hil rfl rfl rfl fun h5 H => ?_
      simp -implicitDefEqProofs (disch := first | omega | (simp only [List.length_set, List.length_replicate, List.length_append, List.length_map, List.length_take, List.length_cons, List.length_nil]; omega)) [wrap64]
      exact hJ _ _ (by omega) ⟨_, _, by simp, H, by simp [hl], by omega, by push_cast; omega⟩
    · simp -implicitDefEqProofs (disch := first | omega | (simp only [List.length_set, List.length_replicate, List.length_append, List.length_map, List.length_take, List.length_cons, List.length_nil]; omega)) [wrap64, c0]
      exact hJ _ _ (by omega) ⟨ls, _, by simp, H.sw1, hl, by omega, by push_cast; omega⟩
  simp -implicitDefEqProofs (disch := first | omega | (simp only [List.length_set, List.length_replicate, List.length_append, List.length_map, List.length_take, List.length_cons, List.length_nil]; omega)) [wrap64]
  exact RetK.keep (hk _ _ ⟨ls, p2, H, by omega, by omega, by omega⟩)

theorem Sy.Sm.setk {n : Nat} {s : Sy} (h : s.Sm n) {i k : Nat} (hi : i < s.procs.length) (_hk : k < s.procs[i].edges.length) {e : Ed} (hs : e.Sm n) : Sy.Sm n ⟨s.init, s.procs.set i ⟨s.procs[i].locs, s.procs[i].edges.set k e⟩⟩ := by
  refine ⟨h.il, by simpa using h.pl, fun p hp => ?_⟩
  rcases List.mem_or_eq_of_mem_set hp with h1 | rfl
  · exact h.pp p h1
  · have h2 := h.pp _ (List.getElem_mem hi)
    refine ⟨by simpa using h2.el, fun x hx => ?_⟩
    rcases List.mem_or_eq_of_mem_set hx with h3 | rfl
    · exact h2.ee x h3
    · exact hs

theorem c_l14System {g h : Heap} {Γ : List HP} {b : Nat} {sl : Value} {l : List (BitVec 8)} {p : Int} (R : Rep g sl l) (H : HS g (rb b sl p :: Γ) h) (hp : 0 ≤ p) (hp2 : p + 5000 ≤ 1000000000000) :
    CallE Try.prog fn_spec_l14System [.pointer (some ⟨b, 0, none⟩)] h (fun u h' => ∃ (y : Sy) (p' : Int), HS g (ow u y :: rb b sl p' :: Γ) h' ∧ y.Sm 40 ∧ p ≤ p' ∧ p' ≤ p + 4000) := by
  refine CallE.gen fun k hk => EN_spec_l14System rfl ?_
  simp -implicitDefEqProofs (disch := first | omega | (simp only [List.length_set, List.length_replicate, List.length_append, List.length_map, List.length_take, List.length_cons, List.length_nil]; omega)) [wrap64]
  refine (c_l2System R H (by omega) (by omega)).go ?_
  rintro _ h1 ⟨y0, p1, H, hy0, hp3, hp4⟩
  obtain ⟨wi, w, rfl, H'⟩ := H.unSy
  replace H := H'
  have hOi := H.rep.one
  have hCi := H.rep.cells
  have hOw := H.sw1.rep.one
  have hCw := H.sw1.rep.cells
  obtain ⟨N, hN⟩ : ∃ N, N = y0.procs.length := ⟨_, rfl⟩
  have hN2 : N ≤ 40 := by have := hy0.pl; omega
  simp -implicitDefEqProofs (disch := first | omega | (simp only [List.length_set, List.length_replicate, List.length_append, List.length_map, List.length_take, List.length_cons, List.length_nil]; omega)) [wrap64, setC, hOi, hCi, hOw, hCw]
  refine wp_while (σ := Nat) (fun i e h' => ∃ (y : Sy) (p' : Int), e = [some (.pointer (some ⟨b, 0, none⟩)), some (.agg #[.slice none 0 0, .slice none 0 0]), some (.agg #[wi, w]), some (.int .i64 i), none] ∧ HS g (ow w y.procs :: ow wi y.init :: rb b sl p' :: Γ) h' ∧ y.Sm 40 ∧ y.procs.length = N ∧ i ≤ N ∧ p1 ≤ p' ∧ p' ≤ p1 + 50 * i) (fun i => N - i) 0 ⟨y0, p1, by simp, H.sw1, hy0, hN.symm, by omega, by omega, by omega⟩ ?_
  clear H hOi hCi hOw hCw
  rintro J i _ h2 hJ ⟨y, p2, rfl, H, hy, hyl, hi, hp5, hp6⟩
  simp -implicitDefEqProofs (disch := first | omega | (simp only [List.length_set, List.length_replicate, List.length_append, List.length_map, List.length_take, List.length_cons, List.length_nil]; omega)) [wrap64, H.rep.len]
  by_cases c0 : i < y.procs.length
  · simp -implicitDefEqProofs (disch := first | omega | (simp only [List.length_set, List.length_replicate, List.length_append, List.length_map, List.length_take, List.length_cons, List.length_nil]; omega)) [wrap64, c0]
    refine wp_while (σ := Nat) (fun k e h' => ∃ (y : Sy) (p' : Int), e = [some (.pointer (some ⟨b, 0, none⟩)), some (.agg #[.slice none 0 0, .slice none 0 0]), some (.agg #[wi, w]), some (.int .i64 i), some (.int .i64 k)] ∧ HS g (ow w y.procs :: ow wi y.init :: rb b sl p' :: Γ) h' ∧ y.Sm 40 ∧ y.procs.length = N ∧ k ≤ 40 ∧ p2 ≤ p' ∧ p' ≤ p2 + k) (fun k => 41 - k) 0 ⟨y, p2, by simp, H, hy, hyl, by omega, by omega, by omega⟩ ?_
    have c0' : i < N := by omega
    clear H hy c0 hyl y
    rintro J2 k2 _ h3 hJ2 ⟨y, p3, rfl, H, hy, hyl, hk2, hp7, hp8⟩
    have hi2 : i < y.procs.length := by omega
    have hpi := hy.pp _ (List.getElem_mem hi2)
    have hel := hpi.el
    obtain ⟨uP, huP, H1⟩ := HS.take H hi2
    obtain ⟨we, rfl, kl, H2⟩ := H1.unPr
    replace H1 := H2
    have hiaP := HS.holeia H1.sw1 (n := 2) (kd := .i64) rfl hi2
    have hPP := hld_parts (cs := [.int .i64 y.procs[i].locs, we]) (HS.holeP H1.sw1 (n := 2) rfl rfl)
    have hlen := H1.rep.len
    simp -implicitDefEqProofs (disch := first | omega | (simp only [List.length_set, List.length_replicate, List.length_append, List.length_map, List.length_take, List.length_cons, List.length_nil]; omega)) [wrap64, hiaP, hPP.1, hPP.2.2.1, hlen]
    by_cases c1 : k2 < y.procs[i].edges.length
    · simp -implicitDefEqProofs (disch := first | omega | (simp only [List.length_set, List.length_replicate, List.length_append, List.length_map, List.length_take, List.length_cons, List.length_nil]; omega)) [wrap64, c1]
      have H := H1.sw3
      refine (c_pick (n := 3) R H (by omega) (by omega) ⟨by decide, by decide⟩).go ?_
      rintro _ h4 ⟨r1, rfl, o1, z1, y1, H⟩
      by_cases c2 : 0 < r1
      · obtain ⟨uE, huE, H⟩ := HS.take H.sw1 c1
        obtain ⟨x1, x2, rfl, ok, H2'⟩ := H.unEd
        replace H := H2'
        have hiaP := HS.holeia H.sw4 (n := 2) (kd := .i64) rfl hi2
        have hPP := hld_parts (cs := [.int .i64 y.procs[i].locs, we]) (HS.holeP H.sw4 (n := 2) rfl rfl)
        have hiaE := HS.holeia H.sw2 (n := 10) (kd := .i64) rfl c1
        have hPE := hld_parts (HS.holeP H.sw2 (n := 10) rfl rfl)
        simp -implicitDefEqProofs (disch := first | omega | (simp only [List.length_set, List.length_replicate, List.length_append, List.length_map, List.length_take, List.length_cons, List.length_nil]; omega)) [wrap64, c2, hiaP, hPP.1, hPP.2.2.1, hiaE, hPE.1, setC]
        refine HS.holest H.sw2 rfl (n := 10) rfl rfl rfl rfl rfl (by decide) fun h5 H => ?_
        have H : HS g (hole we y.procs[i].edges k2 (.agg (Ed.cs ⟨y.procs[i].edges[k2].frm, y.procs[i].edges[k2].to, Exq.mk 1 1 [], y.procs[i].edges[k2].var, y.procs[i].edges[k2].value, y.procs[i].edges[k2].sync⟩ (.slice none 0 0) x2).toArray) :: ow x1 y.procs[i].edges[k2].guard.kids :: ow x2 y.procs[i].edges[k2].value.kids :: rb b sl (p3 + 1) :: hole w y.procs i (.agg #[.int .i64 y.procs[i].locs, we]) :: ow wi y.init :: Γ) h5 := H
        have H := HS.put (HS.mkEd (e := ⟨y.procs[i].edges[k2].frm, y.procs[i].edges[k2].to, Exq.mk 1 1 [], y.procs[i].edges[k2].var, y.procs[i].edges[k2].value, y.procs[i].edges[k2].sync⟩) (H.sw2.nil_ow) ⟨ok.frm, ok.to, ⟨by show (_ : Int) ≤ 1; decide, by show (1 : Int) < _; decide⟩, ⟨by show (_ : Int) ≤ 1; decide, by show (1 : Int) < _; decide⟩, ok.var, ok.vk, ok.vv, ok.sync⟩)
        have H := HS.put ((HS.mkPr (p := ⟨y.procs[i].locs, y.procs[i].edges.set k2 _⟩) H kl).under fun _ H => H.sw2)
        simp -implicitDefEqProofs (disch := first | omega | (simp only [List.length_set, List.length_replicate, List.length_append, List.length_map, List.length_take, List.length_cons, List.length_nil]; omega)) [wrap64]
        have hek := hpi.ee _ (List.getElem_mem c1)
        exact hJ2 (k2 + 1) _ _ (by omega) ⟨⟨y.init, _⟩, _, by simp, (H.under fun _ H => H.drop.sw1), Sy.Sm.setk hy hi2 c1 ⟨by simp [Exq.nod, Exq.nods], hek.v⟩, by simpa using hyl, by omega, by omega, by push_cast; omega⟩
      · simp -implicitDefEqProofs (disch := first | omega | (simp only [List.length_set, List.length_replicate, List.length_append, List.length_map, List.length_take, List.length_cons, List.length_nil]; omega)) [wrap64, c2]
        have H := HS.put ((HS.mkPr (p := y.procs[i]) H.sw1 kl).under fun _ H => H.sw1)
        rw [List.set_getElem_self] at H
        exact hJ2 (k2 + 1) _ _ (by omega) ⟨y, _, by simp, H.under fun _ H => H.sw1, hy, hyl, by omega, by omega, by push_cast; omega⟩
    · simp -implicitDefEqProofs (disch := first | omega | (simp only [List.length_set, List.length_replicate, List.length_append, List.length_map, List.length_take, List.length_cons, List.length_nil]; omega)) [wrap64, c1]
      exact hJ (i + 1) _ _ (by omega) ⟨y, p3, by simp, H, hy, hyl, by omega, by omega, by push_cast; omega⟩
  · have hO1 := H.rep.one
    have hC1 := H.rep.cells
    have hO2 := H.sw1.rep.one
    have hC2 := H.sw1.rep.cells
    simp -implicitDefEqProofs (disch := first | omega | (simp only [List.length_set, List.length_replicate, List.length_append, List.length_map, List.length_take, List.length_cons, List.length_nil]; omega)) [wrap64, c0, setC, hO1, hC1, hO2, hC2]
    exact RetK.keep (hk _ _ ⟨y, p2, HS.mkSy H.sw1, hy, by omega, by omega⟩)
end Go.Proofs.Ytonjglbachhdcaa

/-
  Arguments of laws: systems with labels, drawn from bytes.
-/
namespace Go.Proofs.Ytonjglbachhdcaa
open Go
set_option linter.all false
set_option linter.unusedVariables false
set_option linter.unusedSimpArgs false
set_option linter.defProp false
set_option maxRecDepth 1000000

/-- two lists as a function's results -/
def RD2 (h : Heap) : Value → Heap → Prop := fun u h' => ∃ (u1 u2 : Value) (s : Sy) (L : List Exq), u = .tuple #[u1, u2] ∧ HS h [ow u1 s, ow u2 L] h' ∧ L.length ≤ 3
end Go.Proofs.Ytonjglbachhdcaa

/-
  Bodies of functions in the small language, as a program printed them, and that each is what the translation gives.
-/
namespace Go.Proofs.Ytonjglbachhdcaa
open Go
set_option linter.all false
set_option linter.defProp false
set_option maxRecDepth 1000000

def H_spec_StateValid : Hint := ⟨[(0, false), (1, false), (2, true), (3, true), (4, false), (5, false)], [[0, 1, 4]]⟩
def K33_1 : C := .seq (.pl <| .st (.ext 6 0) <|
    .st (.act none (.px (some 4) (.mv (.c (.bool true))))) .done) (.ret)
@[simp] def W33_1 := @C.wpe _ _ K33_1.eq_1
def K33_2 : C := .pl <| .st (.ext 6 2) <|
    .st (.act none (.px (some 6) (.mv (.v 5)))) <|
    .st (.act none (.px (some 7) (.bin .add (.v 6) (.c (.int .i64 1))))) <|
    .st (.act none (.px (some 5) (.mv (.v 7)))) .done
@[simp] def W33_2 := @C.wpe _ _ K33_2.eq_1
def K33_3 : C := .seq (.pl <| .st (.ext 6 0) <|
    .st (.act none (.px (some 4) (.mv (.c (.bool false))))) .done) (.ret)
@[simp] def W33_3 := @C.wpe _ _ K33_3.eq_1
def K33_4 : C := .cond 6 (.v 25) K33_3 (.skip)
@[simp] def W33_4 := @C.wpe _ _ K33_4.eq_1
def K33_5 : C := .seq (.block 1 (.seq (.pl <| .st (.ext 6 20) <|
    .st (.act none (.als 6 none 3)) <|
    .st (.act none (.pget (some 7) (some 6) 3 0 none)) <|
    .st (.act none (.px (some 8) (.mv (.v 5)))) <|
    .st (.act none (.px (some 9) (.ia 1 (.v 7) (.v 8)))) <|
    .st (.act none (.ld (some 10) (.v 9) none)) <|
    .st (.act none (.px (some 11) (.bin .lss (.v 10) (.c (.int .i64 0))))) <|
    .st (.act none (.px (some 12) (.mv (.v 11)))) <|
    .st (.act (some (.v 12, false)) (.als 13 none 3)) <|
    .st (.act (some (.v 12, false)) (.pget (some 14) (some 13) 3 0 none)) <|
    .st (.act (some (.v 12, false)) (.px (some 15) (.mv (.v 5)))) <|
    .st (.act (some (.v 12, false)) (.px (some 16) (.ia 1 (.v 14) (.v 15)))) <|
    .st (.act (some (.v 12, false)) (.ld (some 17) (.v 16) none)) <|
    .st (.act (some (.v 12, false)) (.als 18 none 2)) <|
    .st (.act (some (.v 12, false)) (.pget (some 19) (some 18) 2 1 none)) <|
    .st (.act (some (.v 12, false)) (.px (some 20) (.mv (.v 5)))) <|
    .st (.act (some (.v 12, false)) (.px (some 21) (.ia 2 (.v 19) (.v 20)))) <|
    .st (.act (some (.v 12, false)) (.px (some 22) (.fa 0 (.v 21)))) <|
    .st (.act (some (.v 12, false)) (.ld (some 23) (.v 22) none)) <|
    .st (.act (some (.v 12, false)) (.px (some 24) (.bin .geq (.v 17) (.v 23)))) <|
    .st (.act none (.px (some 25) (.pick (.v 12) (.c (.bool true)) (.v 24)))) .done) K33_4)) K33_2
@[simp] def W33_5 := @C.wpe _ _ K33_5.eq_1
def K33_6 : C := .cond 6 (.v 10) (.skip) (.exit 0)
@[simp] def W33_6 := @C.wpe _ _ K33_6.eq_1
def K33_7 : C := .seq (.seq (.pl <| .st (.ext 6 5) <|
    .st (.act none (.px (some 6) (.mv (.v 5)))) <|
    .st (.act none (.als 7 none 3)) <|
    .st (.act none (.pget (some 8) (some 7) 3 0 none)) <|
    .st (.act none (.px (some 9) (.lenV (.v 8)))) <|
    .st (.act none (.px (some 10) (.bin .lss (.v 6) (.v 9)))) .done) K33_6) K33_5
@[simp] def W33_7 := @C.wpe _ _ K33_7.eq_1
def K33_8 : C := .block 0 (.loop 6 [0, 1, 4] K33_7)
@[simp] def W33_8 := @C.wpe _ _ K33_8.eq_1
def K33_9 : C := .seq (.seq (.pl <| .st (.ext 6 0) <|
    .st (.act none (.px (some 5) (.mv (.c (.int .i64 0))))) .done) K33_8) K33_1
@[simp] def W33_9 := @C.wpe _ _ K33_9.eq_1
def K33_10 : C := .seq (.pl <| .st (.ext 6 0) <|
    .st (.act none (.px (some 4) (.mv (.c (.bool false))))) .done) (.ret)
@[simp] def W33_10 := @C.wpe _ _ K33_10.eq_1
def K33_11 : C := .cond 6 (.v 23) K33_10 (.skip)
@[simp] def W33_11 := @C.wpe _ _ K33_11.eq_1
def K33_12 : Pl := .st (.act (some (.v 18, false)) (.px (some 22) (.un .not (.v 21)))) <|
    .st (.act none (.px (some 23) (.pick (.v 18) (.c (.bool true)) (.v 22)))) .done
@[simp] def W33_12 := @Pl.wpe _ _ K33_12.eq_1
def K33_13 : Pl := .st (.act none (.px (some 8) (.un .not (.v 7)))) <|
    .st (.act none (.px (some 9) (.mv (.v 8)))) <|
    .st (.act (some (.v 9, false)) (.als 10 none 3)) <|
    .st (.act (some (.v 9, false)) (.pget (some 11) (some 10) 3 0 none)) <|
    .st (.act (some (.v 9, false)) (.px (some 12) (.lenV (.v 11)))) <|
    .st (.act (some (.v 9, false)) (.als 13 none 2)) <|
    .st (.act (some (.v 9, false)) (.pget (some 14) (some 13) 2 1 none)) <|
    .st (.act (some (.v 9, false)) (.px (some 15) (.lenV (.v 14)))) <|
    .st (.act (some (.v 9, false)) (.px (some 16) (.bin .neq (.v 12) (.v 15)))) <|
    .st (.act none (.px (some 17) (.pick (.v 9) (.c (.bool true)) (.v 16)))) <|
    .st (.act none (.px (some 18) (.mv (.v 17)))) <|
    .st (.act (some (.v 18, false)) (.als 19 none 3)) <|
    .st (.act (some (.v 18, false)) (.pget (some 20) (some 19) 3 1 none)) <|
    .st (.act (some (.v 18, false)) (.ex (some 21) (.call fn_spec_l1Vals [.v 20]))) K33_12
@[simp] def W33_13 := @Pl.wpe _ _ K33_13.eq_1
def K33_14 : C := .seq (.seq (.pl <| .st (.ext 6 18) <|
    .st (.act none (.pget (some 6) none 2 0 (some 2))) <|
    .st (.act none (.ex (some 7) (.call fn_spec_SystemValid [.v 6]))) K33_13) K33_11) K33_9
@[simp] def W33_14 := @C.wpe _ _ K33_14.eq_1
def B_spec_StateValid : C := .seq (.pl <| .st (.ext 6 0) <|
    .st (.act none (.pnew 2 (.v 0) [])) <|
    .st (.act none (.pnew 3 (.v 1) [])) <|
    .st (.act none (.px (some 4) (.mv (.c (.bool false))))) .done) K33_14
@[simp] def WB_spec_StateValid := @C.wpe _ _ B_spec_StateValid.eq_1
def R_spec_StateValid : FIR := ⟨B_spec_StateValid, 6, [(4, none)]⟩
theorem IR_spec_StateValid : cfun Try.prog H_spec_StateValid Try.f33 = some R_spec_StateValid := by kernel_rfl
theorem EN_spec_StateValid {args : List Value} {h : Heap} {k : Value → Heap → Prop} (hargs : args.length = 2) (hw : B_spec_StateValid.wp Try.prog (retQ [(4, none)] k) (env0 args 6) h) : CallE Try.prog fn_spec_StateValid args h k := enter Try.func33 rfl IR_spec_StateValid hargs hw

def H_spec_l3Mutate : Hint := ⟨[(0, false), (1, false), (3, true), (4, true), (5, true), (16, false)], []⟩
def K51_1 : C := .seq (.pl <| .st (.ext 6 1) <|
    .st (.act none (.pget (some 6) none 4 0 (some 2))) <|
    .st (.act none (.pset none 3 0 2 (.v 6))) .done) (.ret)
@[simp] def W51_1 := @C.wpe _ _ K51_1.eq_1
def K51_2 : Pl := .st (.act none (.als 10 none 4)) <|
    .st (.act none (.pset (some 10) 4 0 1 (.v 9))) .done
@[simp] def W51_2 := @Pl.wpe _ _ K51_2.eq_1
def K51_3 : C := .pl <| .st (.ext 6 5) <|
    .st (.act none (.als 6 none 4)) <|
    .st (.act none (.pget (some 7) (some 6) 4 0 none)) <|
    .st (.act none (.psl 8 [.int .i64 0] [(0, 1, .c (.int .i64 0))])) <|
    .st (.act none (.ex (some 9) (.app 8 1 [.int .i64 0] (.o (.v 7)) (.p 1 8)))) K51_2
@[simp] def W51_3 := @C.wpe _ _ K51_3.eq_1
def K51_4 : Pl := .st (.act none (.px (some 11) (.ia 1 (.v 7) (.c (.int .i64 0))))) <|
    .st (.act none (.ex none (.store 1 (.v 11) (.v 10)))) .done
@[simp] def W51_4 := @Pl.wpe _ _ K51_4.eq_1
def K51_5 : Pl := .st (.act none (.ex (some 10) (.call fn_spec_l16Rd_num [.v 8, .v 9]))) K51_4
@[simp] def W51_5 := @Pl.wpe _ _ K51_5.eq_1
def K51_6 : C := .pl <| .st (.ext 6 6) <|
    .st (.act none (.als 6 none 4)) <|
    .st (.act none (.pget (some 7) (some 6) 4 0 none)) <|
    .st (.act none (.px (some 8) (.mv (.v 0)))) <|
    .st (.act none (.ex (some 9) (.bls 1 5 [.int .i64 0] [(0, 1, .c (.int .i64 (-1))), (1, 1, .c (.int .i64 4)), (2, 1, .c (.int .i64 3)), (3, 1, .c (.int .i64 9223372036854775807)), (4, 1, .c (.int .i64 10))]))) K51_5
@[simp] def W51_6 := @C.wpe _ _ K51_6.eq_1
def K51_7 : C := .cond 6 (.v 9) K51_6 (.skip)
@[simp] def W51_7 := @C.wpe _ _ K51_7.eq_1
def K51_8 : C := .seq (.pl <| .st (.ext 6 4) <|
    .st (.act none (.als 6 none 4)) <|
    .st (.act none (.pget (some 7) (some 6) 4 0 none)) <|
    .st (.act none (.px (some 8) (.lenV (.v 7)))) <|
    .st (.act none (.px (some 9) (.bin .gtr (.v 8) (.c (.int .i64 0))))) .done) K51_7
@[simp] def W51_8 := @C.wpe _ _ K51_8.eq_1
def K51_9 : Pl := .st (.act none (.px (some 16) (.ia 1 (.v 7) (.v 12)))) <|
    .st (.act none (.ex none (.store 1 (.v 16) (.v 15)))) .done
@[simp] def W51_9 := @Pl.wpe _ _ K51_9.eq_1
def K51_10 : Pl := .st (.act none (.ex (some 15) (.call fn_spec_l16Rd_num [.v 13, .v 14]))) K51_9
@[simp] def W51_10 := @Pl.wpe _ _ K51_10.eq_1
def K51_11 : Pl := .st (.act none (.ex (some 14) (.bls 1 4 [.int .i64 0] [(0, 1, .c (.int .i64 (-1))), (1, 1, .c (.int .i64 4)), (2, 1, .c (.int .i64 3)), (3, 1, .c (.int .i64 12))]))) K51_10
@[simp] def W51_11 := @Pl.wpe _ _ K51_11.eq_1
def K51_12 : Pl := .st (.act none (.ex (some 12) (.call fn_spec_l16Rd_pick [.v 8, .v 11]))) K51_11
@[simp] def W51_12 := @Pl.wpe _ _ K51_12.eq_1
def K51_13 : Pl := .st (.act none (.px (some 16) (.ia 1 (.v 7) (.v 12)))) <|
    .st (.act none (.ex none (.store 1 (.v 16) (.v 15)))) .done
@[simp] def W51_13 := @Pl.wpe _ _ K51_13.eq_1
def K51_14 : Pl := .st (.act none (.ex (some 15) (.call fn_spec_l16Rd_num [.v 13, .v 14]))) K51_13
@[simp] def W51_14 := @Pl.wpe _ _ K51_14.eq_1
def K51_15 : Pl := .st (.act none (.ex (some 12) (.call fn_spec_l16Rd_pick [.v 8, .v 11]))) K51_14
@[simp] def W51_15 := @Pl.wpe _ _ K51_15.eq_1
def K51_16 : Pl := .st (.act none (.ex (some 14) (.bls 1 4 [.int .i64 0] [(0, 1, .c (.int .i64 (-1))), (1, 1, .c (.int .i64 4)), (2, 1, .c (.int .i64 3)), (3, 1, .c (.int .i64 12))]))) K51_15
@[simp] def W51_16 := @Pl.wpe _ _ K51_16.eq_1
def K51_17 : C := .pl <| .st (.ext 6 11) <|
    .st (.act none (.als 6 none 4)) <|
    .st (.act none (.pget (some 7) (some 6) 4 1 none)) <|
    .st (.act none (.px (some 8) (.mv (.v 0)))) <|
    .st (.act none (.als 9 none 4)) <|
    .st (.act none (.pget (some 10) (some 9) 4 1 none)) <|
    .st (.act none (.px (some 11) (.lenV (.v 10)))) <|
    .st (.act none (.px (some 13) (.mv (.v 0)))) <|
    .both K51_12 K51_16
@[simp] def W51_17 := @C.wpe _ _ K51_17.eq_1
def K51_18 : C := .cond 6 (.v 9) K51_17 (.skip)
@[simp] def W51_18 := @C.wpe _ _ K51_18.eq_1
def K51_19 : C := .seq (.pl <| .st (.ext 6 4) <|
    .st (.act none (.als 6 none 4)) <|
    .st (.act none (.pget (some 7) (some 6) 4 1 none)) <|
    .st (.act none (.px (some 8) (.lenV (.v 7)))) <|
    .st (.act none (.px (some 9) (.bin .gtr (.v 8) (.c (.int .i64 0))))) .done) K51_18
@[simp] def W51_19 := @C.wpe _ _ K51_19.eq_1
def K51_20 : C := .seq (.pl <| .st (.ext 6 1) <|
    .st (.act none (.px (some 6) (.build [.slice none 0 0, .slice none 0 0] []))) <|
    .st (.act none (.pset none 3 0 2 (.v 6))) .done) (.ret)
@[simp] def W51_20 := @C.wpe _ _ K51_20.eq_1
def K51_21 : C := .cond 6 (.v 7) K51_20 (.skip)
@[simp] def W51_21 := @C.wpe _ _ K51_21.eq_1
def K51_22 : C := .seq (.pl <| .st (.ext 6 2) <|
    .st (.act none (.px (some 6) (.bin .eql (.v 5) (.c (.int .i64 3))))) <|
    .st (.act none (.px (some 7) (.mv (.v 6)))) .done) K51_21
@[simp] def W51_22 := @C.wpe _ _ K51_22.eq_1
def K51_23 : C := .cond 6 (.v 7) K51_19 K51_22
@[simp] def W51_23 := @C.wpe _ _ K51_23.eq_1
def K51_24 : C := .seq (.pl <| .st (.ext 6 2) <|
    .st (.act none (.px (some 6) (.bin .eql (.v 5) (.c (.int .i64 2))))) <|
    .st (.act none (.px (some 7) (.mv (.v 6)))) .done) K51_23
@[simp] def W51_24 := @C.wpe _ _ K51_24.eq_1
def K51_25 : C := .cond 6 (.v 7) K51_8 K51_24
@[simp] def W51_25 := @C.wpe _ _ K51_25.eq_1
def K51_26 : C := .seq (.pl <| .st (.ext 6 2) <|
    .st (.act none (.px (some 6) (.bin .eql (.v 5) (.c (.int .i64 1))))) <|
    .st (.act none (.px (some 7) (.mv (.v 6)))) .done) K51_25
@[simp] def W51_26 := @C.wpe _ _ K51_26.eq_1
def K51_27 : C := .cond 6 (.v 7) K51_3 K51_26
@[simp] def W51_27 := @C.wpe _ _ K51_27.eq_1
def K51_28 : C := .block 0 (.seq (.pl <| .st (.ext 6 2) <|
    .st (.act none (.px (some 6) (.bin .eql (.v 5) (.c (.int .i64 0))))) <|
    .st (.act none (.px (some 7) (.mv (.v 6)))) .done) K51_27)
@[simp] def W51_28 := @C.wpe _ _ K51_28.eq_1
def K51_29 : C := .seq (.seq (.pl <| .st (.ext 6 1) <|
    .st (.act none (.px (some 6) (.mv (.v 0)))) <|
    .st (.act none (.ex (some 5) (.call fn_spec_l16Rd_pick [.v 6, .c (.int .i64 40)]))) .done) K51_28) K51_1
@[simp] def W51_29 := @C.wpe _ _ K51_29.eq_1
def K51_30 : Pl := .st (.act none (.px (some 14) (.build [.slice none 0 0, .slice none 0 0] [(0, 1, .v 9), (1, 1, .v 13)]))) <|
    .st (.act none (.pset none 4 0 2 (.v 14))) .done
@[simp] def W51_30 := @Pl.wpe _ _ K51_30.eq_1
def K51_31 : Pl := .st (.act none (.ex (some 13) (.app 8 1 [.int .i64 0] (.p 0 10) (.o (.v 12))))) K51_30
@[simp] def W51_31 := @Pl.wpe _ _ K51_31.eq_1
def K51_32 : C := .seq (.pl <| .st (.ext 6 9) <|
    .st (.act none (.psl 6 [] [])) <|
    .st (.act none (.als 7 none 2)) <|
    .st (.act none (.pget (some 8) (some 7) 2 0 none)) <|
    .st (.act none (.psl 10 [] [])) <|
    .st (.act none (.als 11 none 2)) <|
    .st (.act none (.pget (some 12) (some 11) 2 1 none)) <|
    .st (.act none (.pnew 4 (.c (.agg #[.slice none 0 0, .slice none 0 0])) [])) <|
    .st (.act none (.ex (some 9) (.app 8 1 [.int .i64 0] (.p 0 6) (.o (.v 8))))) K51_31) K51_29
@[simp] def W51_32 := @C.wpe _ _ K51_32.eq_1
def B_spec_l3Mutate : C := .seq (.pl <| .st (.ext 6 0) <|
    .st (.act none (.pnew 2 (.v 1) [])) <|
    .st (.act none (.pnew 3 (.c (.agg #[.slice none 0 0, .slice none 0 0])) [])) .done) K51_32
@[simp] def WB_spec_l3Mutate := @C.wpe _ _ B_spec_l3Mutate.eq_1
def R_spec_l3Mutate : FIR := ⟨B_spec_l3Mutate, 6, [(3, some (some 2))]⟩
theorem IR_spec_l3Mutate : cfun Try.prog H_spec_l3Mutate Try.f51 = some R_spec_l3Mutate := by kernel_rfl
theorem EN_spec_l3Mutate {args : List Value} {h : Heap} {k : Value → Heap → Prop} (hargs : args.length = 2) (hw : B_spec_l3Mutate.wp Try.prog (retQ [(3, some (some 2))] k) (env0 args 6) h) : CallE Try.prog fn_spec_l3Mutate args h k := enter Try.func51 rfl IR_spec_l3Mutate hargs hw

def H_spec_l3State : Hint := ⟨[(0, false), (1, false), (3, true), (4, true), (5, true), (6, false), (7, false), (8, false), (9, false)], [[1, 5, 7, 8], [1, 5, 6, 8]]⟩
def K52_1 : C := .seq (.pl <| .st (.ext 9 1) <|
    .st (.act none (.pget (some 9) none 4 0 (some 2))) <|
    .st (.act none (.pset none 3 0 2 (.v 9))) .done) (.ret)
@[simp] def W52_1 := @C.wpe _ _ K52_1.eq_1
def K52_2 : C := .pl <| .st (.ext 9 2) <|
    .st (.act none (.px (some 9) (.mv (.v 7)))) <|
    .st (.act none (.px (some 10) (.bin .sub (.v 9) (.c (.int .i64 1))))) <|
    .st (.act none (.px (some 7) (.mv (.v 10)))) .done
@[simp] def W52_2 := @C.wpe _ _ K52_2.eq_1
def K52_3 : Pl := .st (.act none (.pset none 4 0 2 (.v 18))) .done
@[simp] def W52_3 := @Pl.wpe _ _ K52_3.eq_1
def K52_4 : Pl := .st (.act none (.px (some 16) (.ia 4 (.v 11) (.v 15)))) <|
    .st (.act none (.ld (some 17) (.v 16) (some 4))) <|
    .st (.act none (.ex (some 18) (.call fn_spec_l3Apply [.v 9, .v 10, .v 17]))) K52_3
@[simp] def W52_4 := @Pl.wpe _ _ K52_4.eq_1
def K52_5 : C := .pl <| .st (.ext 9 10) <|
    .st (.act none (.pget (some 9) none 2 0 (some 2))) <|
    .st (.act none (.pget (some 10) none 4 0 (some 2))) <|
    .st (.act none (.px (some 11) (.mv (.v 8)))) <|
    .st (.act none (.px (some 12) (.mv (.v 0)))) <|
    .st (.act none (.px (some 13) (.mv (.v 8)))) <|
    .st (.act none (.px (some 14) (.lenV (.v 13)))) <|
    .st (.act none (.ex (some 15) (.call fn_spec_l16Rd_pick [.v 12, .v 14]))) K52_4
@[simp] def W52_5 := @C.wpe _ _ K52_5.eq_1
def K52_6 : C := .cond 9 (.v 11) (.exit 2) (.skip)
@[simp] def W52_6 := @C.wpe _ _ K52_6.eq_1
def K52_7 : C := .seq (.seq (.pl <| .st (.ext 9 3) <|
    .st (.act none (.px (some 9) (.mv (.v 8)))) <|
    .st (.act none (.px (some 10) (.lenV (.v 9)))) <|
    .st (.act none (.px (some 11) (.bin .eql (.v 10) (.c (.int .i64 0))))) .done) K52_6) K52_5
@[simp] def W52_7 := @C.wpe _ _ K52_7.eq_1
def K52_8 : Pl := .st (.act none (.px (some 8) (.mv (.v 11)))) .done
@[simp] def W52_8 := @Pl.wpe _ _ K52_8.eq_1
def K52_9 : C := .seq (.block 3 (.seq (.pl <| .st (.ext 9 3) <|
    .st (.act none (.pget (some 9) none 2 0 (some 2))) <|
    .st (.act none (.pget (some 10) none 4 0 (some 2))) <|
    .st (.act none (.ex (some 11) (.call fn_spec_l3Steps [.v 9, .v 10]))) K52_8) K52_7)) K52_2
@[simp] def W52_9 := @C.wpe _ _ K52_9.eq_1
def K52_10 : C := .cond 9 (.v 10) (.skip) (.exit 2)
@[simp] def W52_10 := @C.wpe _ _ K52_10.eq_1
def K52_11 : C := .seq (.seq (.pl <| .st (.ext 9 2) <|
    .st (.act none (.px (some 9) (.mv (.v 7)))) <|
    .st (.act none (.px (some 10) (.bin .gtr (.v 9) (.c (.int .i64 0))))) .done) K52_10) K52_9
@[simp] def W52_11 := @C.wpe _ _ K52_11.eq_1
def K52_12 : C := .block 2 (.loop 9 [1, 5, 6, 8] K52_11)
@[simp] def W52_12 := @C.wpe _ _ K52_12.eq_1
def K52_13 : Pl := .st (.act none (.px (some 7) (.mv (.v 11)))) .done
@[simp] def W52_13 := @Pl.wpe _ _ K52_13.eq_1
def K52_14 : Pl := .st (.act none (.ex (some 11) (.call fn_spec_l16Rd_num [.v 9, .v 10]))) K52_13
@[simp] def W52_14 := @Pl.wpe _ _ K52_14.eq_1
def K52_15 : C := .seq (.seq (.pl <| .st (.ext 9 3) <|
    .st (.act none (.px (some 9) (.mv (.v 0)))) <|
    .st (.act none (.ex (some 10) (.bls 1 5 [.int .i64 0] [(0, 1, .c (.int .i64 2)), (1, 1, .c (.int .i64 4)), (2, 1, .c (.int .i64 1)), (3, 1, .c (.int .i64 0)), (4, 1, .c (.int .i64 6))]))) K52_14) K52_12) K52_1
@[simp] def W52_15 := @C.wpe _ _ K52_15.eq_1
def K52_16 : C := .seq (.pl <| .st (.ext 9 1) <|
    .st (.act none (.pget (some 9) none 4 0 (some 2))) <|
    .st (.act none (.pset none 3 0 2 (.v 9))) .done) (.ret)
@[simp] def W52_16 := @C.wpe _ _ K52_16.eq_1
def K52_17 : Pl := .st (.act none (.als 16 none 4)) <|
    .st (.act none (.pset (some 16) 4 1 1 (.v 15))) .done
@[simp] def W52_17 := @Pl.wpe _ _ K52_17.eq_1
def K52_18 : Pl := .st (.act none (.ex (some 15) (.bls 1 3 [.int .i64 0] [(0, 1, .v 10), (1, 1, .v 12), (2, 1, .v 14)]))) K52_17
@[simp] def W52_18 := @Pl.wpe _ _ K52_18.eq_1
def K52_19 : Pl := .st (.act none (.px (some 13) (.mv (.v 0)))) <|
    .st (.act none (.ex (some 14) (.call fn_spec_l16Rd_pick [.v 13, .c (.int .i64 4)]))) K52_18
@[simp] def W52_19 := @Pl.wpe _ _ K52_19.eq_1
def K52_20 : Pl := .st (.act none (.px (some 11) (.mv (.v 0)))) <|
    .st (.act none (.ex (some 12) (.call fn_spec_l16Rd_pick [.v 11, .c (.int .i64 4)]))) K52_19
@[simp] def W52_20 := @Pl.wpe _ _ K52_20.eq_1
def K52_21 : C := .seq (.pl <| .st (.ext 9 8) <|
    .st (.act none (.px (some 9) (.mv (.v 0)))) <|
    .st (.act none (.ex (some 10) (.call fn_spec_l16Rd_pick [.v 9, .c (.int .i64 4)]))) K52_20) K52_16
@[simp] def W52_21 := @C.wpe _ _ K52_21.eq_1
def K52_22 : C := .pl <| .st (.ext 9 2) <|
    .st (.act none (.px (some 9) (.mv (.v 6)))) <|
    .st (.act none (.px (some 10) (.bin .add (.v 9) (.c (.int .i64 1))))) <|
    .st (.act none (.px (some 6) (.mv (.v 10)))) .done
@[simp] def W52_22 := @C.wpe _ _ K52_22.eq_1
def K52_23 : Pl := .st (.act none (.px (some 20) (.ia 1 (.v 10) (.v 11)))) <|
    .st (.act none (.ex none (.store 1 (.v 20) (.v 19)))) .done
@[simp] def W52_23 := @Pl.wpe _ _ K52_23.eq_1
def K52_24 : C := .seq (.block 1 (.pl <| .st (.ext 9 12) <|
    .st (.act none (.als 9 none 4)) <|
    .st (.act none (.pget (some 10) (some 9) 4 0 none)) <|
    .st (.act none (.px (some 11) (.mv (.v 6)))) <|
    .st (.act none (.px (some 12) (.mv (.v 0)))) <|
    .st (.act none (.als 13 none 2)) <|
    .st (.act none (.pget (some 14) (some 13) 2 1 none)) <|
    .st (.act none (.px (some 15) (.mv (.v 6)))) <|
    .st (.act none (.px (some 16) (.ia 2 (.v 14) (.v 15)))) <|
    .st (.act none (.px (some 17) (.fa 0 (.v 16)))) <|
    .st (.act none (.ld (some 18) (.v 17) none)) <|
    .st (.act none (.ex (some 19) (.call fn_spec_l16Rd_pick [.v 12, .v 18]))) K52_23)) K52_22
@[simp] def W52_24 := @C.wpe _ _ K52_24.eq_1
def K52_25 : C := .cond 9 (.v 13) (.skip) (.exit 0)
@[simp] def W52_25 := @C.wpe _ _ K52_25.eq_1
def K52_26 : C := .seq (.seq (.pl <| .st (.ext 9 5) <|
    .st (.act none (.px (some 9) (.mv (.v 6)))) <|
    .st (.act none (.als 10 none 4)) <|
    .st (.act none (.pget (some 11) (some 10) 4 0 none)) <|
    .st (.act none (.px (some 12) (.lenV (.v 11)))) <|
    .st (.act none (.px (some 13) (.bin .lss (.v 9) (.v 12)))) .done) K52_25) K52_24
@[simp] def W52_26 := @C.wpe _ _ K52_26.eq_1
def K52_27 : C := .block 0 (.loop 9 [1, 5, 7, 8] K52_26)
@[simp] def W52_27 := @C.wpe _ _ K52_27.eq_1
def K52_28 : C := .seq (.seq (.pl <| .st (.ext 9 0) <|
    .st (.act none (.px (some 6) (.mv (.c (.int .i64 0))))) .done) K52_27) K52_21
@[simp] def W52_28 := @C.wpe _ _ K52_28.eq_1
def K52_29 : C := .cond 9 (.v 11) K52_28 (.skip)
@[simp] def W52_29 := @C.wpe _ _ K52_29.eq_1
def K52_30 : Pl := .st (.act none (.px (some 11) (.bin .eql (.v 10) (.c (.int .i64 0))))) .done
@[simp] def W52_30 := @Pl.wpe _ _ K52_30.eq_1
def K52_31 : C := .seq (.seq (.pl <| .st (.ext 9 3) <|
    .st (.act none (.px (some 9) (.mv (.v 0)))) <|
    .st (.act none (.ex (some 10) (.call fn_spec_l16Rd_pick [.v 9, .c (.int .i64 4)]))) K52_30) K52_29) K52_15
@[simp] def W52_31 := @C.wpe _ _ K52_31.eq_1
def K52_32 : Pl := .st (.act none (.px (some 11) (.build [.slice none 0 0, .slice none 0 0] [(0, 1, .v 9), (1, 1, .v 10)]))) <|
    .st (.act none (.pset none 3 0 2 (.v 11))) .done
@[simp] def W52_32 := @Pl.wpe _ _ K52_32.eq_1
def K52_33 : Pl := .st (.act none (.ex (some 10) (.bls 1 3 [.int .i64 0] [(0, 1, .c (.int .i64 0)), (1, 1, .c (.int .i64 0)), (2, 1, .c (.int .i64 0))]))) K52_32
@[simp] def W52_33 := @Pl.wpe _ _ K52_33.eq_1
def K52_34 : C := .seq (.pl <| .st (.ext 9 3) <|
    .st (.act none (.ex (some 9) (.bls 1 1 [.int .i64 0] [(0, 1, .c (.int .i64 0))]))) K52_33) (.ret)
@[simp] def W52_34 := @C.wpe _ _ K52_34.eq_1
def K52_35 : C := .cond 9 (.v 10) K52_34 (.skip)
@[simp] def W52_35 := @C.wpe _ _ K52_35.eq_1
def K52_36 : C := .seq (.seq (.pl <| .st (.ext 9 2) <|
    .st (.act none (.px (some 9) (.mv (.v 5)))) <|
    .st (.act none (.px (some 10) (.un .not (.v 9)))) .done) K52_35) K52_31
@[simp] def W52_36 := @C.wpe _ _ K52_36.eq_1
def K52_37 : Pl := .st (.act none (.px (some 11) (.mv (.v 10)))) <|
    .st (.act none (.px (some 12) (.extract 0 (.v 11)))) <|
    .st (.act none (.px (some 13) (.extract 1 (.v 11)))) <|
    .st (.act none (.pnew 4 (.c (.agg #[.slice none 0 0, .slice none 0 0])) [])) <|
    .st (.act none (.pset none 4 0 2 (.v 12))) <|
    .st (.act none (.px (some 5) (.mv (.v 13)))) .done
@[simp] def W52_37 := @Pl.wpe _ _ K52_37.eq_1
def K52_38 : C := .seq (.pl <| .st (.ext 9 5) <|
    .st (.act none (.pget (some 9) none 2 0 (some 2))) <|
    .st (.act none (.ex (some 10) (.call fn_spec_InitialState [.v 9]))) K52_37) K52_36
@[simp] def W52_38 := @C.wpe _ _ K52_38.eq_1
def B_spec_l3State : C := .seq (.pl <| .st (.ext 9 0) <|
    .st (.act none (.pnew 2 (.v 1) [])) <|
    .st (.act none (.pnew 3 (.c (.agg #[.slice none 0 0, .slice none 0 0])) [])) .done) K52_38
@[simp] def WB_spec_l3State := @C.wpe _ _ B_spec_l3State.eq_1
def R_spec_l3State : FIR := ⟨B_spec_l3State, 9, [(3, some (some 2))]⟩
theorem IR_spec_l3State : cfun Try.prog H_spec_l3State Try.f52 = some R_spec_l3State := by kernel_rfl
theorem EN_spec_l3State {args : List Value} {h : Heap} {k : Value → Heap → Prop} (hargs : args.length = 2) (hw : B_spec_l3State.wp Try.prog (retQ [(3, some (some 2))] k) (env0 args 9) h) : CallE Try.prog fn_spec_l3State args h k := enter Try.func52 rfl IR_spec_l3State hargs hw


end Go.Proofs.Ytonjglbachhdcaa

/-
  Bodies of functions in the small language, as a program printed them, and that each is what the translation gives.
-/
namespace Go.Proofs.Ytonjglbachhdcaa
open Go
set_option linter.all false
set_option linter.defProp false
set_option maxRecDepth 1000000

def H_impl_ApplyStep : Hint := ⟨[(0, false), (1, false), (2, false), (3, true), (4, true), (5, true), (6, true), (7, false)], []⟩
def K12_1 : Pl := .st (.act none (.pset none 6 0 2 (.v 11))) <|
    .st (.act none (.px (some 7) (.mv (.c (.bool true))))) .done
@[simp] def W12_1 := @Pl.wpe _ _ K12_1.eq_1
def K12_2 : C := .seq (.pl <| .st (.ext 8 4) <|
    .st (.act none (.pget (some 8) none 3 0 (some 2))) <|
    .st (.act none (.pget (some 9) none 4 0 (some 2))) <|
    .st (.act none (.pget (some 10) none 5 0 (some 4))) <|
    .st (.act none (.ex (some 11) (.call fn_impl_System_after [.v 8, .v 9, .v 10]))) K12_1) (.ret)
@[simp] def W12_2 := @C.wpe _ _ K12_2.eq_1
def K12_3 : C := .seq (.pl <| .st (.ext 8 1) <|
    .st (.act none (.px (some 8) (.build [.slice none 0 0, .slice none 0 0] []))) <|
    .st (.act none (.pset none 6 0 2 (.v 8))) <|
    .st (.act none (.px (some 7) (.mv (.c (.bool false))))) .done) (.ret)
@[simp] def W12_3 := @C.wpe _ _ K12_3.eq_1
def K12_4 : C := .cond 8 (.v 13) K12_3 (.skip)
@[simp] def W12_4 := @C.wpe _ _ K12_4.eq_1
def K12_5 : Pl := .st (.act none (.px (some 13) (.un .not (.v 12)))) .done
@[simp] def W12_5 := @Pl.wpe _ _ K12_5.eq_1
def K12_6 : Pl := .st (.act none (.ex (some 12) (.call fn_slices_Contains_S_impl_Step_impl_Step [.v 10, .v 11]))) K12_5
@[simp] def W12_6 := @Pl.wpe _ _ K12_6.eq_1
def K12_7 : C := .seq (.seq (.pl <| .st (.ext 8 6) <|
    .st (.act none (.pget (some 8) none 3 0 (some 2))) <|
    .st (.act none (.pget (some 9) none 4 0 (some 2))) <|
    .st (.act none (.pget (some 11) none 5 0 (some 4))) <|
    .st (.act none (.ex (some 10) (.call fn_impl_EnabledSteps [.v 8, .v 9]))) K12_6) K12_4) K12_2
@[simp] def W12_7 := @C.wpe _ _ K12_7.eq_1
def B_impl_ApplyStep : C := .seq (.pl <| .st (.ext 8 0) <|
    .st (.act none (.pnew 3 (.v 0) [])) <|
    .st (.act none (.pnew 4 (.v 1) [])) <|
    .st (.act none (.pnew 5 (.v 2) [])) <|
    .st (.act none (.pnew 6 (.c (.agg #[.slice none 0 0, .slice none 0 0])) [])) <|
    .st (.act none (.px (some 7) (.mv (.c (.bool false))))) .done) K12_7
@[simp] def WB_impl_ApplyStep := @C.wpe _ _ B_impl_ApplyStep.eq_1
def R_impl_ApplyStep : FIR := ⟨B_impl_ApplyStep, 8, [(6, some (some 2)), (7, none)]⟩
theorem IR_impl_ApplyStep : cfun Try.prog H_impl_ApplyStep Try.f12 = some R_impl_ApplyStep := by kernel_rfl
theorem EN_impl_ApplyStep {args : List Value} {h : Heap} {k : Value → Heap → Prop} (hargs : args.length = 3) (hw : B_impl_ApplyStep.wp Try.prog (retQ [(6, some (some 2)), (7, none)] k) (env0 args 8) h) : CallE Try.prog fn_impl_ApplyStep args h k := enter Try.func12 rfl IR_impl_ApplyStep hargs hw

def H_impl_EnabledSteps : Hint := ⟨[(0, false), (1, false), (2, true), (3, true), (4, false)], []⟩
def K9_1 : Pl := .st (.act none (.px (some 4) (.mv (.v 7)))) .done
@[simp] def W9_1 := @Pl.wpe _ _ K9_1.eq_1
def K9_2 : C := .seq (.pl <| .st (.ext 5 3) <|
    .st (.act none (.pget (some 5) none 2 0 (some 2))) <|
    .st (.act none (.pget (some 6) none 3 0 (some 2))) <|
    .st (.act none (.ex (some 7) (.call fn_impl_System_enabled [.v 5, .v 6]))) K9_1) (.ret)
@[simp] def W9_2 := @C.wpe _ _ K9_2.eq_1
def K9_3 : C := .seq (.pl <| .st (.ext 5 0) <|
    .st (.act none (.px (some 4) (.mv (.c (.slice none 0 0))))) .done) (.ret)
@[simp] def W9_3 := @C.wpe _ _ K9_3.eq_1
def K9_4 : C := .cond 5 (.v 8) K9_3 (.skip)
@[simp] def W9_4 := @C.wpe _ _ K9_4.eq_1
def K9_5 : Pl := .st (.act none (.px (some 8) (.un .not (.v 7)))) .done
@[simp] def W9_5 := @Pl.wpe _ _ K9_5.eq_1
def K9_6 : C := .seq (.seq (.pl <| .st (.ext 5 4) <|
    .st (.act none (.pget (some 5) none 2 0 (some 2))) <|
    .st (.act none (.pget (some 6) none 3 0 (some 2))) <|
    .st (.act none (.ex (some 7) (.call fn_impl_StateValid [.v 5, .v 6]))) K9_5) K9_4) K9_2
@[simp] def W9_6 := @C.wpe _ _ K9_6.eq_1
def B_impl_EnabledSteps : C := .seq (.pl <| .st (.ext 5 0) <|
    .st (.act none (.pnew 2 (.v 0) [])) <|
    .st (.act none (.pnew 3 (.v 1) [])) <|
    .st (.act none (.px (some 4) (.mv (.c (.slice none 0 0))))) .done) K9_6
@[simp] def WB_impl_EnabledSteps := @C.wpe _ _ B_impl_EnabledSteps.eq_1
def R_impl_EnabledSteps : FIR := ⟨B_impl_EnabledSteps, 5, [(4, none)]⟩
theorem IR_impl_EnabledSteps : cfun Try.prog H_impl_EnabledSteps Try.f9 = some R_impl_EnabledSteps := by kernel_rfl
theorem EN_impl_EnabledSteps {args : List Value} {h : Heap} {k : Value → Heap → Prop} (hargs : args.length = 2) (hw : B_impl_EnabledSteps.wp Try.prog (retQ [(4, none)] k) (env0 args 5) h) : CallE Try.prog fn_impl_EnabledSteps args h k := enter Try.func9 rfl IR_impl_EnabledSteps hargs hw

def H_impl_StateValid : Hint := ⟨[(0, false), (1, false), (2, true), (3, true), (4, false)], []⟩
def K31_1 : Pl := .st (.act none (.px (some 11) (.pick (.v 7) (.v 10) (.c (.bool false))))) <|
    .st (.act none (.px (some 4) (.mv (.v 11)))) .done
@[simp] def W31_1 := @Pl.wpe _ _ K31_1.eq_1
def K31_2 : Pl := .st (.act none (.px (some 7) (.mv (.v 6)))) <|
    .st (.act (some (.v 7, true)) (.pget (some 8) none 2 0 (some 2))) <|
    .st (.act (some (.v 7, true)) (.pget (some 9) none 3 0 (some 2))) <|
    .st (.act (some (.v 7, true)) (.ex (some 10) (.call fn_impl_System_has [.v 8, .v 9]))) K31_1
@[simp] def W31_2 := @Pl.wpe _ _ K31_2.eq_1
def K31_3 : C := .seq (.pl <| .st (.ext 5 7) <|
    .st (.act none (.pget (some 5) none 2 0 (some 2))) <|
    .st (.act none (.ex (some 6) (.call fn_impl_SystemValid [.v 5]))) K31_2) (.ret)
@[simp] def W31_3 := @C.wpe _ _ K31_3.eq_1
def B_impl_StateValid : C := .seq (.pl <| .st (.ext 5 0) <|
    .st (.act none (.pnew 2 (.v 0) [])) <|
    .st (.act none (.pnew 3 (.v 1) [])) <|
    .st (.act none (.px (some 4) (.mv (.c (.bool false))))) .done) K31_3
@[simp] def WB_impl_StateValid := @C.wpe _ _ B_impl_StateValid.eq_1
def R_impl_StateValid : FIR := ⟨B_impl_StateValid, 5, [(4, none)]⟩
theorem IR_impl_StateValid : cfun Try.prog H_impl_StateValid Try.f31 = some R_impl_StateValid := by kernel_rfl
theorem EN_impl_StateValid {args : List Value} {h : Heap} {k : Value → Heap → Prop} (hargs : args.length = 2) (hw : B_impl_StateValid.wp Try.prog (retQ [(4, none)] k) (env0 args 5) h) : CallE Try.prog fn_impl_StateValid args h k := enter Try.func31 rfl IR_impl_StateValid hargs hw

def H_slices_Contains_S_impl_Step_impl_Step : Hint := ⟨[(0, false), (1, false), (3, true), (4, false)], []⟩
def K36_1 : Pl := .st (.act none (.px (some 7) (.bin .geq (.v 6) (.c (.int .i64 0))))) <|
    .st (.act none (.px (some 3) (.mv (.v 7)))) .done
@[simp] def W36_1 := @Pl.wpe _ _ K36_1.eq_1
def K36_2 : C := .seq (.pl <| .st (.ext 4 4) <|
    .st (.act none (.px (some 4) (.mv (.v 0)))) <|
    .st (.act none (.pget (some 5) none 2 0 (some 4))) <|
    .st (.act none (.ex (some 6) (.call fn_slices_Index_S_impl_Step_impl_Step [.v 4, .v 5]))) K36_1) (.ret)
@[simp] def W36_2 := @C.wpe _ _ K36_2.eq_1
def B_slices_Contains_S_impl_Step_impl_Step : C := .seq (.pl <| .st (.ext 4 0) <|
    .st (.act none (.pnew 2 (.v 1) [])) <|
    .st (.act none (.px (some 3) (.mv (.c (.bool false))))) .done) K36_2
@[simp] def WB_slices_Contains_S_impl_Step_impl_Step := @C.wpe _ _ B_slices_Contains_S_impl_Step_impl_Step.eq_1
def R_slices_Contains_S_impl_Step_impl_Step : FIR := ⟨B_slices_Contains_S_impl_Step_impl_Step, 4, [(3, none)]⟩
theorem IR_slices_Contains_S_impl_Step_impl_Step : cfun Try.prog H_slices_Contains_S_impl_Step_impl_Step Try.f36 = some R_slices_Contains_S_impl_Step_impl_Step := by kernel_rfl
theorem EN_slices_Contains_S_impl_Step_impl_Step {args : List Value} {h : Heap} {k : Value → Heap → Prop} (hargs : args.length = 2) (hw : B_slices_Contains_S_impl_Step_impl_Step.wp Try.prog (retQ [(3, none)] k) (env0 args 4) h) : CallE Try.prog fn_slices_Contains_S_impl_Step_impl_Step args h k := enter Try.func36 rfl IR_slices_Contains_S_impl_Step_impl_Step hargs hw

def H_slices_Index_S_impl_Step_impl_Step : Hint := ⟨[(0, false), (1, false), (3, true), (4, false), (5, false), (7, false), (8, false)], [[1, 3, 4]]⟩
def K74_1 : C := .seq (.pl <| .st (.ext 7 0) <|
    .st (.act none (.px (some 3) (.mv (.c (.int .i64 (-1)))))) .done) (.ret)
@[simp] def W74_1 := @C.wpe _ _ K74_1.eq_1
def K74_2 : C := .pl <| .st (.ext 7 1) <|
    .st (.act none (.px (some 7) (.bin .add (.v 6) (.c (.int .i64 1))))) <|
    .st (.act none (.px (some 6) (.mv (.v 7)))) .done
@[simp] def W74_2 := @C.wpe _ _ K74_2.eq_1
def K74_3 : C := .seq (.pl <| .st (.ext 7 1) <|
    .st (.act none (.px (some 7) (.mv (.v 4)))) <|
    .st (.act none (.px (some 3) (.mv (.v 7)))) .done) (.ret)
@[simp] def W74_3 := @C.wpe _ _ K74_3.eq_1
def K74_4 : C := .cond 7 (.v 12) K74_3 (.skip)
@[simp] def W74_4 := @C.wpe _ _ K74_4.eq_1
def K74_5 : C := .seq (.pl <| .st (.ext 7 6) <|
    .st (.act none (.pget (some 7) none 2 0 (some 4))) <|
    .st (.act none (.px (some 8) (.mv (.v 0)))) <|
    .st (.act none (.px (some 9) (.mv (.v 4)))) <|
    .st (.act none (.px (some 10) (.ia 4 (.v 8) (.v 9)))) <|
    .st (.act none (.ld (some 11) (.v 10) (some 4))) <|
    .st (.act none (.px (some 12) (.eqf false [.i, .i, .i, .i] (.v 7) (.v 11)))) .done) K74_4
@[simp] def W74_5 := @C.wpe _ _ K74_5.eq_1
def K74_6 : C := .seq (.block 1 (.seq (.pl <| .st (.ext 7 1) <|
    .st (.act none (.px (some 7) (.mv (.v 6)))) <|
    .st (.act none (.px (some 4) (.mv (.v 7)))) .done) K74_5)) K74_2
@[simp] def W74_6 := @C.wpe _ _ K74_6.eq_1
def K74_7 : C := .seq (.cond 7 (.v 7) (.skip) (.exit 0)) K74_6
@[simp] def W74_7 := @C.wpe _ _ K74_7.eq_1
def K74_8 : C := .seq (.pl <| .st (.ext 7 1) <|
    .st (.act none (.px (some 7) (.bin .lss (.v 6) (.v 5)))) .done) K74_7
@[simp] def W74_8 := @C.wpe _ _ K74_8.eq_1
def K74_9 : C := .block 0 (.loop 7 [1, 3, 4] K74_8)
@[simp] def W74_9 := @C.wpe _ _ K74_9.eq_1
def K74_10 : C := .seq (.seq (.pl <| .st (.ext 7 1) <|
    .st (.act none (.px (some 7) (.mv (.v 0)))) <|
    .st (.act none (.px (some 5) (.lenV (.v 7)))) <|
    .st (.act none (.px (some 6) (.mv (.c (.int .i64 0))))) .done) K74_9) K74_1
@[simp] def W74_10 := @C.wpe _ _ K74_10.eq_1
def B_slices_Index_S_impl_Step_impl_Step : C := .seq (.pl <| .st (.ext 7 0) <|
    .st (.act none (.pnew 2 (.v 1) [])) <|
    .st (.act none (.px (some 3) (.mv (.c (.int .i64 0))))) .done) K74_10
@[simp] def WB_slices_Index_S_impl_Step_impl_Step := @C.wpe _ _ B_slices_Index_S_impl_Step_impl_Step.eq_1
def R_slices_Index_S_impl_Step_impl_Step : FIR := ⟨B_slices_Index_S_impl_Step_impl_Step, 7, [(3, none)]⟩
theorem IR_slices_Index_S_impl_Step_impl_Step : cfun Try.prog H_slices_Index_S_impl_Step_impl_Step Try.f74 = some R_slices_Index_S_impl_Step_impl_Step := by kernel_rfl
theorem EN_slices_Index_S_impl_Step_impl_Step {args : List Value} {h : Heap} {k : Value → Heap → Prop} (hargs : args.length = 2) (hw : B_slices_Index_S_impl_Step_impl_Step.wp Try.prog (retQ [(3, none)] k) (env0 args 7) h) : CallE Try.prog fn_slices_Index_S_impl_Step_impl_Step args h k := enter Try.func74 rfl IR_slices_Index_S_impl_Step_impl_Step hargs hw


end Go.Proofs.Ytonjglbachhdcaa

/-
  Bodies of functions in the small language, as a program printed them, and that each is what the translation gives.
-/
namespace Go.Proofs.Ytonjglbachhdcaa
open Go
set_option linter.all false
set_option linter.defProp false
set_option maxRecDepth 1000000

def H_impl_State_take : Hint := ⟨[(0, false), (1, false), (2, false), (3, true), (5, true)], []⟩
def K75_1 : Pl := .st (.act none (.px (some 14) (.ia 1 (.v 6) (.v 8)))) <|
    .st (.act none (.ex none (.store 1 (.v 14) (.v 13)))) .done
@[simp] def W75_1 := @Pl.wpe _ _ K75_1.eq_1
def K75_2 : C := .pl <| .st (.ext 5 10) <|
    .st (.act none (.als 5 none 3)) <|
    .st (.act none (.pget (some 6) (some 5) 3 1 none)) <|
    .st (.act none (.als 7 none 4)) <|
    .st (.act none (.pget (some 8) (some 7) 4 5 none)) <|
    .st (.act none (.als 9 none 4)) <|
    .st (.act none (.pget (some 10) (some 9) 4 6 (some 3))) <|
    .st (.act none (.als 11 none 3)) <|
    .st (.act none (.pget (some 12) (some 11) 3 1 none)) <|
    .st (.act none (.ex (some 13) (.call fn_impl_Expr_eval [.v 10, .v 12]))) K75_1
@[simp] def W75_2 := @C.wpe _ _ K75_2.eq_1
def K75_3 : C := .cond 5 (.v 7) K75_2 (.skip)
@[simp] def W75_3 := @C.wpe _ _ K75_3.eq_1
def K75_4 : C := .seq (.pl <| .st (.ext 5 3) <|
    .st (.act none (.als 5 none 4)) <|
    .st (.act none (.pget (some 6) (some 5) 4 5 none)) <|
    .st (.act none (.px (some 7) (.bin .geq (.v 6) (.c (.int .i64 0))))) .done) K75_3
@[simp] def W75_4 := @C.wpe _ _ K75_4.eq_1
def K75_5 : C := .seq (.pl <| .st (.ext 5 6) <|
    .st (.act none (.als 5 none 3)) <|
    .st (.act none (.pget (some 6) (some 5) 3 0 none)) <|
    .st (.act none (.px (some 7) (.mv (.v 1)))) <|
    .st (.act none (.als 8 none 4)) <|
    .st (.act none (.pget (some 9) (some 8) 4 1 none)) <|
    .st (.act none (.px (some 10) (.ia 1 (.v 6) (.v 7)))) <|
    .st (.act none (.ex none (.store 1 (.v 10) (.v 9)))) .done) K75_4
@[simp] def W75_5 := @C.wpe _ _ K75_5.eq_1
def B_impl_State_take : C := .seq (.pl <| .st (.ext 5 0) <|
    .st (.act none (.pnew 3 (.v 0) [])) <|
    .st (.act none (.pnew 4 (.v 2) [])) .done) K75_5
@[simp] def WB_impl_State_take := @C.wpe _ _ B_impl_State_take.eq_1
def R_impl_State_take : FIR := ⟨B_impl_State_take, 5, []⟩
theorem IR_impl_State_take : cfun Try.prog H_impl_State_take Try.f75 = some R_impl_State_take := by kernel_rfl
theorem EN_impl_State_take {args : List Value} {h : Heap} {k : Value → Heap → Prop} (hargs : args.length = 3) (hw : B_impl_State_take.wp Try.prog (retQ [] k) (env0 args 5) h) : CallE Try.prog fn_impl_State_take args h k := enter Try.func75 rfl IR_impl_State_take hargs hw

def H_impl_System_after : Hint := ⟨[(0, false), (1, false), (2, false), (3, true), (4, true), (5, true), (6, true), (7, true)], []⟩
def K37_1 : C := .seq (.pl <| .st (.ext 8 1) <|
    .st (.act none (.pget (some 8) none 7 0 (some 2))) <|
    .st (.act none (.pset none 6 0 2 (.v 8))) .done) (.ret)
@[simp] def W37_1 := @C.wpe _ _ K37_1.eq_1
def K37_2 : C := .pl <| .st (.ext 8 15) <|
    .st (.act none (.pget (some 8) none 7 0 (some 2))) <|
    .st (.act none (.als 9 none 5)) <|
    .st (.act none (.pget (some 10) (some 9) 5 2 none)) <|
    .st (.act none (.als 11 none 3)) <|
    .st (.act none (.pget (some 12) (some 11) 3 1 none)) <|
    .st (.act none (.als 13 none 5)) <|
    .st (.act none (.pget (some 14) (some 13) 5 2 none)) <|
    .st (.act none (.px (some 15) (.ia 2 (.v 12) (.v 14)))) <|
    .st (.act none (.px (some 16) (.fa 1 (.v 15)))) <|
    .st (.act none (.ld (some 17) (.v 16) none)) <|
    .st (.act none (.als 18 none 5)) <|
    .st (.act none (.pget (some 19) (some 18) 5 3 none)) <|
    .st (.act none (.px (some 20) (.ia 10 (.v 17) (.v 19)))) <|
    .st (.act none (.ld (some 21) (.v 20) (some 10))) <|
    .st (.act none (.ex (some 22) (.call fn_impl_State_take [.v 8, .v 10, .v 21]))) .done
@[simp] def W37_2 := @C.wpe _ _ K37_2.eq_1
def K37_3 : C := .cond 8 (.v 10) K37_2 (.skip)
@[simp] def W37_3 := @C.wpe _ _ K37_3.eq_1
def K37_4 : C := .seq (.seq (.pl <| .st (.ext 8 3) <|
    .st (.act none (.als 8 none 5)) <|
    .st (.act none (.pget (some 9) (some 8) 5 2 none)) <|
    .st (.act none (.px (some 10) (.bin .geq (.v 9) (.c (.int .i64 0))))) .done) K37_3) K37_1
@[simp] def W37_4 := @C.wpe _ _ K37_4.eq_1
def K37_5 : C := .seq (.pl <| .st (.ext 8 15) <|
    .st (.act none (.pget (some 8) none 7 0 (some 2))) <|
    .st (.act none (.als 9 none 5)) <|
    .st (.act none (.pget (some 10) (some 9) 5 0 none)) <|
    .st (.act none (.als 11 none 3)) <|
    .st (.act none (.pget (some 12) (some 11) 3 1 none)) <|
    .st (.act none (.als 13 none 5)) <|
    .st (.act none (.pget (some 14) (some 13) 5 0 none)) <|
    .st (.act none (.px (some 15) (.ia 2 (.v 12) (.v 14)))) <|
    .st (.act none (.px (some 16) (.fa 1 (.v 15)))) <|
    .st (.act none (.ld (some 17) (.v 16) none)) <|
    .st (.act none (.als 18 none 5)) <|
    .st (.act none (.pget (some 19) (some 18) 5 1 none)) <|
    .st (.act none (.px (some 20) (.ia 10 (.v 17) (.v 19)))) <|
    .st (.act none (.ld (some 21) (.v 20) (some 10))) <|
    .st (.act none (.ex (some 22) (.call fn_impl_State_take [.v 8, .v 10, .v 21]))) .done) K37_4
@[simp] def W37_5 := @C.wpe _ _ K37_5.eq_1
def K37_6 : Pl := .st (.act none (.pnew 7 (.c (.agg #[.slice none 0 0, .slice none 0 0])) [])) <|
    .st (.act none (.pset none 7 0 2 (.v 9))) .done
@[simp] def W37_6 := @Pl.wpe _ _ K37_6.eq_1
def K37_7 : C := .seq (.pl <| .st (.ext 8 2) <|
    .st (.act none (.pget (some 8) none 4 0 (some 2))) <|
    .st (.act none (.ex (some 9) (.call fn_impl_State_copyOf [.v 8]))) K37_6) K37_5
@[simp] def W37_7 := @C.wpe _ _ K37_7.eq_1
def B_impl_System_after : C := .seq (.pl <| .st (.ext 8 0) <|
    .st (.act none (.pnew 3 (.v 0) [])) <|
    .st (.act none (.pnew 4 (.v 1) [])) <|
    .st (.act none (.pnew 5 (.v 2) [])) <|
    .st (.act none (.pnew 6 (.c (.agg #[.slice none 0 0, .slice none 0 0])) [])) .done) K37_7
@[simp] def WB_impl_System_after := @C.wpe _ _ B_impl_System_after.eq_1
def R_impl_System_after : FIR := ⟨B_impl_System_after, 8, [(6, some (some 2))]⟩
theorem IR_impl_System_after : cfun Try.prog H_impl_System_after Try.f37 = some R_impl_System_after := by kernel_rfl
theorem EN_impl_System_after {args : List Value} {h : Heap} {k : Value → Heap → Prop} (hargs : args.length = 3) (hw : B_impl_System_after.wp Try.prog (retQ [(6, some (some 2))] k) (env0 args 8) h) : CallE Try.prog fn_impl_System_after args h k := enter Try.func37 rfl IR_impl_System_after hargs hw

def H_impl_System_enabled : Hint := ⟨[(0, false), (1, false), (2, true), (3, true), (4, false), (5, false), (6, false), (7, true), (8, false), (9, true), (10, false), (11, true), (12, false), (13, true), (15, false), (16, false), (17, false), (23, false), (24, false), (25, false), (53, false), (54, false), (55, false), (61, false), (62, false), (63, false)], [[0, 1, 4, 6, 7, 8, 9, 10, 11, 12, 13, 17, 18, 19, 20, 21, 22, 23, 24, 25], [0, 1, 4, 7, 8, 9, 10, 11, 12, 13, 20, 21, 22, 23, 24, 25], [0, 1, 4, 7, 10, 11, 12, 13, 23, 24, 25], [0, 1, 4, 7, 11, 12, 13]]⟩
def K32_1 : Pl := .st (.act none (.px (some 4) (.mv (.v 27)))) .done
@[simp] def W32_1 := @Pl.wpe _ _ K32_1.eq_1
def K32_2 : C := .seq (.pl <| .st (.ext 26 2) <|
    .st (.act none (.px (some 26) (.mv (.v 5)))) <|
    .st (.act none (.ex (some 27) (.call fn_slices_Clip_S_impl_Step_impl_Step [.v 26]))) K32_1) (.ret)
@[simp] def W32_2 := @C.wpe _ _ K32_2.eq_1
def K32_3 : C := .pl <| .st (.ext 26 1) <|
    .st (.act none (.px (some 26) (.bin .add (.v 16) (.c (.int .i64 1))))) <|
    .st (.act none (.px (some 16) (.mv (.v 26)))) .done
@[simp] def W32_3 := @C.wpe _ _ K32_3.eq_1
def K32_4 : C := .pl <| .st (.ext 26 1) <|
    .st (.act none (.px (some 26) (.bin .add (.v 19) (.c (.int .i64 1))))) <|
    .st (.act none (.px (some 19) (.mv (.v 26)))) .done
@[simp] def W32_4 := @C.wpe _ _ K32_4.eq_1
def K32_5 : C := .pl <| .st (.ext 26 1) <|
    .st (.act none (.px (some 26) (.bin .add (.v 22) (.c (.int .i64 1))))) <|
    .st (.act none (.px (some 22) (.mv (.v 26)))) .done
@[simp] def W32_5 := @C.wpe _ _ K32_5.eq_1
def K32_6 : C := .pl <| .st (.ext 26 1) <|
    .st (.act none (.px (some 26) (.bin .add (.v 25) (.c (.int .i64 1))))) <|
    .st (.act none (.px (some 25) (.mv (.v 26)))) .done
@[simp] def W32_6 := @C.wpe _ _ K32_6.eq_1
def K32_7 : Pl := .st (.act none (.px (some 5) (.mv (.v 33)))) .done
@[simp] def W32_7 := @Pl.wpe _ _ K32_7.eq_1
def K32_8 : C := .pl <| .st (.ext 26 8) <|
    .st (.act none (.px (some 26) (.mv (.v 5)))) <|
    .st (.act none (.px (some 27) (.mv (.v 6)))) <|
    .st (.act none (.px (some 28) (.mv (.v 8)))) <|
    .st (.act none (.px (some 29) (.mv (.v 10)))) <|
    .st (.act none (.px (some 30) (.mv (.v 12)))) <|
    .st (.act none (.px (some 31) (.build [.int .i64 0, .int .i64 0, .int .i64 0, .int .i64 0] [(0, 1, .v 27), (1, 1, .v 28), (2, 1, .v 29), (3, 1, .v 30)]))) <|
    .st (.act none (.psl 32 [.int .i64 0, .int .i64 0, .int .i64 0, .int .i64 0] [(0, 4, .v 31)])) <|
    .st (.act none (.ex (some 33) (.app 32 4 [.int .i64 0, .int .i64 0, .int .i64 0, .int .i64 0] (.o (.v 26)) (.p 1 32)))) K32_7
@[simp] def W32_8 := @C.wpe _ _ K32_8.eq_1
def K32_9 : C := .cond 26 (.v 43) K32_8 (.skip)
@[simp] def W32_9 := @C.wpe _ _ K32_9.eq_1
def K32_10 : Pl := .st (.act none (.px (some 43) (.pick (.v 37) (.v 42) (.c (.bool false))))) .done
@[simp] def W32_10 := @Pl.wpe _ _ K32_10.eq_1
def K32_11 : C := .seq (.pl <| .st (.ext 26 18) <|
    .st (.act none (.px (some 26) (.mv (.v 10)))) <|
    .st (.act none (.px (some 27) (.mv (.v 6)))) <|
    .st (.act none (.px (some 28) (.bin .neq (.v 26) (.v 27)))) <|
    .st (.act none (.px (some 29) (.mv (.v 28)))) <|
    .st (.act (some (.v 29, true)) (.als 30 none 13)) <|
    .st (.act (some (.v 29, true)) (.pget (some 31) (some 30) 13 9 none)) <|
    .st (.act (some (.v 29, true)) (.als 32 none 9)) <|
    .st (.act (some (.v 29, true)) (.pget (some 33) (some 32) 9 9 none)) <|
    .st (.act (some (.v 29, true)) (.px (some 34) (.un .neg (.v 33)))) <|
    .st (.act (some (.v 29, true)) (.px (some 35) (.bin .eql (.v 31) (.v 34)))) <|
    .st (.act none (.px (some 36) (.pick (.v 29) (.v 35) (.c (.bool false))))) <|
    .st (.act none (.px (some 37) (.mv (.v 36)))) <|
    .st (.act (some (.v 37, true)) (.pget (some 38) none 2 0 (some 2))) <|
    .st (.act (some (.v 37, true)) (.pget (some 39) none 3 0 (some 2))) <|
    .st (.act (some (.v 37, true)) (.px (some 40) (.mv (.v 10)))) <|
    .st (.act (some (.v 37, true)) (.px (some 41) (.mv (.v 12)))) <|
    .st (.act (some (.v 37, true)) (.ex (some 42) (.call fn_impl_System_ready [.v 38, .v 39, .v 40, .v 41]))) K32_10) K32_9
@[simp] def W32_11 := @C.wpe _ _ K32_11.eq_1
def K32_12 : C := .seq (.block 8 (.seq (.pl <| .st (.ext 26 3) <|
    .st (.act none (.px (some 26) (.mv (.v 25)))) <|
    .st (.act none (.px (some 27) (.ia 10 (.v 23) (.v 25)))) <|
    .st (.act none (.ld (some 28) (.v 27) (some 10))) <|
    .st (.act none (.pnew 13 (.c (.agg #[.int .i64 0, .int .i64 0, .int .i64 0, .int .i64 0, .slice none 0 0, .int .i64 0, .int .i64 0, .int .i64 0, .slice none 0 0, .int .i64 0])) [])) <|
    .st (.act none (.px (some 12) (.mv (.v 26)))) <|
    .st (.act none (.pset none 13 0 10 (.v 28))) .done) K32_11)) K32_6
@[simp] def W32_12 := @C.wpe _ _ K32_12.eq_1
def K32_13 : C := .seq (.cond 26 (.v 26) (.skip) (.exit 7)) K32_12
@[simp] def W32_13 := @C.wpe _ _ K32_13.eq_1
def K32_14 : C := .seq (.pl <| .st (.ext 26 1) <|
    .st (.act none (.px (some 26) (.bin .lss (.v 25) (.v 24)))) .done) K32_13
@[simp] def W32_14 := @C.wpe _ _ K32_14.eq_1
def K32_15 : C := .block 7 (.loop 26 [0, 1, 4, 7, 11, 12, 13] K32_14)
@[simp] def W32_15 := @C.wpe _ _ K32_15.eq_1
def K32_16 : C := .seq (.pl <| .st (.ext 26 1) <|
    .st (.act none (.als 26 none 11)) <|
    .st (.act none (.pget (some 23) (some 26) 11 1 none)) <|
    .st (.act none (.px (some 24) (.lenV (.v 23)))) <|
    .st (.act none (.px (some 25) (.mv (.c (.int .i64 0))))) .done) K32_15
@[simp] def W32_16 := @C.wpe _ _ K32_16.eq_1
def K32_17 : C := .seq (.block 6 (.seq (.pl <| .st (.ext 26 3) <|
    .st (.act none (.px (some 26) (.mv (.v 22)))) <|
    .st (.act none (.px (some 27) (.ia 2 (.v 20) (.v 22)))) <|
    .st (.act none (.ld (some 28) (.v 27) (some 2))) <|
    .st (.act none (.pnew 11 (.c (.agg #[.int .i64 0, .slice none 0 0])) [])) <|
    .st (.act none (.px (some 10) (.mv (.v 26)))) <|
    .st (.act none (.pset none 11 0 2 (.v 28))) .done) K32_16)) K32_5
@[simp] def W32_17 := @C.wpe _ _ K32_17.eq_1
def K32_18 : C := .seq (.cond 26 (.v 26) (.skip) (.exit 5)) K32_17
@[simp] def W32_18 := @C.wpe _ _ K32_18.eq_1
def K32_19 : C := .seq (.pl <| .st (.ext 26 1) <|
    .st (.act none (.px (some 26) (.bin .lss (.v 22) (.v 21)))) .done) K32_18
@[simp] def W32_19 := @C.wpe _ _ K32_19.eq_1
def K32_20 : C := .block 5 (.loop 26 [0, 1, 4, 7, 10, 11, 12, 13, 23, 24, 25] K32_19)
@[simp] def W32_20 := @C.wpe _ _ K32_20.eq_1
def K32_21 : C := .seq (.pl <| .st (.ext 26 1) <|
    .st (.act none (.als 26 none 2)) <|
    .st (.act none (.pget (some 20) (some 26) 2 1 none)) <|
    .st (.act none (.px (some 21) (.lenV (.v 20)))) <|
    .st (.act none (.px (some 22) (.mv (.c (.int .i64 0))))) .done) K32_20
@[simp] def W32_21 := @C.wpe _ _ K32_21.eq_1
def K32_22 : Pl := .st (.act none (.px (some 5) (.mv (.v 31)))) .done
@[simp] def W32_22 := @Pl.wpe _ _ K32_22.eq_1
def K32_23 : C := .seq (.pl <| .st (.ext 26 6) <|
    .st (.act none (.px (some 26) (.mv (.v 5)))) <|
    .st (.act none (.px (some 27) (.mv (.v 6)))) <|
    .st (.act none (.px (some 28) (.mv (.v 8)))) <|
    .st (.act none (.px (some 29) (.build [.int .i64 0, .int .i64 0, .int .i64 0, .int .i64 0] [(0, 1, .v 27), (1, 1, .v 28), (2, 1, .c (.int .i64 (-1))), (3, 1, .c (.int .i64 (-1)))]))) <|
    .st (.act none (.psl 30 [.int .i64 0, .int .i64 0, .int .i64 0, .int .i64 0] [(0, 4, .v 29)])) <|
    .st (.act none (.ex (some 31) (.app 32 4 [.int .i64 0, .int .i64 0, .int .i64 0, .int .i64 0] (.o (.v 26)) (.p 1 30)))) K32_22) (.exit 3)
@[simp] def W32_23 := @C.wpe _ _ K32_23.eq_1
def K32_24 : C := .cond 26 (.v 29) K32_23 (.skip)
@[simp] def W32_24 := @C.wpe _ _ K32_24.eq_1
def K32_25 : C := .seq (.pl <| .st (.ext 26 4) <|
    .st (.act none (.als 26 none 9)) <|
    .st (.act none (.pget (some 27) (some 26) 9 9 none)) <|
    .st (.act none (.px (some 28) (.bin .eql (.v 27) (.c (.int .i64 0))))) <|
    .st (.act none (.px (some 29) (.mv (.v 28)))) .done) K32_24
@[simp] def W32_25 := @C.wpe _ _ K32_25.eq_1
def K32_26 : C := .cond 26 (.v 37) (.exit 3) K32_25
@[simp] def W32_26 := @C.wpe _ _ K32_26.eq_1
def K32_27 : Pl := .st (.act none (.px (some 31) (.un .not (.v 30)))) <|
    .st (.act none (.px (some 32) (.mv (.v 31)))) <|
    .st (.act (some (.v 32, false)) (.als 33 none 9)) <|
    .st (.act (some (.v 32, false)) (.pget (some 34) (some 33) 9 9 none)) <|
    .st (.act (some (.v 32, false)) (.px (some 35) (.bin .lss (.v 34) (.c (.int .i64 0))))) <|
    .st (.act none (.px (some 36) (.pick (.v 32) (.c (.bool true)) (.v 35)))) <|
    .st (.act none (.px (some 37) (.mv (.v 36)))) .done
@[simp] def W32_27 := @Pl.wpe _ _ K32_27.eq_1
def K32_28 : C := .seq (.block 4 (.seq (.pl <| .st (.ext 26 12) <|
    .st (.act none (.pget (some 26) none 2 0 (some 2))) <|
    .st (.act none (.pget (some 27) none 3 0 (some 2))) <|
    .st (.act none (.px (some 28) (.mv (.v 6)))) <|
    .st (.act none (.px (some 29) (.mv (.v 8)))) <|
    .st (.act none (.ex (some 30) (.call fn_impl_System_ready [.v 26, .v 27, .v 28, .v 29]))) K32_27) K32_26)) K32_21
@[simp] def W32_28 := @C.wpe _ _ K32_28.eq_1
def K32_29 : C := .seq (.block 3 (.seq (.pl <| .st (.ext 26 3) <|
    .st (.act none (.px (some 26) (.mv (.v 19)))) <|
    .st (.act none (.px (some 27) (.ia 10 (.v 17) (.v 19)))) <|
    .st (.act none (.ld (some 28) (.v 27) (some 10))) <|
    .st (.act none (.pnew 9 (.c (.agg #[.int .i64 0, .int .i64 0, .int .i64 0, .int .i64 0, .slice none 0 0, .int .i64 0, .int .i64 0, .int .i64 0, .slice none 0 0, .int .i64 0])) [])) <|
    .st (.act none (.px (some 8) (.mv (.v 26)))) <|
    .st (.act none (.pset none 9 0 10 (.v 28))) .done) K32_28)) K32_4
@[simp] def W32_29 := @C.wpe _ _ K32_29.eq_1
def K32_30 : C := .seq (.cond 26 (.v 26) (.skip) (.exit 2)) K32_29
@[simp] def W32_30 := @C.wpe _ _ K32_30.eq_1
def K32_31 : C := .seq (.pl <| .st (.ext 26 1) <|
    .st (.act none (.px (some 26) (.bin .lss (.v 19) (.v 18)))) .done) K32_30
@[simp] def W32_31 := @C.wpe _ _ K32_31.eq_1
def K32_32 : C := .block 2 (.loop 26 [0, 1, 4, 7, 8, 9, 10, 11, 12, 13, 20, 21, 22, 23, 24, 25] K32_31)
@[simp] def W32_32 := @C.wpe _ _ K32_32.eq_1
def K32_33 : C := .seq (.pl <| .st (.ext 26 1) <|
    .st (.act none (.als 26 none 7)) <|
    .st (.act none (.pget (some 17) (some 26) 7 1 none)) <|
    .st (.act none (.px (some 18) (.lenV (.v 17)))) <|
    .st (.act none (.px (some 19) (.mv (.c (.int .i64 0))))) .done) K32_32
@[simp] def W32_33 := @C.wpe _ _ K32_33.eq_1
def K32_34 : C := .seq (.block 1 (.seq (.pl <| .st (.ext 26 3) <|
    .st (.act none (.px (some 26) (.mv (.v 16)))) <|
    .st (.act none (.px (some 27) (.ia 2 (.v 14) (.v 16)))) <|
    .st (.act none (.ld (some 28) (.v 27) (some 2))) <|
    .st (.act none (.pnew 7 (.c (.agg #[.int .i64 0, .slice none 0 0])) [])) <|
    .st (.act none (.px (some 6) (.mv (.v 26)))) <|
    .st (.act none (.pset none 7 0 2 (.v 28))) .done) K32_33)) K32_3
@[simp] def W32_34 := @C.wpe _ _ K32_34.eq_1
def K32_35 : C := .seq (.cond 26 (.v 26) (.skip) (.exit 0)) K32_34
@[simp] def W32_35 := @C.wpe _ _ K32_35.eq_1
def K32_36 : C := .seq (.pl <| .st (.ext 26 1) <|
    .st (.act none (.px (some 26) (.bin .lss (.v 16) (.v 15)))) .done) K32_35
@[simp] def W32_36 := @C.wpe _ _ K32_36.eq_1
def K32_37 : C := .block 0 (.loop 26 [0, 1, 4, 6, 7, 8, 9, 10, 11, 12, 13, 17, 18, 19, 20, 21, 22, 23, 24, 25] K32_36)
@[simp] def W32_37 := @C.wpe _ _ K32_37.eq_1
def K32_38 : C := .seq (.seq (.pl <| .st (.ext 26 1) <|
    .st (.act none (.als 26 none 2)) <|
    .st (.act none (.pget (some 14) (some 26) 2 1 none)) <|
    .st (.act none (.px (some 15) (.lenV (.v 14)))) <|
    .st (.act none (.px (some 16) (.mv (.c (.int .i64 0))))) .done) K32_37) K32_2
@[simp] def W32_38 := @C.wpe _ _ K32_38.eq_1
def K32_39 : C := .seq (.pl <| .st (.ext 26 0) <|
    .st (.act none (.px (some 5) (.mv (.c (.slice none 0 0))))) .done) K32_38
@[simp] def W32_39 := @C.wpe _ _ K32_39.eq_1
def B_impl_System_enabled : C := .seq (.pl <| .st (.ext 26 0) <|
    .st (.act none (.pnew 2 (.v 0) [])) <|
    .st (.act none (.pnew 3 (.v 1) [])) <|
    .st (.act none (.px (some 4) (.mv (.c (.slice none 0 0))))) .done) K32_39
@[simp] def WB_impl_System_enabled := @C.wpe _ _ B_impl_System_enabled.eq_1
def R_impl_System_enabled : FIR := ⟨B_impl_System_enabled, 26, [(4, none)]⟩
theorem IR_impl_System_enabled : cfun Try.prog H_impl_System_enabled Try.f32 = some R_impl_System_enabled := by kernel_rfl
theorem EN_impl_System_enabled {args : List Value} {h : Heap} {k : Value → Heap → Prop} (hargs : args.length = 2) (hw : B_impl_System_enabled.wp Try.prog (retQ [(4, none)] k) (env0 args 26) h) : CallE Try.prog fn_impl_System_enabled args h k := enter Try.func32 rfl IR_impl_System_enabled hargs hw

def H_impl_System_ready : Hint := ⟨[(0, false), (1, false), (2, false), (3, false), (4, true), (5, true), (8, false), (9, true)], []⟩
def K67_1 : Pl := .st (.act (some (.v 16, true)) (.px (some 22) (.bin .neq (.v 21) (.c (.int .i64 0))))) <|
    .st (.act none (.px (some 23) (.pick (.v 16) (.v 22) (.c (.bool false))))) <|
    .st (.act none (.px (some 6) (.mv (.v 23)))) .done
@[simp] def W67_1 := @Pl.wpe _ _ K67_1.eq_1
def K67_2 : C := .seq (.pl <| .st (.ext 8 16) <|
    .st (.act none (.als 8 none 5)) <|
    .st (.act none (.pget (some 9) (some 8) 5 0 none)) <|
    .st (.act none (.px (some 10) (.mv (.v 2)))) <|
    .st (.act none (.px (some 11) (.ia 1 (.v 9) (.v 10)))) <|
    .st (.act none (.ld (some 12) (.v 11) none)) <|
    .st (.act none (.als 13 none 7)) <|
    .st (.act none (.pget (some 14) (some 13) 7 0 none)) <|
    .st (.act none (.px (some 15) (.bin .eql (.v 12) (.v 14)))) <|
    .st (.act none (.px (some 16) (.mv (.v 15)))) <|
    .st (.act (some (.v 16, true)) (.als 17 none 7)) <|
    .st (.act (some (.v 16, true)) (.pget (some 18) (some 17) 7 2 (some 3))) <|
    .st (.act (some (.v 16, true)) (.als 19 none 5)) <|
    .st (.act (some (.v 16, true)) (.pget (some 20) (some 19) 5 1 none)) <|
    .st (.act (some (.v 16, true)) (.ex (some 21) (.call fn_impl_Expr_eval [.v 18, .v 20]))) K67_1) (.ret)
@[simp] def W67_2 := @C.wpe _ _ K67_2.eq_1
def K67_3 : C := .seq (.pl <| .st (.ext 8 9) <|
    .st (.act none (.als 8 none 4)) <|
    .st (.act none (.pget (some 9) (some 8) 4 1 none)) <|
    .st (.act none (.px (some 10) (.mv (.v 2)))) <|
    .st (.act none (.px (some 11) (.ia 2 (.v 9) (.v 10)))) <|
    .st (.act none (.px (some 12) (.fa 1 (.v 11)))) <|
    .st (.act none (.ld (some 13) (.v 12) none)) <|
    .st (.act none (.px (some 14) (.mv (.v 3)))) <|
    .st (.act none (.px (some 15) (.ia 10 (.v 13) (.v 14)))) <|
    .st (.act none (.ld (some 16) (.v 15) (some 10))) <|
    .st (.act none (.pnew 7 (.c (.agg #[.int .i64 0, .int .i64 0, .int .i64 0, .int .i64 0, .slice none 0 0, .int .i64 0, .int .i64 0, .int .i64 0, .slice none 0 0, .int .i64 0])) [])) <|
    .st (.act none (.pset none 7 0 10 (.v 16))) .done) K67_2
@[simp] def W67_3 := @C.wpe _ _ K67_3.eq_1
def B_impl_System_ready : C := .seq (.pl <| .st (.ext 8 0) <|
    .st (.act none (.pnew 4 (.v 0) [])) <|
    .st (.act none (.pnew 5 (.v 1) [])) <|
    .st (.act none (.px (some 6) (.mv (.c (.bool false))))) .done) K67_3
@[simp] def WB_impl_System_ready := @C.wpe _ _ B_impl_System_ready.eq_1
def R_impl_System_ready : FIR := ⟨B_impl_System_ready, 8, [(6, none)]⟩
theorem IR_impl_System_ready : cfun Try.prog H_impl_System_ready Try.f67 = some R_impl_System_ready := by kernel_rfl
theorem EN_impl_System_ready {args : List Value} {h : Heap} {k : Value → Heap → Prop} (hargs : args.length = 4) (hw : B_impl_System_ready.wp Try.prog (retQ [(6, none)] k) (env0 args 8) h) : CallE Try.prog fn_impl_System_ready args h k := enter Try.func67 rfl IR_impl_System_ready hargs hw

def H_slices_Clip_S_impl_Step_impl_Step : Hint := ⟨[(0, false), (2, false)], []⟩
def K68_1 : C := .seq (.pl <| .st (.ext 2 6) <|
    .st (.act none (.px (some 2) (.mv (.v 0)))) <|
    .st (.act none (.px (some 3) (.mv (.v 0)))) <|
    .st (.act none (.px (some 4) (.lenV (.v 3)))) <|
    .st (.act none (.px (some 5) (.mv (.v 0)))) <|
    .st (.act none (.px (some 6) (.lenV (.v 5)))) <|
    .st (.act none (.px (some 7) (.sliceV 4 (.v 2) none (some (.v 4)) (some (.v 6))))) <|
    .st (.act none (.px (some 1) (.mv (.v 7)))) .done) (.ret)
@[simp] def W68_1 := @C.wpe _ _ K68_1.eq_1
def B_slices_Clip_S_impl_Step_impl_Step : C := .seq (.pl <| .st (.ext 2 0) <|
    .st (.act none (.px (some 1) (.mv (.c (.slice none 0 0))))) .done) K68_1
@[simp] def WB_slices_Clip_S_impl_Step_impl_Step := @C.wpe _ _ B_slices_Clip_S_impl_Step_impl_Step.eq_1
def R_slices_Clip_S_impl_Step_impl_Step : FIR := ⟨B_slices_Clip_S_impl_Step_impl_Step, 2, [(1, none)]⟩
theorem IR_slices_Clip_S_impl_Step_impl_Step : cfun Try.prog H_slices_Clip_S_impl_Step_impl_Step Try.f68 = some R_slices_Clip_S_impl_Step_impl_Step := by kernel_rfl
theorem EN_slices_Clip_S_impl_Step_impl_Step {args : List Value} {h : Heap} {k : Value → Heap → Prop} (hargs : args.length = 1) (hw : B_slices_Clip_S_impl_Step_impl_Step.wp Try.prog (retQ [(1, none)] k) (env0 args 2) h) : CallE Try.prog fn_slices_Clip_S_impl_Step_impl_Step args h k := enter Try.func68 rfl IR_slices_Clip_S_impl_Step_impl_Step hargs hw


end Go.Proofs.Ytonjglbachhdcaa

/-
  Instances of functions over slices: copies, and whether some element meets a condition. Printed by a program.
-/
namespace Go.Proofs.Ytonjglbachhdcaa
open Go
set_option linter.all false
set_option linter.unusedVariables false
set_option linter.unusedSimpArgs false
set_option linter.defProp false
set_option maxRecDepth 1000000

theorem c_Clone_int {h : Heap} {a : Value} {x : List (Int)} (Ra : Rep h a x) (hs : x.length ≤ 1073741824) : CallE Try.prog fn_slices_Clone_S_int_int [a] h (fun v h' => HS h [ow v x] h') := by
  refine CallE.gen fun k hk => EN_slices_Clone_S_int_int rfl ?_
  obtain ⟨b, hb, hb2⟩ := Ra.isNil
  simp -implicitDefEqProofs (disch := first | omega | (simp only [List.length_set, List.length_replicate, List.length_append, List.length_map, List.length_take, List.length_cons, List.length_nil]; omega)) [wrap64, hb]
  refine IteW.mk (fun h1 => ?_) (fun h1 => ?_)
  · simp -implicitDefEqProofs (disch := first | omega | (simp only [List.length_set, List.length_replicate, List.length_append, List.length_map, List.length_take, List.length_cons, List.length_nil]; omega)) [wrap64]
    have h2 : x = [] := hb2 h1
    subst h2
    exact RetK.keep (hk _ _ HS.init.nil_ow)
  · simp -implicitDefEqProofs (disch := first | omega | (simp only [List.length_set, List.length_replicate, List.length_append, List.length_map, List.length_take, List.length_cons, List.length_nil]; omega)) [wrap64]
    refine HS.init.appPL (α := Int) (l2 := x) (u := a) rfl rfl Ra rfl rfl (by omega) fun v h1 H => ?_
    simp -implicitDefEqProofs (disch := first | omega | (simp only [List.length_set, List.length_replicate, List.length_append, List.length_map, List.length_take, List.length_cons, List.length_nil]; omega)) [wrap64]
    exact RetK.keep (hk _ _ H)

theorem c_Clip_int {g h : Heap} {Γ : List HP} {a : Value} {x : List (Int)} (H : HS g (ow a x :: Γ) h) : CallE Try.prog fn_slices_Clip_S_int_int [a] h (fun v h' => HS g (ow v x :: Γ) h') := by
  refine CallE.gen fun k hk => EN_slices_Clip_S_int_int rfl ?_
  obtain ⟨v', h1, h2⟩ := H.clip (esz := 1) (k := .i64)
  simp -implicitDefEqProofs (disch := first | omega | (simp only [List.length_set, List.length_replicate, List.length_append, List.length_map, List.length_take, List.length_cons, List.length_nil]; omega)) [wrap64, H.rep.I, h1]
  exact RetK.keep (hk _ _ h2)

theorem c_clone_int {h : Heap} {a : Value} {x : List (Int)} (Ra : Rep h a x) (hs : x.length ≤ 1073741824) : CallE Try.prog fn_impl_clone_int [a] h (fun v h' => HS h [ow v x] h') := by
  refine CallE.gen fun k hk => EN_impl_clone_int rfl ?_
  simp -implicitDefEqProofs (disch := first | omega | (simp only [List.length_set, List.length_replicate, List.length_append, List.length_map, List.length_take, List.length_cons, List.length_nil]; omega)) [wrap64]
  refine (c_Clone_int Ra hs).go ?_
  intro v h1 H
  simp -implicitDefEqProofs (disch := first | omega | (simp only [List.length_set, List.length_replicate, List.length_append, List.length_map, List.length_take, List.length_cons, List.length_nil]; omega)) [wrap64]
  refine (c_Clip_int H).go ?_
  intro v' h2 H
  simp -implicitDefEqProofs (disch := first | omega | (simp only [List.length_set, List.length_replicate, List.length_append, List.length_map, List.length_take, List.length_cons, List.length_nil]; omega)) [wrap64]
  exact RetK.keep (hk _ _ H)

end Go.Proofs.Ytonjglbachhdcaa
