/-
  Texts of this proof, one behind the other.
-/
import Derived.WalkKit
import Derived.ProofKit
import Derived.OpenShut
import Derived.Carry
import Derived.Deep.Slices
import Derived.SizedLaws
import Derived.Test.YtglnelcmcimljaaYF3
set_option linter.all false
set_option linter.unusedVariables false
set_option linter.unusedSimpArgs false
set_option linter.defProp false
set_option maxRecDepth 1000000
namespace Go.Proofs.Ytglnelcmcimljaa
open Go
theorem Rep.cut {α : Type} [Ty α] {h : Heap} {v : Value} {l : List α} (R : Rep h v l) {n esz : Nat} {k : IntKind} (hn : n ≤ l.length) : ∃ v', sliceVV esz v none (some (some (.int k n))) none = some v' ∧ Rep h v' (l.take n) := by
  obtain ⟨p, cap, rfl, h1, h2, h3⟩ := Rep_list.1 R
  have hl : (l.take n).length = n := by simp; omega
  have hc : n ≤ cap := by omega
  cases n with
  | zero =>
    cases p with
    | none =>
      refine ⟨.slice none 0 cap, ?_, Rep_list.2 ⟨none, cap, by simp, by simp, trivial, fun i hi => by simp at hi⟩⟩
      simp [sliceVV, bndV]
    | some a =>
      by_cases hz : cap = 0
      · refine ⟨.slice (some a) 0 cap, ?_, Rep_list.2 ⟨some a, cap, by simp, by simp, trivial, fun i hi => by simp at hi⟩⟩
        simp [sliceVV, bndV, hz]
      · refine ⟨.slice (some (a.add 0)) 0 cap, ?_, Rep_list.2 ⟨some (a.add 0), cap, by simp, by simp, trivial, fun i hi => by simp at hi⟩⟩
        simp [sliceVV, bndV, hz]
  | succ n =>
    obtain ⟨b, off, vs, rfl, _⟩ := h3 0 (by omega)
    refine ⟨.slice (some ⟨b, off, none⟩) (n + 1) cap, ?_, Rep_list.2 ⟨_, cap, by rw [hl], by rw [hl]; omega, trivial, fun i hi => ?_⟩⟩
    · simp [sliceVV, bndV, add_none]
      rw [if_pos (by omega)]
    · rw [hl] at hi
      obtain ⟨b', off', vs, e1, e2, e3⟩ := h3 i (by omega)
      exact ⟨b', off', vs, e1, e2, by simpa using e3⟩
@[simp] theorem nilcV_ptr {a : Addr} : nilcV (.pointer (some a)) = some (.pointer (some a)) := rfl
instance instTyU8 : Ty (BitVec 8) where
  agg := false
  sz := 1
  rep := fun _ cs n => cs = [.int .u8 n.toNat]
  own := fun r cs n => r = Heap.nil ∧ cs = [.int .u8 n.toNat]
  one := fun _ => rfl
  len := by rintro h cs x rfl; rfl
  cell := by rintro h cs x rfl v hv; simp at hv; subst hv; rfl
  mono := fun _ hr => hr
  own_rep := fun ho => ho.2
instance instFlatU8 : Flat (BitVec 8) := ⟨fun n => [.int .u8 n.toNat], fun _ => True, by simp [Ty.rep], by simp [Ty.own]⟩
theorem Rep.Y {h : Heap} {v : Value} {l : List (BitVec 8)} (hr : Rep h v l) : ((∀ (kd : IntKind) (i : Nat), i < l.length → iaV 1 v (.int kd i) = some (elp 1 v i)) ∧ (∀ (kd : IntKind) (i : Int), 0 ≤ i → i < l.length → iaV 1 v (.int kd i) = some (elp 1 v i.toNat)) ∧ lenVV v = some (.int .i64 l.length)) ∧
    ∀ (i : Nat) (hi : i < l.length), hload h (some (elp 1 v i)) none = some (.int .u8 l[i].toNat) := ⟨hr.X rfl, fun _ hi => hr.ldF hi⟩
theorem xor_nn {a b : Int} (ha : 0 ≤ a) (ha2 : a < 9223372036854775808) (hb : 0 ≤ b) (hb2 : b < 9223372036854775808) : 0 ≤ xorI .i64 a b ∧ xorI .i64 a b < 9223372036854775808 := by
  have e1 : (BitVec.ofInt 64 a).toNat = a.toNat := by rw [BitVec.toNat_ofInt]; congr 1; exact Int.emod_eq_of_lt ha (by omega)
  have e2 : (BitVec.ofInt 64 b).toNat = b.toNat := by rw [BitVec.toNat_ofInt]; congr 1; exact Int.emod_eq_of_lt hb (by omega)
  have h : a.toNat ^^^ b.toNat < 2 ^ 63 := Nat.xor_lt_two_pow (by omega) (by omega)
  have e3 : xorI .i64 a b = ((a.toNat ^^^ b.toNat : Nat) : Int) := by
    unfold xorI
    rw [show IntKind.i64.bits = 64 from rfl, BitVec.toNat_xor, e1, e2]
    exact wrap64 (by omega) (by omega)
  rw [e3]
  omega
abbrev rb (b : Nat) (sl : Value) (p : Int) : HP := bx b [sl, .int .i64 p]
theorem tmod_rng {a b : Int} (ha : 0 ≤ a) (hb : 0 < b) : 0 ≤ a.tmod b ∧ a.tmod b < b := by
  rw [Int.tmod_eq_emod_of_nonneg ha]
  exact ⟨Int.emod_nonneg _ (by omega), Int.emod_lt_of_pos _ hb⟩
theorem tdiv_rng {a b : Int} (ha : 0 ≤ a) (hb : 0 < b) : 0 ≤ a.tdiv b ∧ a.tdiv b ≤ a := by
  rw [Int.tdiv_eq_ediv_of_nonneg ha]
  exact ⟨Int.ediv_nonneg ha (by omega), Int.ediv_le_self _ ha⟩
theorem c_pick {g h : Heap} {Γ : List HP} {b : Nat} {sl : Value} {l : List (BitVec 8)} {p n : Int} (R : Rep g sl l) (H : HS g (rb b sl p :: Γ) h) (hp : 0 ≤ p) (hp2 : p < 1099511627776) (hn : I64 n) :
    CallE Try.prog fn_spec_l16Rd_pick [.pointer (some ⟨b, 0, none⟩), .int .i64 n] h (fun u h' => ∃ r, u = .int .i64 r ∧ I64 r ∧ 0 ≤ r ∧ (1 ≤ n → r < n) ∧ HS g (rb b sl (p + 1) :: Γ) h') := by
  have hL := R.lt
  have hn1 := hn.1
  have hn2 := hn.2
  refine CallE.gen fun k hk => EN_spec_l16Rd_pick rfl ?_
  have hb0 : hload h (some (.pointer (some ⟨b, 0, none⟩))) none = some sl := H.bxld rfl
  have hb1 : hload h (some (.pointer (some ⟨b, 1, none⟩))) none = some (.int .i64 p) := H.bxld rfl
  simp -implicitDefEqProofs (disch:=first|omega|(simp only[LnZ];omega))[wrap64, hb0, hb1]
  refine HS.bxst (o := 1) (sz := 1) (u := .int .i64 (p + 1)) H rfl rfl rfl rfl (by simp) fun h2 H => ?_
  replace H : HS g (rb b sl (p + 1) :: Γ) h2 := H
  have hb0 : hload h2 (some (.pointer (some ⟨b, 0, none⟩))) none = some sl := H.bxld rfl
  have hb1 : hload h2 (some (.pointer (some ⟨b, 1, none⟩))) none = some (.int .i64 (p + 1)) := H.bxld rfl
  by_cases a1 : n < 1
  · simp -implicitDefEqProofs (disch:=first|omega|(simp only[LnZ];omega))[wrap64, hb0, hb1, a1]
    exact RetK.keep (hk _ _ ⟨0, rfl, ⟨by omega, by omega⟩, by omega, fun h => absurd h (by omega), H⟩)
  obtain ⟨ln, hln⟩ : ∃ ln : Int, ln = l.length := ⟨_, rfl⟩
  have hlen := (R.on H).len
  rw [← hln] at hlen
  by_cases a2 : ln = 0
  · simp -implicitDefEqProofs (disch:=first|omega|(simp only[LnZ];omega))[wrap64, hb0, hb1, a1, hlen, a2]
    exact RetK.keep (hk _ _ ⟨0, rfl, ⟨by omega, by omega⟩, by omega, fun h => by omega, H⟩)
  obtain ⟨m, rfl⟩ : ∃ m : Nat, p = m := ⟨p.toNat, (Int.toNat_of_nonneg hp).symm⟩
  have hn0 : ¬ n = 0 := by omega
  by_cases a3 : (m : Int) < ln
  · have hk3 : m < l.length := by omega
    obtain ⟨c, hc⟩ : ∃ c : Int, c = l[m].toNat := ⟨_, rfl⟩
    have hc2 : c < 256 := by have := l[m].isLt; omega
    have hc0 : 0 ≤ c := by omega
    have hld := (R.on H).Y.2 m hk3
    rw [← hc] at hld
    obtain ⟨r1, r2⟩ := tmod_rng hc0 (show 0 < n by omega)
    simp -implicitDefEqProofs (disch:=first|omega|(simp only[LnZ];omega))[wrap64, hb0, hb1, a1, hlen, a2, a3, (R.on H).Y.1.1, hld, hn0]
    exact RetK.keep (hk _ _ ⟨c.tmod n, rfl, ⟨by omega, by omega⟩, r1, fun _ => r2, H⟩)
  · obtain ⟨s1, s2⟩ := tmod_rng (a := (m : Int)) (b := ln) (by omega) (by omega)
    obtain ⟨i1, hi1⟩ : ∃ i1 : Nat, (m : Int).tmod ln = i1 := ⟨_, (Int.toNat_of_nonneg s1).symm⟩
    obtain ⟨t1, t2⟩ := tmod_rng (a := (m : Int) * 7 + 3) (b := ln) (by omega) (by omega)
    obtain ⟨i2, hi2⟩ : ∃ i2 : Nat, ((m : Int) * 7 + 3).tmod ln = i2 := ⟨_, (Int.toNat_of_nonneg t1).symm⟩
    obtain ⟨q1, q2⟩ := tdiv_rng (a := (m : Int)) (b := ln) (by omega) (by omega)
    obtain ⟨q, hq⟩ : ∃ q : Int, (m : Int).tdiv ln = q := ⟨_, rfl⟩
    rw [hi1] at s1 s2
    rw [hi2] at t1 t2
    rw [hq] at q1 q2
    have hl1 : i1 < l.length := by omega
    have hl2 : i2 < l.length := by omega
    obtain ⟨c, hc⟩ : ∃ c : Int, c = l[i1].toNat := ⟨_, rfl⟩
    have hc2 : c < 256 := by have := l[i1].isLt; omega
    have hc0 : 0 ≤ c := by omega
    have hld := (R.on H).Y.2 i1 hl1
    rw [← hc] at hld
    obtain ⟨d, hd⟩ : ∃ d : Int, d = l[i2].toNat := ⟨_, rfl⟩
    have hd2 : d < 256 := by have := l[i2].isLt; omega
    have hd0 : 0 ≤ d := by omega
    have hld2 := (R.on H).Y.2 i2 hl2
    rw [← hd] at hld2
    obtain ⟨x, hx⟩ : ∃ x : Int, x = c * 131 + d * 1117 + (m : Int) * 29 + q * 53 := ⟨_, rfl⟩
    have hx0 : 0 ≤ x := by omega
    have hx1 : x < 9223372036854775808 := by omega
    obtain ⟨y1, y2⟩ := tdiv_rng (a := x) (b := 64) hx0 (by omega)
    obtain ⟨z1, z2⟩ := xor_nn hx0 hx1 y1 (by omega)
    obtain ⟨w1, w2⟩ := tmod_rng z1 (show 0 < n by omega)
    simp -implicitDefEqProofs (disch:=first|omega|(simp only[LnZ];omega))[wrap64, hb0, hb1, a1, hlen, a2, a3, (R.on H).Y.1.1, hi1, hi2, hq, hld, hld2, hn0, ← hx]
    exact RetK.keep (hk _ _ ⟨_, rfl, ⟨by omega, by omega⟩, w1, fun _ => w2, H⟩)
theorem c_num {g h : Heap} {Γ : List HP} {b : Nat} {sl v : Value} {l : List (BitVec 8)} {p : Int} {xs : List Int} (R : Rep g sl l) (H : HS g (ow v xs :: rb b sl p :: Γ) h) (hp : 0 ≤ p) (hp2 : p < 1099511627776) (hx : xs ≠ []) :
    CallE Try.prog fn_spec_l16Rd_num [.pointer (some ⟨b, 0, none⟩), v] h (fun u h' => ∃ r, u = .int .i64 r ∧ I64 r ∧ r ∈ xs ∧ HS g (rb b sl (p + 1) :: Γ) h') := by
  have hL := H.rep.lt
  have hpos : 0 < xs.length := List.length_pos_iff.2 hx
  refine CallE.gen fun k hk => EN_spec_l16Rd_num rfl ?_
  simp -implicitDefEqProofs (disch:=first|omega|(simp only[LnZ];omega))[wrap64, H.rep.len]
  refine (c_pick R H.sw1 hp hp2 ⟨by omega, by omega⟩).go ?_
  rintro _ h1 ⟨r, rfl, hr, hr0, hr1, H⟩
  obtain ⟨i, rfl⟩ : ∃ i : Nat, r = i := ⟨r.toNat, (Int.toNat_of_nonneg hr0).symm⟩
  have hi : i < xs.length := by have := hr1 (by omega); omega
  have hok := H.sw1.rep.okI hi
  simp -implicitDefEqProofs (disch:=first|omega|(simp only[LnZ];omega))[wrap64, H.sw1.rep.I]
  exact RetK.keep (hk _ _ ⟨xs[i], rfl, ⟨hok.1, hok.2⟩, List.getElem_mem hi, H.sw1.drop⟩)
theorem c_l16Open {h : Heap} {v : Value} {l : List (BitVec 8)} (R : Rep h v l) : CallE Try.prog fn_spec_l16Open [v] h (fun u h' => ∃ b sl, ∃ l' : List (BitVec 8), u = .pointer (some ⟨b, 0, none⟩) ∧ Rep h sl l' ∧ HS h [rb b sl 0] h') := by
  have hL := R.lt
  refine CallE.gen fun k hk => EN_spec_l16Open rfl ?_
  by_cases a1 : (2000 : Int) < l.length
  · obtain ⟨v', e1, R'⟩ := R.cut (n := 2000) (esz := 1) (k := .i64) (by omega)
    have hO := R'.one
    have e2 : sliceVV 1 v none (some (some (.int .i64 2000))) none = some v' := e1
    simp -implicitDefEqProofs (disch:=first|omega|(simp only[LnZ];omega))[wrap64, R.len, a1, e2, setC, hO, R'.cells]
    refine HS.init.alloc rfl fun b h1 H => ?_
    simp -implicitDefEqProofs (disch:=first|omega|(simp only[LnZ];omega))[wrap64]
    exact RetK.keep (hk _ _ ⟨b, v', _, rfl, R', H⟩)
  · have hO := R.one
    simp -implicitDefEqProofs (disch:=first|omega|(simp only[LnZ];omega))[wrap64, R.len, a1, setC, hO, R.cells]
    refine HS.init.alloc rfl fun b h1 H => ?_
    simp -implicitDefEqProofs (disch:=first|omega|(simp only[LnZ];omega))[wrap64]
    exact RetK.keep (hk _ _ ⟨b, v, _, rfl, R, H⟩)
end Go.Proofs.Ytglnelcmcimljaa

namespace Go.Proofs.Ytglnelcmcimljaa
open Go Go.RowKit
def whole (w : World) : Heap := fun b => w.heap[b]?
theorem calls_law {P : Program} {f : FuncId} {fn : Func} {args : List Value} {W : World} (hf : P.funcs[f]? = some fn) (hname : (fn.name == "runtime.NumGoroutine") = false) (hb : fn.body.isSome = true)
    (h : CallE P f args (whole W) (fun u h' => (whole W).le h' ∧ u = .bool true)) : Calls P f args.toArray W fun e W' => e = .returned (.bool true) ∧ Below W.heap.size W W' := by
  have h1 := h W (fun b o hb => hb)
  obtain ⟨bd, hbd⟩ := Option.isSome_iff_exists.1 hb
  have hname' : ¬ fn.name = "runtime.NumGoroutine" := by simpa using hname
  have hcall : (callFunc f args.toArray).run P W = .ok (.enter f args.toArray) W := by
    simp [callFunc, hf, hname', hbd]
  rw [hcall] at h1
  refine Calls.mono h1 ?_
  rintro e W' ⟨v, h', rfl, ⟨hl, rfl⟩, hs, hF⟩
  refine ⟨rfl, hF.os, hF.tape, hF.output, hF.size, ?_⟩
  intro k hk
  have h2 : whole W k = some W.heap[k] := by simp [whole, hk]
  rw [hs _ _ (hl _ _ h2)]
  simp [hk]
section
variable {H : Type} {enc : TypeId × Value → H} {P : Program}
theorem trodAll_below (hl : laidOutB P = true) {W W' : World} : ∀ {ts : List TypeId} {vs : List Value} {ds : List (DataW H)} {ps : List MemPlace}, (∀ t ∈ ts, P.readableRec t = true ∧ t < P.types.size) →
    DataW.TrodAll enc P W 0 (fun _ => true) true ts vs ds ps → Below W.heap.size W W' → (∀ x ∈ ps, x.block < W.heap.size) → DataW.TrodAll enc P W' 0 (fun b => decide (b < W.heap.size)) true ts vs ds ps
  | [], [], [], _, _, h, _, _ => h
  | _ :: _, _ :: _, _ :: _, _, ht, ⟨p, q, h1, h2, e⟩, hb, hlt =>
    ⟨p, q, Below.trod hl (ht _ (by simp)).1 (ht _ (by simp)).2 h1 hb (fun x hx => hlt x (by rw [e]; exact List.mem_append_left _ hx)),
      trodAll_below hl (fun t h => ht t (by simp [h])) h2 hb (fun x hx => hlt x (by rw [e]; exact List.mem_append_right _ hx)), e⟩
theorem kept_below {W W' : World} (hb : Below W.heap.size W W') (may : MemPlace → Prop) : W.keptBut W' may := by
  refine ⟨hb.os, hb.output, fun i hi => ?_⟩
  rw [hb.block i hi]
  split
  · rename_i h1 h2; rw [h1] at h2; simp only [Option.some.injEq, Obj.cells.injEq] at h2; obtain ⟨rfl, rfl, rfl⟩ := h2; exact ⟨rfl, rfl, rfl, fun _ _ => rfl⟩
  · rename_i h1 h2; rw [h1] at h2; simp only [Option.some.injEq, Obj.map.injEq] at h2; obtain ⟨rfl, rfl⟩ := h2; exact .inr ⟨rfl, rfl⟩
  · rfl
theorem post_law {f : Func} {s : ChangeSpec} {W W' : World} {args : Array Value} {ds gs : List (DataW H)} {before : List MemPlace} (hl : laidOutB P = true) (hvars : s.vars = []) (ht : ∀ t ∈ f.params.toList, P.readableRec t = true ∧ t < P.types.size)
    (hr : ∃ t, f.resultTypes = #[t] ∧ P.underlying t = some .bool) (hspec : (s.fn H (ds ++ gs)).results = [.lit (.bool true)] ∧ (s.fn H (ds ++ gs)).args = ds ∧ (s.fn H (ds ++ gs)).vars = [])
    (hW : DataW.Whole enc P f.params.toList s.vars false W args.toList ds gs before) (hb : Below W.heap.size W W') : s.post enc P f false true false false W args (.bool true) W' := by
  obtain ⟨t, ht1, ht2⟩ := hr
  obtain ⟨h1, h2, h3⟩ := hspec
  have hW' := hW
  obtain ⟨p, q, hA, hV, rfl, hz, hn⟩ := hW
  rw [hvars] at hV
  obtain ⟨rfl, rfl⟩ := Go.ChangeShapes.trodVars_none hV
  have hlt : ∀ x ∈ p ++ [], x.block < W.heap.size := fun x hx => by simpa using hW'.lt x hx
  refine ⟨ds, [], p ++ [], [], p, [], hW', ?_, ?_, ?_, World.keptBut_mono (fun x hx => ⟨by simpa using hx, .inr (.inl (by simpa using hx))⟩) (kept_below hb (fun x => x ∈ p)), by simp⟩
  · rw [h1, ht1]
    exact trodAll_cons_mk (shut_bool ht2 _) Go.ChangeShapes.trodAll_mk0
  · rw [h2]
    exact trodAll_below hl ht hA hb (fun x hx => hlt x (by simpa using hx))
  · rw [h3, hvars]; rfl
end
def wOk {H : Type} (P : Program) (t : TypeId) (d : DataW H) : Prop := ∀ n ∈ d.weights P t, n ≤ reachBytes
theorem wOk_all {H : Type} {P : Program} {e : TypeId} : ∀ {l : List (DataW H)}, (∀ n ∈ DataW.weightsAll P e l, n ≤ reachBytes) → ∀ d ∈ l, wOk P e d
  | [], _, d, hd => by simp at hd
  | x :: l, h, d, hd => by
    simp only [DataW.weightsAll, List.mem_append] at h
    rcases List.mem_cons.1 hd with rfl | hd
    · exact fun n hn => h n (.inl hn)
    · exact wOk_all (fun n hn => h n (.inr hn)) d hd
theorem wOk_each {H : Type} {P : Program} : ∀ {ts : List TypeId} {l : List (DataW H)}, (∀ n ∈ DataW.weightsEach P ts l, n ≤ reachBytes) → ∀ (i : Nat) t d, ts[i]? = some t → l[i]? = some d → wOk P t d
  | [], _, _, i, t, d, h1, _ => by simp at h1
  | _ :: _, [], _, i, t, d, _, h2 => by simp at h2
  | t0 :: ts, x :: l, h, 0, t, d, h1, h2 => by
    simp at h1 h2; subst h1 h2
    exact fun n hn => h n (by simp only [DataW.weightsEach, List.mem_append]; exact .inl hn)
  | t0 :: ts, x :: l, h, i + 1, t, d, h1, h2 => wOk_each (ts := ts) (l := l) (fun n hn => h n (by simp only [DataW.weightsEach, List.mem_append]; exact .inr hn)) i t d (by simpa using h1) (by simpa using h2)
def RdT (P : Program) (t : TypeId) (α : Type) [Ty α] : Prop := ∀ {H : Type} (enc : TypeId × Value → H) (W : World) (sp : Nat → Bool) (fuel : Nat) (cs : List Value) (x : DataW H × List MemPlace),
  DataW.trod enc P W 0 sp true fuel t cs = some x → wOk P t x.1 → ∃ y : α, Ty.rep (whole W) cs y
section
variable {P : Program} {t : TypeId}
theorem cells_whole {W : World} {b off : Nat} : ∀ {n : Nat} {l : List Value}, W.cells? 0 ⟨b, off, none⟩ n = some l → hcells (whole W) b off n = some l := by
  have key : ∀ n o l, (List.range' o n).mapM (fun i => W.cell? ((⟨b, off, none⟩ : Addr).add i)) = some l → hcells (whole W) b (off + o) n = some l := by
    intro n
    induction n with
    | zero => intro o l h; simpa [hcells] using h
    | succ n ih =>
      intro o l h
      rw [List.range'_succ, List.mapM_cons] at h
      simp only [Option.bind_eq_bind, Option.bind_eq_some_iff, Option.pure_def, Option.some.injEq] at h
      obtain ⟨v, h1, r, h2, rfl⟩ := h
      have h3 := ih (o + 1) r h2
      have h4 : hcell (whole W) b (off + o) = some v := by
        rw [addr_add0] at h1
        simp only [World.cell?, Option.isSome_none, Bool.false_eq_true, if_false] at h1
        simp only [hcell, whole]
        split at h1
        · rename_i hb; rw [hb]; exact h1
        · simp at h1
      simp only [hcells, h4]
      rw [show off + o + 1 = off + (o + 1) by omega, h3]
  intro n l h
  simp only [World.cells?, Nat.zero_le, if_true] at h
  rw [List.range_eq_range'] at h
  exact key n 0 l h
theorem cells_spot {W : World} {b off s n : Nat} (hn : 0 < n) : W.cells? 0 ⟨b, off, some s⟩ n = none := by
  simp only [World.cells?, Nat.zero_le, if_true]
  cases n with
  | zero => omega
  | succ n =>
    rw [List.range_succ_eq_map, List.mapM_cons]
    have : W.cell? ((⟨b, off, some s⟩ : Addr).add 0) = none := by
      simp only [Addr.add, if_true, World.cell?]
      split <;> simp
    rw [this]; rfl
theorem rd_list {α : Type} [Ty α] {e : TypeId} (ht : P.underlying t = some (.slice e)) (hc : P.cellsOf e = Ty.sz α) (hpos : 0 < Ty.sz α) (hby : 0 < P.bytesOf e) (he : RdT P e α) : RdT P t (List α) := by
  intro H enc W sp fuel cs x h hwt
  rcases Go.Deep.open_slice ht h with ⟨rfl, _⟩ | ⟨a, len, cap, m, n, D, Pl, rfl, _, hlen, hcap, hm, rfl, hel⟩
  · exact ⟨[], none, 0, rfl, by simp, trivial, fun i hi => by simp at hi⟩
  · have hle : len ≤ m := by rw [hm]; split <;> omega
    simp only [wOk, DataW.weights, ht, List.mem_cons, List.mem_append] at hwt
    have hsz : len ≤ reachBytes := by
      have h1 := hwt _ (.inl rfl)
      simp only [List.length_map, List.length_range] at h1
      have h2 : len * 1 ≤ (len + (m - len)) * P.bytesOf e := Nat.mul_le_mul (by omega) hby
      omega
    have hwe := wOk_all (fun n hn => hwt n (.inr (.inl hn)))
    have hall : ∀ i, i < len → ∃ y : α, ∃ b off vs, some a = some (⟨b, off, none⟩ : Addr) ∧ hcells (whole W) b (off + i * Ty.sz α) (Ty.sz α) = some vs ∧ Ty.rep (whole W) vs y := by
      intro i hi
      obtain ⟨cs', h1, h2⟩ := hel i (by omega)
      obtain ⟨y, hy⟩ := he enc W sp n cs' _ h2 (hwe _ (List.mem_map.2 ⟨i, by simpa using hi, rfl⟩))
      obtain ⟨b, off, spot⟩ := a
      rw [hc] at h1
      -- the address is plain: its first element could be read
      have h0 : spot = none := by
        cases spot with
        | none => rfl
        | some s =>
          obtain ⟨cs0, g1, _⟩ := hel 0 (by omega)
          rw [hc] at g1
          simp only [Nat.zero_mul, Addr.add, if_true] at g1
          rw [cells_spot hpos] at g1
          simp at g1
      subst h0
      rw [addr_add0] at h1
      exact ⟨y, b, off, cs', rfl, cells_whole h1, hy⟩
    have hch : ∃ l : List α, l.length = len ∧ ∀ i (hi : i < l.length), ∃ b off vs, some a = some (⟨b, off, none⟩ : Addr) ∧ hcells (whole W) b (off + i * Ty.sz α) (Ty.sz α) = some vs ∧ Ty.rep (whole W) vs l[i] := by
      refine ⟨(List.finRange len).map fun i => Classical.choose (hall i.1 i.2), by simp, fun i hi => ?_⟩
      have hi' : i < len := by simpa using hi
      have := Classical.choose_spec (hall i hi')
      simpa using this
    obtain ⟨l, hl, hr⟩ := hch
    refine ⟨l, some a, cap, by rw [hl], ⟨by omega, ?_⟩, trivial, hr⟩
    have : reachBytes < 4611686018427387904 := by decide
    omega
end
section
variable {P : Program} {W : World} {r : Reach} {base : Nat} {t e : TypeId} {v : Value}
theorem okWide_slice (ht : P.underlying t = some (.slice e)) (h : Value.okWide P W r base t v) : ∃ a n c, v = .slice a n c := by
  unfold Value.okWide at h
  rw [ht] at h
  simp only [Cell.okWide, ht] at h
  cases v <;> simp [Cell.ok, ht] at h ⊢
end
end Go.Proofs.Ytglnelcmcimljaa

namespace Go.Proofs.Ytglnelcmcimljaa
open Go
theorem rd_u8 {P : Program} {t : TypeId} (ht : P.underlying t = some (.int .u8)) : RdT P t (BitVec 8) := by
  intro H enc W sp fuel cs x h hwt
  cases fuel with
  | zero => simp [DataW.trod] at h
  | succ n =>
    unfold DataW.trod at h
    rw [ht] at h
    split at h
    case h_2 k k' m h1 =>
      simp only [Option.some.injEq, TypeDesc.int.injEq] at h1
      subst h1
      split at h
      case isTrue hc =>
        obtain ⟨rfl, hw⟩ := hc
        have := bounds_u8 hw
        refine ⟨BitVec.ofNat 8 m.toNat, ?_⟩
        show _ = [Value.int .u8 ((BitVec.ofNat 8 m.toNat).toNat : Int)]
        have e : ((BitVec.ofNat 8 m.toNat).toNat : Int) = m := by
          rw [BitVec.toNat_ofNat, Nat.mod_eq_of_lt (by omega)]; omega
        rw [e]
      case isFalse => simp at h
    all_goals simp_all
end Go.Proofs.Ytglnelcmcimljaa

namespace Go.Proofs.Ytglnelcmcimljaa
open Go
def H_laws_FnPrefixStep : Hint := ⟨[(0, false), (1, false), (4, false), (5, true), (6, false), (7, false), (8, false), (9, false), (10, false), (11, false), (12, false), (13, false), (14, false), (15, false), (16, false), (17, false), (18, true)], [[0, 1, 2, 4, 6, 7, 8, 11, 14, 15, 16], [0, 1, 2, 4, 6, 7, 8, 11, 16]]⟩
def K5_1 : C := .seq (.pl <| .e 17 0 <|
 .x 2 (.mv (.c (.bool true))) .done) (.ret)
@[simp] def W5_1 := C.w K5_1.eq_1
def K5_2 : C := .pl <| .e 17 2 <|
 .m 17 13 <|
 .x 18 (.bin .add (.v 17) (.c (.int .i64 1))) <|
 .m 13 18 .done
@[simp] def W5_2 := C.w K5_2.eq_1
def K5_3 : C := .seq (.pl <| .e 17 0 <|
 .x 2 (.mv (.c (.bool false))) .done) (.ret)
@[simp] def W5_3 := C.w K5_3.eq_1
def K5_4 : C := .cond 17 (.v 27) K5_3 (.skip)
@[simp] def W5_4 := C.w K5_4.eq_1
def K5_5 : Pl := .m 20 14 <|
 .m 21 20 <|
 .y 21 (.px (some 22) (.mv (.v 12))) <|
 .y 21 (.px (some 23) (.mv (.v 13))) <|
 .y 21 (.px (some 24) (.ia 1 (.v 22) (.v 23))) <|
 .y 21 (.ld (some 25) (.v 24) none) <|
 .x 26 (.pick (.v 21) (.v 25) (.c (.bool false))) <|
 .x 27 (.eqb true (.v 19) (.v 26)) .done
@[simp] def W5_5 := Pl.w K5_5.eq_1
def K5_6 : C := .seq (.pl <| .e 17 11 <|
 .m 17 10 <|
 .m 18 13 <|
 .c 19 (.call fn_laws_wpHas [.v 17, .v 18]) K5_5) K5_4
@[simp] def W5_6 := C.w K5_6.eq_1
def K5_7 : C := .pl <| .e 17 2 <|
 .m 17 15 <|
 .x 18 (.bin .add (.v 17) (.c (.int .i64 1))) <|
 .m 15 18 .done
@[simp] def W5_7 := C.w K5_7.eq_1
def K5_8 : Pl := .y 29 (.px (some 36) (.bin .eql (.v 33) (.v 35))) <|
 .n 18 (.px (some 37) (.pick (.v 29) (.v 36) (.c (.bool false)))) <|
 .x 38 (.pick (.v 18) (.c (.bool true)) (.v 37)) <|
 .m 14 38 .done
@[simp] def W5_8 := Pl.w K5_8.eq_1
def K5_9 : Pl := .n 18 (.px (some 28) (.pick (.v 23) (.v 27) (.c (.bool false)))) <|
 .n 18 (.px (some 29) (.mv (.v 28))) <|
 .y 29 (.px (some 30) (.mv (.v 9))) <|
 .y 29 (.als 31 none 16) <|
 .y 29 (.pget (some 32) (some 31) 16 1 none) <|
 .y 29 (.als 34 none 16) <|
 .y 29 (.pget (some 35) (some 34) 16 2 none) <|
 .st (.act (some (.v 29, true)) (.ex (some 33) (.call fn_laws_wpAnd [.v 30, .v 32]))) K5_8
@[simp] def W5_9 := Pl.w K5_9.eq_1
def K5_10 : C := .pl <| .e 17 22 <|
 .m 17 14 <|
 .m 18 17 <|
 .n 18 (.als 19 none 16) <|
 .n 18 (.pget (some 20) (some 19) 16 3 none) <|
 .n 18 (.px (some 21) (.mv (.v 13))) <|
 .n 18 (.px (some 22) (.bin .eql (.v 20) (.v 21))) <|
 .n 18 (.px (some 23) (.mv (.v 22))) <|
 .y 23 (.px (some 24) (.mv (.v 5))) <|
 .y 23 (.als 25 none 16) <|
 .y 23 (.pget (some 26) (some 25) 16 0 none) <|
 .st (.act (some (.v 23, true)) (.ex (some 27) (.call fn_laws_wpHas [.v 24, .v 26]))) K5_9
@[simp] def W5_10 := C.w K5_10.eq_1
def K5_11 : C := .seq (.block 3 (.seq (.pl <| .e 17 5 <|
 .a 17 3 <|
 .g 18 17 3 2 <|
 .m 19 15 <|
 .x 20 (.ia 4 (.v 18) (.v 19)) <|
 .o (.ld (some 21) (.v 20) (some 4)) <|
 .o (.pnew 16 (.c (.agg #[.int .i64 0, .int .i64 0, .int .i64 0, .int .i64 0])) []) <|
 .o (.pset none 16 0 4 (.v 21)) .done) K5_10)) K5_7
@[simp] def W5_11 := C.w K5_11.eq_1
def K5_12 : C := .cond 17 (.v 21) (.skip) (.exit 2)
@[simp] def W5_12 := C.w K5_12.eq_1
def K5_13 : C := .seq (.seq (.pl <| .e 17 5 <|
 .m 17 15 <|
 .a 18 3 <|
 .g 19 18 3 2 <|
 .x 20 (.lenV (.v 19)) <|
 .x 21 (.bin .lss (.v 17) (.v 20)) .done) K5_12) K5_11
@[simp] def W5_13 := C.w K5_13.eq_1
def K5_14 : C := .block 2 (.loop 17 [0, 1, 2, 4, 6, 7, 8, 11, 16] K5_13)
@[simp] def W5_14 := C.w K5_14.eq_1
def K5_15 : C := .seq (.seq (.pl <| .e 17 0 <|
 .x 15 (.mv (.c (.int .i64 0))) .done) K5_14) K5_6
@[simp] def W5_15 := C.w K5_15.eq_1
def K5_16 : C := .seq (.block 1 (.seq (.pl <| .e 17 0 <|
 .x 14 (.mv (.c (.bool false))) .done) K5_15)) K5_2
@[simp] def W5_16 := C.w K5_16.eq_1
def K5_17 : C := .cond 17 (.v 20) (.skip) (.exit 0)
@[simp] def W5_17 := C.w K5_17.eq_1
def K5_18 : C := .seq (.seq (.pl <| .e 17 4 <|
 .m 17 13 <|
 .m 18 12 <|
 .x 19 (.lenV (.v 18)) <|
 .x 20 (.bin .lss (.v 17) (.v 19)) .done) K5_17) K5_16
@[simp] def W5_18 := C.w K5_18.eq_1
def K5_19 : C := .block 0 (.loop 17 [0, 1, 2, 4, 6, 7, 8, 11, 14, 15, 16] K5_18)
@[simp] def W5_19 := C.w K5_19.eq_1
def K5_20 : C := .seq (.seq (.pl <| .e 17 0 <|
 .x 13 (.mv (.c (.int .i64 0))) .done) K5_19) K5_1
@[simp] def W5_20 := C.w K5_20.eq_1
def K5_21 : Pl := .m 12 18 .done
@[simp] def W5_21 := Pl.w K5_21.eq_1
def K5_22 : C := .seq (.pl <| .e 17 2 <|
 .o (.pget (some 17) none 3 0 (some 3)) <|
 .c 18 (.call fn_impl_LiveStates [.v 17]) K5_21) K5_20
@[simp] def W5_22 := C.w K5_22.eq_1
def K5_23 : Pl := .x 24 (.pick (.v 20) (.v 23) (.c (.bool false))) <|
 .m 2 24 .done
@[simp] def W5_23 := Pl.w K5_23.eq_1
def K5_24 : C := .seq (.pl <| .e 17 8 <|
 .m 17 6 <|
 .m 18 8 <|
 .x 19 (.eqb false (.v 17) (.v 18)) <|
 .m 20 19 <|
 .y 20 (.px (some 21) (.mv (.v 5))) <|
 .y 20 (.px (some 22) (.mv (.v 7))) <|
 .st (.act (some (.v 20, true)) (.ex (some 23) (.call fn_laws_wpInts [.v 21, .v 22]))) K5_23) (.ret)
@[simp] def W5_24 := C.w K5_24.eq_1
def K5_25 : C := .cond 17 (.v 33) K5_24 (.skip)
@[simp] def W5_25 := C.w K5_25.eq_1
def K5_26 : Pl := .n 20 (.px (some 24) (.un .not (.v 23))) <|
 .x 25 (.pick (.v 20) (.c (.bool true)) (.v 24)) <|
 .m 26 25 <|
 .n 26 (.px (some 27) (.mv (.v 6))) <|
 .n 26 (.px (some 28) (.un .not (.v 27))) <|
 .x 29 (.pick (.v 26) (.c (.bool true)) (.v 28)) <|
 .m 30 29 <|
 .n 30 (.px (some 31) (.mv (.v 11))) <|
 .n 30 (.px (some 32) (.un .not (.v 31))) <|
 .x 33 (.pick (.v 30) (.c (.bool true)) (.v 32)) .done
@[simp] def W5_26 := Pl.w K5_26.eq_1
def K5_27 : C := .seq (.seq (.pl <| .e 17 17 <|
 .m 17 6 <|
 .m 18 8 <|
 .x 19 (.eqb true (.v 17) (.v 18)) <|
 .m 20 19 <|
 .n 20 (.px (some 21) (.mv (.v 5))) <|
 .n 20 (.px (some 22) (.mv (.v 7))) <|
 .st (.act (some (.v 20, false)) (.ex (some 23) (.call fn_laws_wpInts [.v 21, .v 22]))) K5_26) K5_25) K5_22
@[simp] def W5_27 := C.w K5_27.eq_1
def K5_28 : Pl := .m 25 24 <|
 .x 26 (.extract 0 (.v 25)) <|
 .x 27 (.extract 1 (.v 25)) <|
 .m 10 26 <|
 .m 11 27 .done
@[simp] def W5_28 := Pl.w K5_28.eq_1
def K5_29 : Pl := .c 24 (.call fn_impl_PrefixStates [.v 17, .v 23]) K5_28
@[simp] def W5_29 := Pl.w K5_29.eq_1
def K5_30 : Pl := .c 23 (.app 8 1 [.int .i64 0] (.o (.v 20)) (.p 1 22)) K5_29
@[simp] def W5_30 := Pl.w K5_30.eq_1
def K5_31 : C := .seq (.pl <| .e 17 11 <|
 .o (.pget (some 17) none 3 0 (some 3)) <|
 .o (.psl 18 [] []) <|
 .m 19 4 <|
 .m 21 9 <|
 .o (.psl 22 [.int .i64 0] [(0, 1, .v 21)]) <|
 .c 20 (.app 8 1 [.int .i64 0] (.p 0 18) (.o (.v 19))) K5_30) K5_27
@[simp] def W5_31 := C.w K5_31.eq_1
def K5_32 : C := .seq (.pl <| .e 17 3 <|
 .m 17 1 <|
 .x 18 (.lenV (.v 17)) <|
 .x 19 (.bin .rem (.v 18) (.c (.int .i64 8))) <|
 .m 9 19 .done) K5_31
@[simp] def W5_32 := C.w K5_32.eq_1
def K5_33 : Pl := .m 20 19 <|
 .x 21 (.extract 0 (.v 20)) <|
 .x 22 (.extract 1 (.v 20)) <|
 .m 7 21 <|
 .m 8 22 .done
@[simp] def W5_33 := Pl.w K5_33.eq_1
def K5_34 : C := .seq (.pl <| .e 17 6 <|
 .o (.pget (some 17) none 3 0 (some 3)) <|
 .m 18 4 <|
 .c 19 (.call fn_spec_PrefixStates [.v 17, .v 18]) K5_33) K5_32
@[simp] def W5_34 := C.w K5_34.eq_1
def K5_35 : Pl := .m 20 19 <|
 .x 21 (.extract 0 (.v 20)) <|
 .x 22 (.extract 1 (.v 20)) <|
 .m 5 21 <|
 .m 6 22 .done
@[simp] def W5_35 := Pl.w K5_35.eq_1
def K5_36 : C := .seq (.pl <| .e 17 6 <|
 .o (.pget (some 17) none 3 0 (some 3)) <|
 .m 18 4 <|
 .c 19 (.call fn_impl_PrefixStates [.v 17, .v 18]) K5_35) K5_34
@[simp] def W5_36 := C.w K5_36.eq_1
def K5_37 : Pl := .m 19 18 <|
 .x 20 (.extract 0 (.v 19)) <|
 .x 21 (.extract 1 (.v 19)) <|
 .o (.pnew 3 (.c (.agg #[.slice none 0 0, .slice none 0 0, .slice none 0 0])) []) <|
 .o (.pset none 3 0 3 (.v 20)) <|
 .m 4 21 .done
@[simp] def W5_37 := Pl.w K5_37.eq_1
def K5_38 : C := .seq (.pl <| .e 17 5 <|
 .m 17 0 <|
 .c 18 (.call fn_spec_DrawPrefixStates [.v 17]) K5_37) K5_36
@[simp] def W5_38 := C.w K5_38.eq_1
def K5_39 : C := .seq (.pl <| .e 17 0 <|
 .x 2 (.mv (.c (.bool true))) .done) (.ret)
@[simp] def W5_39 := C.w K5_39.eq_1
def K5_40 : C := .cond 17 (.v 24) K5_39 (.skip)
@[simp] def W5_40 := C.w K5_40.eq_1
def K5_41 : C := .seq (.seq (.pl <| .e 17 8 <|
 .m 17 0 <|
 .x 18 (.lenV (.v 17)) <|
 .x 19 (.bin .gtr (.v 18) (.c (.int .i64 1048576))) <|
 .m 20 19 <|
 .n 20 (.px (some 21) (.mv (.v 1))) <|
 .n 20 (.px (some 22) (.lenV (.v 21))) <|
 .n 20 (.px (some 23) (.bin .gtr (.v 22) (.c (.int .i64 1048576)))) <|
 .x 24 (.pick (.v 20) (.c (.bool true)) (.v 23)) .done) K5_40) K5_38
@[simp] def W5_41 := C.w K5_41.eq_1
def B_laws_FnPrefixStep : C := .seq (.pl <| .e 17 0 <|
 .x 2 (.mv (.c (.bool false))) .done) K5_41
@[simp] def WB_laws_FnPrefixStep := C.w B_laws_FnPrefixStep.eq_1
def R_laws_FnPrefixStep : FIR := ⟨B_laws_FnPrefixStep, 17, [(2, none)]⟩
theorem IR_laws_FnPrefixStep : cfun Try.prog H_laws_FnPrefixStep Try.f5 = some R_laws_FnPrefixStep := by kernel_rfl
theorem EN_laws_FnPrefixStep : ENT Try.prog B_laws_FnPrefixStep [(2, none)] 2 17 fn_laws_FnPrefixStep := fun hargs hw => enter Try.func5 rfl IR_laws_FnPrefixStep hargs hw
def H_laws_wpHas : Hint := ⟨[(0, false), (1, false), (4, false), (5, false)], [[2]]⟩
def K21_1 : C := .seq (.pl <| .e 4 0 <|
 .x 2 (.mv (.c (.bool false))) .done) (.ret)
@[simp] def W21_1 := C.w K21_1.eq_1
def K21_2 : C := .pl <| .e 4 2 <|
 .m 4 3 <|
 .x 5 (.bin .add (.v 4) (.c (.int .i64 1))) <|
 .m 3 5 .done
@[simp] def W21_2 := C.w K21_2.eq_1
def K21_3 : C := .seq (.pl <| .e 4 0 <|
 .x 2 (.mv (.c (.bool true))) .done) (.ret)
@[simp] def W21_3 := C.w K21_3.eq_1
def K21_4 : C := .cond 4 (.v 9) K21_3 (.skip)
@[simp] def W21_4 := C.w K21_4.eq_1
def K21_5 : C := .seq (.block 1 (.seq (.pl <| .e 4 6 <|
 .m 4 0 <|
 .m 5 3 <|
 .x 6 (.ia 1 (.v 4) (.v 5)) <|
 .l 7 6 <|
 .m 8 1 <|
 .x 9 (.bin .eql (.v 7) (.v 8)) .done) K21_4)) K21_2
@[simp] def W21_5 := C.w K21_5.eq_1
def K21_6 : C := .cond 4 (.v 7) (.skip) (.exit 0)
@[simp] def W21_6 := C.w K21_6.eq_1
def K21_7 : C := .seq (.seq (.pl <| .e 4 4 <|
 .m 4 3 <|
 .m 5 0 <|
 .x 6 (.lenV (.v 5)) <|
 .x 7 (.bin .lss (.v 4) (.v 6)) .done) K21_6) K21_5
@[simp] def W21_7 := C.w K21_7.eq_1
def K21_8 : C := .block 0 (.loop 4 [2] K21_7)
@[simp] def W21_8 := C.w K21_8.eq_1
def K21_9 : C := .seq (.seq (.pl <| .e 4 0 <|
 .x 3 (.mv (.c (.int .i64 0))) .done) K21_8) K21_1
@[simp] def W21_9 := C.w K21_9.eq_1
def B_laws_wpHas : C := .seq (.pl <| .e 4 0 <|
 .x 2 (.mv (.c (.bool false))) .done) K21_9
@[simp] def WB_laws_wpHas := C.w B_laws_wpHas.eq_1
def R_laws_wpHas : FIR := ⟨B_laws_wpHas, 4, [(2, none)]⟩
theorem IR_laws_wpHas : cfun Try.prog H_laws_wpHas Try.f21 = some R_laws_wpHas := by kernel_rfl
theorem EN_laws_wpHas : ENT Try.prog B_laws_wpHas [(2, none)] 2 4 fn_laws_wpHas := fun hargs hw => enter Try.func21 rfl IR_laws_wpHas hargs hw
def H_laws_wpInts : Hint := ⟨[(0, false), (1, false), (4, false), (5, false)], [[2]]⟩
def K19_1 : C := .seq (.pl <| .e 4 0 <|
 .x 2 (.mv (.c (.bool true))) .done) (.ret)
@[simp] def W19_1 := C.w K19_1.eq_1
def K19_2 : C := .pl <| .e 4 2 <|
 .m 4 3 <|
 .x 5 (.bin .add (.v 4) (.c (.int .i64 1))) <|
 .m 3 5 .done
@[simp] def W19_2 := C.w K19_2.eq_1
def K19_3 : C := .seq (.pl <| .e 4 0 <|
 .x 2 (.mv (.c (.bool false))) .done) (.ret)
@[simp] def W19_3 := C.w K19_3.eq_1
def K19_4 : C := .cond 4 (.v 12) K19_3 (.skip)
@[simp] def W19_4 := C.w K19_4.eq_1
def K19_5 : C := .seq (.block 1 (.seq (.pl <| .e 4 9 <|
 .m 4 0 <|
 .m 5 3 <|
 .x 6 (.ia 1 (.v 4) (.v 5)) <|
 .l 7 6 <|
 .m 8 1 <|
 .m 9 3 <|
 .x 10 (.ia 1 (.v 8) (.v 9)) <|
 .l 11 10 <|
 .x 12 (.bin .neq (.v 7) (.v 11)) .done) K19_4)) K19_2
@[simp] def W19_5 := C.w K19_5.eq_1
def K19_6 : C := .cond 4 (.v 7) (.skip) (.exit 0)
@[simp] def W19_6 := C.w K19_6.eq_1
def K19_7 : C := .seq (.seq (.pl <| .e 4 4 <|
 .m 4 3 <|
 .m 5 0 <|
 .x 6 (.lenV (.v 5)) <|
 .x 7 (.bin .lss (.v 4) (.v 6)) .done) K19_6) K19_5
@[simp] def W19_7 := C.w K19_7.eq_1
def K19_8 : C := .block 0 (.loop 4 [2] K19_7)
@[simp] def W19_8 := C.w K19_8.eq_1
def K19_9 : C := .seq (.seq (.pl <| .e 4 0 <|
 .x 3 (.mv (.c (.int .i64 0))) .done) K19_8) K19_1
@[simp] def W19_9 := C.w K19_9.eq_1
def K19_10 : C := .seq (.pl <| .e 4 0 <|
 .x 2 (.mv (.c (.bool false))) .done) (.ret)
@[simp] def W19_10 := C.w K19_10.eq_1
def K19_11 : C := .cond 4 (.v 8) K19_10 (.skip)
@[simp] def W19_11 := C.w K19_11.eq_1
def K19_12 : C := .seq (.seq (.pl <| .e 4 5 <|
 .m 4 0 <|
 .x 5 (.lenV (.v 4)) <|
 .m 6 1 <|
 .x 7 (.lenV (.v 6)) <|
 .x 8 (.bin .neq (.v 5) (.v 7)) .done) K19_11) K19_9
@[simp] def W19_12 := C.w K19_12.eq_1
def B_laws_wpInts : C := .seq (.pl <| .e 4 0 <|
 .x 2 (.mv (.c (.bool false))) .done) K19_12
@[simp] def WB_laws_wpInts := C.w B_laws_wpInts.eq_1
def R_laws_wpInts : FIR := ⟨B_laws_wpInts, 4, [(2, none)]⟩
theorem IR_laws_wpInts : cfun Try.prog H_laws_wpInts Try.f19 = some R_laws_wpInts := by kernel_rfl
theorem EN_laws_wpInts : ENT Try.prog B_laws_wpInts [(2, none)] 2 4 fn_laws_wpInts := fun hargs hw => enter Try.func19 rfl IR_laws_wpInts hargs hw
def H_spec_DrawPrefixStates : Hint := ⟨[(0, false), (2, true), (3, false), (4, false), (5, true)], []⟩
def K16_1 : Pl := .o (.pset none 1 0 3 (.v 5)) <|
 .m 2 7 .done
@[simp] def W16_1 := Pl.w K16_1.eq_1
def K16_2 : C := .seq (.pl <| .e 5 3 <|
 .o (.pget (some 5) none 4 0 (some 3)) <|
 .m 6 3 <|
 .c 7 (.call fn_spec_l12Letters [.v 6]) K16_1) (.ret)
@[simp] def W16_2 := C.w K16_2.eq_1
def K16_3 : Pl := .o (.pnew 4 (.c (.agg #[.slice none 0 0, .slice none 0 0, .slice none 0 0])) []) <|
 .o (.pset none 4 0 3 (.v 8)) .done
@[simp] def W16_3 := Pl.w K16_3.eq_1
def K16_4 : Pl := .c 8 (.call fn_spec_l7Mutate [.v 5, .v 7]) K16_3
@[simp] def W16_4 := Pl.w K16_4.eq_1
def K16_5 : C := .seq (.pl <| .e 5 4 <|
 .m 5 3 <|
 .m 6 3 <|
 .c 7 (.call fn_spec_l7Automaton [.v 6]) K16_4) K16_2
@[simp] def W16_5 := C.w K16_5.eq_1
def K16_6 : Pl := .m 3 6 .done
@[simp] def W16_6 := Pl.w K16_6.eq_1
def K16_7 : C := .seq (.pl <| .e 5 2 <|
 .m 5 0 <|
 .c 6 (.call fn_spec_l16Open [.v 5]) K16_6) K16_5
@[simp] def W16_7 := C.w K16_7.eq_1
def B_spec_DrawPrefixStates : C := .seq (.pl <| .e 5 0 <|
 .o (.pnew 1 (.c (.agg #[.slice none 0 0, .slice none 0 0, .slice none 0 0])) []) <|
 .x 2 (.mv (.c (.slice none 0 0))) .done) K16_7
@[simp] def WB_spec_DrawPrefixStates := C.w B_spec_DrawPrefixStates.eq_1
def R_spec_DrawPrefixStates : FIR := ⟨B_spec_DrawPrefixStates, 5, [(1, some (some 3)), (2, none)]⟩
theorem IR_spec_DrawPrefixStates : cfun Try.prog H_spec_DrawPrefixStates Try.f16 = some R_spec_DrawPrefixStates := by kernel_rfl
theorem EN_spec_DrawPrefixStates : ENT Try.prog B_spec_DrawPrefixStates [(1, some (some 3)), (2, none)] 1 5 fn_spec_DrawPrefixStates := fun hargs hw => enter Try.func16 rfl IR_spec_DrawPrefixStates hargs hw
def H_spec_l12Letters : Hint := ⟨[(0, false), (2, false), (3, false), (10, false)], [[1, 3]]⟩
def K53_1 : C := .seq (.pl <| .e 4 1 <|
 .m 4 2 <|
 .m 1 4 .done) (.ret)
@[simp] def W53_1 := C.w K53_1.eq_1
def K53_2 : Pl := .m 2 9 .done
@[simp] def W53_2 := Pl.w K53_2.eq_1
def K53_3 : Pl := .o (.psl 8 [.int .i64 0] [(0, 1, .v 7)]) <|
 .c 9 (.app 8 1 [.int .i64 0] (.o (.v 4)) (.p 1 8)) K53_2
@[simp] def W53_3 := Pl.w K53_3.eq_1
def K53_4 : Pl := .c 7 (.call fn_spec_l16Rd_num [.v 5, .v 6]) K53_3
@[simp] def W53_4 := Pl.w K53_4.eq_1
def K53_5 : C := .pl <| .e 4 6 <|
 .m 4 2 <|
 .m 5 0 <|
 .c 6 (.bls 1 3 [.int .i64 0] [(0, 1, .c (.int .i64 8)), (1, 1, .c (.int .i64 (-1))), (2, 1, .c (.int .i64 9223372036854775807))]) K53_4
@[simp] def W53_5 := C.w K53_5.eq_1
def K53_6 : Pl := .m 2 6 .done
@[simp] def W53_6 := Pl.w K53_6.eq_1
def K53_7 : C := .block 2 (.pl <| .e 4 3 <|
 .m 4 2 <|
 .o (.psl 5 [.int .i64 0] [(0, 1, .c (.int .i64 1))]) <|
 .c 6 (.app 8 1 [.int .i64 0] (.o (.v 4)) (.p 1 5)) K53_6)
@[simp] def W53_7 := C.w K53_7.eq_1
def K53_8 : C := .cond 4 (.v 9) (.skip) (.exit 1)
@[simp] def W53_8 := C.w K53_8.eq_1
def K53_9 : Pl := .x 8 (.bin .add (.c (.int .i64 200)) (.v 7)) <|
 .x 9 (.bin .lss (.v 5) (.v 8)) .done
@[simp] def W53_9 := Pl.w K53_9.eq_1
def K53_10 : C := .seq (.seq (.pl <| .e 4 6 <|
 .m 4 2 <|
 .x 5 (.lenV (.v 4)) <|
 .m 6 0 <|
 .c 7 (.call fn_spec_l16Rd_pick [.v 6, .c (.int .i64 2)]) K53_9) K53_8) K53_7
@[simp] def W53_10 := C.w K53_10.eq_1
def K53_11 : C := .block 1 (.loop 4 [1, 3] K53_10)
@[simp] def W53_11 := C.w K53_11.eq_1
def K53_12 : C := .cond 4 (.v 5) K53_11 (.skip)
@[simp] def W53_12 := C.w K53_12.eq_1
def K53_13 : C := .seq (.pl <| .e 4 2 <|
 .x 4 (.bin .eql (.v 3) (.c (.int .i64 1))) <|
 .m 5 4 .done) K53_12
@[simp] def W53_13 := C.w K53_13.eq_1
def K53_14 : C := .cond 4 (.v 5) K53_5 K53_13
@[simp] def W53_14 := C.w K53_14.eq_1
def K53_15 : C := .block 0 (.seq (.pl <| .e 4 2 <|
 .x 4 (.bin .eql (.v 3) (.c (.int .i64 0))) <|
 .m 5 4 .done) K53_14)
@[simp] def W53_15 := C.w K53_15.eq_1
def K53_16 : C := .seq (.seq (.pl <| .e 4 1 <|
 .m 4 0 <|
 .c 3 (.call fn_spec_l16Rd_pick [.v 4, .c (.int .i64 40)]) .done) K53_15) K53_1
@[simp] def W53_16 := C.w K53_16.eq_1
def K53_17 : Pl := .m 2 8 .done
@[simp] def W53_17 := Pl.w K53_17.eq_1
def K53_18 : Pl := .c 8 (.call fn_spec_l6Word [.v 4, .v 7]) K53_17
@[simp] def W53_18 := Pl.w K53_18.eq_1
def K53_19 : Pl := .c 7 (.call fn_spec_l16Rd_num [.v 5, .v 6]) K53_18
@[simp] def W53_19 := Pl.w K53_19.eq_1
def K53_20 : C := .seq (.pl <| .e 4 5 <|
 .m 4 0 <|
 .m 5 0 <|
 .c 6 (.bls 1 6 [.int .i64 0] [(0, 1, .c (.int .i64 3)), (1, 1, .c (.int .i64 2)), (2, 1, .c (.int .i64 4)), (3, 1, .c (.int .i64 1)), (4, 1, .c (.int .i64 0)), (5, 1, .c (.int .i64 6))]) K53_19) K53_16
@[simp] def W53_20 := C.w K53_20.eq_1
def B_spec_l12Letters : C := .seq (.pl <| .e 4 0 <|
 .x 1 (.mv (.c (.slice none 0 0))) .done) K53_20
@[simp] def WB_spec_l12Letters := C.w B_spec_l12Letters.eq_1
def R_spec_l12Letters : FIR := ⟨B_spec_l12Letters, 4, [(1, none)]⟩
theorem IR_spec_l12Letters : cfun Try.prog H_spec_l12Letters Try.f53 = some R_spec_l12Letters := by kernel_rfl
theorem EN_spec_l12Letters : ENT Try.prog B_spec_l12Letters [(1, none)] 1 4 fn_spec_l12Letters := fun hargs hw => enter Try.func53 rfl IR_spec_l12Letters hargs hw
end Go.Proofs.Ytglnelcmcimljaa

namespace Go.Proofs.Ytglnelcmcimljaa
open Go
def H_impl_LiveStates : Hint := ⟨[(0, false), (1, true), (2, false)], []⟩
def K20_1 : Pl := .m 2 4 .done
@[simp] def W20_1 := Pl.w K20_1.eq_1
def K20_2 : C := .seq (.pl <| .e 3 2 <|
 .o (.pget (some 3) none 1 0 (some 3)) <|
 .c 4 (.call fn_impl_Automaton_live [.v 3]) K20_1) (.ret)
@[simp] def W20_2 := C.w K20_2.eq_1
def K20_3 : C := .seq (.pl <| .e 3 0 <|
 .x 2 (.mv (.c (.slice none 0 0))) .done) (.ret)
@[simp] def W20_3 := C.w K20_3.eq_1
def K20_4 : C := .cond 3 (.v 5) K20_3 (.skip)
@[simp] def W20_4 := C.w K20_4.eq_1
def K20_5 : Pl := .x 5 (.un .not (.v 4)) .done
@[simp] def W20_5 := Pl.w K20_5.eq_1
def K20_6 : C := .seq (.seq (.pl <| .e 3 3 <|
 .o (.pget (some 3) none 1 0 (some 3)) <|
 .c 4 (.call fn_impl_AutomatonValid [.v 3]) K20_5) K20_4) K20_2
@[simp] def W20_6 := C.w K20_6.eq_1
def B_impl_LiveStates : C := .seq (.pl <| .e 3 0 <|
 .o (.pnew 1 (.v 0) []) <|
 .x 2 (.mv (.c (.slice none 0 0))) .done) K20_6
@[simp] def WB_impl_LiveStates := C.w B_impl_LiveStates.eq_1
def R_impl_LiveStates : FIR := ⟨B_impl_LiveStates, 3, [(2, none)]⟩
theorem IR_impl_LiveStates : cfun Try.prog H_impl_LiveStates Try.f20 = some R_impl_LiveStates := by kernel_rfl
theorem EN_impl_LiveStates : ENT Try.prog B_impl_LiveStates [(2, none)] 1 3 fn_impl_LiveStates := fun hargs hw => enter Try.func20 rfl IR_impl_LiveStates hargs hw
end Go.Proofs.Ytglnelcmcimljaa

namespace Go.Proofs.Ytglnelcmcimljaa
open Go
def H_laws_wpAnd : Hint := ⟨[(0, false), (1, false), (4, false), (5, false), (6, false)], [[2]]⟩
def K14_1 : C := .seq (.pl <| .e 5 1 <|
 .m 5 3 <|
 .m 2 5 .done) (.ret)
@[simp] def W14_1 := C.w K14_1.eq_1
def K14_2 : C := .pl <| .e 5 2 <|
 .m 5 4 <|
 .x 6 (.bin .mul (.v 5) (.c (.int .i64 2))) <|
 .m 4 6 .done
@[simp] def W14_2 := C.w K14_2.eq_1
def K14_3 : C := .pl <| .e 5 3 <|
 .m 5 3 <|
 .m 6 4 <|
 .x 7 (.bin .add (.v 5) (.v 6)) <|
 .m 3 7 .done
@[simp] def W14_3 := C.w K14_3.eq_1
def K14_4 : C := .cond 5 (.v 16) K14_3 (.skip)
@[simp] def W14_4 := C.w K14_4.eq_1
def K14_5 : C := .seq (.block 1 (.seq (.pl <| .e 5 12 <|
 .m 5 0 <|
 .m 6 4 <|
 .x 7 (.bin .quo (.v 5) (.v 6)) <|
 .x 8 (.bin .rem (.v 7) (.c (.int .i64 2))) <|
 .x 9 (.bin .eql (.v 8) (.c (.int .i64 1))) <|
 .m 10 9 <|
 .y 10 (.px (some 11) (.mv (.v 1))) <|
 .y 10 (.px (some 12) (.mv (.v 4))) <|
 .y 10 (.px (some 13) (.bin .quo (.v 11) (.v 12))) <|
 .y 10 (.px (some 14) (.bin .rem (.v 13) (.c (.int .i64 2)))) <|
 .y 10 (.px (some 15) (.bin .eql (.v 14) (.c (.int .i64 1)))) <|
 .x 16 (.pick (.v 10) (.v 15) (.c (.bool false))) .done) K14_4)) K14_2
@[simp] def W14_5 := C.w K14_5.eq_1
def K14_6 : C := .cond 5 (.v 6) (.skip) (.exit 0)
@[simp] def W14_6 := C.w K14_6.eq_1
def K14_7 : C := .seq (.seq (.pl <| .e 5 2 <|
 .m 5 4 <|
 .x 6 (.bin .leq (.v 5) (.c (.int .i64 7))) .done) K14_6) K14_5
@[simp] def W14_7 := C.w K14_7.eq_1
def K14_8 : C := .block 0 (.loop 5 [2] K14_7)
@[simp] def W14_8 := C.w K14_8.eq_1
def K14_9 : C := .seq (.seq (.pl <| .e 5 0 <|
 .x 4 (.mv (.c (.int .i64 1))) .done) K14_8) K14_1
@[simp] def W14_9 := C.w K14_9.eq_1
def K14_10 : C := .seq (.pl <| .e 5 0 <|
 .x 3 (.mv (.c (.int .i64 0))) .done) K14_9
@[simp] def W14_10 := C.w K14_10.eq_1
def B_laws_wpAnd : C := .seq (.pl <| .e 5 0 <|
 .x 2 (.mv (.c (.int .i64 0))) .done) K14_10
@[simp] def WB_laws_wpAnd := C.w B_laws_wpAnd.eq_1
def R_laws_wpAnd : FIR := ⟨B_laws_wpAnd, 5, [(2, none)]⟩
theorem IR_laws_wpAnd : cfun Try.prog H_laws_wpAnd Try.f14 = some R_laws_wpAnd := by kernel_rfl
theorem EN_laws_wpAnd : ENT Try.prog B_laws_wpAnd [(2, none)] 2 5 fn_laws_wpAnd := fun hargs hw => enter Try.func14 rfl IR_laws_wpAnd hargs hw
end Go.Proofs.Ytglnelcmcimljaa

namespace Go.Proofs.Ytglnelcmcimljaa
open Go
end Go.Proofs.Ytglnelcmcimljaa

namespace Go.Proofs.Ytglnelcmcimljaa
open Go
end Go.Proofs.Ytglnelcmcimljaa

namespace Go.Proofs.Ytglnelcmcimljaa
open Go
end Go.Proofs.Ytglnelcmcimljaa

namespace Go.Proofs.Ytglnelcmcimljaa
open Go
def H_spec_l6Word : Hint := ⟨[(0, false), (1, false), (4, false), (5, false), (6, false)], [[2]]⟩
def K103_1 : C := .seq (.pl <| .e 5 1 <|
 .m 5 3 <|
 .m 2 5 .done) (.ret)
@[simp] def W103_1 := C.w K103_1.eq_1
def K103_2 : C := .pl <| .e 5 2 <|
 .m 5 4 <|
 .x 6 (.bin .add (.v 5) (.c (.int .i64 1))) <|
 .m 4 6 .done
@[simp] def W103_2 := C.w K103_2.eq_1
def K103_3 : Pl := .m 3 10 .done
@[simp] def W103_3 := Pl.w K103_3.eq_1
def K103_4 : Pl := .o (.psl 9 [.int .i64 0] [(0, 1, .v 8)]) <|
 .c 10 (.app 8 1 [.int .i64 0] (.o (.v 5)) (.p 1 9)) K103_3
@[simp] def W103_4 := Pl.w K103_4.eq_1
def K103_5 : Pl := .c 8 (.call fn_spec_l16Rd_num [.v 6, .v 7]) K103_4
@[simp] def W103_5 := Pl.w K103_5.eq_1
def K103_6 : C := .seq (.block 1 (.pl <| .e 5 6 <|
 .m 5 3 <|
 .m 6 0 <|
 .c 7 (.bls 1 9 [.int .i64 0] [(0, 1, .c (.int .i64 0)), (1, 1, .c (.int .i64 1)), (2, 1, .c (.int .i64 2)), (3, 1, .c (.int .i64 3)), (4, 1, .c (.int .i64 1)), (5, 1, .c (.int .i64 0)), (6, 1, .c (.int .i64 5)), (7, 1, .c (.int .i64 4)), (8, 1, .c (.int .i64 7))]) K103_5)) K103_2
@[simp] def W103_6 := C.w K103_6.eq_1
def K103_7 : C := .cond 5 (.v 7) (.skip) (.exit 0)
@[simp] def W103_7 := C.w K103_7.eq_1
def K103_8 : C := .seq (.seq (.pl <| .e 5 3 <|
 .m 5 4 <|
 .m 6 1 <|
 .x 7 (.bin .lss (.v 5) (.v 6)) .done) K103_7) K103_6
@[simp] def W103_8 := C.w K103_8.eq_1
def K103_9 : C := .block 0 (.loop 5 [2] K103_8)
@[simp] def W103_9 := C.w K103_9.eq_1
def K103_10 : C := .seq (.seq (.pl <| .e 5 0 <|
 .x 4 (.mv (.c (.int .i64 0))) .done) K103_9) K103_1
@[simp] def W103_10 := C.w K103_10.eq_1
def K103_11 : Pl := .m 3 5 .done
@[simp] def W103_11 := Pl.w K103_11.eq_1
def K103_12 : C := .seq (.pl <| .e 5 1 <|
 .c 5 (.bls 1 0 [.int .i64 0] []) K103_11) K103_10
@[simp] def W103_12 := C.w K103_12.eq_1
def B_spec_l6Word : C := .seq (.pl <| .e 5 0 <|
 .x 2 (.mv (.c (.slice none 0 0))) .done) K103_12
@[simp] def WB_spec_l6Word := C.w B_spec_l6Word.eq_1
def R_spec_l6Word : FIR := ⟨B_spec_l6Word, 5, [(2, none)]⟩
theorem IR_spec_l6Word : cfun Try.prog H_spec_l6Word Try.f103 = some R_spec_l6Word := by kernel_rfl
theorem EN_spec_l6Word : ENT Try.prog B_spec_l6Word [(2, none)] 2 5 fn_spec_l6Word := fun hargs hw => enter Try.func103 rfl IR_spec_l6Word hargs hw
end Go.Proofs.Ytglnelcmcimljaa

namespace Go.Proofs.Ytglnelcmcimljaa
open Go
def H_spec_l7Automaton : Hint := ⟨[(0, false), (2, true), (3, true), (4, false), (5, false), (6, true), (7, false), (8, false), (9, false)], [[2, 3, 7, 8], [2, 3, 6, 8]]⟩
def K52_1 : C := .seq (.pl <| .e 9 1 <|
 .o (.pget (some 9) none 5 0 (some 3)) <|
 .o (.pset none 1 0 3 (.v 9)) .done) (.ret)
@[simp] def W52_1 := C.w K52_1.eq_1
def K52_2 : C := .pl <| .e 9 2 <|
 .m 9 7 <|
 .x 10 (.bin .sub (.v 9) (.c (.int .i64 1))) <|
 .m 7 10 .done
@[simp] def W52_2 := C.w K52_2.eq_1
def K52_3 : Pl := .a 25 5 <|
 .o (.pset (some 25) 5 2 1 (.v 24)) .done
@[simp] def W52_3 := Pl.w K52_3.eq_1
def K52_4 : Pl := .x 22 (.build [.int .i64 0, .int .i64 0, .int .i64 0, .int .i64 0] [(0, 1, .v 13), (1, 1, .v 14), (2, 1, .v 18), (3, 1, .v 21)]) <|
 .o (.psl 23 [.int .i64 0, .int .i64 0, .int .i64 0, .int .i64 0] [(0, 4, .v 22)]) <|
 .c 24 (.app 32 4 [.int .i64 0, .int .i64 0, .int .i64 0, .int .i64 0] (.o (.v 10)) (.p 1 23)) K52_3
@[simp] def W52_4 := Pl.w K52_4.eq_1
def K52_5 : Pl := .x 18 (.bin .and (.v 16) (.v 17)) <|
 .c 21 (.call fn_spec_l16Rd_pick [.v 19, .v 20]) K52_4
@[simp] def W52_5 := Pl.w K52_5.eq_1
def K52_6 : Pl := .c 16 (.call fn_spec_l16Rd_pick [.v 15, .c (.int .i64 8)]) K52_5
@[simp] def W52_6 := Pl.w K52_6.eq_1
def K52_7 : C := .pl <| .e 9 17 <|
 .a 9 5 <|
 .g 10 9 5 2 <|
 .m 11 0 <|
 .m 12 4 <|
 .m 14 8 <|
 .m 15 0 <|
 .m 17 8 <|
 .m 19 0 <|
 .m 20 4 <|
 .c 13 (.call fn_spec_l16Rd_pick [.v 11, .v 12]) K52_6
@[simp] def W52_7 := C.w K52_7.eq_1
def K52_8 : Pl := .m 8 11 .done
@[simp] def W52_8 := Pl.w K52_8.eq_1
def K52_9 : Pl := .c 11 (.call fn_spec_l16Rd_num [.v 9, .v 10]) K52_8
@[simp] def W52_9 := Pl.w K52_9.eq_1
def K52_10 : C := .seq (.block 3 (.seq (.pl <| .e 9 3 <|
 .m 9 0 <|
 .c 10 (.bls 1 5 [.int .i64 0] [(0, 1, .c (.int .i64 1)), (1, 1, .c (.int .i64 3)), (2, 1, .c (.int .i64 0)), (3, 1, .c (.int .i64 2)), (4, 1, .c (.int .i64 7))]) K52_9) K52_7)) K52_2
@[simp] def W52_10 := C.w K52_10.eq_1
def K52_11 : C := .cond 9 (.v 10) (.skip) (.exit 2)
@[simp] def W52_11 := C.w K52_11.eq_1
def K52_12 : C := .seq (.seq (.pl <| .e 9 2 <|
 .m 9 7 <|
 .x 10 (.bin .gtr (.v 9) (.c (.int .i64 0))) .done) K52_11) K52_10
@[simp] def W52_12 := C.w K52_12.eq_1
def K52_13 : C := .block 2 (.loop 9 [2, 3, 6, 8] K52_12)
@[simp] def W52_13 := C.w K52_13.eq_1
def K52_14 : Pl := .m 7 11 .done
@[simp] def W52_14 := Pl.w K52_14.eq_1
def K52_15 : Pl := .c 11 (.call fn_spec_l16Rd_num [.v 9, .v 10]) K52_14
@[simp] def W52_15 := Pl.w K52_15.eq_1
def K52_16 : C := .seq (.seq (.pl <| .e 9 3 <|
 .m 9 0 <|
 .c 10 (.bls 1 5 [.int .i64 0] [(0, 1, .c (.int .i64 6)), (1, 1, .c (.int .i64 4)), (2, 1, .c (.int .i64 8)), (3, 1, .c (.int .i64 3)), (4, 1, .c (.int .i64 10))]) K52_15) K52_13) K52_1
@[simp] def W52_16 := C.w K52_16.eq_1
def K52_17 : C := .pl <| .e 9 2 <|
 .m 9 6 <|
 .x 10 (.bin .add (.v 9) (.c (.int .i64 1))) <|
 .m 6 10 .done
@[simp] def W52_17 := C.w K52_17.eq_1
def K52_18 : Pl := .a 14 5 <|
 .o (.pset (some 14) 5 0 1 (.v 13)) .done
@[simp] def W52_18 := Pl.w K52_18.eq_1
def K52_19 : C := .pl <| .e 9 6 <|
 .a 9 5 <|
 .g 10 9 5 0 <|
 .m 11 6 <|
 .o (.psl 12 [.int .i64 0] [(0, 1, .v 11)]) <|
 .c 13 (.app 8 1 [.int .i64 0] (.o (.v 10)) (.p 1 12)) K52_18
@[simp] def W52_19 := C.w K52_19.eq_1
def K52_20 : C := .cond 9 (.v 20) K52_19 (.skip)
@[simp] def W52_20 := C.w K52_20.eq_1
def K52_21 : Pl := .n 16 (.px (some 19) (.bin .eql (.v 18) (.c (.int .i64 0)))) <|
 .x 20 (.pick (.v 16) (.c (.bool true)) (.v 19)) .done
@[simp] def W52_21 := Pl.w K52_21.eq_1
def K52_22 : Pl := .y 11 (.px (some 14) (.bin .gtr (.v 13) (.c (.int .i64 0)))) <|
 .x 15 (.pick (.v 11) (.v 14) (.c (.bool false))) <|
 .m 16 15 <|
 .n 16 (.px (some 17) (.mv (.v 0))) <|
 .st (.act (some (.v 16, false)) (.ex (some 18) (.call fn_spec_l16Rd_pick [.v 17, .c (.int .i64 5)]))) K52_21
@[simp] def W52_22 := Pl.w K52_22.eq_1
def K52_23 : C := .seq (.pl <| .e 9 12 <|
 .m 9 6 <|
 .x 10 (.bin .eql (.v 9) (.c (.int .i64 0))) <|
 .m 11 10 <|
 .y 11 (.px (some 12) (.mv (.v 0))) <|
 .st (.act (some (.v 11, true)) (.ex (some 13) (.call fn_spec_l16Rd_pick [.v 12, .c (.int .i64 12)]))) K52_22) K52_20
@[simp] def W52_23 := C.w K52_23.eq_1
def K52_24 : Pl := .x 14 (.bin .eql (.v 13) (.c (.int .i64 0))) <|
 .x 15 (.ia 1 (.v 10) (.v 11)) <|
 .o (.ex none (.store 1 (.v 15) (.v 14))) .done
@[simp] def W52_24 := Pl.w K52_24.eq_1
def K52_25 : C := .seq (.block 1 (.seq (.pl <| .e 9 7 <|
 .a 9 5 <|
 .g 10 9 5 1 <|
 .m 11 6 <|
 .m 12 0 <|
 .c 13 (.call fn_spec_l16Rd_pick [.v 12, .c (.int .i64 3)]) K52_24) K52_23)) K52_17
@[simp] def W52_25 := C.w K52_25.eq_1
def K52_26 : C := .cond 9 (.v 11) (.skip) (.exit 0)
@[simp] def W52_26 := C.w K52_26.eq_1
def K52_27 : C := .seq (.seq (.pl <| .e 9 3 <|
 .m 9 6 <|
 .m 10 4 <|
 .x 11 (.bin .lss (.v 9) (.v 10)) .done) K52_26) K52_25
@[simp] def W52_27 := C.w K52_27.eq_1
def K52_28 : C := .block 0 (.loop 9 [2, 3, 7, 8] K52_27)
@[simp] def W52_28 := C.w K52_28.eq_1
def K52_29 : C := .seq (.seq (.pl <| .e 9 0 <|
 .x 6 (.mv (.c (.int .i64 0))) .done) K52_28) K52_16
@[simp] def W52_29 := C.w K52_29.eq_1
def K52_30 : Pl := .x 11 (.build [.slice none 0 0, .slice none 0 0, .slice none 0 0] [(1, 1, .v 10)]) <|
 .o (.pnew 5 (.c (.agg #[.slice none 0 0, .slice none 0 0, .slice none 0 0])) []) <|
 .o (.pset none 5 0 3 (.v 11)) .done
@[simp] def W52_30 := Pl.w K52_30.eq_1
def K52_31 : C := .seq (.pl <| .e 9 3 <|
 .m 9 4 <|
 .c 10 (.mks 1 1 [.bool false] (.v 9) (.v 9)) K52_30) K52_29
@[simp] def W52_31 := C.w K52_31.eq_1
def K52_32 : Pl := .m 4 11 .done
@[simp] def W52_32 := Pl.w K52_32.eq_1
def K52_33 : Pl := .c 11 (.call fn_spec_l16Rd_num [.v 9, .v 10]) K52_32
@[simp] def W52_33 := Pl.w K52_33.eq_1
def K52_34 : C := .seq (.pl <| .e 9 3 <|
 .m 9 0 <|
 .c 10 (.bls 1 5 [.int .i64 0] [(0, 1, .c (.int .i64 3)), (1, 1, .c (.int .i64 2)), (2, 1, .c (.int .i64 4)), (3, 1, .c (.int .i64 1)), (4, 1, .c (.int .i64 5))]) K52_33) K52_31
@[simp] def W52_34 := C.w K52_34.eq_1
def K52_35 : C := .seq (.pl <| .e 9 1 <|
 .o (.pget (some 9) none 2 0 (some 3)) <|
 .o (.pset none 1 0 3 (.v 9)) .done) (.ret)
@[simp] def W52_35 := C.w K52_35.eq_1
def K52_36 : C := .cond 9 (.v 15) K52_35 (.skip)
@[simp] def W52_36 := C.w K52_36.eq_1
def K52_37 : C := .seq (.pl <| .e 9 7 <|
 .m 9 3 <|
 .m 10 9 <|
 .y 10 (.als 11 none 2) <|
 .y 10 (.pget (some 12) (some 11) 2 1 none) <|
 .y 10 (.px (some 13) (.lenV (.v 12))) <|
 .y 10 (.px (some 14) (.bin .leq (.v 13) (.c (.int .i64 16)))) <|
 .x 15 (.pick (.v 10) (.v 14) (.c (.bool false))) .done) K52_36
@[simp] def W52_37 := C.w K52_37.eq_1
def K52_38 : Pl := .m 12 11 <|
 .x 13 (.extract 0 (.v 12)) <|
 .x 14 (.extract 1 (.v 12)) <|
 .o (.pnew 2 (.c (.agg #[.slice none 0 0, .slice none 0 0, .slice none 0 0])) []) <|
 .o (.pset none 2 0 3 (.v 13)) <|
 .m 3 14 .done
@[simp] def W52_38 := Pl.w K52_38.eq_1
def K52_39 : Pl := .c 11 (.call fn_spec_TranslateFormula [.v 10]) K52_38
@[simp] def W52_39 := Pl.w K52_39.eq_1
def K52_40 : C := .seq (.pl <| .e 9 6 <|
 .m 9 0 <|
 .c 10 (.call fn_spec_l5Formula [.v 9]) K52_39) K52_37
@[simp] def W52_40 := C.w K52_40.eq_1
def K52_41 : C := .cond 9 (.v 11) K52_40 (.skip)
@[simp] def W52_41 := C.w K52_41.eq_1
def K52_42 : Pl := .x 11 (.bin .eql (.v 10) (.c (.int .i64 0))) .done
@[simp] def W52_42 := Pl.w K52_42.eq_1
def K52_43 : C := .seq (.seq (.pl <| .e 9 3 <|
 .m 9 0 <|
 .c 10 (.call fn_spec_l16Rd_pick [.v 9, .c (.int .i64 3)]) K52_42) K52_41) K52_34
@[simp] def W52_43 := C.w K52_43.eq_1
def B_spec_l7Automaton : C := .seq (.pl <| .e 9 0 <|
 .o (.pnew 1 (.c (.agg #[.slice none 0 0, .slice none 0 0, .slice none 0 0])) []) .done) K52_43
@[simp] def WB_spec_l7Automaton := C.w B_spec_l7Automaton.eq_1
def R_spec_l7Automaton : FIR := ⟨B_spec_l7Automaton, 9, [(1, some (some 3))]⟩
theorem IR_spec_l7Automaton : cfun Try.prog H_spec_l7Automaton Try.f52 = some R_spec_l7Automaton := by kernel_rfl
theorem EN_spec_l7Automaton : ENT Try.prog B_spec_l7Automaton [(1, some (some 3))] 1 9 fn_spec_l7Automaton := fun hargs hw => enter Try.func52 rfl IR_spec_l7Automaton hargs hw
def H_spec_l7Basic : Hint := ⟨[(0, false), (1, true), (2, false)], []⟩
def K166_1 : C := .seq (.pl <| .e 3 18 <|
 .a 3 1 <|
 .g 4 3 1 0 <|
 .x 5 (.bin .eql (.v 4) (.c (.int .i64 2))) <|
 .m 6 5 <|
 .n 6 (.als 7 none 1) <|
 .n 6 (.pget (some 8) (some 7) 1 0 none) <|
 .n 6 (.px (some 9) (.bin .eql (.v 8) (.c (.int .i64 6)))) <|
 .x 10 (.pick (.v 6) (.c (.bool true)) (.v 9)) <|
 .m 11 10 <|
 .n 11 (.als 12 none 1) <|
 .n 11 (.pget (some 13) (some 12) 1 0 none) <|
 .n 11 (.px (some 14) (.bin .eql (.v 13) (.c (.int .i64 7)))) <|
 .x 15 (.pick (.v 11) (.c (.bool true)) (.v 14)) <|
 .m 16 15 <|
 .n 16 (.als 17 none 1) <|
 .n 16 (.pget (some 18) (some 17) 1 0 none) <|
 .n 16 (.px (some 19) (.bin .eql (.v 18) (.c (.int .i64 8)))) <|
 .x 20 (.pick (.v 16) (.c (.bool true)) (.v 19)) <|
 .m 2 20 .done) (.ret)
@[simp] def W166_1 := C.w K166_1.eq_1
def B_spec_l7Basic : C := .seq (.pl <| .e 3 0 <|
 .o (.pnew 1 (.v 0) []) <|
 .x 2 (.mv (.c (.bool false))) .done) K166_1
@[simp] def WB_spec_l7Basic := C.w B_spec_l7Basic.eq_1
def R_spec_l7Basic : FIR := ⟨B_spec_l7Basic, 3, [(2, none)]⟩
theorem IR_spec_l7Basic : cfun Try.prog H_spec_l7Basic Try.f166 = some R_spec_l7Basic := by kernel_rfl
theorem EN_spec_l7Basic : ENT Try.prog B_spec_l7Basic [(2, none)] 1 3 fn_spec_l7Basic := fun hargs hw => enter Try.func166 rfl IR_spec_l7Basic hargs hw
def H_spec_l7Follows : Hint := ⟨[(0, false), (1, false), (2, false), (6, false), (7, false), (8, true), (9, false), (10, false), (26, false)], [[3, 5, 6, 7, 8]]⟩
def K146_1 : C := .seq (.pl <| .e 9 0 <|
 .x 3 (.mv (.c (.bool true))) .done) (.ret)
@[simp] def W146_1 := C.w K146_1.eq_1
def K146_2 : C := .pl <| .e 9 2 <|
 .m 9 4 <|
 .x 10 (.bin .add (.v 9) (.c (.int .i64 1))) <|
 .m 4 10 .done
@[simp] def W146_2 := C.w K146_2.eq_1
def K146_3 : C := .seq (.pl <| .e 9 0 <|
 .x 3 (.mv (.c (.bool false))) .done) (.ret)
@[simp] def W146_3 := C.w K146_3.eq_1
def K146_4 : C := .cond 9 (.v 11) K146_3 (.skip)
@[simp] def W146_4 := C.w K146_4.eq_1
def K146_5 : C := .seq (.pl <| .e 9 3 <|
 .m 9 7 <|
 .m 10 6 <|
 .x 11 (.eqb true (.v 9) (.v 10)) .done) K146_4
@[simp] def W146_5 := C.w K146_5.eq_1
def K146_6 : Pl := .m 7 15 .done
@[simp] def W146_6 := Pl.w K146_6.eq_1
def K146_7 : C := .pl <| .e 9 7 <|
 .m 9 0 <|
 .m 10 2 <|
 .a 11 5 <|
 .g 12 11 5 2 <|
 .x 13 (.ia 3 (.v 12) (.c (.int .i64 0))) <|
 .o (.ld (some 14) (.v 13) (some 3)) <|
 .c 15 (.call fn_spec_l7Value [.v 9, .v 10, .v 14]) K146_6
@[simp] def W146_7 := C.w K146_7.eq_1
def K146_8 : Pl := .n 16 (.px (some 28) (.pick (.v 24) (.v 27) (.c (.bool false)))) <|
 .x 29 (.pick (.v 16) (.c (.bool true)) (.v 28)) <|
 .m 7 29 .done
@[simp] def W146_8 := Pl.w K146_8.eq_1
def K146_9 : Pl := .n 16 (.px (some 24) (.mv (.v 23))) <|
 .y 24 (.px (some 25) (.mv (.v 2))) <|
 .y 24 (.px (some 26) (.mv (.v 4))) <|
 .st (.act (some (.v 24, true)) (.ex (some 27) (.call fn_spec_l6Has [.v 25, .v 26]))) K146_8
@[simp] def W146_9 := Pl.w K146_9.eq_1
def K146_10 : Pl := .m 16 15 <|
 .n 16 (.px (some 17) (.mv (.v 0))) <|
 .n 16 (.px (some 18) (.mv (.v 1))) <|
 .n 16 (.als 19 none 5) <|
 .n 16 (.pget (some 20) (some 19) 5 2 none) <|
 .n 16 (.px (some 21) (.ia 3 (.v 20) (.c (.int .i64 0)))) <|
 .n 16 (.ld (some 22) (.v 21) (some 3)) <|
 .st (.act (some (.v 16, false)) (.ex (some 23) (.call fn_spec_l7Value [.v 17, .v 18, .v 22]))) K146_9
@[simp] def W146_10 := Pl.w K146_10.eq_1
def K146_11 : C := .pl <| .e 9 21 <|
 .m 9 0 <|
 .m 10 1 <|
 .a 11 5 <|
 .g 12 11 5 2 <|
 .x 13 (.ia 3 (.v 12) (.c (.int .i64 1))) <|
 .o (.ld (some 14) (.v 13) (some 3)) <|
 .c 15 (.call fn_spec_l7Value [.v 9, .v 10, .v 14]) K146_10
@[simp] def W146_11 := C.w K146_11.eq_1
def K146_12 : Pl := .y 16 (.px (some 28) (.pick (.v 24) (.c (.bool true)) (.v 27))) <|
 .x 29 (.pick (.v 16) (.v 28) (.c (.bool false))) <|
 .m 7 29 .done
@[simp] def W146_12 := Pl.w K146_12.eq_1
def K146_13 : Pl := .y 16 (.px (some 24) (.mv (.v 23))) <|
 .n 24 (.px (some 25) (.mv (.v 2))) <|
 .n 24 (.px (some 26) (.mv (.v 4))) <|
 .st (.act (some (.v 24, false)) (.ex (some 27) (.call fn_spec_l6Has [.v 25, .v 26]))) K146_12
@[simp] def W146_13 := Pl.w K146_13.eq_1
def K146_14 : Pl := .m 16 15 <|
 .y 16 (.px (some 17) (.mv (.v 0))) <|
 .y 16 (.px (some 18) (.mv (.v 1))) <|
 .y 16 (.als 19 none 5) <|
 .y 16 (.pget (some 20) (some 19) 5 2 none) <|
 .y 16 (.px (some 21) (.ia 3 (.v 20) (.c (.int .i64 0)))) <|
 .y 16 (.ld (some 22) (.v 21) (some 3)) <|
 .st (.act (some (.v 16, true)) (.ex (some 23) (.call fn_spec_l7Value [.v 17, .v 18, .v 22]))) K146_13
@[simp] def W146_14 := Pl.w K146_14.eq_1
def K146_15 : C := .pl <| .e 9 21 <|
 .m 9 0 <|
 .m 10 1 <|
 .a 11 5 <|
 .g 12 11 5 2 <|
 .x 13 (.ia 3 (.v 12) (.c (.int .i64 1))) <|
 .o (.ld (some 14) (.v 13) (some 3)) <|
 .c 15 (.call fn_spec_l7Value [.v 9, .v 10, .v 14]) K146_14
@[simp] def W146_15 := C.w K146_15.eq_1
def K146_16 : C := .cond 9 (.v 10) K146_15 (.skip)
@[simp] def W146_16 := C.w K146_16.eq_1
def K146_17 : C := .seq (.pl <| .e 9 2 <|
 .x 9 (.bin .eql (.v 8) (.c (.int .i64 8))) <|
 .m 10 9 .done) K146_16
@[simp] def W146_17 := C.w K146_17.eq_1
def K146_18 : C := .cond 9 (.v 10) K146_11 K146_17
@[simp] def W146_18 := C.w K146_18.eq_1
def K146_19 : C := .seq (.pl <| .e 9 2 <|
 .x 9 (.bin .eql (.v 8) (.c (.int .i64 7))) <|
 .m 10 9 .done) K146_18
@[simp] def W146_19 := C.w K146_19.eq_1
def K146_20 : C := .cond 9 (.v 10) K146_7 K146_19
@[simp] def W146_20 := C.w K146_20.eq_1
def K146_21 : C := .block 2 (.seq (.pl <| .e 9 2 <|
 .x 9 (.bin .eql (.v 8) (.c (.int .i64 6))) <|
 .m 10 9 .done) K146_20)
@[simp] def W146_21 := C.w K146_21.eq_1
def K146_22 : C := .seq (.seq (.pl <| .e 9 1 <|
 .a 9 5 <|
 .g 8 9 5 0 .done) K146_21) K146_5
@[simp] def W146_22 := C.w K146_22.eq_1
def K146_23 : C := .seq (.pl <| .e 9 1 <|
 .m 9 6 <|
 .m 7 9 .done) K146_22
@[simp] def W146_23 := C.w K146_23.eq_1
def K146_24 : Pl := .m 6 11 .done
@[simp] def W146_24 := Pl.w K146_24.eq_1
def K146_25 : C := .seq (.pl <| .e 9 3 <|
 .m 9 1 <|
 .m 10 4 <|
 .c 11 (.call fn_spec_l6Has [.v 9, .v 10]) K146_24) K146_23
@[simp] def W146_25 := C.w K146_25.eq_1
def K146_26 : C := .seq (.block 1 (.seq (.pl <| .e 9 4 <|
 .m 9 0 <|
 .m 10 4 <|
 .x 11 (.ia 3 (.v 9) (.v 10)) <|
 .o (.ld (some 12) (.v 11) (some 3)) <|
 .o (.pnew 5 (.c (.agg #[.int .i64 0, .int .i64 0, .slice none 0 0])) []) <|
 .o (.pset none 5 0 3 (.v 12)) .done) K146_25)) K146_2
@[simp] def W146_26 := C.w K146_26.eq_1
def K146_27 : C := .cond 9 (.v 12) (.skip) (.exit 0)
@[simp] def W146_27 := C.w K146_27.eq_1
def K146_28 : C := .seq (.seq (.pl <| .e 9 4 <|
 .m 9 4 <|
 .m 10 0 <|
 .x 11 (.lenV (.v 10)) <|
 .x 12 (.bin .lss (.v 9) (.v 11)) .done) K146_27) K146_26
@[simp] def W146_28 := C.w K146_28.eq_1
def K146_29 : C := .block 0 (.loop 9 [3, 5, 6, 7, 8] K146_28)
@[simp] def W146_29 := C.w K146_29.eq_1
def K146_30 : C := .seq (.seq (.pl <| .e 9 0 <|
 .x 4 (.mv (.c (.int .i64 0))) .done) K146_29) K146_1
@[simp] def W146_30 := C.w K146_30.eq_1
def B_spec_l7Follows : C := .seq (.pl <| .e 9 0 <|
 .x 3 (.mv (.c (.bool false))) .done) K146_30
@[simp] def WB_spec_l7Follows := C.w B_spec_l7Follows.eq_1
def R_spec_l7Follows : FIR := ⟨B_spec_l7Follows, 9, [(3, none)]⟩
theorem IR_spec_l7Follows : cfun Try.prog H_spec_l7Follows Try.f146 = some R_spec_l7Follows := by kernel_rfl
theorem EN_spec_l7Follows : ENT Try.prog B_spec_l7Follows [(3, none)] 3 9 fn_spec_l7Follows := fun hargs hw => enter Try.func146 rfl IR_spec_l7Follows hargs hw
def H_spec_l7Fulfils : Hint := ⟨[(0, false), (1, false), (2, false), (6, false)], []⟩
def K170_1 : Pl := .x 19 (.pick (.v 8) (.c (.bool true)) (.v 18)) <|
 .m 3 19 .done
@[simp] def W170_1 := Pl.w K170_1.eq_1
def K170_2 : Pl := .x 7 (.un .not (.v 6)) <|
 .m 8 7 <|
 .n 8 (.px (some 9) (.mv (.v 0))) <|
 .n 8 (.px (some 10) (.mv (.v 1))) <|
 .n 8 (.px (some 11) (.mv (.v 0))) <|
 .n 8 (.px (some 12) (.mv (.v 2))) <|
 .n 8 (.px (some 13) (.ia 3 (.v 11) (.v 12))) <|
 .n 8 (.px (some 14) (.fa 2 (.v 13))) <|
 .n 8 (.ld (some 15) (.v 14) none) <|
 .n 8 (.px (some 16) (.ia 3 (.v 15) (.c (.int .i64 1)))) <|
 .n 8 (.ld (some 17) (.v 16) (some 3)) <|
 .st (.act (some (.v 8, false)) (.ex (some 18) (.call fn_spec_l7Value [.v 9, .v 10, .v 17]))) K170_1
@[simp] def W170_2 := Pl.w K170_2.eq_1
def K170_3 : C := .seq (.pl <| .e 4 16 <|
 .m 4 1 <|
 .m 5 2 <|
 .c 6 (.call fn_spec_l6Has [.v 4, .v 5]) K170_2) (.ret)
@[simp] def W170_3 := C.w K170_3.eq_1
def B_spec_l7Fulfils : C := .seq (.pl <| .e 4 0 <|
 .x 3 (.mv (.c (.bool false))) .done) K170_3
@[simp] def WB_spec_l7Fulfils := C.w B_spec_l7Fulfils.eq_1
def R_spec_l7Fulfils : FIR := ⟨B_spec_l7Fulfils, 4, [(3, none)]⟩
theorem IR_spec_l7Fulfils : cfun Try.prog H_spec_l7Fulfils Try.f170 = some R_spec_l7Fulfils := by kernel_rfl
theorem EN_spec_l7Fulfils : ENT Try.prog B_spec_l7Fulfils [(3, none)] 3 4 fn_spec_l7Fulfils := fun hargs hw => enter Try.func170 rfl IR_spec_l7Fulfils hargs hw
def H_spec_l7Letter : Hint := ⟨[(0, false), (1, false), (4, false), (5, false), (6, false), (7, false), (8, false)], [[2, 3]]⟩
def K145_1 : C := .seq (.pl <| .e 7 2 <|
 .m 7 4 <|
 .m 8 5 <|
 .m 2 7 <|
 .m 3 8 .done) (.ret)
@[simp] def W145_1 := C.w K145_1.eq_1
def K145_2 : C := .pl <| .e 7 2 <|
 .m 7 6 <|
 .x 8 (.bin .add (.v 7) (.c (.int .i64 1))) <|
 .m 6 8 .done
@[simp] def W145_2 := C.w K145_2.eq_1
def K145_3 : C := .pl <| .e 7 9 <|
 .m 7 5 <|
 .m 8 0 <|
 .m 9 6 <|
 .x 10 (.ia 3 (.v 8) (.v 9)) <|
 .x 11 (.fa 1 (.v 10)) <|
 .l 12 11 <|
 .x 13 (.conv .u64 (.v 12)) <|
 .x 14 (.bin .shl (.c (.int .i64 1)) (.v 13)) <|
 .x 15 (.bin .or (.v 7) (.v 14)) <|
 .m 5 15 .done
@[simp] def W145_3 := C.w K145_3.eq_1
def K145_4 : C := .cond 7 (.v 9) K145_3 (.skip)
@[simp] def W145_4 := C.w K145_4.eq_1
def K145_5 : C := .seq (.pl <| .e 7 3 <|
 .m 7 1 <|
 .m 8 6 <|
 .c 9 (.call fn_spec_l6Has [.v 7, .v 8]) .done) K145_4
@[simp] def W145_5 := C.w K145_5.eq_1
def K145_6 : C := .seq (.pl <| .e 7 9 <|
 .m 7 4 <|
 .m 8 0 <|
 .m 9 6 <|
 .x 10 (.ia 3 (.v 8) (.v 9)) <|
 .x 11 (.fa 1 (.v 10)) <|
 .l 12 11 <|
 .x 13 (.conv .u64 (.v 12)) <|
 .x 14 (.bin .shl (.c (.int .i64 1)) (.v 13)) <|
 .x 15 (.bin .or (.v 7) (.v 14)) <|
 .m 4 15 .done) K145_5
@[simp] def W145_6 := C.w K145_6.eq_1
def K145_7 : C := .cond 7 (.v 12) K145_6 (.skip)
@[simp] def W145_7 := C.w K145_7.eq_1
def K145_8 : C := .seq (.block 1 (.seq (.pl <| .e 7 6 <|
 .m 7 0 <|
 .m 8 6 <|
 .x 9 (.ia 3 (.v 7) (.v 8)) <|
 .x 10 (.fa 0 (.v 9)) <|
 .l 11 10 <|
 .x 12 (.bin .eql (.v 11) (.c (.int .i64 2))) .done) K145_7)) K145_2
@[simp] def W145_8 := C.w K145_8.eq_1
def K145_9 : C := .cond 7 (.v 10) (.skip) (.exit 0)
@[simp] def W145_9 := C.w K145_9.eq_1
def K145_10 : C := .seq (.seq (.pl <| .e 7 4 <|
 .m 7 6 <|
 .m 8 0 <|
 .x 9 (.lenV (.v 8)) <|
 .x 10 (.bin .lss (.v 7) (.v 9)) .done) K145_9) K145_8
@[simp] def W145_10 := C.w K145_10.eq_1
def K145_11 : C := .block 0 (.loop 7 [2, 3] K145_10)
@[simp] def W145_11 := C.w K145_11.eq_1
def K145_12 : C := .seq (.seq (.pl <| .e 7 0 <|
 .x 6 (.mv (.c (.int .i64 0))) .done) K145_11) K145_1
@[simp] def W145_12 := C.w K145_12.eq_1
def K145_13 : C := .seq (.pl <| .e 7 0 <|
 .x 5 (.mv (.c (.int .i64 0))) .done) K145_12
@[simp] def W145_13 := C.w K145_13.eq_1
def K145_14 : C := .seq (.pl <| .e 7 0 <|
 .x 4 (.mv (.c (.int .i64 0))) .done) K145_13
@[simp] def W145_14 := C.w K145_14.eq_1
def B_spec_l7Letter : C := .seq (.pl <| .e 7 0 <|
 .x 2 (.mv (.c (.int .i64 0))) <|
 .x 3 (.mv (.c (.int .i64 0))) .done) K145_14
@[simp] def WB_spec_l7Letter := C.w B_spec_l7Letter.eq_1
def R_spec_l7Letter : FIR := ⟨B_spec_l7Letter, 7, [(2, none), (3, none)]⟩
theorem IR_spec_l7Letter : cfun Try.prog H_spec_l7Letter Try.f145 = some R_spec_l7Letter := by kernel_rfl
theorem EN_spec_l7Letter : ENT Try.prog B_spec_l7Letter [(2, none), (3, none)] 2 7 fn_spec_l7Letter := fun hargs hw => enter Try.func145 rfl IR_spec_l7Letter hargs hw
def H_spec_l7Mutate : Hint := ⟨[(0, false), (1, false), (3, true), (4, true), (5, true), (20, false)], []⟩
def K51_1 : C := .seq (.pl <| .e 6 1 <|
 .o (.pget (some 6) none 4 0 (some 3)) <|
 .o (.pset none 3 0 3 (.v 6)) .done) (.ret)
@[simp] def W51_1 := C.w K51_1.eq_1
def K51_2 : Pl := .a 13 4 <|
 .o (.pset (some 13) 4 0 1 (.v 12)) .done
@[simp] def W51_2 := Pl.w K51_2.eq_1
def K51_3 : Pl := .o (.psl 11 [.int .i64 0] [(0, 1, .v 10)]) <|
 .c 12 (.app 8 1 [.int .i64 0] (.o (.v 7)) (.p 1 11)) K51_2
@[simp] def W51_3 := Pl.w K51_3.eq_1
def K51_4 : Pl := .c 10 (.call fn_spec_l16Rd_num [.v 8, .v 9]) K51_3
@[simp] def W51_4 := Pl.w K51_4.eq_1
def K51_5 : C := .pl <| .e 6 8 <|
 .a 6 4 <|
 .g 7 6 4 0 <|
 .m 8 0 <|
 .c 9 (.bls 1 4 [.int .i64 0] [(0, 1, .c (.int .i64 0)), (1, 1, .c (.int .i64 (-1))), (2, 1, .c (.int .i64 64)), (3, 1, .c (.int .i64 3))]) K51_4
@[simp] def W51_5 := C.w K51_5.eq_1
def K51_6 : Pl := .x 11 (.ia 4 (.v 7) (.c (.int .i64 0))) <|
 .x 12 (.fa 2 (.v 11)) <|
 .o (.ex none (.store 1 (.v 12) (.v 10))) .done
@[simp] def W51_6 := Pl.w K51_6.eq_1
def K51_7 : Pl := .c 10 (.call fn_spec_l16Rd_num [.v 8, .v 9]) K51_6
@[simp] def W51_7 := Pl.w K51_7.eq_1
def K51_8 : C := .pl <| .e 6 7 <|
 .a 6 4 <|
 .g 7 6 4 2 <|
 .m 8 0 <|
 .c 9 (.bls 1 3 [.int .i64 0] [(0, 1, .c (.int .i64 8)), (1, 1, .c (.int .i64 (-1))), (2, 1, .c (.int .i64 7))]) K51_7
@[simp] def W51_8 := C.w K51_8.eq_1
def K51_9 : C := .cond 6 (.v 9) K51_8 (.skip)
@[simp] def W51_9 := C.w K51_9.eq_1
def K51_10 : C := .seq (.pl <| .e 6 4 <|
 .a 6 4 <|
 .g 7 6 4 2 <|
 .x 8 (.lenV (.v 7)) <|
 .x 9 (.bin .gtr (.v 8) (.c (.int .i64 0))) .done) K51_9
@[simp] def W51_10 := C.w K51_10.eq_1
def K51_11 : Pl := .x 11 (.ia 4 (.v 7) (.c (.int .i64 0))) <|
 .x 12 (.fa 3 (.v 11)) <|
 .o (.ex none (.store 1 (.v 12) (.v 10))) .done
@[simp] def W51_11 := Pl.w K51_11.eq_1
def K51_12 : Pl := .c 10 (.call fn_spec_l16Rd_num [.v 8, .v 9]) K51_11
@[simp] def W51_12 := Pl.w K51_12.eq_1
def K51_13 : C := .pl <| .e 6 7 <|
 .a 6 4 <|
 .g 7 6 4 2 <|
 .m 8 0 <|
 .c 9 (.bls 1 4 [.int .i64 0] [(0, 1, .c (.int .i64 (-1))), (1, 1, .c (.int .i64 0)), (2, 1, .c (.int .i64 64)), (3, 1, .c (.int .i64 9223372036854775807))]) K51_12
@[simp] def W51_13 := C.w K51_13.eq_1
def K51_14 : C := .cond 6 (.v 9) K51_13 (.skip)
@[simp] def W51_14 := C.w K51_14.eq_1
def K51_15 : C := .seq (.pl <| .e 6 4 <|
 .a 6 4 <|
 .g 7 6 4 2 <|
 .x 8 (.lenV (.v 7)) <|
 .x 9 (.bin .gtr (.v 8) (.c (.int .i64 0))) .done) K51_14
@[simp] def W51_15 := C.w K51_15.eq_1
def K51_16 : C := .seq (.pl <| .e 6 1 <|
 .x 6 (.build [.slice none 0 0, .slice none 0 0, .slice none 0 0] []) <|
 .o (.pset none 3 0 3 (.v 6)) .done) (.ret)
@[simp] def W51_16 := C.w K51_16.eq_1
def K51_17 : Pl := .x 15 (.ia 4 (.v 7) (.v 11)) <|
 .x 16 (.fa 1 (.v 15)) <|
 .o (.ex none (.store 1 (.v 16) (.v 14))) .done
@[simp] def W51_17 := Pl.w K51_17.eq_1
def K51_18 : Pl := .c 14 (.call fn_spec_l16Rd_num [.v 12, .v 13]) K51_17
@[simp] def W51_18 := Pl.w K51_18.eq_1
def K51_19 : C := .pl <| .e 6 11 <|
 .a 6 4 <|
 .g 7 6 4 2 <|
 .a 8 4 <|
 .g 9 8 4 2 <|
 .x 10 (.lenV (.v 9)) <|
 .x 11 (.bin .sub (.v 10) (.c (.int .i64 1))) <|
 .m 12 0 <|
 .c 13 (.bls 1 3 [.int .i64 0] [(0, 1, .c (.int .i64 8)), (1, 1, .c (.int .i64 (-1))), (2, 1, .c (.int .i64 0))]) K51_18
@[simp] def W51_19 := C.w K51_19.eq_1
def K51_20 : C := .cond 6 (.v 9) K51_19 (.skip)
@[simp] def W51_20 := C.w K51_20.eq_1
def K51_21 : C := .seq (.pl <| .e 6 4 <|
 .a 6 4 <|
 .g 7 6 4 2 <|
 .x 8 (.lenV (.v 7)) <|
 .x 9 (.bin .gtr (.v 8) (.c (.int .i64 0))) .done) K51_20
@[simp] def W51_21 := C.w K51_21.eq_1
def K51_22 : C := .cond 6 (.v 7) K51_21 (.skip)
@[simp] def W51_22 := C.w K51_22.eq_1
def K51_23 : C := .seq (.pl <| .e 6 2 <|
 .x 6 (.bin .eql (.v 5) (.c (.int .i64 4))) <|
 .m 7 6 .done) K51_22
@[simp] def W51_23 := C.w K51_23.eq_1
def K51_24 : C := .cond 6 (.v 7) K51_16 K51_23
@[simp] def W51_24 := C.w K51_24.eq_1
def K51_25 : C := .seq (.pl <| .e 6 2 <|
 .x 6 (.bin .eql (.v 5) (.c (.int .i64 3))) <|
 .m 7 6 .done) K51_24
@[simp] def W51_25 := C.w K51_25.eq_1
def K51_26 : C := .cond 6 (.v 7) K51_15 K51_25
@[simp] def W51_26 := C.w K51_26.eq_1
def K51_27 : C := .seq (.pl <| .e 6 2 <|
 .x 6 (.bin .eql (.v 5) (.c (.int .i64 2))) <|
 .m 7 6 .done) K51_26
@[simp] def W51_27 := C.w K51_27.eq_1
def K51_28 : C := .cond 6 (.v 7) K51_10 K51_27
@[simp] def W51_28 := C.w K51_28.eq_1
def K51_29 : C := .seq (.pl <| .e 6 2 <|
 .x 6 (.bin .eql (.v 5) (.c (.int .i64 1))) <|
 .m 7 6 .done) K51_28
@[simp] def W51_29 := C.w K51_29.eq_1
def K51_30 : C := .cond 6 (.v 7) K51_5 K51_29
@[simp] def W51_30 := C.w K51_30.eq_1
def K51_31 : C := .block 0 (.seq (.pl <| .e 6 2 <|
 .x 6 (.bin .eql (.v 5) (.c (.int .i64 0))) <|
 .m 7 6 .done) K51_30)
@[simp] def W51_31 := C.w K51_31.eq_1
def K51_32 : C := .seq (.seq (.pl <| .e 6 1 <|
 .m 6 0 <|
 .c 5 (.call fn_spec_l16Rd_pick [.v 6, .c (.int .i64 40)]) .done) K51_31) K51_1
@[simp] def W51_32 := C.w K51_32.eq_1
def K51_33 : Pl := .x 18 (.build [.slice none 0 0, .slice none 0 0, .slice none 0 0] [(0, 1, .v 9), (1, 1, .v 13), (2, 1, .v 17)]) <|
 .o (.pset none 4 0 3 (.v 18)) .done
@[simp] def W51_33 := Pl.w K51_33.eq_1
def K51_34 : Pl := .c 17 (.app 32 4 [.int .i64 0, .int .i64 0, .int .i64 0, .int .i64 0] (.p 0 14) (.o (.v 16))) K51_33
@[simp] def W51_34 := Pl.w K51_34.eq_1
def K51_35 : Pl := .c 13 (.app 1 1 [.bool false] (.p 0 10) (.o (.v 12))) K51_34
@[simp] def W51_35 := Pl.w K51_35.eq_1
def K51_36 : C := .seq (.pl <| .e 6 13 <|
 .o (.psl 6 [] []) <|
 .a 7 2 <|
 .g 8 7 2 0 <|
 .o (.psl 10 [] []) <|
 .a 11 2 <|
 .g 12 11 2 1 <|
 .o (.psl 14 [] []) <|
 .a 15 2 <|
 .g 16 15 2 2 <|
 .o (.pnew 4 (.c (.agg #[.slice none 0 0, .slice none 0 0, .slice none 0 0])) []) <|
 .c 9 (.app 8 1 [.int .i64 0] (.p 0 6) (.o (.v 8))) K51_35) K51_32
@[simp] def W51_36 := C.w K51_36.eq_1
def B_spec_l7Mutate : C := .seq (.pl <| .e 6 0 <|
 .o (.pnew 2 (.v 1) []) <|
 .o (.pnew 3 (.c (.agg #[.slice none 0 0, .slice none 0 0, .slice none 0 0])) []) .done) K51_36
@[simp] def WB_spec_l7Mutate := C.w B_spec_l7Mutate.eq_1
def R_spec_l7Mutate : FIR := ⟨B_spec_l7Mutate, 6, [(3, some (some 3))]⟩
theorem IR_spec_l7Mutate : cfun Try.prog H_spec_l7Mutate Try.f51 = some R_spec_l7Mutate := by kernel_rfl
theorem EN_spec_l7Mutate : ENT Try.prog B_spec_l7Mutate [(3, some (some 3))] 2 6 fn_spec_l7Mutate := fun hargs hw => enter Try.func51 rfl IR_spec_l7Mutate hargs hw
def H_spec_l7Pair : Hint := ⟨[(0, false), (1, false), (4, false), (5, false), (6, false)], [[2, 3]]⟩
def K147_1 : Pl := .m 9 0 <|
 .x 10 (.lenV (.v 9)) <|
 .m 2 8 <|
 .m 3 10 .done
@[simp] def W147_1 := Pl.w K147_1.eq_1
def K147_2 : C := .seq (.pl <| .e 5 6 <|
 .m 5 0 <|
 .m 6 1 <|
 .o (.psl 7 [.slice none 0 0] [(0, 1, .v 6)]) <|
 .c 8 (.app 24 1 [.slice none 0 0] (.o (.v 5)) (.p 1 7)) K147_1) (.ret)
@[simp] def W147_2 := C.w K147_2.eq_1
def K147_3 : C := .pl <| .e 5 2 <|
 .m 5 4 <|
 .x 6 (.bin .add (.v 5) (.c (.int .i64 1))) <|
 .m 4 6 .done
@[simp] def W147_3 := C.w K147_3.eq_1
def K147_4 : C := .seq (.pl <| .e 5 2 <|
 .m 5 0 <|
 .m 6 4 <|
 .m 2 5 <|
 .m 3 6 .done) (.ret)
@[simp] def W147_4 := C.w K147_4.eq_1
def K147_5 : C := .cond 5 (.v 10) K147_4 (.skip)
@[simp] def W147_5 := C.w K147_5.eq_1
def K147_6 : C := .seq (.block 1 (.seq (.pl <| .e 5 6 <|
 .m 5 0 <|
 .m 6 4 <|
 .x 7 (.ia 1 (.v 5) (.v 6)) <|
 .l 8 7 <|
 .m 9 1 <|
 .c 10 (.call fn_spec_l2Ints [.v 8, .v 9]) .done) K147_5)) K147_3
@[simp] def W147_6 := C.w K147_6.eq_1
def K147_7 : C := .cond 5 (.v 8) (.skip) (.exit 0)
@[simp] def W147_7 := C.w K147_7.eq_1
def K147_8 : C := .seq (.seq (.pl <| .e 5 4 <|
 .m 5 4 <|
 .m 6 0 <|
 .x 7 (.lenV (.v 6)) <|
 .x 8 (.bin .lss (.v 5) (.v 7)) .done) K147_7) K147_6
@[simp] def W147_8 := C.w K147_8.eq_1
def K147_9 : C := .block 0 (.loop 5 [2, 3] K147_8)
@[simp] def W147_9 := C.w K147_9.eq_1
def K147_10 : C := .seq (.seq (.pl <| .e 5 0 <|
 .x 4 (.mv (.c (.int .i64 0))) .done) K147_9) K147_2
@[simp] def W147_10 := C.w K147_10.eq_1
def B_spec_l7Pair : C := .seq (.pl <| .e 5 0 <|
 .x 2 (.mv (.c (.slice none 0 0))) <|
 .x 3 (.mv (.c (.int .i64 0))) .done) K147_10
@[simp] def WB_spec_l7Pair := C.w B_spec_l7Pair.eq_1
def R_spec_l7Pair : FIR := ⟨B_spec_l7Pair, 5, [(2, none), (3, none)]⟩
theorem IR_spec_l7Pair : cfun Try.prog H_spec_l7Pair Try.f147 = some R_spec_l7Pair := by kernel_rfl
theorem EN_spec_l7Pair : ENT Try.prog B_spec_l7Pair [(2, none), (3, none)] 2 5 fn_spec_l7Pair := fun hargs hw => enter Try.func147 rfl IR_spec_l7Pair hargs hw
def H_spec_l7Phase : Hint := ⟨[(0, false), (1, false), (2, false), (3, false), (8, false), (9, false)], []⟩
def K144_1 : C := .seq (.pl <| .e 6 1 <|
 .m 6 3 <|
 .m 4 6 <|
 .x 5 (.mv (.c (.bool false))) .done) (.ret)
@[simp] def W144_1 := C.w K144_1.eq_1
def K144_2 : C := .seq (.pl <| .e 6 7 <|
 .m 6 3 <|
 .x 7 (.bin .add (.v 6) (.c (.int .i64 1))) <|
 .m 8 1 <|
 .x 9 (.lenV (.v 8)) <|
 .x 10 (.bin .rem (.v 7) (.v 9)) <|
 .m 11 3 <|
 .x 12 (.bin .eql (.v 11) (.c (.int .i64 0))) <|
 .m 4 10 <|
 .m 5 12 .done) (.ret)
@[simp] def W144_2 := C.w K144_2.eq_1
def K144_3 : C := .cond 6 (.v 12) K144_2 (.skip)
@[simp] def W144_3 := C.w K144_3.eq_1
def K144_4 : C := .seq (.seq (.pl <| .e 6 7 <|
 .m 6 0 <|
 .m 7 2 <|
 .m 8 1 <|
 .m 9 3 <|
 .x 10 (.ia 1 (.v 8) (.v 9)) <|
 .l 11 10 <|
 .c 12 (.call fn_spec_l7Fulfils [.v 6, .v 7, .v 11]) .done) K144_3) K144_1
@[simp] def W144_4 := C.w K144_4.eq_1
def K144_5 : C := .seq (.pl <| .e 6 0 <|
 .x 4 (.mv (.c (.int .i64 0))) <|
 .x 5 (.mv (.c (.bool true))) .done) (.ret)
@[simp] def W144_5 := C.w K144_5.eq_1
def K144_6 : C := .cond 6 (.v 8) K144_5 (.skip)
@[simp] def W144_6 := C.w K144_6.eq_1
def K144_7 : C := .seq (.seq (.pl <| .e 6 3 <|
 .m 6 1 <|
 .x 7 (.lenV (.v 6)) <|
 .x 8 (.bin .eql (.v 7) (.c (.int .i64 0))) .done) K144_6) K144_4
@[simp] def W144_7 := C.w K144_7.eq_1
def B_spec_l7Phase : C := .seq (.pl <| .e 6 0 <|
 .x 4 (.mv (.c (.int .i64 0))) <|
 .x 5 (.mv (.c (.bool false))) .done) K144_7
@[simp] def WB_spec_l7Phase := C.w B_spec_l7Phase.eq_1
def R_spec_l7Phase : FIR := ⟨B_spec_l7Phase, 6, [(4, none), (5, none)]⟩
theorem IR_spec_l7Phase : cfun Try.prog H_spec_l7Phase Try.f144 = some R_spec_l7Phase := by kernel_rfl
theorem EN_spec_l7Phase : ENT Try.prog B_spec_l7Phase [(4, none), (5, none)] 4 6 fn_spec_l7Phase := fun hargs hw => enter Try.func144 rfl IR_spec_l7Phase hargs hw
def H_spec_l7Untils : Hint := ⟨[(0, false), (2, false), (3, false), (4, false)], [[1]]⟩
def K142_1 : C := .seq (.pl <| .e 4 1 <|
 .m 4 2 <|
 .m 1 4 .done) (.ret)
@[simp] def W142_1 := C.w K142_1.eq_1
def K142_2 : C := .pl <| .e 4 2 <|
 .m 4 3 <|
 .x 5 (.bin .add (.v 4) (.c (.int .i64 1))) <|
 .m 3 5 .done
@[simp] def W142_2 := C.w K142_2.eq_1
def K142_3 : Pl := .m 2 7 .done
@[simp] def W142_3 := Pl.w K142_3.eq_1
def K142_4 : C := .pl <| .e 4 4 <|
 .m 4 2 <|
 .m 5 3 <|
 .o (.psl 6 [.int .i64 0] [(0, 1, .v 5)]) <|
 .c 7 (.app 8 1 [.int .i64 0] (.o (.v 4)) (.p 1 6)) K142_3
@[simp] def W142_4 := C.w K142_4.eq_1
def K142_5 : C := .cond 4 (.v 9) K142_4 (.skip)
@[simp] def W142_5 := C.w K142_5.eq_1
def K142_6 : C := .seq (.block 1 (.seq (.pl <| .e 4 6 <|
 .m 4 0 <|
 .m 5 3 <|
 .x 6 (.ia 3 (.v 4) (.v 5)) <|
 .x 7 (.fa 0 (.v 6)) <|
 .l 8 7 <|
 .x 9 (.bin .eql (.v 8) (.c (.int .i64 7))) .done) K142_5)) K142_2
@[simp] def W142_6 := C.w K142_6.eq_1
def K142_7 : C := .cond 4 (.v 7) (.skip) (.exit 0)
@[simp] def W142_7 := C.w K142_7.eq_1
def K142_8 : C := .seq (.seq (.pl <| .e 4 4 <|
 .m 4 3 <|
 .m 5 0 <|
 .x 6 (.lenV (.v 5)) <|
 .x 7 (.bin .lss (.v 4) (.v 6)) .done) K142_7) K142_6
@[simp] def W142_8 := C.w K142_8.eq_1
def K142_9 : C := .block 0 (.loop 4 [1] K142_8)
@[simp] def W142_9 := C.w K142_9.eq_1
def K142_10 : C := .seq (.seq (.pl <| .e 4 0 <|
 .x 3 (.mv (.c (.int .i64 0))) .done) K142_9) K142_1
@[simp] def W142_10 := C.w K142_10.eq_1
def K142_11 : Pl := .m 2 4 .done
@[simp] def W142_11 := Pl.w K142_11.eq_1
def K142_12 : C := .seq (.pl <| .e 4 1 <|
 .c 4 (.bls 1 0 [.int .i64 0] []) K142_11) K142_10
@[simp] def W142_12 := C.w K142_12.eq_1
def B_spec_l7Untils : C := .seq (.pl <| .e 4 0 <|
 .x 1 (.mv (.c (.slice none 0 0))) .done) K142_12
@[simp] def WB_spec_l7Untils := C.w B_spec_l7Untils.eq_1
def R_spec_l7Untils : FIR := ⟨B_spec_l7Untils, 4, [(1, none)]⟩
theorem IR_spec_l7Untils : cfun Try.prog H_spec_l7Untils Try.f142 = some R_spec_l7Untils := by kernel_rfl
theorem EN_spec_l7Untils : ENT Try.prog B_spec_l7Untils [(1, none)] 1 4 fn_spec_l7Untils := fun hargs hw => enter Try.func142 rfl IR_spec_l7Untils hargs hw
def H_spec_l7Value : Hint := ⟨[(0, false), (1, false), (2, false), (5, true), (6, false), (8, false)], []⟩
def K143_1 : Pl := .m 4 10 .done
@[simp] def W143_1 := Pl.w K143_1.eq_1
def K143_2 : Pl := .c 10 (.call fn_spec_l6Has [.v 6, .v 9]) K143_1
@[simp] def W143_2 := Pl.w K143_2.eq_1
def K143_3 : C := .seq (.pl <| .e 6 5 <|
 .m 6 1 <|
 .m 7 0 <|
 .o (.pget (some 8) none 3 0 (some 3)) <|
 .c 9 (.call fn_spec_l5Find [.v 7, .v 8]) K143_2) (.ret)
@[simp] def W143_3 := C.w K143_3.eq_1
def K143_4 : C := .seq (.pl <| .e 6 0 <|
 .x 4 (.mv (.c (.bool true))) .done) (.ret)
@[simp] def W143_4 := C.w K143_4.eq_1
def K143_5 : Pl := .x 13 (.un .not (.v 12)) <|
 .m 4 13 .done
@[simp] def W143_5 := Pl.w K143_5.eq_1
def K143_6 : C := .seq (.pl <| .e 6 8 <|
 .m 6 0 <|
 .m 7 1 <|
 .a 8 3 <|
 .g 9 8 3 2 <|
 .x 10 (.ia 3 (.v 9) (.c (.int .i64 0))) <|
 .o (.ld (some 11) (.v 10) (some 3)) <|
 .c 12 (.call fn_spec_l7Value [.v 6, .v 7, .v 11]) K143_5) (.ret)
@[simp] def W143_6 := C.w K143_6.eq_1
def K143_7 : Pl := .x 21 (.pick (.v 13) (.v 20) (.c (.bool false))) <|
 .m 4 21 .done
@[simp] def W143_7 := Pl.w K143_7.eq_1
def K143_8 : Pl := .m 13 12 <|
 .y 13 (.px (some 14) (.mv (.v 0))) <|
 .y 13 (.px (some 15) (.mv (.v 1))) <|
 .y 13 (.als 16 none 3) <|
 .y 13 (.pget (some 17) (some 16) 3 2 none) <|
 .y 13 (.px (some 18) (.ia 3 (.v 17) (.c (.int .i64 1)))) <|
 .y 13 (.ld (some 19) (.v 18) (some 3)) <|
 .st (.act (some (.v 13, true)) (.ex (some 20) (.call fn_spec_l7Value [.v 14, .v 15, .v 19]))) K143_7
@[simp] def W143_8 := Pl.w K143_8.eq_1
def K143_9 : C := .seq (.pl <| .e 6 16 <|
 .m 6 0 <|
 .m 7 1 <|
 .a 8 3 <|
 .g 9 8 3 2 <|
 .x 10 (.ia 3 (.v 9) (.c (.int .i64 0))) <|
 .o (.ld (some 11) (.v 10) (some 3)) <|
 .c 12 (.call fn_spec_l7Value [.v 6, .v 7, .v 11]) K143_8) (.ret)
@[simp] def W143_9 := C.w K143_9.eq_1
def K143_10 : Pl := .x 21 (.pick (.v 13) (.c (.bool true)) (.v 20)) <|
 .m 4 21 .done
@[simp] def W143_10 := Pl.w K143_10.eq_1
def K143_11 : Pl := .m 13 12 <|
 .n 13 (.px (some 14) (.mv (.v 0))) <|
 .n 13 (.px (some 15) (.mv (.v 1))) <|
 .n 13 (.als 16 none 3) <|
 .n 13 (.pget (some 17) (some 16) 3 2 none) <|
 .n 13 (.px (some 18) (.ia 3 (.v 17) (.c (.int .i64 1)))) <|
 .n 13 (.ld (some 19) (.v 18) (some 3)) <|
 .st (.act (some (.v 13, false)) (.ex (some 20) (.call fn_spec_l7Value [.v 14, .v 15, .v 19]))) K143_10
@[simp] def W143_11 := Pl.w K143_11.eq_1
def K143_12 : C := .seq (.pl <| .e 6 16 <|
 .m 6 0 <|
 .m 7 1 <|
 .a 8 3 <|
 .g 9 8 3 2 <|
 .x 10 (.ia 3 (.v 9) (.c (.int .i64 0))) <|
 .o (.ld (some 11) (.v 10) (some 3)) <|
 .c 12 (.call fn_spec_l7Value [.v 6, .v 7, .v 11]) K143_11) (.ret)
@[simp] def W143_12 := C.w K143_12.eq_1
def K143_13 : C := .cond 6 (.v 7) K143_12 (.skip)
@[simp] def W143_13 := C.w K143_13.eq_1
def K143_14 : C := .seq (.pl <| .e 6 2 <|
 .x 6 (.bin .eql (.v 5) (.c (.int .i64 5))) <|
 .m 7 6 .done) K143_13
@[simp] def W143_14 := C.w K143_14.eq_1
def K143_15 : C := .cond 6 (.v 7) K143_9 K143_14
@[simp] def W143_15 := C.w K143_15.eq_1
def K143_16 : C := .seq (.pl <| .e 6 2 <|
 .x 6 (.bin .eql (.v 5) (.c (.int .i64 4))) <|
 .m 7 6 .done) K143_15
@[simp] def W143_16 := C.w K143_16.eq_1
def K143_17 : C := .cond 6 (.v 7) K143_6 K143_16
@[simp] def W143_17 := C.w K143_17.eq_1
def K143_18 : C := .seq (.pl <| .e 6 2 <|
 .x 6 (.bin .eql (.v 5) (.c (.int .i64 3))) <|
 .m 7 6 .done) K143_17
@[simp] def W143_18 := C.w K143_18.eq_1
def K143_19 : C := .cond 6 (.v 7) K143_4 K143_18
@[simp] def W143_19 := C.w K143_19.eq_1
def K143_20 : C := .block 0 (.seq (.pl <| .e 6 2 <|
 .x 6 (.bin .eql (.v 5) (.c (.int .i64 1))) <|
 .m 7 6 .done) K143_19)
@[simp] def W143_20 := C.w K143_20.eq_1
def K143_21 : C := .seq (.seq (.pl <| .e 6 1 <|
 .a 6 3 <|
 .g 5 6 3 0 .done) K143_20) K143_3
@[simp] def W143_21 := C.w K143_21.eq_1
def B_spec_l7Value : C := .seq (.pl <| .e 6 0 <|
 .o (.pnew 3 (.v 2) []) <|
 .x 4 (.mv (.c (.bool false))) .done) K143_21
@[simp] def WB_spec_l7Value := C.w B_spec_l7Value.eq_1
def R_spec_l7Value : FIR := ⟨B_spec_l7Value, 6, [(4, none)]⟩
theorem IR_spec_l7Value : cfun Try.prog H_spec_l7Value Try.f143 = some R_spec_l7Value := by kernel_rfl
theorem EN_spec_l7Value : ENT Try.prog B_spec_l7Value [(4, none)] 3 6 fn_spec_l7Value := fun hargs hw => enter Try.func143 rfl IR_spec_l7Value hargs hw
end Go.Proofs.Ytglnelcmcimljaa

namespace Go.Proofs.Ytglnelcmcimljaa
open Go
end Go.Proofs.Ytglnelcmcimljaa

namespace Go.Proofs.Ytglnelcmcimljaa
open Go
end Go.Proofs.Ytglnelcmcimljaa

namespace Go.Proofs.Ytglnelcmcimljaa
open Go
end Go.Proofs.Ytglnelcmcimljaa

namespace Go.Proofs.Ytglnelcmcimljaa
open Go
end Go.Proofs.Ytglnelcmcimljaa

namespace Go.Proofs.Ytglnelcmcimljaa
open Go
namespace Fm
def arity (k : Int) : Int := if k = 1 ∨ k = 2 then 0 else if k = 3 ∨ k = 6 ∨ k = 9 ∨ k = 10 then 1 else if k = 4 ∨ k = 5 ∨ k = 7 ∨ k = 8 then 2 else -1
structure Nd (x : Exq) : Prop where
  ar : (x.kids.length : Int) = arity x.kind
  lo : 0 ≤ x.val
  hi : x.val < 3
  ze : x.kind ≠ 2 → x.val = 0
def Shp : Nat → Exq → Prop
  | 0, _ => False
  | n + 1, x => Nd x ∧ ∀ y ∈ x.kids, Shp n y
noncomputable instance {n : Nat} {x : Exq} : Decidable (Shp n x) := Classical.propDecidable _
def Ok (x : Exq) : Prop := Shp 6 x ∧ x.nod ≤ 12
noncomputable instance {x : Exq} : Decidable (Ok x) := Classical.propDecidable _
theorem Nd.kind {x : Exq} (h : Nd x) : 1 ≤ x.kind ∧ x.kind ≤ 10 := by
  have := h.ar
  unfold arity at this
  split at this <;> (try split at this) <;> (try split at this) <;> omega
theorem arity_le {k : Int} : arity k ≤ 2 := by
  unfold arity
  split <;> (try split) <;> (try split) <;> omega
theorem arity_ge {k : Int} : -1 ≤ arity k := by
  unfold arity
  split <;> (try split) <;> (try split) <;> omega
theorem Shp.nd {n : Nat} {x : Exq} (h : Shp n x) : Nd x := by
  cases n with
  | zero => exact h.elim
  | succ n => exact h.1
theorem Shp.kid {n : Nat} {x : Exq} (h : Shp (n + 1) x) {i : Nat} (hi : i < x.kids.length) : Shp n x.kids[i] := h.2 _ (List.getElem_mem hi)
theorem Shp.le2 {n : Nat} {x : Exq} (h : Shp n x) : x.kids.length ≤ 2 := by
  have h1 := h.nd.ar
  have h2 := arity_le (k := x.kind)
  omega
theorem Shp.two {n : Nat} {x : Exq} (h : Shp n x) (hk : x.kind = 4 ∨ x.kind = 5 ∨ x.kind = 7 ∨ x.kind = 8) : x.kids.length = 2 := by
  have h1 := h.nd.ar
  unfold arity at h1
  split at h1 <;> (try split at h1) <;> (try split at h1) <;> omega
theorem Shp.one {n : Nat} {x : Exq} (h : Shp n x) (hk : x.kind = 3 ∨ x.kind = 6 ∨ x.kind = 9 ∨ x.kind = 10) : x.kids.length = 1 := by
  have h1 := h.nd.ar
  unfold arity at h1
  split at h1 <;> (try split at h1) <;> (try split at h1) <;> omega
theorem Shp.none {n : Nat} {x : Exq} (h : Shp n x) (hk : x.kind = 1 ∨ x.kind = 2) : x.kids = [] := by
  have h1 := h.nd.ar
  rw [arity, if_pos hk] at h1
  exact List.length_eq_zero_iff.1 (by omega)
theorem Shp.mono : ∀ {n : Nat} {x : Exq}, Shp n x → Shp (n + 1) x
  | 0, _, h => h.elim
  | n + 1, _, h => ⟨h.1, fun y hy => (h.2 y hy).mono⟩
theorem Shp.bnd : ∀ {n : Nat} {x : Exq}, Shp n x → x.nod < 2 ^ n
  | 0, _, h => h.elim
  | n + 1, x, h => by
    have h2 := h.le2
    rw [Exq.nod_eq]
    have h4 : Exq.nods x.kids + x.kids.length ≤ x.kids.length * 2 ^ n := by
      have key : ∀ l : List Exq, (∀ y ∈ l, y.nod < 2 ^ n) → Exq.nods l + l.length ≤ l.length * 2 ^ n := by
        intro l
        induction l with
        | nil => intro _; simp [Exq.nods]
        | cons y l ih =>
          intro hy
          have e1 := hy y (by simp)
          have e2 := ih fun z hz => hy z (by simp [hz])
          simp only [Exq.nods, List.length_cons, Nat.add_mul]
          omega
      exact key x.kids fun y hy => (h.2 y hy).bnd
    have h5 : 0 < 2 ^ n := Nat.two_pow_pos n
    have h6 : 2 ^ (n + 1) = 2 * 2 ^ n := by rw [Nat.pow_succ]; omega
    rw [h6]
    obtain h7 | h7 | h7 : x.kids.length = 0 ∨ x.kids.length = 1 ∨ x.kids.length = 2 := by omega
    all_goals (rw [h7] at h4; omega)
def tru : Exq := .mk 1 0 []
def neg (x : Exq) : Exq := .mk 3 0 [x]
def dual (k : Int) : Int := if k = 4 then 5 else if k = 5 then 4 else if k = 7 then 8 else 7
mutual
def push : Exq → Bool → Exq
  | .mk k v l, n => if k = 1 ∨ k = 2 then (if n then neg (.mk k v []) else .mk k v [])
    else if k = 3 then (pushes l (!n)).getD 0 Exq.zero
    else if k = 6 then .mk 6 0 [(pushes l n).getD 0 Exq.zero]
    else if k = 9 ∨ k = 10 then (if decide (k = 9) != n then .mk 7 0 [tru, (pushes l n).getD 0 Exq.zero] else .mk 8 0 [neg tru, (pushes l n).getD 0 Exq.zero])
    else .mk (if n then dual k else k) 0 [(pushes l n).getD 0 Exq.zero, (pushes l n).getD 1 Exq.zero]
def pushes : List Exq → Bool → List Exq
  | [], _ => []
  | x :: l, n => push x n :: pushes l n
end
theorem pushes_eq {n : Bool} : ∀ l, pushes l n = l.map fun x => push x n
  | [] => rfl
  | x :: l => by simp only [pushes, List.map_cons, pushes_eq l]
def kp (x : Exq) (n : Bool) (j : Nat) : Exq := (x.kids.map fun y => push y n).getD j Exq.zero
theorem kp_at {x : Exq} {n : Bool} {j : Nat} (hj : j < x.kids.length) : kp x n j = push x.kids[j] n := by simp [kp, hj]
theorem push_eq (x : Exq) (n : Bool) : push x n = if x.kind = 1 ∨ x.kind = 2 then (if n then neg (.mk x.kind x.val []) else .mk x.kind x.val [])
    else if x.kind = 3 then kp x (!n) 0
    else if x.kind = 6 then .mk 6 0 [kp x n 0]
    else if x.kind = 9 ∨ x.kind = 10 then (if decide (x.kind = 9) != n then .mk 7 0 [tru, kp x n 0] else .mk 8 0 [neg tru, kp x n 0])
    else .mk (if n then dual x.kind else x.kind) 0 [kp x n 0, kp x n 1] := by
  cases x with
  | mk k v l => simp only [push, pushes_eq]; rfl
noncomputable def nfR (x : Exq) : Exq := if Ok x ∧ Ok (push x false) then push x false else Exq.zero
noncomputable def fx (l : List Exq) (x : Exq) : Int := match l.findIdx? (fun y => decide (y = x)) with | some i => (i : Int) | .none => -1
theorem fx_at {xs : List Exq} {st : Exq} {i : Nat} (hi : i < xs.length) (he : xs[i] = st) (hn : ∀ (j : Nat) (hj : j < xs.length), j < i → xs[j] ≠ st) : fx xs st = i := by
  have : xs.findIdx? (fun y => decide (y = st)) = some i := by
    rw [List.findIdx?_eq_some_iff_getElem]
    exact ⟨hi, by simpa using he, fun j hj => by simpa using hn j (by omega) hj⟩
  rw [fx, this]
theorem fx_not {xs : List Exq} {st : Exq} (h : st ∉ xs) : fx xs st = -1 := by
  have : xs.findIdx? (fun y => decide (y = st)) = .none := by
    rw [List.findIdx?_eq_none_iff]
    intro y hy
    simp only [decide_eq_false_iff_not]
    rintro rfl
    exact h hy
  rw [fx, this]
theorem fx_mem {xs : List Exq} {st : Exq} (h : st ∈ xs) : ∃ (i : Nat) (hi : i < xs.length), fx xs st = i ∧ xs[i] = st := by
  obtain ⟨i, hi⟩ : ∃ i, xs.findIdx? (fun y => decide (y = st)) = some i := by
    rcases hf : xs.findIdx? (fun y => decide (y = st)) with _ | i
    · rw [List.findIdx?_eq_none_iff] at hf
      have := hf st h
      simp at this
    · exact ⟨i, rfl⟩
  have h2 := hi
  rw [List.findIdx?_eq_some_iff_getElem] at h2
  obtain ⟨h3, h4, _⟩ := h2
  exact ⟨i, h3, by rw [fx, hi], by simpa using h4⟩
theorem fx_neg {xs : List Exq} {st : Exq} : fx xs st < 0 ↔ st ∉ xs := by
  constructor
  · intro h hm
    obtain ⟨i, _, e, _⟩ := fx_mem hm
    omega
  · intro h
    rw [fx_not h]
    decide
noncomputable def ins (o : List Exq) (x : Exq) : List Exq := if x ∈ o then o else o ++ [x]
mutual
noncomputable def subs : Exq → List Exq → List Exq
  | .mk k v l, o => ins (subsL l o) (.mk k v l)
noncomputable def subsL : List Exq → List Exq → List Exq
  | [], o => o
  | x :: l, o => subsL l (subs x o)
end
theorem subsL_eq : ∀ (l : List Exq) (o : List Exq), subsL l o = l.foldl (fun o x => subs x o) o
  | [], _ => rfl
  | x :: l, o => by rw [subsL, subsL_eq l, List.foldl_cons]
theorem subs_eq (x : Exq) (o : List Exq) : subs x o = ins (x.kids.foldl (fun o x => subs x o) o) x := by
  cases x with
  | mk k v l => rw [subs, subsL_eq]; rfl
theorem ins_len {o : List Exq} {x : Exq} : (ins o x).length ≤ o.length + 1 := by unfold ins; split <;> simp
theorem subsL_len : ∀ (l : List Exq), (∀ x ∈ l, ∀ o, (subs x o).length ≤ o.length + x.nod) → ∀ o, (l.foldl (fun o x => subs x o) o).length ≤ o.length + Exq.nods l
  | [], _, o => by simp [Exq.nods]
  | x :: l, h, o => by
    have h1 := h x (by simp) o
    have h2 := subsL_len l (fun y hy => h y (by simp [hy])) (subs x o)
    simp only [List.foldl_cons, Exq.nods]
    omega
theorem subs_len : ∀ (x : Exq) (o : List Exq), (subs x o).length ≤ o.length + x.nod := by
  have key : ∀ (n : Nat) (x : Exq), x.nod ≤ n → ∀ o, (subs x o).length ≤ o.length + x.nod := by
    intro n
    induction n with
    | zero => intro x h; rw [Exq.nod_eq] at h; omega
    | succ n ih =>
      intro x hx o
      rw [Exq.nod_eq] at hx ⊢
      rw [subs_eq]
      have h1 := subsL_len x.kids (fun y hy => ih y (by
        obtain ⟨i, hi, rfl⟩ := List.mem_iff_getElem.1 hy
        have e1 := Exq.nods_take hi
        have e2 := Exq.nods_le x.kids (i + 1)
        omega)) o
      have h2 := ins_len (o := x.kids.foldl (fun o x => subs x o) o) (x := x)
      omega
  exact fun x o => key x.nod x (Nat.le_refl _) o
theorem subs_all {P : Exq → Prop} : ∀ (n : Nat) (x : Exq), (∀ y, P y → ∀ z ∈ y.kids, P z) → x.nod ≤ n → P x → ∀ (o : List Exq), (∀ y ∈ o, P y) → ∀ y ∈ subs x o, P y := by
  intro n
  induction n with
  | zero => intro x _ h; rw [Exq.nod_eq] at h; omega
  | succ n ih =>
    intro x hP hx hPx o ho
    rw [Exq.nod_eq] at hx
    rw [subs_eq]
    have hl : ∀ (l : List Exq), (∀ z ∈ l, P z ∧ z.nod ≤ n) → ∀ (o : List Exq), (∀ y ∈ o, P y) → ∀ y ∈ l.foldl (fun o x => subs x o) o, P y := by
      intro l
      induction l with
      | nil => intro _ o ho; exact ho
      | cons z l ihl =>
        intro hz o ho
        rw [List.foldl_cons]
        exact ihl (fun w hw => hz w (by simp [hw])) _ (ih z hP (hz z (by simp)).2 (hz z (by simp)).1 o ho)
    have h1 := hl x.kids (fun z hz => ⟨hP x hPx z hz, by
      obtain ⟨i, hi, rfl⟩ := List.mem_iff_getElem.1 hz
      have e1 := Exq.nods_take hi
      have e2 := Exq.nods_le x.kids (i + 1)
      omega⟩) o ho
    intro y hy
    unfold ins at hy
    split at hy
    · exact h1 y hy
    · rcases List.mem_append.1 hy with hy | hy
      · exact h1 y hy
      · simp at hy; subst hy; exact hPx
def bas (x : Exq) : Bool := decide (x.kind = 2 ∨ x.kind = 6 ∨ x.kind = 7 ∨ x.kind = 8)
noncomputable def basics (x : Exq) : List Exq := (subs (push x false) []).filter bas
def bOk (x : Exq) : Prop := (Ok x ∧ Ok (push x false)) ∧ (basics x).length ≤ 5
noncomputable instance {x : Exq} : Decidable (bOk x) := Classical.propDecidable _
noncomputable def basR (x : Exq) : List Exq := if bOk x then basics x else []
theorem Shp.kids6 {x : Exq} (h : ∃ n, n ≤ 6 ∧ Shp n x) : ∀ y ∈ x.kids, ∃ n, n ≤ 6 ∧ Shp n y := by
  obtain ⟨n, hn, hs⟩ := h
  cases n with
  | zero => exact hs.elim
  | succ n => exact fun y hy => ⟨n, by omega, hs.2 y hy⟩
theorem Shp.up {n m : Nat} {x : Exq} (h : Shp n x) (hm : n ≤ m) : Shp m x := by
  induction m with
  | zero => have : n = 0 := by omega
            subst this; exact h
  | succ m ih =>
    by_cases e : n = m + 1
    · subst e; exact h
    · exact (ih (by omega)).mono
theorem basics_ok {x : Exq} (h : bOk x) : ∀ y ∈ basics x, Shp 6 y ∧ bas y = true := by
  intro y hy
  obtain ⟨h1, h2⟩ := List.mem_filter.1 hy
  obtain ⟨n, hn, h3⟩ := subs_all (P := fun y => ∃ n, n ≤ 6 ∧ Shp n y) _ (push x false) (fun y hy => Shp.kids6 hy) (Nat.le_refl _) ⟨6, Nat.le_refl _, h.1.2.1⟩ [] (fun y hy => by simp at hy) y h1
  exact ⟨h3.up hn, h2⟩
end Fm
end Go.Proofs.Ytglnelcmcimljaa

namespace Go.Proofs.Ytglnelcmcimljaa
open Go
theorem c_l5Arity {h : Heap} {n : Int} : CallE Try.prog fn_spec_l5Arity [.int .i64 n] h (fun u h' => h' = h ∧ u = .int .i64 (Fm.arity n)) := by
  refine CallE.gen fun k hk => EN_spec_l5Arity rfl ?_
  by_cases c1 : n = 1
  · simp -implicitDefEqProofs (disch:=first|omega|(simp only[LnZ];omega))[wrap64, c1]
    exact RetK.keep (hk _ _ ⟨rfl, by simp [Fm.arity, c1]⟩)
  by_cases c2 : n = 2
  · simp -implicitDefEqProofs (disch:=first|omega|(simp only[LnZ];omega))[wrap64, c1, c2]
    exact RetK.keep (hk _ _ ⟨rfl, by simp [Fm.arity, c2]⟩)
  by_cases c3 : n = 3
  · simp -implicitDefEqProofs (disch:=first|omega|(simp only[LnZ];omega))[wrap64, c1, c2, c3]
    exact RetK.keep (hk _ _ ⟨rfl, by simp [Fm.arity, c3]⟩)
  by_cases c6 : n = 6
  · simp -implicitDefEqProofs (disch:=first|omega|(simp only[LnZ];omega))[wrap64, c1, c2, c3, c6]
    exact RetK.keep (hk _ _ ⟨rfl, by simp [Fm.arity, c6]⟩)
  by_cases c9 : n = 9
  · simp -implicitDefEqProofs (disch:=first|omega|(simp only[LnZ];omega))[wrap64, c1, c2, c3, c6, c9]
    exact RetK.keep (hk _ _ ⟨rfl, by simp [Fm.arity, c9]⟩)
  by_cases c10 : n = 10
  · simp -implicitDefEqProofs (disch:=first|omega|(simp only[LnZ];omega))[wrap64, c1, c2, c3, c6, c9, c10]
    exact RetK.keep (hk _ _ ⟨rfl, by simp [Fm.arity, c10]⟩)
  by_cases c4 : n = 4
  · simp -implicitDefEqProofs (disch:=first|omega|(simp only[LnZ];omega))[wrap64, c1, c2, c3, c6, c9, c10, c4]
    exact RetK.keep (hk _ _ ⟨rfl, by simp [Fm.arity, c4]⟩)
  by_cases c5 : n = 5
  · simp -implicitDefEqProofs (disch:=first|omega|(simp only[LnZ];omega))[wrap64, c1, c2, c3, c6, c9, c10, c4, c5]
    exact RetK.keep (hk _ _ ⟨rfl, by simp [Fm.arity, c5]⟩)
  by_cases c7 : n = 7
  · simp -implicitDefEqProofs (disch:=first|omega|(simp only[LnZ];omega))[wrap64, c1, c2, c3, c6, c9, c10, c4, c5, c7]
    exact RetK.keep (hk _ _ ⟨rfl, by simp [Fm.arity, c7]⟩)
  by_cases c8 : n = 8
  · simp -implicitDefEqProofs (disch:=first|omega|(simp only[LnZ];omega))[wrap64, c1, c2, c3, c6, c9, c10, c4, c5, c7, c8]
    exact RetK.keep (hk _ _ ⟨rfl, by simp [Fm.arity, c8]⟩)
  simp -implicitDefEqProofs (disch:=first|omega|(simp only[LnZ];omega))[wrap64, c1, c2, c3, c4, c5, c6, c7, c8, c9, c10]
  exact RetK.keep (hk _ _ ⟨rfl, by simp [Fm.arity, c1, c2, c3, c4, c5, c6, c7, c8, c9, c10]⟩)
theorem c_l5Shape : ∀ (n : Nat) {x : Exq} {h : Heap} {v : Value} {dv : Int}, dv = n → n ≤ 6 → Rep h v x → CallE Try.prog fn_spec_l5Shape [v, .int .i64 dv] h (fun u h' => h' = h ∧ u = .bool (decide (Fm.Shp n x))) := by
  intro n
  induction n with
  | zero =>
    intro x h v dv hd _ R
    have hd : dv = 0 := hd
    obtain ⟨w, rfl, k1, k2, R1⟩ := Rep_Exq.1 R
    refine CallE.gen fun k hk => EN_spec_l5Shape rfl ?_
    simp -implicitDefEqProofs (disch:=first|omega|(simp only[LnZ];omega))[wrap64, hd]
    exact RetK.keep (hk _ _ ⟨rfl, by rw [decide_eq_false (fun hh : Fm.Shp 0 x => hh)]⟩)
  | succ n ih =>
    intro x h v dv hd hd6 R
    obtain ⟨w, rfl, k1, k2, R1⟩ := Rep_Exq.1 R
    have hL := R1.lt
    obtain ⟨ln, hln⟩ : ∃ ln : Int, ln = x.kids.length := ⟨_, rfl⟩
    have hlen := R1.len
    rw [← hln] at hlen
    refine CallE.gen fun k hk => EN_spec_l5Shape rfl ?_
    have hno : ¬ Fm.Shp (n + 1) x → k (.bool false) h := fun hh => hk _ _ ⟨rfl, by rw [decide_eq_false hh]⟩
    simp -implicitDefEqProofs (disch:=first|omega|(simp only[LnZ];omega))[wrap64, hlen, show ¬ dv < 1 by omega]
    refine c_l5Arity.go ?_
    rintro _ h ⟨rfl, rfl⟩
    by_cases q1 : ln = Fm.arity x.kind
    case neg => simp -implicitDefEqProofs (disch:=first|omega|(simp only[LnZ];omega))[wrap64, q1]; exact RetK.keep (hno fun hh => q1 (by rw [hln]; exact hh.1.ar))
    by_cases q2 : x.val < 0
    · simp -implicitDefEqProofs (disch:=first|omega|(simp only[LnZ];omega))[wrap64, q1, q2]; exact RetK.keep (hno fun hh => by have := hh.1.lo; omega)
    by_cases q3 : 3 ≤ x.val
    · simp -implicitDefEqProofs (disch:=first|omega|(simp only[LnZ];omega))[wrap64, q1, q2, q3]; exact RetK.keep (hno fun hh => by have := hh.1.hi; omega)
    have hz : (x.kind = 2) ∨ (x.kind ≠ 2 ∧ x.val ≠ 0) ∨ (x.kind ≠ 2 ∧ x.val = 0) := by omega
    rcases hz with c1 | ⟨c1, c2⟩ | ⟨c1, c2⟩
    case inr.inl => simp -implicitDefEqProofs (disch:=first|omega|(simp only[LnZ];omega))[wrap64, q1, q2, q3, c1, c2]; exact RetK.keep (hno fun hh => c2 (hh.1.ze c1))
    · simp -implicitDefEqProofs (disch:=first|omega|(simp only[LnZ];omega))[wrap64, q1, q2, q3, c1]
      refine wp_count x.kids.length (fun i e h' => h' = h ∧ (∃ kd vl : Int, kd = x.kind ∧ vl = x.val ∧ e = [none, some (.int .i64 dv), some (.agg #[.int .i64 kd, .int .i64 vl, w]), none, some (.int .i64 i)]) ∧ ∀ y ∈ x.kids.take i, Fm.Shp n y) ⟨rfl, ⟨_, _, rfl, rfl, by simp [c1]⟩, by simp⟩ ?_
      rintro J i _ _ hJ hi ⟨rfl, ⟨kd, vl, hkd, hvl, rfl⟩, hall⟩
      simp -implicitDefEqProofs (disch:=first|omega|(simp only[LnZ];omega))[wrap64, R1.len]
      refine IteW.mk (fun hlt => ?_) (fun hge => ?_)
      · have hlx : i < x.kids.length := by omega
        obtain ⟨u, hu, Ru⟩ := R1.ld hlx
        change hload _ (some (elp 3 w i)) (some 3) = some u at hu
        simp -implicitDefEqProofs (disch:=first|omega|(simp only[LnZ];omega))[wrap64, R1.X (n := 3) rfl, hu]
        refine (ih (dv := dv - 1) (by omega) (by omega) Ru).go ?_
        rintro _ _ ⟨rfl, rfl⟩
        by_cases q4 : Fm.Shp n x.kids[i]
        case neg => simp -implicitDefEqProofs (disch:=first|omega|(simp only[LnZ];omega))[wrap64, q4]; exact RetK.keep (hno fun hh => q4 (hh.kid hlx))
        simp -implicitDefEqProofs (disch:=first|omega|(simp only[LnZ];omega))[wrap64, q4]
        refine hJ _ _ hlx ⟨rfl, ⟨kd, vl, hkd, hvl, by simp⟩, fun y hy => ?_⟩
        rw [List.take_add_one, List.getElem?_eq_getElem hlx] at hy
        rcases List.mem_append.1 hy with hy | hy
        · exact hall y hy
        · simp at hy; subst hy; exact q4
      · simp -implicitDefEqProofs (disch:=first|omega|(simp only[LnZ];omega))[wrap64]
        rw [List.take_of_length_le (by omega)] at hall
        refine RetK.keep (hk _ _ ⟨rfl, ?_⟩)
        rw [decide_eq_true (show Fm.Shp (n + 1) x from ⟨⟨by omega, by omega, by omega, by omega⟩, hall⟩)]
    · simp -implicitDefEqProofs (disch:=first|omega|(simp only[LnZ];omega))[wrap64, q1, q2, q3, c1, c2]
      refine wp_count x.kids.length (fun i e h' => h' = h ∧ (∃ kd vl : Int, kd = x.kind ∧ vl = x.val ∧ e = [none, some (.int .i64 dv), some (.agg #[.int .i64 kd, .int .i64 vl, w]), none, some (.int .i64 i)]) ∧ ∀ y ∈ x.kids.take i, Fm.Shp n y) ⟨rfl, ⟨_, _, rfl, rfl, by simp [c1, c2]⟩, by simp⟩ ?_
      rintro J i _ _ hJ hi ⟨rfl, ⟨kd, vl, hkd, hvl, rfl⟩, hall⟩
      simp -implicitDefEqProofs (disch:=first|omega|(simp only[LnZ];omega))[wrap64, R1.len]
      refine IteW.mk (fun hlt => ?_) (fun hge => ?_)
      · have hlx : i < x.kids.length := by omega
        obtain ⟨u, hu, Ru⟩ := R1.ld hlx
        change hload _ (some (elp 3 w i)) (some 3) = some u at hu
        simp -implicitDefEqProofs (disch:=first|omega|(simp only[LnZ];omega))[wrap64, R1.X (n := 3) rfl, hu]
        refine (ih (dv := dv - 1) (by omega) (by omega) Ru).go ?_
        rintro _ _ ⟨rfl, rfl⟩
        by_cases q4 : Fm.Shp n x.kids[i]
        case neg => simp -implicitDefEqProofs (disch:=first|omega|(simp only[LnZ];omega))[wrap64, q4]; exact RetK.keep (hno fun hh => q4 (hh.kid hlx))
        simp -implicitDefEqProofs (disch:=first|omega|(simp only[LnZ];omega))[wrap64, q4]
        refine hJ _ _ hlx ⟨rfl, ⟨kd, vl, hkd, hvl, by simp⟩, fun y hy => ?_⟩
        rw [List.take_add_one, List.getElem?_eq_getElem hlx] at hy
        rcases List.mem_append.1 hy with hy | hy
        · exact hall y hy
        · simp at hy; subst hy; exact q4
      · simp -implicitDefEqProofs (disch:=first|omega|(simp only[LnZ];omega))[wrap64]
        rw [List.take_of_length_le (by omega)] at hall
        refine RetK.keep (hk _ _ ⟨rfl, ?_⟩)
        rw [decide_eq_true (show Fm.Shp (n + 1) x from ⟨⟨by omega, by omega, by omega, by omega⟩, hall⟩)]
theorem c_l5Count : ∀ (n : Nat) {x : Exq} {h : Heap} {v : Value} {dv : Int}, dv = n → n ≤ 6 → Fm.Shp n x → Rep h v x → CallE Try.prog fn_spec_l5Count [v, .int .i64 dv] h (fun u h' => h' = h ∧ u = .int .i64 x.nod) := by
  intro n
  induction n with
  | zero => intro x h v dv hd _ hs; exact hs.elim
  | succ n ih =>
    intro x h v dv hd hd6 hs R
    obtain ⟨w, rfl, k1, k2, R1⟩ := Rep_Exq.1 R
    have hL := R1.lt
    have hbnd := hs.bnd
    have hpow : 2 ^ (n + 1) ≤ 2 ^ 6 := Nat.pow_le_pow_right (by decide) hd6
    have hnod := x.nod_eq
    refine CallE.gen fun k hk => EN_spec_l5Count rfl ?_
    simp -implicitDefEqProofs (disch:=first|omega|(simp only[LnZ];omega))[wrap64]
    refine wp_count x.kids.length (fun i e h' => h' = h ∧ e = [none, some (.int .i64 dv), some (.agg #[.int .i64 x.kind, .int .i64 x.val, w]), none, some (.int .i64 ((1 + Exq.nods (x.kids.take i) : Nat) : Int)), some (.int .i64 i)]) ⟨rfl, by simp [Exq.nods]⟩ ?_
    rintro J i _ _ hJ hi ⟨rfl, rfl⟩
    by_cases hlt : i < x.kids.length
    · obtain ⟨u, hu, Ru⟩ := R1.ld hlt
      change hload _ (some (elp 3 w i)) (some 3) = some u at hu
      have hn1 := Exq.nods_take hlt
      have hn2 := Exq.nods_le x.kids (i + 1)
      simp -implicitDefEqProofs (disch:=first|omega|(simp only[LnZ];omega))[wrap64, hlt, R1.len, R1.X (n := 3) rfl, hu, show 0 < dv by omega]
      refine (ih (dv := dv - 1) (by omega) (by omega) (hs.kid hlt) Ru).go ?_
      rintro _ _ ⟨rfl, rfl⟩
      simp -implicitDefEqProofs (disch:=first|omega|(simp only[LnZ];omega))[wrap64]
      refine hJ _ _ hlt ⟨rfl, ?_⟩
      simp [hn1]; omega
    · simp -implicitDefEqProofs (disch:=first|omega|(simp only[LnZ];omega))[wrap64, hlt, R1.len]
      rw [List.take_of_length_le (by omega)]
      refine RetK.keep (hk _ _ ⟨rfl, ?_⟩)
      rw [hnod]; push_cast; rfl
theorem c_spec_FormulaValid {h : Heap} {v : Value} {x : Exq} (R : Rep h v x) : CallE Try.prog fn_spec_FormulaValid [v] h (fun u h' => h' = h ∧ u = .bool (decide (Fm.Ok x))) := by
  have F := R.aExq
  refine CallE.gen fun k hk => EN_spec_FormulaValid rfl ?_
  simp -implicitDefEqProofs (disch:=first|omega|(simp only[LnZ];omega))[wrap64, F]
  refine (c_l5Shape 6 (dv := 6) rfl (by omega) R).go ?_
  rintro _ _ ⟨rfl, rfl⟩
  by_cases q1 : Fm.Shp 6 x
  case neg => simp -implicitDefEqProofs (disch:=first|omega|(simp only[LnZ];omega))[wrap64, q1]; exact RetK.keep (hk _ _ ⟨rfl, by rw [decide_eq_false (fun hh : Fm.Ok x => q1 hh.1)]⟩)
  simp -implicitDefEqProofs (disch:=first|omega|(simp only[LnZ];omega))[wrap64, q1, F]
  refine (c_l5Count 6 (dv := 6) rfl (by omega) q1 R).go ?_
  rintro _ _ ⟨rfl, rfl⟩
  simp -implicitDefEqProofs (disch:=first|omega|(simp only[LnZ];omega))[wrap64]
  refine RetK.keep (hk _ _ ⟨rfl, ?_⟩)
  congr 1
  rw [Bool.eq_iff_iff]
  simp [Fm.Ok, q1]
  omega
end Go.Proofs.Ytglnelcmcimljaa

namespace Go.Proofs.Ytglnelcmcimljaa
open Go
theorem c_spec_FormulaSame : ∀ (x : Exq) {h : Heap} {a b : Value} {y : Exq}, Rep h a x → Rep h b y → CallE Try.prog fn_spec_FormulaSame [a, b] h (fun u h' => h' = h ∧ u = .bool (decide (x = y))) := by
  refine Exq.ind fun x ih h a b y Ra Rb => ?_
  obtain ⟨w, rfl, k1, k2, R1⟩ := Rep_Exq.1 Ra
  obtain ⟨w2, rfl, k3, k4, R2⟩ := Rep_Exq.1 Rb
  have hL := R1.lt
  refine CallE.gen fun k hk => EN_spec_FormulaSame rfl ?_
  by_cases h1 : x.kind = y.kind
  case neg =>
    simp -implicitDefEqProofs (disch:=first|omega|(simp only[LnZ];omega))[wrap64, h1]
    exact RetK.keep (hk _ _ ⟨rfl, by simp [Exq.ext_iff', h1]⟩)
  by_cases h2 : x.val = y.val
  case neg =>
    simp -implicitDefEqProofs (disch:=first|omega|(simp only[LnZ];omega))[wrap64, h1, h2]
    exact RetK.keep (hk _ _ ⟨rfl, by simp [Exq.ext_iff', h2]⟩)
  by_cases h3 : (x.kids.length : Int) = y.kids.length
  case neg =>
    simp -implicitDefEqProofs (disch:=first|omega|(simp only[LnZ];omega))[wrap64, h1, h2, R1.len, R2.len, h3]
    exact RetK.keep (hk _ _ ⟨rfl, by rw [eq_comm, Value.bool.injEq, decide_eq_false_iff_not]; intro e; rw [e] at h3; exact h3 rfl⟩)
  simp -implicitDefEqProofs (disch:=first|omega|(simp only[LnZ];omega))[wrap64, h1, h2, R1.len, R2.len, h3]
  refine wp_count x.kids.length (fun i e h' => h' = h ∧ e = [none, none, some (.agg #[.int .i64 y.kind, .int .i64 y.val, w]), some (.agg #[.int .i64 y.kind, .int .i64 y.val, w2]), none, some (.int .i64 i)] ∧ x.kids.take i = y.kids.take i) ⟨rfl, by simp [h1, h2], rfl⟩ ?_
  rintro J i _ _ hJ hi ⟨rfl, rfl, hq⟩
  simp -implicitDefEqProofs (disch:=first|omega|(simp only[LnZ];omega))[wrap64, R1.len]
  refine IteW.mk (fun hlt => ?_) (fun hge => ?_)
  · have hlx : i < x.kids.length := by omega
    have hly : i < y.kids.length := by omega
    obtain ⟨u, hu, Ru⟩ := R1.ld hlx
    obtain ⟨t, ht, Rt⟩ := R2.ld hly
    change hload _ (some (elp 3 w i)) (some 3) = some u at hu
    change hload _ (some (elp 3 w2 i)) (some 3) = some t at ht
    simp -implicitDefEqProofs (disch:=first|omega|(simp only[LnZ];omega))[wrap64, R1.X (n := 3) rfl, R2.X (n := 3) rfl, hu, ht, Ru.aExq, Rt.aExq]
    refine (ih _ (List.getElem_mem hlx) Ru Rt).go ?_
    rintro _ _ ⟨rfl, rfl⟩
    by_cases he : x.kids[i] = y.kids[i]
    · simp -implicitDefEqProofs (disch:=first|omega|(simp only[LnZ];omega))[wrap64, he]
      exact hJ _ _ hlx ⟨rfl, by simp, take_step hq hlx hly he⟩
    · simp -implicitDefEqProofs (disch:=first|omega|(simp only[LnZ];omega))[wrap64, he]
      exact RetK.keep (hk _ _ ⟨rfl, by rw [eq_comm, Value.bool.injEq, decide_eq_false_iff_not]; intro e; subst e; exact he rfl⟩)
  · simp -implicitDefEqProofs (disch:=first|omega|(simp only[LnZ];omega))[wrap64]
    rw [List.take_of_length_le (by omega), List.take_of_length_le (by omega)] at hq
    exact RetK.keep (hk _ _ ⟨rfl, by simp [Exq.ext_iff', h1, h2, hq]⟩)
theorem c_l5Find {h : Heap} {v w : Value} {xs : List Exq} {x : Exq} (R : Rep h v xs) (Rx : Rep h w x) : CallE Try.prog fn_spec_l5Find [v, w] h (fun u h' => h' = h ∧ u = .int .i64 (Fm.fx xs x)) := by
  have hL := R.lt
  have FX := Rx.aExq
  refine CallE.gen fun k hk => EN_spec_l5Find rfl ?_
  simp -implicitDefEqProofs (disch:=first|omega|(simp only[LnZ];omega))[wrap64, FX]
  refine wp_count xs.length (fun i e h' => e = [some v, none, some w, none, some (.int .i64 i)] ∧ h' = h ∧ ∀ (j : Nat) (hj : j < xs.length), j < i → xs[j] ≠ x) ⟨by simp, rfl, fun j _ hj => absurd hj (Nat.not_lt_zero j)⟩ ?_
  rintro J i _ h hJ hi ⟨rfl, rfl, hn⟩
  simp -implicitDefEqProofs (disch:=first|omega|(simp only[LnZ];omega))[wrap64, R.len]
  refine IteW.mk (fun hlt => ?_) (fun hge => ?_)
  · have hlx : i < xs.length := by omega
    obtain ⟨u, hu, Ru⟩ := R.ld hlx
    change hload _ (some (elp 3 v i)) (some 3) = some u at hu
    simp -implicitDefEqProofs (disch:=first|omega|(simp only[LnZ];omega))[wrap64, R.X (n := 3) rfl, hu, FX, Ru.aExq]
    refine (c_spec_FormulaSame _ Ru Rx).go ?_
    rintro _ h ⟨rfl, rfl⟩
    by_cases e : xs[i] = x
    · simp -implicitDefEqProofs (disch:=first|omega|(simp only[LnZ];omega))[wrap64, e]
      exact RetK.keep (hk _ _ ⟨rfl, by rw [Fm.fx_at hlx e hn]⟩)
    · simp -implicitDefEqProofs (disch:=first|omega|(simp only[LnZ];omega))[wrap64, e]
      refine hJ _ _ hlx ⟨by simp, rfl, fun j hj hji => ?_⟩
      by_cases hji2 : j = i
      · subst hji2; exact e
      · exact hn j hj (by omega)
  · simp -implicitDefEqProofs (disch:=first|omega|(simp only[LnZ];omega))[wrap64]
    refine RetK.keep (hk _ _ ⟨rfl, ?_⟩)
    rw [Fm.fx_not]
    intro hm
    obtain ⟨j, hj, h1⟩ := List.mem_iff_getElem.1 hm
    exact hn j hj (by omega) h1
theorem nod_kid {x : Exq} {i : Nat} (hi : i < x.kids.length) : x.kids[i].nod + 1 ≤ x.nod := by
  have e1 := Exq.nods_take hi
  have e2 := Exq.nods_le x.kids (i + 1)
  rw [Exq.nod_eq x]
  omega
theorem nods_len : ∀ l : List Exq, l.length ≤ Exq.nods l
  | [] => by simp
  | x :: l => by
    have := nods_len l
    have := x.nod_eq
    simp only [List.length_cons, Exq.nods]
    omega
theorem c_l5Copy : ∀ (x : Exq) {h : Heap} {v : Value}, x.nod ≤ 1048576 → Rep h v x → CallE Try.prog fn_spec_l5Copy [v] h (fun u h' => HS h [ow u x] h') := by
  refine Exq.ind fun x ih h v hs R => ?_
  obtain ⟨w, rfl, k1, k2, R1⟩ := Rep_Exq.1 R
  have hL := R1.lt
  have hkl := nods_len x.kids
  have hne := x.nod_eq
  refine CallE.gen fun k hk => EN_spec_l5Copy rfl ?_
  simp -implicitDefEqProofs (disch:=first|omega|(simp only[LnZ];omega))[wrap64, setC]
  refine wp_count x.kids.length (fun i e h' => ∃ o : Value, e = [none, some (.agg #[.int .i64 x.kind, .int .i64 x.val, w]), some (.agg #[.int .i64 0, .int .i64 0, .slice none 0 0]), some (.agg #[.int .i64 x.kind, .int .i64 x.val, o]), some (.int .i64 i)] ∧ HS h [ow o (x.kids.take i)] h') ⟨.slice none 0 0, by simp, by simpa using HS.init.nil_ow (α := Exq)⟩ ?_
  rintro J i _ h2 hJ hi ⟨o, rfl, H⟩
  simp -implicitDefEqProofs (disch:=first|omega|(simp only[LnZ];omega))[wrap64, R1.len]
  refine IteW.mk (fun hlt => ?_) (fun hge => ?_)
  · have hlx : i < x.kids.length := by omega
    have hnk := nod_kid hlx
    obtain ⟨u, hu, Ru⟩ := R1.ld hlx
    have hu2 := hload_le H.base hu
    change hload _ (some (elp 3 w i)) (some 3) = some u at hu2
    simp -implicitDefEqProofs (disch:=first|omega|(simp only[LnZ];omega))[wrap64, R1.X (n := 3) rfl, hu2]
    refine (ih _ (List.getElem_mem hlx) (by omega) (Ru.on H)).go ?_
    intro y h3 G
    have H := G.app H
    have FG := G.rep.aExq
    obtain ⟨y1, rfl, _, _, _⟩ := G.unExq
    simp -implicitDefEqProofs (disch:=first|omega|(simp only[LnZ];omega))[wrap64, FG, setC]
    refine HS.appO (bytes := 40) H rfl rfl rfl rfl rfl (by simp; omega) (by simp; omega) fun o' h4 H => ?_
    simp -implicitDefEqProofs (disch:=first|omega|(simp only[LnZ];omega))[wrap64, H.rep.cells, H.rep.one, setC]
    refine hJ _ _ hlx ⟨o', by simp, ?_⟩
    rw [List.take_add_one, List.getElem?_eq_getElem hlx]
    exact H
  · simp -implicitDefEqProofs (disch:=first|omega|(simp only[LnZ];omega))[wrap64, H.rep.one, setC]
    rw [List.take_of_length_le (by omega)] at H
    exact RetK.keep (hk _ _ (H.mkExq k1 k2))
theorem c_l5Subs : ∀ (x : Exq) {g h : Heap} {Γ : List HP} {v o : Value} {out : List Exq}, out.length + x.nod ≤ 1048576 → Rep g v x → HS g (ow o out :: Γ) h →
    CallE Try.prog fn_spec_l5Subs [o, v] h (fun u h' => HS g (ow u (Fm.subs x out) :: Γ) h') := by
  refine Exq.ind fun x ih g h Γ v o out hs R H => ?_
  have R0 := R
  obtain ⟨w, rfl, k1, k2, R1⟩ := Rep_Exq.1 R
  have hL := R1.lt
  have hkl := nods_len x.kids
  have hne := x.nod_eq
  have hse := Fm.subs_eq x out
  refine CallE.gen fun k hk => EN_spec_l5Subs rfl ?_
  simp -implicitDefEqProofs (disch:=first|omega|(simp only[LnZ];omega))[wrap64]
  refine wp_count x.kids.length (fun i e h' => ∃ o : Value, e = [some o, none, some (.agg #[.int .i64 x.kind, .int .i64 x.val, w]), none, some (.int .i64 i)] ∧ HS g (ow o ((x.kids.take i).foldl (fun o x => Fm.subs x o) out) :: Γ) h') ⟨o, by simp, by simpa using H⟩ ?_
  clear H
  rintro J i _ h2 hJ hi ⟨o, rfl, H⟩
  simp -implicitDefEqProofs (disch:=first|omega|(simp only[LnZ];omega))[wrap64, R1.len]
  refine IteW.mk (fun hlt => ?_) (fun hge => ?_)
  · have hlx : i < x.kids.length := by omega
    have hnk := Exq.nods_take hlx
    have hnl := Exq.nods_le x.kids (i + 1)
    have hfl := Fm.subsL_len (x.kids.take i) (fun y _ o => Fm.subs_len y o) out
    have hft := foldl_tk (f := fun o x => Fm.subs x o) (b := out) hlx
    generalize (x.kids.take i).foldl (fun o x => Fm.subs x o) out = D at *
    obtain ⟨u, hu, Ru⟩ := R1.ld hlx
    have hu2 := hload_le H.base hu
    change hload _ (some (elp 3 w i)) (some 3) = some u at hu2
    simp -implicitDefEqProofs (disch:=first|omega|(simp only[LnZ];omega))[wrap64, R1.X (n := 3) rfl, hu2]
    refine (ih _ (List.getElem_mem hlx) (by omega) Ru H).go ?_
    intro o' h3 H
    simp -implicitDefEqProofs (disch:=first|omega|(simp only[LnZ];omega))[wrap64]
    exact hJ _ _ hlx ⟨o', by simp, by rw [hft]; exact H⟩
  have hfl := Fm.subsL_len x.kids (fun y _ o => Fm.subs_len y o) out
  rw [List.take_of_length_le (by omega)] at H
  generalize x.kids.foldl (fun o x => Fm.subs x o) out = D at *
  have FX := R0.aExq
  simp -implicitDefEqProofs (disch:=first|omega|(simp only[LnZ];omega))[wrap64, FX]
  refine (c_l5Find H.rep (R0.on H)).go ?_
  rintro _ h3 ⟨rfl, rfl⟩
  rw [hse] at hk
  by_cases hm : x ∈ D
  · have hf : ¬ Fm.fx D x < 0 := fun e => Fm.fx_neg.1 e hm
    simp -implicitDefEqProofs (disch:=first|omega|(simp only[LnZ];omega))[wrap64, hf]
    exact RetK.keep (hk _ _ (by rw [Fm.ins, if_pos hm]; exact H))
  · have hf := Fm.fx_neg.2 hm
    simp -implicitDefEqProofs (disch:=first|omega|(simp only[LnZ];omega))[wrap64, hf, FX]
    refine (c_l5Copy x (by omega) (R0.on H)).go ?_
    intro y h4 G
    have H := G.app H
    have FG := G.rep.aExq
    obtain ⟨y1, rfl, _, _, _⟩ := G.unExq
    simp -implicitDefEqProofs (disch:=first|omega|(simp only[LnZ];omega))[wrap64, FG, setC]
    refine HS.appO (bytes := 40) H rfl rfl rfl rfl rfl (by omega) (by omega) fun o' h5 H => ?_
    simp -implicitDefEqProofs (disch:=first|omega|(simp only[LnZ];omega))[wrap64]
    exact RetK.keep (hk _ _ (by rw [Fm.ins, if_neg hm]; exact H))
end Go.Proofs.Ytglnelcmcimljaa

namespace Go.Proofs.Ytglnelcmcimljaa
open Go
theorem c_l5True {h : Heap} : CallE Try.prog fn_spec_l5True [] h (fun u h' => h' = h ∧ u = .agg #[.int .i64 1, .int .i64 0, .slice none 0 0]) := by
  refine CallE.gen fun k hk => EN_spec_l5True rfl ?_
  simp -implicitDefEqProofs (disch:=first|omega|(simp only[LnZ];omega))[wrap64, setC]
  exact RetK.keep (hk _ _ ⟨rfl, rfl⟩)
theorem HS.leaf {g h : Heap} {Γ : List HP} (H : HS g Γ h) {k v : Int} (h1 : I64 k) (h2 : I64 v) : HS g (ow (.agg #[.int .i64 k, .int .i64 v, .slice none 0 0]) (Exq.mk k v []) :: Γ) h := HS.mkExq' H.nil_ow h1 h2
theorem c_l5Not {g h : Heap} {Γ : List HP} {v : Value} {x : Exq} (H : HS g (ow v x :: Γ) h) : CallE Try.prog fn_spec_l5Not [v] h (fun u h' => HS g (ow u (Fm.neg x) :: Γ) h') := by
  have FX := H.rep.aExq
  obtain ⟨w, rfl, k1, k2, H1⟩ := H.unExq
  refine CallE.gen fun k hk => EN_spec_l5Not rfl ?_
  simp -implicitDefEqProofs (disch:=first|omega|(simp only[LnZ];omega))[wrap64, FX]
  refine HS.blsO1 H rfl fun xs h2 H => ?_
  simp -implicitDefEqProofs (disch:=first|omega|(simp only[LnZ];omega))[wrap64, setC, H.rep.cells, H.rep.one]
  exact RetK.keep (hk _ _ (HS.mkExq' (kd := 3) (vl := 0) H ⟨by decide, by decide⟩ ⟨by decide, by decide⟩))
theorem c_l5Dual {h : Heap} {kd : Int} : CallE Try.prog fn_spec_l5Dual [.int .i64 kd] h (fun u h' => h' = h ∧ u = .int .i64 (Fm.dual kd)) := by
  refine CallE.gen fun k hk => EN_spec_l5Dual rfl ?_
  by_cases c4 : kd = 4
  · simp -implicitDefEqProofs (disch:=first|omega|(simp only[LnZ];omega))[wrap64, c4]
    exact RetK.keep (hk _ _ ⟨rfl, by simp [Fm.dual, c4]⟩)
  by_cases c5 : kd = 5
  · simp -implicitDefEqProofs (disch:=first|omega|(simp only[LnZ];omega))[wrap64, c4, c5]
    exact RetK.keep (hk _ _ ⟨rfl, by simp [Fm.dual, c5]⟩)
  by_cases c7 : kd = 7
  · simp -implicitDefEqProofs (disch:=first|omega|(simp only[LnZ];omega))[wrap64, c4, c5, c7]
    exact RetK.keep (hk _ _ ⟨rfl, by simp [Fm.dual, c7]⟩)
  simp -implicitDefEqProofs (disch:=first|omega|(simp only[LnZ];omega))[wrap64, c4, c5, c7]
  exact RetK.keep (hk _ _ ⟨rfl, by simp [Fm.dual, c4, c5, c7]⟩)
theorem i64c {k : Int} (h1 : -9223372036854775808 ≤ k := by decide) (h2 : k < 9223372036854775808 := by decide) : I64 k := ⟨h1, h2⟩
theorem Fm.dual_ok {k : Int} : I64 (Fm.dual k) := by
  unfold Fm.dual
  repeat' split
  all_goals exact ⟨by decide, by decide⟩
theorem c_l5Push : ∀ (n : Nat) {x : Exq} {h : Heap} {v : Value} {ng : Bool}, Fm.Shp n x → Rep h v x → CallE Try.prog fn_spec_l5Push [v, .bool ng] h (fun u h' => HS h [ow u (Fm.push x ng)] h') := by
  intro n
  induction n with
  | zero => intro x h v ng hs; exact hs.elim
  | succ n ih =>
  intro x h v ng hs R
  have FX := R.aExq
  obtain ⟨w, rfl, k1, k2, R1⟩ := Rep_Exq.1 R
  have hpe := Fm.push_eq x ng
  have hkd := hs.1.kind
  refine CallE.gen fun k hk => EN_spec_l5Push rfl ?_
  rw [hpe] at hk
  by_cases c12 : x.kind = 1 ∨ x.kind = 2
  · rw [if_pos c12] at hk
    cases ng with
    | true =>
      have H0 := (HS.init (h := h)).leaf k1 k2
      rcases c12 with c1 | c1
      all_goals
        rw [c1] at H0 hk
        simp -implicitDefEqProofs (disch:=first|omega|(simp only[LnZ];omega))[wrap64, c1, setC]
        refine (c_l5Not H0).go ?_
        intro u h1 H
        simp -implicitDefEqProofs (disch:=first|omega|(simp only[LnZ];omega))[wrap64, setC, H.rep.aExq]
        exact RetK.keep (hk _ _ H)
    | false =>
      have H0 := (HS.init (h := h)).leaf k1 k2
      rcases c12 with c1 | c1
      all_goals
        rw [c1] at H0 hk
        simp -implicitDefEqProofs (disch:=first|omega|(simp only[LnZ];omega))[wrap64, c1, setC]
        exact RetK.keep (hk _ _ H0)
  rw [if_neg c12] at hk
  have n1 : ¬ x.kind = 1 := fun e => c12 (.inl e)
  have n2 : ¬ x.kind = 2 := fun e => c12 (.inr e)
  have hkl : 0 < x.kids.length := by
    have h1 := hs.1.ar
    unfold Fm.arity at h1
    rw [if_neg c12] at h1
    split at h1
    · omega
    · split at h1 <;> omega
  obtain ⟨u0, hu0, Ru0⟩ := R1.ld hkl
  change hload _ (some (elp 3 w 0)) (some 3) = some u0 at hu0
  have hX := R1.X (n := 3) rfl
  have hkp := fun m => Fm.kp_at (n := m) hkl
  have hsk := hs.kid hkl
  by_cases c3 : x.kind = 3
  · rw [if_pos c3, hkp] at hk
    simp -implicitDefEqProofs (disch:=first|omega|(simp only[LnZ];omega))[wrap64, n1, n2, c3, hX, hu0]
    refine (ih hsk Ru0).go ?_
    intro u h1 H
    simp -implicitDefEqProofs (disch:=first|omega|(simp only[LnZ];omega))[wrap64, H.rep.aExq]
    exact RetK.keep (hk _ _ H)
  rw [if_neg c3] at hk
  by_cases c6 : x.kind = 6
  · rw [if_pos c6, hkp] at hk
    simp -implicitDefEqProofs (disch:=first|omega|(simp only[LnZ];omega))[wrap64, n1, n2, c3, c6, hX, hu0]
    refine (ih hsk Ru0).go ?_
    intro u h1 H
    have FU := H.rep.aExq
    obtain ⟨w1, rfl, _, _, _⟩ := H.unExq
    simp -implicitDefEqProofs (disch:=first|omega|(simp only[LnZ];omega))[wrap64, FU]
    refine HS.blsO1 H rfl fun xs h2 H => ?_
    simp -implicitDefEqProofs (disch:=first|omega|(simp only[LnZ];omega))[wrap64, setC, H.rep.cells, H.rep.one]
    exact RetK.keep (hk _ _ (HS.mkExq' (kd := 6) (vl := 0) H i64c i64c))
  rw [if_neg c6] at hk
  by_cases c9 : x.kind = 9 ∨ x.kind = 10
  · rw [if_pos c9, hkp] at hk
    have hx : ∃ b : Bool, decide (x.kind = 9) = b ∧ ((x.kind = 9 ∧ b = true) ∨ (¬ x.kind = 9 ∧ x.kind = 10 ∧ b = false)) := by
      rcases c9 with c9 | c9
      · exact ⟨true, by simp [c9], .inl ⟨c9, rfl⟩⟩
      · exact ⟨false, by simp [c9], .inr ⟨by omega, c9, rfl⟩⟩
    obtain ⟨b, hb, hbb⟩ := hx
    rw [hb] at hk
    rcases hbb with ⟨e9, rfl⟩ | ⟨e9, e10, rfl⟩
    all_goals
      first
        | simp -implicitDefEqProofs (disch:=first|omega|(simp only[LnZ];omega))[wrap64, n1, n2, c3, c6, e9, e10, hX, hu0]
        | simp -implicitDefEqProofs (disch:=first|omega|(simp only[LnZ];omega))[wrap64, n1, n2, c3, c6, e9, hX, hu0]
      refine (ih hsk Ru0).go ?_
      intro u h1 H
      have FU := H.rep.aExq
      obtain ⟨w1, rfl, _, _, HW⟩ := H.unExq
      have hO := HW.rep.one
      cases ng
      all_goals
        simp -implicitDefEqProofs (disch:=first|omega|(simp only[LnZ];omega))[wrap64, e9, FU, setC, hO]
        refine c_l5True.go ?_
        rintro _ h1 ⟨rfl, rfl⟩
        have H0 : HS h (ow _ Fm.tru :: _) h1 := H.leaf (k := 1) (v := 0) i64c i64c
        simp -implicitDefEqProofs (disch:=first|omega|(simp only[LnZ];omega))[wrap64, FU, setC, hO]
        first
          | refine HS.blsO2 H0 rfl fun xs h2 H => ?_
            simp -implicitDefEqProofs (disch:=first|omega|(simp only[LnZ];omega))[wrap64, setC, H.rep.cells, H.rep.one]
            exact RetK.keep (hk _ _ (HS.mkExq' (kd := 7) (vl := 0) H i64c i64c))
          | refine (c_l5Not H0).go ?_
            intro u2 h2 H
            have FV := H.rep.aExq
            obtain ⟨w2, rfl, _, _, _⟩ := H.unExq
            simp -implicitDefEqProofs (disch:=first|omega|(simp only[LnZ];omega))[wrap64, FV, FU, hO]
            refine HS.blsO2 H rfl fun xs h3 H => ?_
            simp -implicitDefEqProofs (disch:=first|omega|(simp only[LnZ];omega))[wrap64, setC, H.rep.cells, H.rep.one]
            exact RetK.keep (hk _ _ (HS.mkExq' (kd := 8) (vl := 0) H i64c i64c))
  rw [if_neg c9] at hk
  have n9 : ¬ x.kind = 9 := fun e => c9 (.inl e)
  have n10 : ¬ x.kind = 10 := fun e => c9 (.inr e)
  have hkl2 : 1 < x.kids.length := by
    have := hs.two (by omega)
    omega
  obtain ⟨u1, hu1, Ru1⟩ := R1.ld hkl2
  change hload _ (some (elp 3 w 1)) (some 3) = some u1 at hu1
  have hkp2 := Fm.kp_at (n := ng) hkl2
  have hsk2 := hs.kid hkl2
  rw [hkp, hkp2] at hk
  have fin : ∀ (kd : Int), I64 kd → (∀ u h', HS h [ow u (Exq.mk kd 0 [Fm.push x.kids[0] ng, Fm.push x.kids[1] ng])] h' → k u h') → True := fun _ _ _ => trivial
  cases ng with
  | true =>
    simp -implicitDefEqProofs (disch:=first|omega|(simp only[LnZ];omega))[wrap64, n1, n2, c3, c6, n9, n10]
    refine c_l5Dual.go ?_
    rintro _ _ ⟨rfl, rfl⟩
    simp -implicitDefEqProofs (disch:=first|omega|(simp only[LnZ];omega))[wrap64, hX, hu0, hu1]
    refine (ih hsk Ru0).go ?_
    intro u h1 H
    have FU := H.rep.aExq
    obtain ⟨w1, rfl, _, _, _⟩ := H.unExq
    have hu1' := hload_le H.base hu1
    simp -implicitDefEqProofs (disch:=first|omega|(simp only[LnZ];omega))[wrap64, hX, hu1', FU]
    refine (ih hsk2 (Ru1.on H)).go ?_
    intro u2 h2 G
    have H := G.app H
    have FV := G.rep.aExq
    obtain ⟨w2, rfl, _, _, _⟩ := G.unExq
    simp -implicitDefEqProofs (disch:=first|omega|(simp only[LnZ];omega))[wrap64, FU, FV]
    refine HS.blsO2 H.sw1 rfl fun xs h2 H => ?_
    simp -implicitDefEqProofs (disch:=first|omega|(simp only[LnZ];omega))[wrap64, setC, H.rep.cells, H.rep.one]
    exact RetK.keep (hk _ _ (HS.mkExq' (vl := 0) H Fm.dual_ok i64c))
  | false =>
    simp -implicitDefEqProofs (disch:=first|omega|(simp only[LnZ];omega))[wrap64, n1, n2, c3, c6, n9, n10, hX, hu0, hu1]
    refine (ih hsk Ru0).go ?_
    intro u h1 H
    have FU := H.rep.aExq
    obtain ⟨w1, rfl, _, _, _⟩ := H.unExq
    have hu1' := hload_le H.base hu1
    simp -implicitDefEqProofs (disch:=first|omega|(simp only[LnZ];omega))[wrap64, hX, hu1', FU]
    refine (ih hsk2 (Ru1.on H)).go ?_
    intro u2 h2 G
    have H := G.app H
    have FV := G.rep.aExq
    obtain ⟨w2, rfl, _, _, _⟩ := G.unExq
    simp -implicitDefEqProofs (disch:=first|omega|(simp only[LnZ];omega))[wrap64, FU, FV]
    refine HS.blsO2 H.sw1 rfl fun xs h2 H => ?_
    simp -implicitDefEqProofs (disch:=first|omega|(simp only[LnZ];omega))[wrap64, setC, H.rep.cells, H.rep.one]
    exact RetK.keep (hk _ _ (HS.mkExq' (vl := 0) H k1 i64c))
end Go.Proofs.Ytglnelcmcimljaa

namespace Go.Proofs.Ytglnelcmcimljaa
open Go
structure Tr where
  frm : Int
  care : Int
  value : Int
  to : Int
deriving DecidableEq
instance instTyTr : Ty Tr := Ty.via fun (t : Tr) => (t.frm, t.care, t.value, t.to)
theorem Tr.ext_iff' {a b : Tr} : a = b ↔ a.frm = b.frm ∧ a.care = b.care ∧ a.value = b.value ∧ a.to = b.to := by
  cases a; cases b; simp
instance instFlatTr : Flat Tr := Flat.via fun (t : Tr) => (t.frm, t.care, t.value, t.to)
def Tr.v (t : Tr) : Value := .agg #[.int .i64 t.frm, .int .i64 t.care, .int .i64 t.value, .int .i64 t.to]
structure Tr.ok (t : Tr) : Prop where
  frm : -9223372036854775808 ≤ t.frm ∧ t.frm < 9223372036854775808
  care : -9223372036854775808 ≤ t.care ∧ t.care < 9223372036854775808
  value : -9223372036854775808 ≤ t.value ∧ t.value < 9223372036854775808
  to : -9223372036854775808 ≤ t.to ∧ t.to < 9223372036854775808
theorem Tr.ok_iff {t : Tr} : Flat.ok t ↔ t.ok := ⟨fun h => ⟨h.1, h.2.1, h.2.2.1, h.2.2.2⟩, fun h => ⟨h.frm, h.care, h.value, h.to⟩⟩
theorem Rep_Tr {h : Heap} {v : Value} {t : Tr} : Rep h v t ↔ v = t.v ∧ t.ok := by rw [Rep_flat, Tr.ok_iff]; rfl
theorem Rep.ldTr {h : Heap} {v : Value} {l : List Tr} (hr : Rep h v l) {i : Nat} (hi : i < l.length) : hload h (some (elp 4 v i)) (some 4) = some l[i].v := hr.ldF hi
theorem Rep.okTr {h : Heap} {v : Value} {l : List Tr} (hr : Rep h v l) {i : Nat} (hi : i < l.length) : l[i].ok := Tr.ok_iff.1 (hr.okF hi)
theorem Rep.xTr {h : Heap} {v : Value} {l : List Tr} (hr : Rep h v l) : ((∀ (kd : IntKind) (i : Nat), i < l.length → iaV 4 v (.int kd i) = some (elp 4 v i)) ∧ (∀ (kd : IntKind) (i : Int), 0 ≤ i → i < l.length → iaV 4 v (.int kd i) = some (elp 4 v i.toNat)) ∧ lenVV v = some (.int .i64 l.length)) ∧
    ∀ (i : Nat) (hi : i < l.length), hload h (some (elp 4 v i)) (some 4) = some l[i].v := ⟨hr.X rfl, fun _ hi => hr.ldTr hi⟩
theorem Rep.fTr {h : Heap} {v : Value} {l : List Tr} (hr : Rep h v l) : (∀ (i fo : Nat), i < l.length → faV fo (elp 4 v i) = some (elpo 4 v i fo)) ∧ (∀ (i : Nat) (hi : i < l.length), hload h (some (elpo 4 v i 0)) none = some (.int .i64 l[i].frm)) ∧ (∀ (i : Nat) (hi : i < l.length), hload h (some (elpo 4 v i 1)) none = some (.int .i64 l[i].care)) ∧ (∀ (i : Nat) (hi : i < l.length), hload h (some (elpo 4 v i 2)) none = some (.int .i64 l[i].value)) ∧ (∀ (i : Nat) (hi : i < l.length), hload h (some (elpo 4 v i 3)) none = some (.int .i64 l[i].to)) := ⟨fun _ _ hi => hr.fa hi, fun _ hi => hr.fld hi rfl rfl, fun _ hi => hr.fld hi rfl rfl, fun _ hi => hr.fld hi rfl rfl, fun _ hi => hr.fld hi rfl rfl⟩
instance instSzTr : Sz Tr := ⟨fun a => Sz.sz a.frm + Sz.sz a.care + Sz.sz a.value + Sz.sz a.to⟩
instance instMkTr : Mk Tr := ⟨fun a => Mk.cnt a.frm + Mk.cnt a.care + Mk.cnt a.value + Mk.cnt a.to,
  fun k a => ⟨Mk.wr (k) a.frm, Mk.wr (k + Mk.cnt a.frm) a.care, Mk.wr (k + Mk.cnt a.frm + Mk.cnt a.care) a.value, Mk.wr (k + Mk.cnt a.frm + Mk.cnt a.care + Mk.cnt a.value) a.to⟩,
  fun k a => by simp [Mk.cnt_wr], fun k j a => by simp [Mk.cnt_wr, Mk.wr_wr]⟩
structure Aut where
  init : List Int
  acc : List Bool
  edges : List Tr
deriving DecidableEq
instance instTyAut : Ty Aut := Ty.via fun (a : Aut) => (a.init, a.acc, a.edges)
theorem Aut.ext_iff' {a b : Aut} : a = b ↔ a.init = b.init ∧ a.acc = b.acc ∧ a.edges = b.edges := by
  cases a; cases b; simp
theorem Rep_Aut {h : Heap} {v : Value} {a : Aut} : Rep h v a ↔ ∃ v1 v2 v3, v = .agg #[v1, v2, v3] ∧ Rep h v1 a.init ∧ Rep h v2 a.acc ∧ Rep h v3 a.edges := by
  constructor
  · rintro ⟨cs, rfl, c0, d0, rfl, h1, c1, d1, rfl, h2, h3⟩
    obtain ⟨v1, rfl, g1⟩ := (rep1 rfl).1 h1
    obtain ⟨v2, rfl, g2⟩ := (rep1 rfl).1 h2
    obtain ⟨v3, rfl, g3⟩ := (rep1 rfl).1 h3
    exact ⟨v1, v2, v3, rfl, g1, g2, g3⟩
  · rintro ⟨v1, v2, v3, rfl, h1, h2, h3⟩
    exact ⟨[v1, v2, v3], rfl, ⟨[v1], [v2, v3], rfl, (rep1 rfl).2 ⟨_, rfl, h1⟩, ⟨[v2], [v3], rfl, (rep1 rfl).2 ⟨_, rfl, h2⟩, (rep1 rfl).2 ⟨_, rfl, h3⟩⟩⟩⟩
theorem HS.unAut {g h : Heap} {Γ : List HP} {v : Value} {a : Aut} (H : HS g (ow v a :: Γ) h) : ∃ v1 v2 v3, v = .agg #[v1, v2, v3] ∧ HS g (ow v1 a.init :: ow v2 a.acc :: ow v3 a.edges :: Γ) h := by
  obtain ⟨cs, rfl, H0⟩ := HS.unvia (fun (a : Aut) => (a.init, a.acc, a.edges)) H
  try dsimp only at H0
  obtain ⟨c0, e0, rfl, H1a⟩ := HS.unprod H0
  obtain ⟨v1, rfl, H1b⟩ := HS.unone rfl H1a
  have H1 := H1b.sw1
  obtain ⟨c1, e1, rfl, H2a⟩ := HS.unprod H1
  obtain ⟨v2, rfl, H2b⟩ := HS.unone rfl H2a
  have H2 := H2b.sw1
  obtain ⟨v3, rfl, HL⟩ := HS.unone rfl H2
  exact ⟨v1, v2, v3, rfl, HL.sw1.sw2⟩
theorem HS.mkAut {g h : Heap} {Γ : List HP} {v1 v2 v3 : Value} {a : Aut} (H : HS g (ow v1 a.init :: ow v2 a.acc :: ow v3 a.edges :: Γ) h) : HS g (ow (.agg #[v1, v2, v3]) a :: Γ) h := by
  refine HS.via (fun (a : Aut) => (a.init, a.acc, a.edges)) ?_
  exact HS.prod rfl (H.under fun _ H => HS.prod rfl (H.under fun _ H => HS.one rfl H))
theorem Rep.aAut {h : Heap} {v : Value} {x : Aut} (hr : Rep h v x) : pgetV (some v) 0 (some 3) = some v ∧ v.cells.size = 3 ∧ allOne v.cells.toList = true ∧ Value.agg v.cells = v := hr.A rfl rfl
instance instSzAut : Sz Aut := ⟨fun a => Sz.sz a.init + Sz.sz a.acc + Sz.sz a.edges⟩
instance instMkAut : Mk Aut := ⟨fun a => Mk.cnt a.init + Mk.cnt a.acc + Mk.cnt a.edges,
  fun k a => ⟨Mk.wr (k) a.init, Mk.wr (k + Mk.cnt a.init) a.acc, Mk.wr (k + Mk.cnt a.init + Mk.cnt a.acc) a.edges⟩,
  fun k a => by simp [Mk.cnt_wr], fun k j a => by simp [Mk.cnt_wr, Mk.wr_wr]⟩
structure Las where
  stem : List Int
  loop : List Int
deriving DecidableEq
instance instTyLas : Ty Las := Ty.via fun (l : Las) => (l.stem, l.loop)
theorem Las.ext_iff' {a b : Las} : a = b ↔ a.stem = b.stem ∧ a.loop = b.loop := by
  cases a; cases b; simp
instance instSzLas : Sz Las := ⟨fun a => Sz.sz a.stem + Sz.sz a.loop⟩
instance instMkLas : Mk Las := ⟨fun a => Mk.cnt a.stem + Mk.cnt a.loop,
  fun k a => ⟨Mk.wr (k) a.stem, Mk.wr (k + Mk.cnt a.stem) a.loop⟩,
  fun k a => by simp [Mk.cnt_wr], fun k j a => by simp [Mk.cnt_wr, Mk.wr_wr]⟩
end Go.Proofs.Ytglnelcmcimljaa

namespace Go.Proofs.Ytglnelcmcimljaa
open Go
namespace Fm
def has (s : Nat) (i : Int) : Bool := decide (0 ≤ i) && s.testBit i.toNat
theorem has_nat {s i : Nat} : has s (i : Int) = s.testBit i := by simp [has]
mutual
noncomputable def val (B : List Exq) (s : Nat) : Exq → Bool
  | .mk k v l => if k = 1 then true else if k = 3 then !(vals B s l).getD 0 false else if k = 4 then (vals B s l).getD 0 false && (vals B s l).getD 1 false
    else if k = 5 then (vals B s l).getD 0 false || (vals B s l).getD 1 false else has s (fx B (.mk k v l))
noncomputable def vals (B : List Exq) (s : Nat) : List Exq → List Bool
  | [] => []
  | x :: l => val B s x :: vals B s l
end
theorem vals_eq {B : List Exq} {s : Nat} : ∀ l, vals B s l = l.map (val B s)
  | [] => rfl
  | x :: l => by simp only [vals, List.map_cons, vals_eq l]
noncomputable def kv (B : List Exq) (s : Nat) (x : Exq) (j : Nat) : Bool := (x.kids.map (val B s)).getD j false
theorem kv_at {B : List Exq} {s : Nat} {x : Exq} {j : Nat} (hj : j < x.kids.length) : kv B s x j = val B s x.kids[j] := by simp [kv, hj]
theorem val_eq {B : List Exq} {s : Nat} (x : Exq) : val B s x = if x.kind = 1 then true else if x.kind = 3 then !kv B s x 0 else if x.kind = 4 then kv B s x 0 && kv B s x 1
    else if x.kind = 5 then kv B s x 0 || kv B s x 1 else has s (fx B x) := by
  cases x with
  | mk k v l => simp only [val, vals_eq]; rfl
noncomputable def got (B : List Exq) (s t i : Nat) (f : Exq) : Bool :=
  if f.kind = 6 then kv B t f 0 else if f.kind = 7 then kv B s f 1 || kv B s f 0 && t.testBit i else if f.kind = 8 then kv B s f 1 && (kv B s f 0 || t.testBit i) else s.testBit i
def Fol (B : List Exq) (s t : Nat) : Prop := ∀ (i : Nat) (hi : i < B.length), got B s t i B[i] = s.testBit i
noncomputable instance {B : List Exq} {s t : Nat} : Decidable (Fol B s t) := Classical.propDecidable _
noncomputable def ful (B : List Exq) (s : Nat) (u : Int) : Bool := !has s u || kv B s (B.getD u.toNat Exq.zero) 1
def ltc (B : List Exq) : Nat → Nat
  | 0 => 0
  | n + 1 => if (B.getD n Exq.zero).kind = 2 then ltc B n ||| 1 <<< (B.getD n Exq.zero).val.toNat else ltc B n
def ltv (B : List Exq) (s : Nat) : Nat → Nat
  | 0 => 0
  | n + 1 => if (B.getD n Exq.zero).kind = 2 ∧ s.testBit n = true then ltv B s n ||| 1 <<< (B.getD n Exq.zero).val.toNat else ltv B s n
theorem or8 {a b : Nat} (ha : a < 8) (hb : b < 8) : a ||| b < 8 := Nat.or_lt_two_pow (n := 3) ha hb
theorem sh3 {k : Nat} (hk : k < 3) : 1 <<< k < 8 := by
  obtain rfl | rfl | rfl : k = 0 ∨ k = 1 ∨ k = 2 := by omega
  all_goals decide
theorem ltc_lt {B : List Exq} (h : ∀ y ∈ B, Shp 6 y) : ∀ n, n ≤ B.length → ltc B n < 8
  | 0, _ => by simp [ltc]
  | n + 1, hn => by
    have ih := ltc_lt h n (by omega)
    have hm := (h _ (List.getElem_mem (show n < B.length by omega))).nd
    have e : B.getD n Exq.zero = B[n] := by simp [show n < B.length by omega]
    rw [ltc, e]
    split
    · exact or8 ih (sh3 (by have := hm.hi; have := hm.lo; omega))
    · exact ih
theorem ltv_lt {B : List Exq} {s : Nat} (h : ∀ y ∈ B, Shp 6 y) : ∀ n, n ≤ B.length → ltv B s n < 8
  | 0, _ => by simp [ltv]
  | n + 1, hn => by
    have ih := ltv_lt (s := s) h n (by omega)
    have hm := (h _ (List.getElem_mem (show n < B.length by omega))).nd
    have e : B.getD n Exq.zero = B[n] := by simp [show n < B.length by omega]
    rw [ltv, e]
    split
    · exact or8 ih (sh3 (by have := hm.hi; have := hm.lo; omega))
    · exact ih
def unt (B : List Exq) : Nat → List Int
  | 0 => []
  | n + 1 => if (B.getD n Exq.zero).kind = 7 then unt B n ++ [(n : Int)] else unt B n
theorem unt_mem {B : List Exq} : ∀ {n : Nat} {u : Int}, u ∈ unt B n → ∃ m : Nat, u = m ∧ m < n ∧ (B.getD m Exq.zero).kind = 7
  | 0, _, h => by simp [unt] at h
  | n + 1, u, h => by
    rw [unt] at h
    split at h
    · rename_i hk
      rcases List.mem_append.1 h with h | h
      · obtain ⟨m, h1, h2, h3⟩ := unt_mem h
        exact ⟨m, h1, by omega, h3⟩
      · simp at h; exact ⟨n, h, by omega, hk⟩
    · obtain ⟨m, h1, h2, h3⟩ := unt_mem h
      exact ⟨m, h1, by omega, h3⟩
theorem unt_len {B : List Exq} : ∀ n, (unt B n).length ≤ n
  | 0 => by simp [unt]
  | n + 1 => by
    have := unt_len (B := B) n
    rw [unt]
    split
    · simp; omega
    · omega
noncomputable def phs (B : List Exq) (U : List Int) (s : Nat) (p : Int) : Int × Bool :=
  if U.length = 0 then (0, true) else if ful B s (U.getD p.toNat 0) then ((p + 1).tmod U.length, decide (p = 0)) else (p, false)
def POk (U : List Int) (p : Int) : Prop := 0 ≤ p ∧ (p < U.length ∨ p = 0)
theorem phs_ok {B : List Exq} {U : List Int} {s : Nat} {p : Int} (h : POk U p) : POk U (phs B U s p).1 := by
  unfold phs
  by_cases h1 : U.length = 0
  · rw [if_pos h1]; exact ⟨by simp, .inr rfl⟩
  · have hU : (0 : Int) < U.length := by omega
    have h2 : (0 : Int) ≤ p + 1 := by have := h.1; omega
    have h3 : 0 ≤ (p + 1).tmod U.length ∧ (p + 1).tmod U.length < U.length := by
      rw [Int.tmod_eq_emod_of_nonneg h2]
      exact ⟨Int.emod_nonneg _ (by omega), Int.emod_lt_of_pos _ hU⟩
    rw [if_neg h1]
    split
    · exact ⟨h3.1, .inl h3.2⟩
    · exact h
def atL (L : List (List Int)) (p : List Int) : Int := match L.findIdx? (fun y => decide (y = p)) with | some i => (i : Int) | .none => (L.length : Int)
def adL (L : List (List Int)) (p : List Int) : List (List Int) := if p ∈ L then L else L ++ [p]
theorem atL_at {xs : List (List Int)} {st : List Int} {i : Nat} (hi : i < xs.length) (he : xs[i] = st) (hn : ∀ (j : Nat) (hj : j < xs.length), j < i → xs[j] ≠ st) : atL xs st = i := by
  have : xs.findIdx? (fun y => decide (y = st)) = some i := by
    rw [List.findIdx?_eq_some_iff_getElem]
    exact ⟨hi, by simpa using he, fun j hj => by simpa using hn j (by omega) hj⟩
  rw [atL, this]
theorem atL_not {xs : List (List Int)} {st : List Int} (h : st ∉ xs) : atL xs st = xs.length := by
  have : xs.findIdx? (fun y => decide (y = st)) = .none := by
    rw [List.findIdx?_eq_none_iff]
    intro y hy
    simp only [decide_eq_false_iff_not]
    rintro rfl
    exact h hy
  rw [atL, this]
theorem adL_len {L : List (List Int)} {p : List Int} : L.length ≤ (adL L p).length ∧ (adL L p).length ≤ L.length + 1 := by
  unfold adL; split <;> simp
theorem atL_lt {L : List (List Int)} {p : List Int} : 0 ≤ atL L p ∧ atL L p < (adL L p).length := by
  by_cases h : p ∈ L
  · rw [adL, if_pos h]
    unfold atL
    split
    · rename_i i hi
      rw [List.findIdx?_eq_some_iff_getElem] at hi
      obtain ⟨h1, _⟩ := hi
      omega
    · rename_i hn
      rw [List.findIdx?_eq_none_iff] at hn
      have := hn p h
      simp at this
  · rw [atL_not h, adL, if_neg h]
    simp
    omega
noncomputable def trow (B : List Exq) (i : Nat) (s : Nat) (p : Int) : Nat → List (List Int) × List Tr → List (List Int) × List Tr
  | 0, q => q
  | n + 1, q => let r := trow B i s p n q
    if Fol B s n then (adL r.1 [(n : Int), p], r.2 ++ [⟨(i : Int), (ltc B B.length : Nat), (ltv B s B.length : Nat), atL r.1 [(n : Int), p]⟩]) else r
noncomputable def tN (B : List Exq) (U : List Int) (L0 : List (List Int)) : Nat → List (List Int) × List Bool × List Tr
  | 0 => (L0, [], [])
  | n + 1 => let r := tN B U L0 n
    if n < r.1.length ∧ r.1.length ≤ 64 then
      let s := ((r.1.getD n []).getD 0 0).toNat
      let ph := phs B U s ((r.1.getD n []).getD 1 0)
      let q := trow B n s ph.1 (2 ^ B.length) (r.1, r.2.2)
      (q.1, r.2.1 ++ [ph.2], q.2)
    else r
def LOk2 (c : Nat) (U : List Int) (L : List (List Int)) : Prop := ∀ x ∈ L, ∃ (s : Nat) (p : Int), x = [(s : Int), p] ∧ s < c ∧ POk U p
theorem LOk2.add {c : Nat} {U : List Int} {L : List (List Int)} (h : LOk2 c U L) {s : Nat} {p : Int} (hs : s < c) (hp : POk U p) : LOk2 c U (adL L [(s : Int), p]) := by
  unfold adL
  split
  · exact h
  · intro x hx
    rcases List.mem_append.1 hx with hx | hx
    · exact h x hx
    · simp at hx; exact ⟨s, p, hx, hs, hp⟩
structure TRow (B : List Exq) (U : List Int) (c i n : Nat) (q r : List (List Int) × List Tr) : Prop where
  ok : LOk2 c U r.1
  ge : q.1.length ≤ r.1.length
  le : r.1.length ≤ q.1.length + n
  el : r.2.length ≤ q.2.length + n
  pre : ∃ t, r.1 = q.1 ++ t
  ed : ∀ e ∈ r.2, e ∈ q.2 ∨ (e.frm = i ∧ 0 ≤ e.to ∧ e.to < r.1.length ∧ e.care = (ltc B B.length : Nat) ∧ ∃ s : Nat, e.value = (ltv B s B.length : Nat))
theorem adL_pre {L : List (List Int)} {p : List Int} : ∃ t, adL L p = L ++ t := by
  unfold adL; split
  · exact ⟨[], by simp⟩
  · exact ⟨_, rfl⟩
theorem trow_inv {B : List Exq} {U : List Int} {c i s : Nat} {p : Int} {q : List (List Int) × List Tr} (hq : LOk2 c U q.1) (hp : POk U p) : ∀ n, n ≤ c → TRow B U c i n q (trow B i s p n q)
  | 0, _ => ⟨hq, Nat.le_refl _, by simp [trow], by simp [trow], ⟨[], by simp [trow]⟩, fun e he => .inl he⟩
  | n + 1, hn => by
    have ih := trow_inv (s := s) (i := i) (B := B) hq hp n (by omega)
    unfold trow
    simp only
    split
    · have hl := adL_len (L := (trow B i s p n q).1) (p := [(n : Int), p])
      have h1 := ih.ge
      have h2 := ih.le
      have h3 := ih.el
      have ha := atL_lt (L := (trow B i s p n q).1) (p := [(n : Int), p])
      obtain ⟨t, ht⟩ := ih.pre
      obtain ⟨t', ht'⟩ := adL_pre (L := (trow B i s p n q).1) (p := [(n : Int), p])
      refine ⟨ih.ok.add (by omega) hp, by simp only; omega, by simp only; omega, by simp only [List.length_append, List.length_singleton]; omega, ⟨t ++ t', by simp only; rw [ht', ht, List.append_assoc]⟩, fun e he => ?_⟩
      simp only at he
      rcases List.mem_append.1 he with he | he
      · rcases ih.ed e he with h | ⟨e1, e2, e3, e4, e5⟩
        · exact .inl h
        · exact .inr ⟨e1, e2, by simp only; omega, e4, e5⟩
      · rw [List.mem_singleton] at he
        subst he
        exact .inr ⟨rfl, ha.1, ha.2, rfl, s, rfl⟩
    · exact ⟨ih.ok, ih.ge, by have := ih.le; omega, by have := ih.el; omega, ih.pre, ih.ed⟩
structure TInv (B : List Exq) (U : List Int) (n : Nat) (r : List (List Int) × List Bool × List Tr) : Prop where
  ok : LOk2 (2 ^ B.length) U r.1
  al : r.2.1.length ≤ n ∧ r.2.1.length ≤ r.1.length
  el : r.2.2.length ≤ n * 2 ^ B.length
  ll : r.1.length ≤ 64 + 2 ^ B.length
  ed : ∀ e ∈ r.2.2, 0 ≤ e.frm ∧ e.frm < r.1.length ∧ 0 ≤ e.to ∧ e.to < r.1.length ∧ e.care = (ltc B B.length : Nat) ∧ ∃ s : Nat, e.value = (ltv B s B.length : Nat)
theorem tN_inv {B : List Exq} {U : List Int} {L0 : List (List Int)} (h0 : LOk2 (2 ^ B.length) U L0) (hl : L0.length ≤ 2 ^ B.length) : ∀ n, TInv B U n (tN B U L0 n)
  | 0 => ⟨h0, by simp [tN], by simp [tN], by simp only [tN]; omega, fun e he => by simp [tN] at he⟩
  | n + 1 => by
    have ih := tN_inv h0 hl n
    unfold tN
    simp only
    split
    · rename_i hc
      obtain ⟨h1, h2⟩ := hc
      obtain ⟨s, p, e, hs, hp⟩ := ih.ok _ (List.getElem_mem h1)
      have eg : (tN B U L0 n).1.getD n [] = [(s : Int), p] := by rw [List.getD_eq_getElem?_getD, List.getElem?_eq_getElem h1, ← e]; rfl
      have I := trow_inv (B := B) (s := s) (i := n) (p := (phs B U s p).1) (q := ((tN B U L0 n).1, (tN B U L0 n).2.2)) ih.ok (phs_ok (B := B) (s := s) hp) (2 ^ B.length) (Nat.le_refl _)
      simp only [eg, List.getD_cons_zero, List.getD_cons_succ, Int.toNat_natCast]
      have i1 := I.ge
      have i2 := I.le
      have i3 := I.el
      have i4 := ih.al
      have i5 := ih.el
      simp only at i1 i2 i3
      refine ⟨I.ok, by simp only [List.length_append, List.length_singleton]; omega, by simp only [Nat.add_mul]; omega, by simp only; omega, fun e he => ?_⟩
      rcases I.ed e he with h | ⟨e1, e2, e3, e4, e5⟩
      · obtain ⟨f1, f2, f3, f4, f5⟩ := ih.ed e h
        exact ⟨f1, by simp only; omega, f3, by simp only; omega, f5⟩
      · exact ⟨by omega, by simp only; omega, e2, e3, e4, e5⟩
    · have i4 := ih.al
      have i5 := ih.el
      exact ⟨ih.ok, by omega, by rw [Nat.add_mul]; omega, ih.ll, ih.ed⟩
theorem tN_al {B : List Exq} {U : List Int} {L0 : List (List Int)} : ∀ n, (∀ m, m < n → m < (tN B U L0 m).1.length ∧ (tN B U L0 m).1.length ≤ 64) → (tN B U L0 n).2.1.length = n
  | 0, _ => rfl
  | n + 1, h => by
    have ih := tN_al (B := B) (U := U) (L0 := L0) n (fun m hm => h m (by omega))
    unfold tN
    simp only
    rw [if_pos (h n (by omega))]
    simp [ih]
theorem tN_stop {B : List Exq} {U : List Int} {L0 : List (List Int)} {n : Nat} (h : ¬ (n < (tN B U L0 n).1.length ∧ (tN B U L0 n).1.length ≤ 64)) : ∀ m, n ≤ m → tN B U L0 m = tN B U L0 n
  | m, hm => by
    induction m with
    | zero => obtain rfl : n = 0 := by omega
              rfl
    | succ m ih =>
      by_cases e : n = m + 1
      · rw [e]
      · have h1 := ih (by omega)
        rw [tN]
        simp only
        rw [h1, if_neg (by omega)]
theorem tN_big {B : List Exq} {U : List Int} {L0 : List (List Int)} {n : Nat} (h : 64 < (tN B U L0 n).1.length) : ∀ m, n ≤ m → 64 < (tN B U L0 m).1.length := fun m hm => by
  rw [tN_stop (by omega) m hm]; exact h
theorem tN_succ {B : List Exq} {U : List Int} {L0 : List (List Int)} {n : Nat} (h1 : n < (tN B U L0 n).1.length) (h2 : (tN B U L0 n).1.length ≤ 64) {s : Nat} {p : Int} (e : (tN B U L0 n).1[n] = [(s : Int), p]) :
    tN B U L0 (n + 1) = ((trow B n s (phs B U s p).1 (2 ^ B.length) ((tN B U L0 n).1, (tN B U L0 n).2.2)).1, (tN B U L0 n).2.1 ++ [(phs B U s p).2], (trow B n s (phs B U s p).1 (2 ^ B.length) ((tN B U L0 n).1, (tN B U L0 n).2.2)).2) := by
  have eg : (tN B U L0 n).1.getD n [] = [(s : Int), p] := by rw [List.getD_eq_getElem?_getD, List.getElem?_eq_getElem h1, ← e]; rfl
  rw [tN]
  simp only
  rw [if_pos ⟨h1, h2⟩]
  simp only [eg, List.getD_cons_zero, List.getD_cons_succ, Int.toNat_natCast]
noncomputable def ini0 (B : List Exq) (g : Exq) : Nat → List (List Int)
  | 0 => []
  | n + 1 => if val B n g then ini0 B g n ++ [[(n : Int), 0]] else ini0 B g n
theorem ini0_len {B : List Exq} {g : Exq} : ∀ n, (ini0 B g n).length ≤ n
  | 0 => by simp [ini0]
  | n + 1 => by
    have := ini0_len (B := B) (g := g) n
    rw [ini0]
    split
    · simp; omega
    · omega
theorem ini0_ok {B : List Exq} {g : Exq} {U : List Int} : ∀ {n c : Nat}, n ≤ c → LOk2 c U (ini0 B g n)
  | 0, _, _ => fun x hx => by simp [ini0] at hx
  | n + 1, c, h => by
    have ih := ini0_ok (B := B) (g := g) (U := U) (n := n) (c := c) (by omega)
    rw [ini0]
    split
    · intro x hx
      rcases List.mem_append.1 hx with hx | hx
      · exact ih x hx
      · simp at hx; exact ⟨n, 0, hx, by omega, by simp [POk]⟩
    · exact ih
def upto (n : Nat) : List Int := (List.range n).map fun (i : Nat) => (i : Int)
theorem upto_succ {n : Nat} : upto (n + 1) = upto n ++ [(n : Int)] := by simp [upto, List.range_succ]
noncomputable def trT (x : Exq) : List (List Int) × List Bool × List Tr := tN (basics x) (unt (basics x) (basics x).length) (ini0 (basics x) (push x false) (2 ^ (basics x).length)) 64
def trOk (x : Exq) : Prop := bOk x ∧ (trT x).1.length ≤ 64
noncomputable instance {x : Exq} : Decidable (trOk x) := Classical.propDecidable _
noncomputable def trA (x : Exq) : Aut := ⟨upto (ini0 (basics x) (push x false) (2 ^ (basics x).length)).length, if (trT x).1 = [] then [false] else (trT x).2.1, (trT x).2.2⟩
noncomputable def trR (x : Exq) : Aut := if trOk x then trA x else ⟨[], [], []⟩
end Fm
end Go.Proofs.Ytglnelcmcimljaa

namespace Go.Proofs.Ytglnelcmcimljaa
open Go
theorem u64_any {i : Int} : IntKind.u64.wrap i = i % 18446744073709551616 := by simp [IntKind.wrap, IntKind.signed, IntKind.bits]
theorem u64_nn {i : Int} : ¬ IntKind.u64.wrap i < 0 := by rw [u64_any]; omega
theorem u64_pos {i : Int} (h0 : 0 ≤ i) (h1 : i < 9223372036854775808) : IntKind.u64.wrap i = i := by rw [u64_any]; omega
theorem bv_nat {m : Nat} (hm : m < 9223372036854775808) : (BitVec.ofInt 64 (m : Int)).toNat = m := by
  rw [BitVec.toNat_ofInt]
  have : (m : Int) % (2 ^ 64 : Nat) = m := Int.emod_eq_of_lt (by omega) (by omega)
  rw [this]
  rfl
theorem i64_and {a b : Nat} (ha : a < 9223372036854775808) (hb : b < 9223372036854775808) : andI .i64 (a : Int) (b : Int) = ((a &&& b : Nat) : Int) := by
  unfold andI
  rw [show IntKind.i64.bits = 64 from rfl, BitVec.toNat_and, bv_nat ha, bv_nat hb]
  have : a &&& b ≤ a := Nat.and_le_left
  exact wrap64 (by omega) (by omega)
theorem i64_or {a b : Nat} (ha : a < 4611686018427387904) (hb : b < 4611686018427387904) : orI .i64 (a : Int) (b : Int) = ((a ||| b : Nat) : Int) := by
  unfold orI
  rw [show IntKind.i64.bits = 64 from rfl, BitVec.toNat_or, bv_nat (by omega), bv_nat (by omega)]
  have : a ||| b < 2 ^ 62 := Nat.or_lt_two_pow (by omega) (by omega)
  exact wrap64 (by omega) (by omega)
theorem i64_shl1 {j : Nat} (hj : j < 60) : shlI .i64 1 (j : Int) = ((1 <<< j : Nat) : Int) := by
  unfold shlI
  rw [show IntKind.i64.bits = 64 from rfl, Int.toNat_natCast, Nat.min_eq_left (by omega), Nat.shiftLeft_eq]
  have h1 : (2 : Nat) ^ j < 2 ^ 60 := Nat.pow_lt_pow_right (by omega) hj
  have h2 : ((2 : Int) ^ j) = ((2 ^ j : Nat) : Int) := by push_cast; rfl
  rw [h2]
  generalize 2 ^ j = q at *
  rw [wrap64 (by omega) (by omega)]
  simp
theorem i64_shr {s j : Nat} : shrI .i64 (s : Int) (j : Int) = ((s / 2 ^ (min j 64) : Nat) : Int) := by
  unfold shrI
  rw [show IntKind.i64.bits = 64 from rfl, Int.toNat_natCast, Int.fdiv_eq_ediv_of_nonneg _ (by exact Int.le_of_lt (Int.pow_pos (by omega)))]
  push_cast
  rfl
theorem has_eq {s : Nat} {i : Int} (hs : s < 4611686018427387904) (hi : I64 i) : (andI .i64 (shrI .i64 (s : Int) (IntKind.u64.wrap i)) 1 = 1) ↔ Fm.has s i = true := by
  have key : ∀ j : Nat, (andI .i64 (shrI .i64 (s : Int) (j : Int)) 1 = 1) ↔ s / 2 ^ (min j 64) % 2 = 1 := fun j => by
    rw [i64_shr]
    have h1 : s / 2 ^ (min j 64) ≤ s := Nat.div_le_self _ _
    rw [show (1 : Int) = ((1 : Nat) : Int) from rfl, i64_and (by omega) (by omega), Nat.and_one_is_mod]
    omega
  by_cases h0 : 0 ≤ i
  · obtain ⟨n, rfl⟩ : ∃ n : Nat, i = n := ⟨i.toNat, (Int.toNat_of_nonneg h0).symm⟩
    rw [u64_pos h0 hi.2, key, Fm.has_nat, Nat.testBit_eq_decide_div_mod_eq, decide_eq_true_eq]
    by_cases h1 : n ≤ 64
    · rw [Nat.min_eq_left h1]
    · rw [Nat.min_eq_right (by omega)]
      have e1 : s / 2 ^ 64 = 0 := Nat.div_eq_of_lt (by omega)
      have e2 : s / 2 ^ n = 0 := Nat.div_eq_of_lt (Nat.lt_of_lt_of_le (by omega : s < 2 ^ 64) (Nat.pow_le_pow_right (by omega) (by omega)))
      rw [e1, e2]
  · have h2 := hi.1
    obtain ⟨n, hn⟩ : ∃ n : Nat, IntKind.u64.wrap i = n := ⟨(IntKind.u64.wrap i).toNat, by rw [u64_any]; omega⟩
    have hn2 : 64 ≤ n := by rw [u64_any] at hn; omega
    rw [hn, key, Nat.min_eq_right hn2]
    have e1 : s / 2 ^ 64 = 0 := Nat.div_eq_of_lt (by omega)
    rw [e1]
    simp [Fm.has, h0]
end Go.Proofs.Ytglnelcmcimljaa

namespace Go.Proofs.Ytglnelcmcimljaa
open Go
theorem c_spec_NormalForm {h : Heap} {v : Value} {x : Exq} (R : Rep h v x) : CallE Try.prog fn_spec_NormalForm [v] h (fun u h' => ∃ w, u = .tuple #[w, .bool (decide (Fm.Ok x ∧ Fm.Ok (Fm.push x false)))] ∧ HS h [ow w (Fm.nfR x)] h') := by
  have FX := R.aExq
  have z0 : ∀ {h'}, h.le h' → ¬ (Fm.Ok x ∧ Fm.Ok (Fm.push x false)) → HS h [ow (.agg #[.int .i64 0, .int .i64 0, .slice none 0 0]) (Fm.nfR x)] h' := fun hl hn => by
    rw [Fm.nfR, if_neg hn]
    exact HS.leaf (Γ := []) hl i64c i64c
  refine CallE.gen fun k hk => EN_spec_NormalForm rfl ?_
  simp -implicitDefEqProofs (disch:=first|omega|(simp only[LnZ];omega))[wrap64, FX]
  refine (c_spec_FormulaValid R).go ?_
  rintro _ _ ⟨rfl, rfl⟩
  by_cases q1 : Fm.Ok x
  case neg =>
    simp -implicitDefEqProofs (disch:=first|omega|(simp only[LnZ];omega))[wrap64, q1, setC]
    exact RetK.keep (hk _ _ ⟨_, by rw [decide_eq_false (fun hh => q1 hh.1)], z0 (Heap.le.refl _) (fun hh => q1 hh.1)⟩)
  simp -implicitDefEqProofs (disch:=first|omega|(simp only[LnZ];omega))[wrap64, q1, FX]
  refine (c_l5Push 6 q1.1 R).go ?_
  intro u h1 H
  have FU := H.rep.aExq
  simp -implicitDefEqProofs (disch:=first|omega|(simp only[LnZ];omega))[wrap64, FU]
  refine (c_spec_FormulaValid H.rep).go ?_
  rintro _ _ ⟨rfl, rfl⟩
  by_cases q2 : Fm.Ok (Fm.push x false)
  case neg =>
    simp -implicitDefEqProofs (disch:=first|omega|(simp only[LnZ];omega))[wrap64, q2, setC]
    exact RetK.keep (hk _ _ ⟨_, by rw [decide_eq_false (fun hh => q2 hh.2)], z0 H.base (fun hh => q2 hh.2)⟩)
  simp -implicitDefEqProofs (disch:=first|omega|(simp only[LnZ];omega))[wrap64, q2, FU, setC]
  exact RetK.keep (hk _ _ ⟨_, by rw [decide_eq_true ⟨q1, q2⟩], by rw [Fm.nfR, if_pos ⟨q1, q2⟩]; exact H⟩)
theorem c_l7Basic {h : Heap} {v : Value} {x : Exq} (R : Rep h v x) : CallE Try.prog fn_spec_l7Basic [v] h (fun u h' => h' = h ∧ u = .bool (Fm.bas x)) := by
  obtain ⟨w, rfl, k1, k2, R1⟩ := Rep_Exq.1 R
  refine CallE.gen fun k hk => EN_spec_l7Basic rfl ?_
  by_cases c2 : x.kind = 2
  · simp -implicitDefEqProofs (disch:=first|omega|(simp only[LnZ];omega))[wrap64, c2]
    exact RetK.keep (hk _ _ ⟨rfl, by simp [Fm.bas, c2]⟩)
  by_cases c6 : x.kind = 6
  · simp -implicitDefEqProofs (disch:=first|omega|(simp only[LnZ];omega))[wrap64, c2, c6]
    exact RetK.keep (hk _ _ ⟨rfl, by simp [Fm.bas, c6]⟩)
  by_cases c7 : x.kind = 7
  · simp -implicitDefEqProofs (disch:=first|omega|(simp only[LnZ];omega))[wrap64, c2, c6, c7]
    exact RetK.keep (hk _ _ ⟨rfl, by simp [Fm.bas, c7]⟩)
  simp -implicitDefEqProofs (disch:=first|omega|(simp only[LnZ];omega))[wrap64, c2, c6, c7]
  exact RetK.keep (hk _ _ ⟨rfl, by simp [Fm.bas, c2, c6, c7]⟩)
theorem c_l6Has {h : Heap} {s : Nat} {i : Int} (hs : s < 4611686018427387904) (hi : I64 i) : CallE Try.prog fn_spec_l6Has [.int .i64 s, .int .i64 i] h (fun u h' => h' = h ∧ u = .bool (Fm.has s i)) := by
  have he := has_eq hs hi
  refine CallE.gen fun k hk => EN_spec_l6Has rfl ?_
  cases hh : Fm.has s i with
  | true =>
    have e := he.2 hh
    simp -implicitDefEqProofs (disch:=first|omega|(simp only[LnZ];omega))[wrap64, u64_nn, e]
    exact RetK.keep (hk _ _ ⟨rfl, by rw [hh]⟩)
  | false =>
    have e : ¬ (andI .i64 (shrI .i64 (s : Int) (IntKind.u64.wrap i)) 1 = 1) := fun e => by rw [he.1 e] at hh; exact absurd hh (by decide)
    simp -implicitDefEqProofs (disch:=first|omega|(simp only[LnZ];omega))[wrap64, u64_nn, e]
    exact RetK.keep (hk _ _ ⟨rfl, by rw [hh]⟩)
theorem Fm.fx_i64 {l : List Exq} {x : Exq} (h : l.length < 4611686018427387904) : I64 (Fm.fx l x) := by
  by_cases hm : x ∈ l
  · obtain ⟨i, hi, e, _⟩ := Fm.fx_mem hm
    rw [e]
    exact ⟨by omega, by omega⟩
  · rw [Fm.fx_not hm]
    exact ⟨by decide, by decide⟩
theorem c_l7Value : ∀ (n : Nat) {x : Exq} {h : Heap} {v w : Value} {B : List Exq} {s : Nat}, s < 4611686018427387904 → Fm.Shp n x → Rep h w B → Rep h v x → CallE Try.prog fn_spec_l7Value [w, .int .i64 s, v] h (fun u h' => h' = h ∧ u = .bool (Fm.val B s x)) := by
  intro n
  induction n with
  | zero => intro x h v w B s _ hs; exact hs.elim
  | succ n ih =>
  intro x h v w B s hsn hs RB R
  have FX := R.aExq
  have R0 := R
  have hL := RB.lt
  obtain ⟨wk, rfl, k1, k2, R1⟩ := Rep_Exq.1 R
  have hve := Fm.val_eq (B := B) (s := s) x
  refine CallE.gen fun k hk => EN_spec_l7Value rfl ?_
  rw [hve] at hk
  by_cases c1 : x.kind = 1
  · simp -implicitDefEqProofs (disch:=first|omega|(simp only[LnZ];omega))[wrap64, c1]
    exact RetK.keep (hk _ _ ⟨rfl, by rw [if_pos c1]⟩)
  rw [if_neg c1] at hk
  have kid : ∀ {j : Nat} (hj : j < x.kids.length), ∃ u, hload h (some (elp 3 wk j)) (some 3) = some u ∧ Rep h u x.kids[j] := fun hj => R1.ld hj
  have hX := R1.X (n := 3) rfl
  by_cases c3 : x.kind = 3
  · rw [if_pos c3] at hk
    have hl := hs.one (.inl c3)
    obtain ⟨u0, hu0, Ru0⟩ := kid (j := 0) (by omega)
    rw [Fm.kv_at (j := 0) (by omega)] at hk
    simp -implicitDefEqProofs (disch:=first|omega|(simp only[LnZ];omega))[wrap64, c1, c3, hX, hu0]
    refine (ih hsn (hs.kid (i := 0) (by omega)) RB Ru0).go ?_
    rintro _ _ ⟨rfl, rfl⟩
    simp -implicitDefEqProofs (disch:=first|omega|(simp only[LnZ];omega))[wrap64]
    exact RetK.keep (hk _ _ ⟨rfl, rfl⟩)
  rw [if_neg c3] at hk
  by_cases c45 : x.kind = 4 ∨ x.kind = 5
  · have hl := hs.two (by omega)
    obtain ⟨u0, hu0, Ru0⟩ := kid (j := 0) (by omega)
    obtain ⟨u1, hu1, Ru1⟩ := kid (j := 1) (by omega)
    rw [Fm.kv_at (j := 0) (by omega), Fm.kv_at (j := 1) (by omega)] at hk
    have i0 : ∀ {k : Value → Heap → Prop}, (∀ u h', h' = h ∧ u = Value.bool (Fm.val B s x.kids[0]) → k u h') → CallE Try.prog fn_spec_l7Value [w, .int .i64 s, u0] h k := fun hk => (ih hsn (hs.kid (i := 0) (by omega)) RB Ru0).mono hk
    cases hv0 : Fm.val B s x.kids[0]
    all_goals
      rw [hv0] at hk
      rcases c45 with c4 | c4
      all_goals
        simp -implicitDefEqProofs (disch:=first|omega|(simp only[LnZ];omega))[wrap64, c1, c3, c4, hX, hu0]
        refine (ih hsn (hs.kid (i := 0) (by omega)) RB Ru0).go ?_
        rintro _ _ ⟨rfl, rfl⟩
        simp -implicitDefEqProofs (disch:=first|omega|(simp only[LnZ];omega))[wrap64, hv0, c4, hX, hu1]
        first
          | exact RetK.keep (hk _ _ ⟨rfl, by simp [c4]⟩)
          | (refine (ih hsn (hs.kid (i := 1) (by omega)) RB Ru1).go ?_
             rintro _ _ ⟨rfl, rfl⟩
             simp -implicitDefEqProofs (disch:=first|omega|(simp only[LnZ];omega))[wrap64]
             exact RetK.keep (hk _ _ ⟨rfl, by simp [c4]⟩))
  have c4 : ¬ x.kind = 4 := fun e => c45 (.inl e)
  have c5 : ¬ x.kind = 5 := fun e => c45 (.inr e)
  rw [if_neg c4, if_neg c5] at hk
  simp -implicitDefEqProofs (disch:=first|omega|(simp only[LnZ];omega))[wrap64, c1, c3, c4, c5, FX]
  refine (c_l5Find RB R0).go ?_
  rintro _ _ ⟨rfl, rfl⟩
  simp -implicitDefEqProofs (disch:=first|omega|(simp only[LnZ];omega))[wrap64]
  refine (c_l6Has hsn (Fm.fx_i64 hL)).go ?_
  rintro _ _ ⟨rfl, rfl⟩
  simp -implicitDefEqProofs (disch:=first|omega|(simp only[LnZ];omega))[wrap64]
  exact RetK.keep (hk _ _ ⟨rfl, rfl⟩)
end Go.Proofs.Ytglnelcmcimljaa

namespace Go.Proofs.Ytglnelcmcimljaa
open Go
section
variable {α : Type} [Ty α] {h h' : Heap} {v : Value} {l : List α} {M : List (Mix α)}
theorem Raws.le (H : Raws h l M) (hl : h.le h') : Raws h' l M := ⟨H.len, fun i hi => by
  obtain ⟨c, h1, h2⟩ := H.at' i hi
  exact ⟨c, h1, Ty.mono hl h2⟩⟩
theorem Raws.nil : Raws h ([] : List α) [] := ⟨rfl, fun i hi => absurd hi (Nat.not_lt_zero i)⟩
theorem Raws.set (H : Raws h l M) {i : Nat} {y : α} {c : List Value} (hy : Ty.rep h c y) : Raws h (l.set i y) (M.set i (.raw c)) := by
  refine ⟨by simp [H.len], fun j hj => ?_⟩
  rw [List.length_set] at hj
  by_cases e : i = j
  · subst e
    exact ⟨c, by rw [List.getElem?_set_self (by rw [H.len]; exact hj)], by simpa using hy⟩
  · obtain ⟨c', h1, h2⟩ := H.at' j hj
    exact ⟨c', by rw [List.getElem?_set_ne e]; exact h1, by rw [List.getElem_set_ne e]; exact h2⟩
theorem Raws.push (H : Raws h l M) {y : α} {c : List Value} (hy : Ty.rep h c y) : Raws h (l ++ [y]) (M ++ [.raw c]) := by
  refine ⟨by simp [H.len], fun j hj => ?_⟩
  by_cases e : j < l.length
  · obtain ⟨c', h1, h2⟩ := H.at' j e
    exact ⟨c', by rw [List.getElem?_append_left (by rw [H.len]; exact e)]; exact h1, by rw [List.getElem_append_left e]; exact h2⟩
  · obtain rfl : j = l.length := by simp at hj; omega
    exact ⟨c, by rw [← H.len, List.getElem?_append_right (Nat.le_refl _)]; simp, by simpa using hy⟩
theorem Rep.raws (R : Rep h v M) (H : Raws h l M) : Rep h v l := by
  obtain ⟨p, cap, rfl, h1, h2, h3⟩ := Rep_list.1 R
  refine Rep_list.2 ⟨p, cap, by rw [H.len], by rw [← H.len]; exact h1, h2, fun i hi => ?_⟩
  obtain ⟨b, off, vs, e1, e2, e3⟩ := h3 i (by rw [H.len]; exact hi)
  obtain ⟨c, f1, f2⟩ := H.at' i hi
  rw [List.getElem?_eq_getElem (by rw [H.len]; exact hi)] at f1
  rw [Option.some.inj f1] at e3
  obtain ⟨rfl, _⟩ := e3
  exact ⟨b, off, vs, e1, e2, f2⟩
theorem HS.rawO {g : Heap} {Γ : List HP} (H : HS g Γ h) {c : List Value} {y : α} (hy : Ty.rep h' c y) : HS g (ow (valC (Ty.agg α) c) (Mix.raw (α := α) c) :: Γ) h :=
  ⟨h, Heap.nil, by simp, by simp, ⟨c, rfl, rfl, rfl, Ty.len hy, Ty.cell hy⟩, H⟩
end
end Go.Proofs.Ytglnelcmcimljaa

namespace Go.Proofs.Ytglnelcmcimljaa
open Go
theorem flt_take {α : Type} {p : α → Bool} {l : List α} {i : Nat} (hi : i < l.length) : (l.take (i + 1)).filter p = (l.take i).filter p ++ if p l[i] then [l[i]] else [] := by
  rw [List.take_add_one, List.getElem?_eq_getElem hi, List.filter_append]
  cases hp : p l[i] <;> simp [hp]
theorem flt_len {α : Type} {p : α → Bool} {l : List α} {i : Nat} : ((l.take i).filter p).length ≤ l.length := by
  have h1 := List.length_filter_le p (l.take i)
  have h2 : (l.take i).length ≤ l.length := by rw [List.length_take]; omega
  omega
theorem c_spec_BasicFormulas {h : Heap} {v : Value} {x : Exq} (R : Rep h v x) : CallE Try.prog fn_spec_BasicFormulas [v] h (fun u h' => ∃ w, u = .tuple #[w, .bool (decide (Fm.bOk x))] ∧ h.le h' ∧ Rep h' w (Fm.basR x)) := by
  have FX := R.aExq
  refine CallE.gen fun k hk => EN_spec_BasicFormulas rfl ?_
  simp -implicitDefEqProofs (disch:=first|omega|(simp only[LnZ];omega))[wrap64, FX]
  refine (c_spec_NormalForm R).go ?_
  rintro _ h1 ⟨w, rfl, H⟩
  have FW := H.rep.aExq
  by_cases q1 : Fm.Ok x ∧ Fm.Ok (Fm.push x false)
  case neg =>
    simp -implicitDefEqProofs (disch:=first|omega|(simp only[LnZ];omega))[wrap64, q1, FW, setC]
    refine H.bls0 Exq fun o h2 H => ?_
    simp -implicitDefEqProofs (disch:=first|omega|(simp only[LnZ];omega))[wrap64]
    exact RetK.keep (hk _ _ ⟨o, by rw [decide_eq_false (fun hh => q1 hh.1)], H.base, by rw [Fm.basR, if_neg (fun hh => q1 hh.1)]; exact H.rep⟩)
  rw [Fm.nfR, if_pos q1] at H
  simp -implicitDefEqProofs (disch:=first|omega|(simp only[LnZ];omega))[wrap64, q1, FW, setC]
  refine H.bls0 (Mix Exq) fun o h2 H => ?_
  simp -implicitDefEqProofs (disch:=first|omega|(simp only[LnZ];omega))[wrap64, FW]
  have hnd := q1.2.2
  refine (c_l5Subs (Fm.push x false) (g := h2) (Γ := []) (out := []) (by simp; omega) H.sw1.rep (HS.init.nil_ow)).go ?_
  intro ls h3 G
  have H := G.app H
  have hsl := Fm.subs_len (Fm.push x false) []
  have hbd : Fm.basics x = (Fm.subs (Fm.push x false) []).filter Fm.bas := rfl
  obtain ⟨g1, H1, H2⟩ := HS.rebase (Δ := [ow o ([] : List (Mix Exq))]) (Γ := [ow ls (Fm.subs (Fm.push x false) []), ow w (Fm.push x false)]) H.sw1
  have lb := H1.base
  have RL := H1.rep
  clear H1 H G
  generalize Fm.subs (Fm.push x false) [] = S at *
  simp only [List.length_nil, Nat.zero_add] at hsl
  simp -implicitDefEqProofs (disch:=first|omega|(simp only[LnZ];omega))[wrap64]
  refine wp_count S.length (fun i e h' => ∃ (o : Value) (N : List (Mix Exq)), e = [none, none, none, none, none, none, some o, some ls, some (.int .i64 i)] ∧ HS g1 [ow o N] h' ∧ Raws g1 ((S.take i).filter Fm.bas) N) ⟨o, [], by simp, H2, by simpa using Raws.nil⟩ ?_
  clear H2
  rintro J i _ h4 hJ hi ⟨o, N, rfl, H, hN⟩
  simp -implicitDefEqProofs (disch:=first|omega|(simp only[LnZ];omega))[wrap64, (RL.on H).len]
  refine IteW.mk (fun hlt => ?_) (fun hge => ?_)
  · have hlx : i < S.length := by omega
    obtain ⟨u, hu, Ru⟩ := RL.ld hlx
    have hu' := hload_le H.base hu
    change hload _ (some (elp 3 ls i)) (some 3) = some u at hu'
    have hX := RL.X (n := 3) rfl
    have FU := Ru.aExq
    have hft := flt_take (p := Fm.bas) hlx
    have hNl : N.length ≤ 64 := by
      rw [hN.len]
      have := flt_len (p := Fm.bas) (l := S) (i := i)
      omega
    simp -implicitDefEqProofs (disch:=first|omega|(simp only[LnZ];omega))[wrap64, hX, hu', FU]
    refine (c_l7Basic (Ru.on H)).go ?_
    rintro _ _ ⟨rfl, rfl⟩
    cases hb : Fm.bas S[i] with
    | false =>
      simp -implicitDefEqProofs (disch:=first|omega|(simp only[LnZ];omega))[wrap64]
      exact hJ _ _ hlx ⟨o, N, by simp, H, by rw [hft, hb]; simpa using hN⟩
    | true =>
      obtain ⟨wq, rfl, kk1, kk2, Rq⟩ := Rep_Exq.1 Ru
      have hcs : Ty.rep g1 [.int .i64 S[i].kind, .int .i64 S[i].val, wq] S[i] := repExq.2 ⟨wq, rfl, kk1, kk2, Rq⟩
      have hOq := Rq.one
      simp -implicitDefEqProofs (disch:=first|omega|(simp only[LnZ];omega))[wrap64, hX, hu', setC, hOq]
      refine HS.appO (α := Mix Exq) (bytes := 40) (H.rawO hcs) rfl rfl rfl rfl rfl (by omega) (by omega) fun o' h5 H => ?_
      simp -implicitDefEqProofs (disch:=first|omega|(simp only[LnZ];omega))[wrap64]
      refine hJ _ _ hlx ⟨o', _, by simp, H, ?_⟩
      rw [hft, hb, if_pos rfl]
      exact hN.push hcs
  rw [List.take_of_length_le (by omega), ← hbd] at hN
  have hNl := hN.len
  by_cases q2 : (Fm.basics x).length ≤ 5
  · have bok : Fm.bOk x := ⟨q1, q2⟩
    have hlt : ¬ (5 : Int) < N.length := by omega
    simp -implicitDefEqProofs (disch:=first|omega|(simp only[LnZ];omega))[wrap64, H.rep.len, hlt]
    exact RetK.keep (hk _ _ ⟨o, by rw [decide_eq_true bok], lb.trans H.base, by rw [Fm.basR, if_pos bok]; exact H.rep.raws (hN.le H.base)⟩)
  · have nok : ¬ Fm.bOk x := fun hh => q2 hh.2
    have hlt : (5 : Int) < N.length := by omega
    simp -implicitDefEqProofs (disch:=first|omega|(simp only[LnZ];omega))[wrap64, H.rep.len, hlt]
    refine H.bls0 Exq fun o2 h5 H => ?_
    simp -implicitDefEqProofs (disch:=first|omega|(simp only[LnZ];omega))[wrap64]
    exact RetK.keep (hk _ _ ⟨o2, by rw [decide_eq_false nok], lb.trans H.base, by rw [Fm.basR, if_neg nok]; exact H.rep⟩)
structure Bas (B : List Exq) : Prop where
  n5 : B.length ≤ 5
  ok : ∀ y ∈ B, Fm.Shp 6 y ∧ Fm.bas y = true
theorem Bas.at {B : List Exq} (h : Bas B) {i : Nat} (hi : i < B.length) : Fm.Shp 6 B[i] := (h.ok _ (List.getElem_mem hi)).1
theorem c_l7Follows {h : Heap} {w : Value} {B : List Exq} {s t : Nat} (hB : Bas B) (hs : s < 4611686018427387904) (ht : t < 4611686018427387904) (R : Rep h w B) : CallE Try.prog fn_spec_l7Follows [w, .int .i64 s, .int .i64 t] h (fun u h' => h' = h ∧ u = .bool (decide (Fm.Fol B s t))) := by
  have hL := R.lt
  have hn5 := hB.n5
  refine CallE.gen fun k hk => EN_spec_l7Follows rfl ?_
  simp -implicitDefEqProofs (disch:=first|omega|(simp only[LnZ];omega))[wrap64]
  refine wp_count B.length (fun i e h' => e = [some w, some (.int .i64 s), some (.int .i64 t), none, some (.int .i64 i), none, none, none, none] ∧ h' = h ∧ ∀ (j : Nat) (hj : j < B.length), j < i → Fm.got B s t j B[j] = s.testBit j) ⟨by simp, rfl, fun j _ hj => absurd hj (Nat.not_lt_zero j)⟩ ?_
  rintro J i _ h hJ hi ⟨rfl, rfl, hq⟩
  simp -implicitDefEqProofs (disch:=first|omega|(simp only[LnZ];omega))[wrap64, R.len]
  refine IteW.mk (fun hlt => ?_) (fun hge => ?_)
  · have hlx : i < B.length := by omega
    have hy : Fm.got B s t i B[i] = s.testBit i → J [some w, some (.int .i64 s), some (.int .i64 t), none, some (.int .i64 ((i + 1 : Nat) : Int)), none, none, none, none] h := fun e => hJ _ _ hlx ⟨rfl, rfl, fun j hj hji => by
      by_cases e2 : j = i
      · subst e2; exact e
      · exact hq j hj (by omega)⟩
    have hno : ¬ Fm.got B s t i B[i] = s.testBit i → k (.bool false) h := fun e => hk _ _ ⟨rfl, by rw [decide_eq_false (fun hh : Fm.Fol B s t => e (hh i hlx))]⟩
    have hsp := hB.at hlx
    obtain ⟨y, hyd⟩ : ∃ y, y = B[i] := ⟨_, rfl⟩
    obtain ⟨u, hu, Ru⟩ := R.ld hlx
    change hload _ (some (elp 3 w i)) (some 3) = some u at hu
    rw [← hyd] at hy hno hsp Ru
    obtain ⟨wk, rfl, k1, k2, R1⟩ := Rep_Exq.1 Ru
    have hX := R.X (n := 3) rfl
    have kO := R1.one
    have hi64 : I64 (i : Int) := ⟨by omega, by omega⟩
    have kid : ∀ {j : Nat} (hj : j < y.kids.length), ∃ u, hload h (some (elp 3 wk j)) (some 3) = some u ∧ Rep h u y.kids[j] := fun hj => R1.ld hj
    have hY := R1.X (n := 3) rfl
    have V : ∀ {j : Nat} (hj : j < y.kids.length) {u : Value} {s : Nat}, s < 4611686018427387904 → Rep h u y.kids[j] → CallE Try.prog fn_spec_l7Value [w, .int .i64 s, u] h (fun u h' => h' = h ∧ u = .bool (Fm.val B s y.kids[j])) := fun hj _ _ hs r => c_l7Value 5 hs (hsp.kid hj) R r
    simp -implicitDefEqProofs (disch:=first|omega|(simp only[LnZ];omega))[wrap64, hX, hu, setC, kO]
    refine (c_l6Has hs hi64).go ?_
    rintro _ _ ⟨rfl, rfl⟩
    rw [Fm.has_nat]
    unfold Fm.got at hy hno
    by_cases c6 : y.kind = 6
    · have hl := hsp.one (by omega)
      obtain ⟨u0, hu0, Ru0⟩ := kid (j := 0) (by omega)
      rw [if_pos c6, Fm.kv_at (j := 0) (by omega)] at hy hno
      simp -implicitDefEqProofs (disch:=first|omega|(simp only[LnZ];omega))[wrap64, c6, hY, hu0, setC, kO]
      refine (V (by omega) ht Ru0).go ?_
      rintro _ _ ⟨rfl, rfl⟩
      by_cases e : Fm.val B t y.kids[0] = s.testBit i
      · simp -implicitDefEqProofs (disch:=first|omega|(simp only[LnZ];omega))[wrap64, e]
        simpa using hy e
      · simp -implicitDefEqProofs (disch:=first|omega|(simp only[LnZ];omega))[wrap64, e]
        exact RetK.keep (hno e)
    rw [if_neg c6] at hy hno
    by_cases c7 : y.kind = 7
    · have hl := hsp.two (by omega)
      obtain ⟨u0, hu0, Ru0⟩ := kid (j := 0) (by omega)
      obtain ⟨u1, hu1, Ru1⟩ := kid (j := 1) (by omega)
      rw [if_pos c7, Fm.kv_at (j := 0) (by omega), Fm.kv_at (j := 1) (by omega)] at hy hno
      simp -implicitDefEqProofs (disch:=first|omega|(simp only[LnZ];omega))[wrap64, c6, c7, hY, hu1, setC, kO]
      refine (V (by omega) hs Ru1).go ?_
      rintro _ _ ⟨rfl, rfl⟩
      cases hv1 : Fm.val B s y.kids[1] with
      | true =>
        rw [hv1] at hy hno
        cases hw : s.testBit i with
        | true =>
          rw [hw] at hy
          simp -implicitDefEqProofs (disch:=first|omega|(simp only[LnZ];omega))[wrap64, hv1, hw]
          simpa using hy (by simp)
        | false =>
          rw [hw] at hno
          simp -implicitDefEqProofs (disch:=first|omega|(simp only[LnZ];omega))[wrap64, hv1, hw]
          exact RetK.keep (hno (by simp))
      | false =>
        rw [hv1] at hy hno
        simp -implicitDefEqProofs (disch:=first|omega|(simp only[LnZ];omega))[wrap64, hv1, hY, hu0]
        refine (V (by omega) hs Ru0).go ?_
        rintro _ _ ⟨rfl, rfl⟩
        cases hv0 : Fm.val B s y.kids[0] with
        | false =>
          rw [hv0] at hy hno
          cases hw : s.testBit i with
          | true =>
            rw [hw] at hno
            simp -implicitDefEqProofs (disch:=first|omega|(simp only[LnZ];omega))[wrap64, hv0, hw]
            exact RetK.keep (hno (by simp))
          | false =>
            rw [hw] at hy
            simp -implicitDefEqProofs (disch:=first|omega|(simp only[LnZ];omega))[wrap64, hv0, hw]
            simpa using hy (by simp)
        | true =>
          rw [hv0] at hy hno
          simp -implicitDefEqProofs (disch:=first|omega|(simp only[LnZ];omega))[wrap64, hv0]
          refine (c_l6Has ht hi64).go ?_
          rintro _ _ ⟨rfl, rfl⟩
          rw [Fm.has_nat]
          by_cases e : t.testBit i = s.testBit i
          · simp -implicitDefEqProofs (disch:=first|omega|(simp only[LnZ];omega))[wrap64, e]
            simpa using hy (by simpa using e)
          · simp -implicitDefEqProofs (disch:=first|omega|(simp only[LnZ];omega))[wrap64, e]
            exact RetK.keep (hno (by simpa using e))
    rw [if_neg c7] at hy hno
    by_cases c8 : y.kind = 8
    · have hl := hsp.two (by omega)
      obtain ⟨u0, hu0, Ru0⟩ := kid (j := 0) (by omega)
      obtain ⟨u1, hu1, Ru1⟩ := kid (j := 1) (by omega)
      rw [if_pos c8, Fm.kv_at (j := 0) (by omega), Fm.kv_at (j := 1) (by omega)] at hy hno
      simp -implicitDefEqProofs (disch:=first|omega|(simp only[LnZ];omega))[wrap64, c6, c7, c8, hY, hu1, setC, kO]
      refine (V (by omega) hs Ru1).go ?_
      rintro _ _ ⟨rfl, rfl⟩
      cases hv1 : Fm.val B s y.kids[1] with
      | false =>
        rw [hv1] at hy hno
        cases hw : s.testBit i with
        | true =>
          rw [hw] at hno
          simp -implicitDefEqProofs (disch:=first|omega|(simp only[LnZ];omega))[wrap64, hv1, hw]
          exact RetK.keep (hno (by simp))
        | false =>
          rw [hw] at hy
          simp -implicitDefEqProofs (disch:=first|omega|(simp only[LnZ];omega))[wrap64, hv1, hw]
          simpa using hy (by simp)
      | true =>
        rw [hv1] at hy hno
        simp -implicitDefEqProofs (disch:=first|omega|(simp only[LnZ];omega))[wrap64, hv1, hY, hu0]
        refine (V (by omega) hs Ru0).go ?_
        rintro _ _ ⟨rfl, rfl⟩
        cases hv0 : Fm.val B s y.kids[0] with
        | true =>
          rw [hv0] at hy hno
          cases hw : s.testBit i with
          | true =>
            rw [hw] at hy
            simp -implicitDefEqProofs (disch:=first|omega|(simp only[LnZ];omega))[wrap64, hv0, hw]
            simpa using hy (by simp)
          | false =>
            rw [hw] at hno
            simp -implicitDefEqProofs (disch:=first|omega|(simp only[LnZ];omega))[wrap64, hv0, hw]
            exact RetK.keep (hno (by simp))
        | false =>
          rw [hv0] at hy hno
          simp -implicitDefEqProofs (disch:=first|omega|(simp only[LnZ];omega))[wrap64, hv0]
          refine (c_l6Has ht hi64).go ?_
          rintro _ _ ⟨rfl, rfl⟩
          rw [Fm.has_nat]
          by_cases e : t.testBit i = s.testBit i
          · simp -implicitDefEqProofs (disch:=first|omega|(simp only[LnZ];omega))[wrap64, e]
            simpa using hy (by simpa using e)
          · simp -implicitDefEqProofs (disch:=first|omega|(simp only[LnZ];omega))[wrap64, e]
            exact RetK.keep (hno (by simpa using e))
    rw [if_neg c8] at hy hno
    simp -implicitDefEqProofs (disch:=first|omega|(simp only[LnZ];omega))[wrap64, c6, c7, c8]
    simpa using hy rfl
  · simp -implicitDefEqProofs (disch:=first|omega|(simp only[LnZ];omega))[wrap64]
    exact RetK.keep (hk _ _ ⟨rfl, by rw [decide_eq_true (show Fm.Fol B s t from fun j hj => hq j hj (by omega))]⟩)
theorem c_l7Fulfils {h : Heap} {w : Value} {B : List Exq} {s u : Nat} (hB : Bas B) (hs : s < 4611686018427387904) (hu : u < B.length) (hk7 : B[u].kind = 7) (R : Rep h w B) : CallE Try.prog fn_spec_l7Fulfils [w, .int .i64 s, .int .i64 u] h (fun v h' => h' = h ∧ v = .bool (Fm.ful B s u)) := by
  have hL := R.lt
  have hn5 := hB.n5
  have hi64 : I64 (u : Int) := ⟨by omega, by omega⟩
  have hsp := hB.at hu
  have hl := hsp.two (by omega)
  obtain ⟨q, hq, Rq⟩ := R.ld hu
  change hload _ (some (elp 3 w u)) (some 3) = some q at hq
  obtain ⟨wk, rfl, k1, k2, R1⟩ := Rep_Exq.1 Rq
  have hX := R.X (n := 3) rfl
  have hP := hld_parts (cs := [.int .i64 B[u].kind, .int .i64 B[u].val, wk]) hq
  obtain ⟨u1, hu1, Ru1⟩ := R1.ld (i := 1) (by omega)
  change hload _ (some (elp 3 wk 1)) (some 3) = some u1 at hu1
  have e : B.getD (u : Int).toNat Exq.zero = B[u] := by simp [hu]
  refine CallE.gen fun k hk => EN_spec_l7Fulfils rfl ?_
  simp -implicitDefEqProofs (disch:=first|omega|(simp only[LnZ];omega))[wrap64]
  refine (c_l6Has hs hi64).go ?_
  rintro _ _ ⟨rfl, rfl⟩
  rw [Fm.ful, e, Fm.kv_at (j := 1) (by omega)] at hk
  cases hh : Fm.has s u with
  | false =>
    rw [hh] at hk
    simp -implicitDefEqProofs (disch:=first|omega|(simp only[LnZ];omega))[wrap64, hh]
    exact RetK.keep (hk _ _ ⟨rfl, by simp⟩)
  | true =>
    rw [hh] at hk
    simp -implicitDefEqProofs (disch:=first|omega|(simp only[LnZ];omega))[wrap64, hh, hX, hP.1, hP.2.2.1, R1.X (n := 3) rfl, hu1]
    refine (c_l7Value 5 hs (hsp.kid (i := 1) (by omega)) R Ru1).go ?_
    rintro _ _ ⟨rfl, rfl⟩
    simp -implicitDefEqProofs (disch:=first|omega|(simp only[LnZ];omega))[wrap64]
    exact RetK.keep (hk _ _ ⟨rfl, by simp⟩)
end Go.Proofs.Ytglnelcmcimljaa

namespace Go.Proofs.Ytglnelcmcimljaa
open Go
theorem c_l7Letter {h : Heap} {w : Value} {B : List Exq} {s : Nat} (hB : Bas B) (hs : s < 4611686018427387904) (R : Rep h w B) : CallE Try.prog fn_spec_l7Letter [w, .int .i64 s] h (fun u h' => h' = h ∧ u = .tuple #[.int .i64 ((Fm.ltc B B.length : Nat) : Int), .int .i64 ((Fm.ltv B s B.length : Nat) : Int)]) := by
  have hL := R.lt
  have hn5 := hB.n5
  have hall : ∀ y ∈ B, Fm.Shp 6 y := fun y hy => (hB.ok y hy).1
  refine CallE.gen fun k hk => EN_spec_l7Letter rfl ?_
  simp -implicitDefEqProofs (disch:=first|omega|(simp only[LnZ];omega))[wrap64]
  refine wp_count B.length (fun i e h' => e = [some w, some (.int .i64 s), none, none, some (.int .i64 ((Fm.ltc B i : Nat) : Int)), some (.int .i64 ((Fm.ltv B s i : Nat) : Int)), some (.int .i64 i)] ∧ h' = h) ⟨by simp [Fm.ltc, Fm.ltv], rfl⟩ ?_
  rintro J i _ h hJ hi ⟨rfl, rfl⟩
  simp -implicitDefEqProofs (disch:=first|omega|(simp only[LnZ];omega))[wrap64, R.len]
  refine IteW.mk (fun hlt => ?_) (fun hge => ?_)
  · have hlx : i < B.length := by omega
    have hc := Fm.ltc_lt hall i (by omega)
    have hv := Fm.ltv_lt (s := s) hall i (by omega)
    have e : B.getD i Exq.zero = B[i] := by simp [hlx]
    have hc1 : Fm.ltc B (i + 1) = if B[i].kind = 2 then Fm.ltc B i ||| 1 <<< B[i].val.toNat else Fm.ltc B i := by rw [Fm.ltc, e]
    have hv1 : Fm.ltv B s (i + 1) = if B[i].kind = 2 ∧ s.testBit i = true then Fm.ltv B s i ||| 1 <<< B[i].val.toNat else Fm.ltv B s i := by rw [Fm.ltv, e]
    have hsp := hB.at hlx
    obtain ⟨u, hu, Ru⟩ := R.ld hlx
    change hload _ (some (elp 3 w i)) (some 3) = some u at hu
    obtain ⟨wk, rfl, k1, k2, R1⟩ := Rep_Exq.1 Ru
    have hX := R.X (n := 3) rfl
    have hP := hld_parts (cs := [.int .i64 B[i].kind, .int .i64 B[i].val, wk]) hu
    have hlo := hsp.nd.lo
    have hhi := hsp.nd.hi
    obtain ⟨q, hq⟩ : ∃ q : Nat, B[i].val = q := ⟨_, (Int.toNat_of_nonneg hlo).symm⟩
    have hq3 : q < 3 := by omega
    have hpl : (0 : Int) ≤ B[i].val := hlo
    have hsl : shlI .i64 1 (q : Int) = ((1 <<< q : Nat) : Int) := i64_shl1 (by omega)
    have hs8 := Fm.sh3 hq3
    have huq : IntKind.u64.wrap (q : Int) = q := u64_pos (by omega) (by omega)
    have hq0 : ¬ (q : Int) < 0 := by omega
    have ho1 : orI .i64 ((Fm.ltc B i : Nat) : Int) ((1 <<< q : Nat) : Int) = ((Fm.ltc B i ||| 1 <<< q : Nat) : Int) := i64_or (by omega) (by omega)
    have ho2 : orI .i64 ((Fm.ltv B s i : Nat) : Int) ((1 <<< q : Nat) : Int) = ((Fm.ltv B s i ||| 1 <<< q : Nat) : Int) := i64_or (by omega) (by omega)
    rw [hq, Int.toNat_natCast] at hc1 hv1
    by_cases c2 : B[i].kind = 2
    case neg =>
      rw [if_neg c2] at hc1
      rw [if_neg (fun hh => c2 hh.1)] at hv1
      simp -implicitDefEqProofs (disch:=first|omega|(simp only[LnZ];omega))[wrap64, hX, hP.1, hP.2.2.1, c2]
      exact hJ _ _ hlx ⟨by simp [hc1, hv1], rfl⟩
    rw [if_pos c2] at hc1
    generalize hA : 1 <<< q = A at *
    have hi64 : I64 (i : Int) := ⟨by omega, by omega⟩
    simp -implicitDefEqProofs (disch:=first|omega|(simp only[LnZ];omega))[wrap64, hX, hP.1, hP.2.2.1, c2, hq, huq, hq0, hsl, ho1]
    refine (c_l6Has hs hi64).go ?_
    rintro _ _ ⟨rfl, rfl⟩
    rw [Fm.has_nat]
    cases hb : s.testBit i with
    | false =>
      rw [if_neg (fun hh => by rw [hb] at hh; exact absurd hh.2 (by decide))] at hv1
      simp -implicitDefEqProofs (disch:=first|omega|(simp only[LnZ];omega))[wrap64, hb]
      exact hJ _ _ hlx ⟨by simp [hc1, hv1], rfl⟩
    | true =>
      rw [if_pos ⟨c2, hb⟩] at hv1
      simp -implicitDefEqProofs (disch:=first|omega|(simp only[LnZ];omega))[wrap64, hb, hX, hP.1, hP.2.2.1, hq, huq, hq0, hsl, ho2]
      exact hJ _ _ hlx ⟨by simp [hc1, hv1], rfl⟩
  · obtain rfl : i = B.length := by omega
    simp -implicitDefEqProofs (disch:=first|omega|(simp only[LnZ];omega))[wrap64]
    exact RetK.keep (hk _ _ ⟨rfl, rfl⟩)
theorem c_l7Untils {h : Heap} {w : Value} {B : List Exq} (hB : Bas B) (R : Rep h w B) : CallE Try.prog fn_spec_l7Untils [w] h (fun u h' => HS h [ow u (Fm.unt B B.length)] h') := by
  have hL := R.lt
  have hn5 := hB.n5
  refine CallE.gen fun k hk => EN_spec_l7Untils rfl ?_
  simp -implicitDefEqProofs (disch:=first|omega|(simp only[LnZ];omega))[wrap64]
  refine HS.init.bls0 Int fun o h1 H => ?_
  simp -implicitDefEqProofs (disch:=first|omega|(simp only[LnZ];omega))[wrap64]
  refine wp_count B.length (fun i e h' => ∃ o, e = [some w, none, some o, some (.int .i64 i)] ∧ HS h [ow o (Fm.unt B i)] h') ⟨o, by simp, by simpa [Fm.unt] using H⟩ ?_
  clear H
  rintro J i _ h2 hJ hi ⟨o, rfl, H⟩
  simp -implicitDefEqProofs (disch:=first|omega|(simp only[LnZ];omega))[wrap64, (R.on H).len]
  refine IteW.mk (fun hlt => ?_) (fun hge => ?_)
  · have hlx : i < B.length := by omega
    have e : B.getD i Exq.zero = B[i] := by simp [hlx]
    have hu1 : Fm.unt B (i + 1) = if B[i].kind = 7 then Fm.unt B i ++ [(i : Int)] else Fm.unt B i := by rw [Fm.unt, e]
    have hul := Fm.unt_len (B := B) i
    obtain ⟨u, hu, Ru⟩ := R.ld hlx
    have hu' := hload_le H.base hu
    change hload _ (some (elp 3 w i)) (some 3) = some u at hu'
    obtain ⟨wk, rfl, k1, k2, R1⟩ := Rep_Exq.1 Ru
    have hX := R.X (n := 3) rfl
    have hP := hld_parts (cs := [.int .i64 B[i].kind, .int .i64 B[i].val, wk]) hu'
    by_cases c7 : B[i].kind = 7
    · rw [if_pos c7] at hu1
      simp -implicitDefEqProofs (disch:=first|omega|(simp only[LnZ];omega))[wrap64, hX, hP.1, hP.2.2.1, c7]
      refine HS.app1 (bytes := 8) H (i : Int) rfl rfl rfl ⟨by omega, by omega⟩ rfl rfl (by omega) (by omega) fun o' h3 H => ?_
      simp -implicitDefEqProofs (disch:=first|omega|(simp only[LnZ];omega))[wrap64]
      exact hJ _ _ hlx ⟨o', by simp, by rw [hu1]; exact H⟩
    · rw [if_neg c7] at hu1
      simp -implicitDefEqProofs (disch:=first|omega|(simp only[LnZ];omega))[wrap64, hX, hP.1, hP.2.2.1, c7]
      exact hJ _ _ hlx ⟨o, by simp, by rw [hu1]; exact H⟩
  · obtain rfl : i = B.length := by omega
    simp -implicitDefEqProofs (disch:=first|omega|(simp only[LnZ];omega))[wrap64]
    exact RetK.keep (hk _ _ H)
theorem c_l7Phase {h : Heap} {w v : Value} {B : List Exq} {s : Nat} {p : Int} (hB : Bas B) (hs : s < 4611686018427387904) (R : Rep h w B) (RU : Rep h v (Fm.unt B B.length)) (hp : Fm.POk (Fm.unt B B.length) p) :
    CallE Try.prog fn_spec_l7Phase [w, v, .int .i64 s, .int .i64 p] h (fun u h' => h' = h ∧ u = .tuple #[.int .i64 (Fm.phs B (Fm.unt B B.length) s p).1, .bool (Fm.phs B (Fm.unt B B.length) s p).2]) := by
  have hul := Fm.unt_len (B := B) B.length
  have hum : ∀ {u : Int}, u ∈ Fm.unt B B.length → _ := fun h => Fm.unt_mem h
  have hn5 := hB.n5
  refine CallE.gen fun k hk => EN_spec_l7Phase rfl ?_
  unfold Fm.phs at hk
  generalize Fm.unt B B.length = U at *
  by_cases q0 : U.length = 0
  · rw [if_pos q0] at hk
    have q0' : U = [] := List.length_eq_zero_iff.1 q0
    simp -implicitDefEqProofs (disch:=first|omega|(simp only[LnZ];omega))[wrap64, RU.len, q0, q0']
    exact RetK.keep (hk _ _ ⟨rfl, rfl⟩)
  rw [if_neg q0] at hk
  have q0' : ¬ U = [] := fun e => q0 (by rw [e]; rfl)
  have q0i : ¬ (U.length : Int) = 0 := by omega
  obtain ⟨n, rfl⟩ : ∃ n : Nat, p = n := ⟨p.toNat, (Int.toNat_of_nonneg hp.1).symm⟩
  have hnU : n < U.length := by have := hp.2; omega
  obtain ⟨m, hm1, hm2, hm3⟩ := hum (List.getElem_mem hnU)
  have e1 : U.getD (n : Int).toNat 0 = (m : Int) := by rw [Int.toNat_natCast, List.getD_eq_getElem?_getD, List.getElem?_eq_getElem hnU, ← hm1]; rfl
  have hm3' : B[m].kind = 7 := by rw [← hm3]; simp [hm2]
  rw [e1] at hk
  have hRU := RU.I
  simp -implicitDefEqProofs (disch:=first|omega|(simp only[LnZ];omega))[wrap64, RU.len, q0, q0', q0i, hRU, hm1]
  refine (c_l7Fulfils hB hs hm2 hm3' R).go ?_
  rintro _ _ ⟨rfl, rfl⟩
  cases hf : Fm.ful B s m with
  | true =>
    rw [hf] at hk
    simp -implicitDefEqProofs (disch:=first|omega|(simp only[LnZ];omega))[wrap64, hf, RU.len, q0i, q0']
    exact RetK.keep (hk _ _ ⟨rfl, by simp⟩)
  | false =>
    rw [hf] at hk
    simp -implicitDefEqProofs (disch:=first|omega|(simp only[LnZ];omega))[wrap64, hf]
    exact RetK.keep (hk _ _ ⟨rfl, by simp⟩)
theorem c_l2IntsM {h : Heap} {a b : Value} {x y : List Int} (Ra : Rep h a x) (Rb : Rep h b y) : CallE Try.prog fn_spec_l2Ints [a, b] h (fun u h' => h' = h ∧ u = .bool (decide (x = y))) := by
  have hL := Ra.lt
  refine CallE.gen fun k hk => EN_spec_l2Ints rfl ?_
  by_cases hl : (x.length : Int) = y.length
  case neg =>
    simp -implicitDefEqProofs (disch:=first|omega|(simp only[LnZ];omega))[wrap64, Ra.len, Rb.len, hl]
    exact RetK.keep (hk _ _ ⟨rfl, by congr 1; rw [eq_comm, decide_eq_false_iff_not]; intro e; subst e; exact hl rfl⟩)
  simp -implicitDefEqProofs (disch:=first|omega|(simp only[LnZ];omega))[wrap64, Ra.len, Rb.len, hl]
  refine wp_count x.length (fun i e h' => e = [some a, some b, none, some (.int .i64 i)] ∧ h' = h ∧ x.take i = y.take i) ⟨by simp, rfl, rfl⟩ ?_
  rintro J i _ h1 hJ hi ⟨rfl, rfl, hq⟩
  simp -implicitDefEqProofs (disch:=first|omega|(simp only[LnZ];omega))[wrap64, Ra.len]
  refine IteW.mk (fun hlt => ?_) (fun hge => ?_)
  · have hlx : i < x.length := by omega
    have hly : i < y.length := by omega
    by_cases he : x[i] = y[i]
    · simp -implicitDefEqProofs (disch:=first|omega|(simp only[LnZ];omega))[wrap64, Ra.I, Rb.I, he]
      exact hJ _ _ hlx ⟨rfl, rfl, take_step hq hlx hly he⟩
    · simp -implicitDefEqProofs (disch:=first|omega|(simp only[LnZ];omega))[wrap64, Ra.I, Rb.I, he]
      exact RetK.keep (hk _ _ ⟨rfl, by congr 1; rw [eq_comm, decide_eq_false_iff_not]; intro e; subst e; exact he rfl⟩)
  · simp -implicitDefEqProofs (disch:=first|omega|(simp only[LnZ];omega))[wrap64]
    rw [List.take_of_length_le (by omega), List.take_of_length_le (by omega)] at hq
    exact RetK.keep (hk _ _ ⟨rfl, by simp [hq]⟩)
theorem c_l7Pair {g h : Heap} {Γ : List HP} {v w : Value} {L : List (List Int)} {p : List Int} (H : HS g (ow w p :: ow v L :: Γ) h) (hl : L.length ≤ 1048576) : CallE Try.prog fn_spec_l7Pair [v, w] h (fun u h' => ∃ v', u = .tuple #[v', .int .i64 (Fm.atL L p)] ∧ HS g (ow v' (Fm.adL L p) :: Γ) h') := by
  have RL := H.sw1.rep
  have Rp := H.rep
  refine CallE.gen fun k hk => EN_spec_l7Pair rfl ?_
  simp -implicitDefEqProofs (disch:=first|omega|(simp only[LnZ];omega))[wrap64]
  refine wp_count L.length (fun i e h' => e = [some v, some w, none, none, some (.int .i64 i)] ∧ h' = h ∧ ∀ (j : Nat) (hj : j < L.length), j < i → L[j] ≠ p) ⟨by simp, rfl, fun j _ hj => absurd hj (Nat.not_lt_zero j)⟩ ?_
  rintro J i _ h hJ hi ⟨rfl, rfl, hn⟩
  simp -implicitDefEqProofs (disch:=first|omega|(simp only[LnZ];omega))[wrap64, RL.len]
  refine IteW.mk (fun hlt => ?_) (fun hge => ?_)
  · have hlx : i < L.length := by omega
    obtain ⟨u, hu, Ru⟩ := RL.ldL hlx
    simp -implicitDefEqProofs (disch:=first|omega|(simp only[LnZ];omega))[wrap64, RL.X (n := 1) rfl, hu]
    refine (c_l2IntsM Ru Rp).go ?_
    rintro _ h ⟨rfl, rfl⟩
    by_cases e : L[i] = p
    · simp -implicitDefEqProofs (disch:=first|omega|(simp only[LnZ];omega))[wrap64, e]
      have hm : p ∈ L := e ▸ List.getElem_mem hlx
      exact RetK.keep (hk _ _ ⟨v, by rw [Fm.atL_at hlx e hn], by rw [Fm.adL, if_pos hm]; exact H.drop⟩)
    · simp -implicitDefEqProofs (disch:=first|omega|(simp only[LnZ];omega))[wrap64, e]
      refine hJ _ _ hlx ⟨by simp, rfl, fun j hj hji => ?_⟩
      by_cases hji2 : j = i
      · subst hji2; exact e
      · exact hn j hj (by omega)
  · have hm : p ∉ L := fun hm => by
      obtain ⟨j, hj, h1⟩ := List.mem_iff_getElem.1 hm
      exact hn j hj (by omega) h1
    have hcl := Rp.cells
    simp -implicitDefEqProofs (disch:=first|omega|(simp only[LnZ];omega))[wrap64, setC, hcl, Rp.one, RL.len]
    refine HS.appO (bytes := 24) H rfl rfl (by rw [hcl]) rfl rfl (by omega) (by omega) fun v' h2 H => ?_
    simp -implicitDefEqProofs (disch:=first|omega|(simp only[LnZ];omega))[wrap64, RL.len]
    exact RetK.keep (hk _ _ ⟨v', by rw [Fm.atL_not hm], by rw [Fm.adL, if_neg hm]; exact H⟩)
end Go.Proofs.Ytglnelcmcimljaa

namespace Go.Proofs.Ytglnelcmcimljaa
open Go
theorem zero_Aut {g h : Heap} {Γ : List HP} (H : HS g Γ h) : HS g (ow (.agg #[.slice none 0 0, .slice none 0 0, .slice none 0 0]) (⟨[], [], []⟩ : Aut) :: Γ) h := HS.mkAut (a := ⟨[], [], []⟩) H.nil_ow.nil_ow.nil_ow
theorem p2le {n : Nat} (h : n ≤ 5) : 2 ^ n ≤ 32 := Nat.pow_le_pow_right (n := 2) (by omega) h
set_option maxHeartbeats 2000000 in
theorem c_spec_TranslateFormula {h : Heap} {v : Value} {x : Exq} (R : Rep h v x) : CallE Try.prog fn_spec_TranslateFormula [v] h (fun u h' => ∃ w, u = .tuple #[w, .bool (decide (Fm.trOk x))] ∧ HS h [ow w (Fm.trR x)] h') := by
  have FX := R.aExq
  have hno : ∀ {h'}, h.le h' → ¬ Fm.trOk x → HS h [ow (.agg #[.slice none 0 0, .slice none 0 0, .slice none 0 0]) (Fm.trR x)] h' := fun hl hn => by
    rw [Fm.trR, if_neg hn]
    exact zero_Aut (Γ := []) hl
  refine CallE.gen fun k hk => EN_spec_TranslateFormula rfl ?_
  simp -implicitDefEqProofs (disch:=first|omega|(simp only[LnZ];omega))[wrap64, FX]
  refine (c_spec_BasicFormulas R).go ?_
  rintro _ h1 ⟨w, rfl, l1, RB⟩
  by_cases q1 : Fm.bOk x
  case neg =>
    simp -implicitDefEqProofs (disch:=first|omega|(simp only[LnZ];omega))[wrap64, q1, setC]
    exact RetK.keep (hk _ _ ⟨_, by rw [decide_eq_false (fun hh => q1 hh.1)], hno l1 (fun hh => q1 hh.1)⟩)
  rw [Fm.basR, if_pos q1] at RB
  simp -implicitDefEqProofs (disch:=first|omega|(simp only[LnZ];omega))[wrap64, q1, FX]
  refine (c_spec_NormalForm (R.le l1)).go ?_
  rintro _ h2 ⟨gu, rfl, H⟩
  rw [Fm.nfR, if_pos q1.1] at H
  have hB : Bas (Fm.basics x) := ⟨q1.2, Fm.basics_ok q1⟩
  have hgs := q1.1.2.1
  have FG := H.rep.aExq
  have hTA : Fm.trT x = Fm.tN (Fm.basics x) (Fm.unt (Fm.basics x) (Fm.basics x).length) (Fm.ini0 (Fm.basics x) (Fm.push x false) (2 ^ (Fm.basics x).length)) 64 := rfl
  have hTr : Fm.trA x = ⟨Fm.upto (Fm.ini0 (Fm.basics x) (Fm.push x false) (2 ^ (Fm.basics x).length)).length, if (Fm.trT x).1 = [] then [false] else (Fm.trT x).2.1, (Fm.trT x).2.2⟩ := rfl
  have hTO : Fm.trOk x ↔ (Fm.trT x).1.length ≤ 64 := ⟨fun hh => hh.2, fun hh => ⟨q1, hh⟩⟩
  have RB := RB.on H
  have RG := H.rep
  have l2 := l1.trans H.base
  clear H
  generalize Fm.basics x = B at *
  generalize Fm.push x false = G at *
  have hn5 := hB.n5
  have hc32 := p2le hn5
  have hc1 : 0 < 2 ^ B.length := Nat.two_pow_pos _
  have hcnt : shlI .i64 1 (B.length : Int) = ((2 ^ B.length : Nat) : Int) := by rw [i64_shl1 (by omega), Nat.shiftLeft_eq, Nat.one_mul]
  have hcw : IntKind.u64.wrap (B.length : Int) = B.length := u64_pos (by omega) (by omega)
  have hcw0 : ¬ (B.length : Int) < 0 := by omega
  obtain ⟨c, hcd⟩ : ∃ c : Nat, c = 2 ^ B.length := ⟨_, rfl⟩
  simp -implicitDefEqProofs (disch:=first|omega|(simp only[LnZ];omega))[wrap64, FG, setC, RB.len, hcw, hcw0, hcnt]
  refine (c_l7Untils hB RB).go ?_
  intro un h3 H
  have RB := RB.on H
  have RG := RG.on H
  have RU := H.rep
  have l3 := l2.trans H.base
  clear H
  simp -implicitDefEqProofs (disch:=first|omega|(simp only[LnZ];omega))[wrap64, setC]
  refine (HS.init (h := h3)).bls0 (List Int) fun o h4 H => ?_
  simp -implicitDefEqProofs (disch:=first|omega|(simp only[LnZ];omega))[wrap64]
  rw [← hcd] at hc32 hc1 hTA hTr
  refine wp_count c (fun s e h' => ∃ (li ls : Value), e = [none, none, some (.agg #[.slice none 0 0, .slice none 0 0, .slice none 0 0]), none, some w, none, some gu, some (.int .i64 c), some un, some (.agg #[li, .slice none 0 0, .slice none 0 0]), some ls, some (.int .i64 s), none, none, none, none, none, none, none, none] ∧ HS h3 [ow li (Fm.upto (Fm.ini0 B G s).length), ow ls (Fm.ini0 B G s)] h') ⟨.slice none 0 0, o, by simp [hcd], by simpa [Fm.ini0, Fm.upto] using H.nil_ow (α := Int)⟩ ?_
  clear H
  rintro J s _ h5 hJ hs ⟨li, ls, rfl, H⟩
  simp -implicitDefEqProofs (disch:=first|omega|(simp only[LnZ];omega))[wrap64]
  refine IteW.mk (fun hlt0 => ?_) (fun hge0 => ?_)
  · have hsc : s < c := by omega
    have hil := Fm.ini0_len (B := B) (g := G) s
    have hi1 : Fm.ini0 B G (s + 1) = if Fm.val B s G then Fm.ini0 B G s ++ [[(s : Int), 0]] else Fm.ini0 B G s := rfl
    simp -implicitDefEqProofs (disch:=first|omega|(simp only[LnZ];omega))[wrap64, FG]
    refine (c_l7Value 6 (by omega) hgs (RB.on H) (RG.on H)).go ?_
    rintro _ _ ⟨rfl, rfl⟩
    generalize Fm.ini0 B G s = L at *
    cases hv : Fm.val B s G with
    | false =>
      rw [hv, if_neg (by decide)] at hi1
      simp -implicitDefEqProofs (disch:=first|omega|(simp only[LnZ];omega))[wrap64, hv]
      exact hJ _ _ hsc ⟨li, ls, by simp, by rw [hi1]; exact H⟩
    | true =>
      rw [hv, if_pos rfl] at hi1
      simp -implicitDefEqProofs (disch:=first|omega|(simp only[LnZ];omega))[wrap64, hv, H.sw1.rep.len, setC]
      refine HS.app1 (bytes := 8) H (L.length : Int) rfl rfl rfl ⟨by omega, by omega⟩ rfl rfl (by simp [Fm.upto]; omega) (by simp [Fm.upto]; omega) fun li' h6 H => ?_
      simp -implicitDefEqProofs (disch:=first|omega|(simp only[LnZ];omega))[wrap64, setC, H.rep.cells, H.rep.one]
      refine H.bls [(s : Int), 0] rfl rfl (by intro y hy; simp at hy; rcases hy with rfl | rfl <;> exact ⟨by omega, by omega⟩) (by decide) fun p h7 H => ?_
      simp -implicitDefEqProofs (disch:=first|omega|(simp only[LnZ];omega))[wrap64, setC, H.rep.cells, H.rep.one]
      have hcl := H.rep.cells
      refine HS.appO (bytes := 24) H.sw2.sw1 rfl rfl (by rw [hcl]) rfl rfl (by omega) (by omega) fun ls' h8 H => ?_
      simp -implicitDefEqProofs (disch:=first|omega|(simp only[LnZ];omega))[wrap64]
      refine hJ _ _ hsc ⟨li', ls', by simp, ?_⟩
      rw [hi1, List.length_append, List.length_singleton, Fm.upto_succ]
      exact H.sw1
  obtain rfl : s = c := by omega
  obtain ⟨L0, hL0⟩ : ∃ L0, L0 = Fm.ini0 B G s := ⟨_, rfl⟩
  obtain ⟨U, hU⟩ : ∃ U, U = Fm.unt B B.length := ⟨_, rfl⟩
  have hl0 := Fm.ini0_len (B := B) (g := G) s
  have hk0 : Fm.LOk2 s U (Fm.ini0 B G s) := Fm.ini0_ok (Nat.le_refl _)
  have RU' := RU
  rw [← hL0] at H hTA hTr hl0 hk0
  rw [← hU] at hTA RU'
  have INV := fun n => Fm.tN_inv (U := U) (hcd ▸ hk0) (hcd ▸ hl0) n
  simp -implicitDefEqProofs (disch:=first|omega|(simp only[LnZ];omega))[wrap64]
  refine wp_count 65 (fun i e h' => ∃ (ac ed ls : Value), e = [none, none, some (.agg #[.slice none 0 0, .slice none 0 0, .slice none 0 0]), none, some w, none, none, some (.int .i64 s), some un, some (.agg #[li, ac, ed]), some ls, none, some (.int .i64 i), none, none, none, none, none, none, none] ∧
    HS h3 [ow ls (Fm.tN B U L0 i).1, ow ac (Fm.tN B U L0 i).2.1, ow ed (Fm.tN B U L0 i).2.2, ow li (Fm.upto L0.length)] h' ∧ i ≤ 64 ∧ ∀ m, m < i → m < (Fm.tN B U L0 m).1.length ∧ (Fm.tN B U L0 m).1.length ≤ 64) ⟨.slice none 0 0, .slice none 0 0, ls, by simp, by simpa [Fm.tN] using (H.nil_ow (α := Tr)).nil_ow.sw3, by omega, fun m hm => absurd hm (Nat.not_lt_zero m)⟩ ?_
  clear H
  rintro J1 i _ h6 hJ1 hi1 ⟨ac, ed, ls, rfl, H, hi64, hall⟩
  have inv := INV i
  have hal := Fm.tN_al i hall
  by_cases q2 : i < (Fm.tN B U L0 i).1.length
  case neg =>
    have hT : Fm.trT x = Fm.tN B U L0 i := by rw [hTA]; exact Fm.tN_stop (fun hh => q2 hh.1) 64 hi64
    have hok : Fm.trOk x := hTO.2 (by rw [hT]; omega)
    have hge := inv.al.2
    rw [hT] at hTr
    have hTR : Fm.trR x = Fm.trA x := by rw [Fm.trR, if_pos hok]
    by_cases q3 : (Fm.tN B U L0 i).1 = []
    · rw [if_pos q3] at hTr
      simp -implicitDefEqProofs (disch:=first|omega|(simp only[LnZ];omega))[wrap64, H.rep.len, q2, q3, show ¬ ((i : Int) < 0) by omega]
      refine H.bls [false] rfl rfl (by intro _ _; trivial) (by decide) fun fc h7 H => ?_
      simp -implicitDefEqProofs (disch:=first|omega|(simp only[LnZ];omega))[wrap64, setC, H.rep.cells, H.rep.one, H.sw3.rep.one, H.sw4.rep.one, H.sw3.rep.cells, H.sw4.rep.cells]
      refine RetK.keep (hk _ _ ⟨_, by rw [decide_eq_true hok], ?_⟩)
      rw [hTR, hTr]
      have H2 : HS h3 [ow li (Fm.upto L0.length), ow fc [false], ow ed (Fm.tN B U L0 i).2.2] h7 := ((H.sw4.under fun _ H => H.under fun _ H => H.drop.drop))
      exact HS.app (Γ := []) (HS.mkAut (a := ⟨_, _, _⟩) H2) l3
    · rw [if_neg q3] at hTr
      have q3' : ¬ ((Fm.tN B U L0 i).1.length : Int) = 0 := fun e => q3 (List.length_eq_zero_iff.1 (by omega))
      simp -implicitDefEqProofs (disch:=first|omega|(simp only[LnZ];omega))[wrap64, H.rep.len, q2, q3, q3', setC, H.sw1.rep.one, H.sw2.rep.one, H.sw3.rep.one]
      refine RetK.keep (hk _ _ ⟨_, by rw [decide_eq_true hok], ?_⟩)
      rw [hTR, hTr]
      have H2 : HS h3 [ow li (Fm.upto L0.length), ow ac (Fm.tN B U L0 i).2.1, ow ed (Fm.tN B U L0 i).2.2] h6 := ((H.drop.sw2))
      exact HS.app (Γ := []) (HS.mkAut (a := ⟨_, _, _⟩) H2) l3
  by_cases q3 : 64 < (Fm.tN B U L0 i).1.length
  · have hok : ¬ Fm.trOk x := fun hh => by
      have := hTO.1 hh
      have h2 := Fm.tN_big q3 64 hi64
      rw [hTA] at this
      omega
    have q3i : (64 : Int) < (Fm.tN B U L0 i).1.length := by omega
    simp -implicitDefEqProofs (disch:=first|omega|(simp only[LnZ];omega))[wrap64, H.rep.len, q2, q3i, setC]
    exact RetK.keep (hk _ _ ⟨_, by rw [decide_eq_false hok], hno (l3.trans H.base) hok⟩)
  have q3i : ¬ (64 : Int) < (Fm.tN B U L0 i).1.length := by omega
  obtain ⟨s', p, he, hs', hp⟩ := inv.ok _ (List.getElem_mem q2)
  rw [← hcd] at hs'
  have hsucc := Fm.tN_succ q2 (by omega) he
  have hinv1 := inv.al
  have hinv2 := inv.el
  have hinv3 := inv.ok
  have hinv4 := inv.ll
  rw [← hcd] at hsucc hinv2 hinv3 hinv4
  have hpo := Fm.phs_ok (B := B) (s := s') hp
  have hpR := fun n hn => Fm.trow_inv (B := B) (U := U) (c := s) (i := i) (s := s') (q := ((Fm.tN B U L0 i).1, (Fm.tN B U L0 i).2.2)) hinv3 hpo n hn
  have hl65 : (Fm.tN B U L0 i).1.length ≤ 64 := by omega
  generalize hT : Fm.tN B U L0 i = T at *
  obtain ⟨row, hrow, Rrow⟩ := H.rep.ldL q2
  rw [he] at Rrow
  have hRI := Rrow.I
  simp only [List.length_cons, List.length_nil] at hRI
  have hr0 := hRI.2 0 (by omega)
  have hr1 := hRI.2 1 (by omega)
  simp only [List.getElem_cons_zero, List.getElem_cons_succ] at hr0 hr1
  have hX := H.rep.X (n := 1) rfl
  simp -implicitDefEqProofs (disch:=first|omega|(simp only[LnZ];omega))[wrap64, H.rep.len, q2, q3i, hX, hrow, hRI.1, hr0, hr1]
  refine (c_l7Phase hB (by omega) (RB.on H) (RU.on H) (hU ▸ hp)).go ?_
  rintro _ h6 ⟨rfl, rfl⟩
  rw [← hU]
  obtain ⟨p', a', hph⟩ : ∃ p' a', Fm.phs B U s' p = (p', a') := ⟨_, _, rfl⟩
  rw [hph] at hsucc hpo hpR ⊢
  simp only at hsucc hpo hpR
  have hp64 : I64 p' := by
    have h1 := hpo.1
    have h2 := hpo.2
    have h3 : U.length ≤ B.length := hU ▸ Fm.unt_len B.length
    exact ⟨by omega, by omega⟩
  simp -implicitDefEqProofs (disch:=first|omega|(simp only[LnZ];omega))[wrap64, setC]
  refine HS.app1 (bytes := 1) H.sw1 a' rfl rfl rfl trivial rfl rfl (by omega) (by omega) fun ac' h7 H => ?_
  simp -implicitDefEqProofs (disch:=first|omega|(simp only[LnZ];omega))[wrap64, setC, H.rep.cells, H.rep.one]
  refine (c_l7Letter hB (by omega) (RB.on H)).go ?_
  rintro _ h7 ⟨rfl, rfl⟩
  have hall6 : ∀ y ∈ B, Fm.Shp 6 y := fun y hy => (hB.ok y hy).1
  have hcl8 := Fm.ltc_lt hall6 B.length (Nat.le_refl _)
  have hvl8 := Fm.ltv_lt (s := s') hall6 B.length (Nat.le_refl _)
  simp -implicitDefEqProofs (disch:=first|omega|(simp only[LnZ];omega))[wrap64]
  refine wp_count s (fun t e h' => ∃ (ed ls : Value), e = [none, none, some (.agg #[.slice none 0 0, .slice none 0 0, .slice none 0 0]), none, some w, none, none, some (.int .i64 s), some un, some (.agg #[li, ac', ed]), some ls, none, some (.int .i64 i), some (.int .i64 s'), some (.int .i64 p'), none, some (.int .i64 ((Fm.ltc B B.length : Nat) : Int)), some (.int .i64 ((Fm.ltv B s' B.length : Nat) : Int)), some (.int .i64 t), none] ∧
    HS h3 [ow ls (Fm.trow B i s' p' t (T.1, T.2.2)).1, ow ed (Fm.trow B i s' p' t (T.1, T.2.2)).2, ow ac' (T.2.1 ++ [a']), ow li (Fm.upto L0.length)] h') ⟨ed, ls, by simp, by simpa [Fm.trow] using H.sw1.sw2.sw1⟩ ?_
  clear H
  rintro J2 t _ h8 hJ2 ht ⟨ed, ls, rfl, H⟩
  simp -implicitDefEqProofs (disch:=first|omega|(simp only[LnZ];omega))[wrap64]
  refine IteW.mk (fun hlt2 => ?_) (fun hge2 => ?_)
  · have hts : t < s := by omega
    have hrow1 : Fm.trow B i s' p' (t + 1) (T.1, T.2.2) = if Fm.Fol B s' t then (Fm.adL (Fm.trow B i s' p' t (T.1, T.2.2)).1 [(t : Int), p'], (Fm.trow B i s' p' t (T.1, T.2.2)).2 ++ [⟨(i : Int), (Fm.ltc B B.length : Nat), (Fm.ltv B s' B.length : Nat), Fm.atL (Fm.trow B i s' p' t (T.1, T.2.2)).1 [(t : Int), p']⟩]) else Fm.trow B i s' p' t (T.1, T.2.2) := rfl
    have I := hpR t (by omega)
    have i1 := I.le
    have i2 := I.el
    simp only at i1 i2
    have hmul : i * s ≤ 64 * 32 := Nat.mul_le_mul hi64 hc32
    have hat := Fm.atL_lt (L := (Fm.trow B i s' p' t (T.1, T.2.2)).1) (p := [(t : Int), p'])
    have had := Fm.adL_len (L := (Fm.trow B i s' p' t (T.1, T.2.2)).1) (p := [(t : Int), p'])
    generalize Fm.trow B i s' p' t (T.1, T.2.2) = Q at *
    simp -implicitDefEqProofs (disch:=first|omega|(simp only[LnZ];omega))[wrap64]
    refine (c_l7Follows (s := s') (t := t) hB (by omega) (by omega) (RB.on H)).go ?_
    rintro _ h8 ⟨rfl, rfl⟩
    by_cases hf : Fm.Fol B s' t
    case neg =>
      rw [if_neg hf] at hrow1
      simp -implicitDefEqProofs (disch:=first|omega|(simp only[LnZ];omega))[wrap64, hf]
      exact hJ2 _ _ hts ⟨ed, ls, by simp, by rw [hrow1]; exact H⟩
    rw [if_pos hf] at hrow1
    simp -implicitDefEqProofs (disch:=first|omega|(simp only[LnZ];omega))[wrap64, hf]
    refine H.bls [(t : Int), p'] rfl rfl (by intro y hy; simp at hy; rcases hy with rfl | rfl; exact ⟨by omega, by omega⟩; exact hp64) (by decide) fun q h9 H => ?_
    simp -implicitDefEqProofs (disch:=first|omega|(simp only[LnZ];omega))[wrap64]
    refine (c_l7Pair H (by omega)).go ?_
    rintro _ h10 ⟨ls', rfl, H⟩
    simp -implicitDefEqProofs (disch:=first|omega|(simp only[LnZ];omega))[wrap64, setC]
    refine HS.app1 (bytes := 32) H.sw1 (⟨(i : Int), (Fm.ltc B B.length : Nat), (Fm.ltv B s' B.length : Nat), Fm.atL Q.1 [(t : Int), p']⟩ : Tr) rfl rfl rfl ?_ rfl rfl (by omega) (by omega) fun ed' h11 H => ?_
    · exact Tr.ok_iff.2 ⟨⟨by simp only; omega, by simp only; omega⟩, ⟨by simp only; omega, by simp only; omega⟩, ⟨by simp only; omega, by simp only; omega⟩, ⟨by simp only; omega, by simp only; omega⟩⟩
    simp -implicitDefEqProofs (disch:=first|omega|(simp only[LnZ];omega))[wrap64, setC, H.rep.cells, H.rep.one]
    exact hJ2 _ _ hts ⟨ed', ls', by simp, by rw [hrow1]; exact H.sw1⟩
  obtain rfl : t = s := by omega
  simp -implicitDefEqProofs (disch:=first|omega|(simp only[LnZ];omega))[wrap64]
  refine hJ1 _ _ (by omega) ⟨ac', ed, ls, by simp, ?_, by omega, fun m hm => ?_⟩
  · rw [hsucc]
    exact H.under fun _ H => H.sw1
  · by_cases e : m = i
    · subst e; rw [hT]; exact ⟨q2, hl65⟩
    · exact hall m (by omega)
end Go.Proofs.Ytglnelcmcimljaa

namespace Go.Proofs.Ytglnelcmcimljaa
open Go
theorem okL {xs : List Int} (h : ∀ x ∈ xs, -9223372036854775808 ≤ x ∧ x < 9223372036854775808) : ∀ x ∈ xs, Flat.ok x := h
theorem nods_append : ∀ {l l2 : List Exq}, Exq.nods (l ++ l2) = Exq.nods l + Exq.nods l2
  | [], _ => by simp [Exq.nods]
  | x :: l, l2 => by simp [Exq.nods, nods_append (l := l) (l2 := l2)]; omega
theorem c_l5Random {b : Nat} {sl : Value} {l : List (BitVec 8)} : ∀ (d : Nat), d ≤ 4 → ∀ {g h : Heap} {Γ : List HP} {p : Int}, Rep g sl l → HS g (rb b sl p :: Γ) h → 0 ≤ p → p + 4 * (2 ^ d : Nat) ≤ 1000000000000 →
    CallE Try.prog fn_spec_l5Random [.pointer (some ⟨b, 0, none⟩), .int .i64 d] h (fun u h' => ∃ (y : Exq) (p' : Int), HS g (ow u y :: rb b sl p' :: Γ) h' ∧ y.nod < 2 ^ (d + 1) ∧ p ≤ p' ∧ p' ≤ p + (4 * (2 ^ d : Nat) - 2)) := by
  intro d
  induction d with
  | zero =>
    intro _ g h Γ p R H hp hp2
    refine CallE.gen fun k hk => EN_spec_l5Random rfl ?_
    simp -implicitDefEqProofs (disch:=first|omega|(simp only[LnZ];omega))[wrap64]
    refine (c_pick R H (by omega) (by omega) ⟨by decide, by decide⟩).go ?_
    rintro _ hL1 ⟨r1, rfl, o1, z1, y1, H⟩
    by_cases c1 : r1 = 0
    · simp -implicitDefEqProofs (disch:=first|omega|(simp only[LnZ];omega))[wrap64, c1]
      refine c_l5True.go ?_
      rintro _ hL2 ⟨rfl, rfl⟩
      simp -implicitDefEqProofs (disch:=first|omega|(simp only[LnZ];omega))[wrap64, setC]
      exact RetK.keep (hk _ _ ⟨Exq.mk 1 0 [], _, H.leaf i64c i64c, by simp [Exq.nod, Exq.nods] <;> omega, by omega, by omega⟩)
    · simp -implicitDefEqProofs (disch:=first|omega|(simp only[LnZ];omega))[wrap64, c1]
      refine H.bls [(0 : Int), 1, 0, 2] rfl rfl (okL (by decide)) (by decide) fun v hL2 H => ?_
      simp -implicitDefEqProofs (disch:=first|omega|(simp only[LnZ];omega))[wrap64]
      refine (c_num R H (by omega) (by omega) (by simp)).go ?_
      rintro _ hL3 ⟨r2, rfl, o2, _, H⟩
      simp -implicitDefEqProofs (disch:=first|omega|(simp only[LnZ];omega))[wrap64, setC]
      exact RetK.keep (hk _ _ ⟨Exq.mk 2 r2 [], _, H.leaf i64c o2, by simp [Exq.nod, Exq.nods] <;> omega, by omega, by omega⟩)
  | succ d ih =>
    intro hd g h Γ p R H hp hp2
    have hq0 : 2 ^ (d + 1) = 2 * 2 ^ d := by rw [Nat.pow_succ]; omega
    have hq1 : 2 ^ (d + 1 + 1) = 4 * 2 ^ d := by rw [Nat.pow_succ, Nat.pow_succ]; omega
    have hqp : 0 < 2 ^ d := Nat.two_pow_pos d
    refine CallE.gen fun k hk => EN_spec_l5Random rfl ?_
    rw [hq0, hq1] at hk
    rw [hq0] at ih
    generalize hQ : 2 ^ d = q at *
    by_cases h2 : d = 0
    · simp -implicitDefEqProofs (disch:=first|omega|(simp only[LnZ];omega))[wrap64, h2]
      refine (c_pick R H (by omega) (by omega) ⟨by decide, by decide⟩).go ?_
      rintro _ hL1 ⟨r1, rfl, o1, z1, y1, H⟩
      by_cases c1 : r1 = 0
      · simp -implicitDefEqProofs (disch:=first|omega|(simp only[LnZ];omega))[wrap64, c1]
        refine c_l5True.go ?_
        rintro _ hL2 ⟨rfl, rfl⟩
        simp -implicitDefEqProofs (disch:=first|omega|(simp only[LnZ];omega))[wrap64, setC]
        exact RetK.keep (hk _ _ ⟨Exq.mk 1 0 [], _, H.leaf i64c i64c, by simp [Exq.nod, Exq.nods] <;> omega, by omega, by omega⟩)
      · simp -implicitDefEqProofs (disch:=first|omega|(simp only[LnZ];omega))[wrap64, c1]
        refine H.bls [(0 : Int), 1, 0, 2] rfl rfl (okL (by decide)) (by decide) fun v hL2 H => ?_
        simp -implicitDefEqProofs (disch:=first|omega|(simp only[LnZ];omega))[wrap64]
        refine (c_num R H (by omega) (by omega) (by simp)).go ?_
        rintro _ hL3 ⟨r2, rfl, o2, _, H⟩
        simp -implicitDefEqProofs (disch:=first|omega|(simp only[LnZ];omega))[wrap64, setC]
        exact RetK.keep (hk _ _ ⟨Exq.mk 2 r2 [], _, H.leaf i64c o2, by simp [Exq.nod, Exq.nods] <;> omega, by omega, by omega⟩)
    · have h3 : ¬ ((d : Int) + 1 < 2) := by omega
      simp -implicitDefEqProofs (disch:=first|omega|(simp only[LnZ];omega))[wrap64, h3]
      refine (c_pick R H (by omega) (by omega) ⟨by decide, by decide⟩).go ?_
      rintro _ h1 ⟨r0, rfl, o0, z0, y0, H⟩
      by_cases c0 : r0 = 0
      · simp -implicitDefEqProofs (disch:=first|omega|(simp only[LnZ];omega))[wrap64, c0]
        refine (c_pick R H (by omega) (by omega) ⟨by decide, by decide⟩).go ?_
        rintro _ hL1 ⟨r1, rfl, o1, z1, y1, H⟩
        by_cases c1 : r1 = 0
        · simp -implicitDefEqProofs (disch:=first|omega|(simp only[LnZ];omega))[wrap64, c1]
          refine c_l5True.go ?_
          rintro _ hL2 ⟨rfl, rfl⟩
          simp -implicitDefEqProofs (disch:=first|omega|(simp only[LnZ];omega))[wrap64, setC]
          exact RetK.keep (hk _ _ ⟨Exq.mk 1 0 [], _, H.leaf i64c i64c, by simp [Exq.nod, Exq.nods] <;> omega, by omega, by omega⟩)
        · simp -implicitDefEqProofs (disch:=first|omega|(simp only[LnZ];omega))[wrap64, c1]
          refine H.bls [(0 : Int), 1, 0, 2] rfl rfl (okL (by decide)) (by decide) fun v hL2 H => ?_
          simp -implicitDefEqProofs (disch:=first|omega|(simp only[LnZ];omega))[wrap64]
          refine (c_num R H (by omega) (by omega) (by simp)).go ?_
          rintro _ hL3 ⟨r2, rfl, o2, _, H⟩
          simp -implicitDefEqProofs (disch:=first|omega|(simp only[LnZ];omega))[wrap64, setC]
          exact RetK.keep (hk _ _ ⟨Exq.mk 2 r2 [], _, H.leaf i64c o2, by simp [Exq.nod, Exq.nods] <;> omega, by omega, by omega⟩)
      · simp -implicitDefEqProofs (disch:=first|omega|(simp only[LnZ];omega))[wrap64, c0]
        refine H.bls [(7 : Int), 9, 10, 3, 4, 5, 6, 8] rfl rfl (okL (by decide)) (by decide) fun v h2 H => ?_
        simp -implicitDefEqProofs (disch:=first|omega|(simp only[LnZ];omega))[wrap64]
        refine (c_num R H (by omega) (by omega) (by simp)).go ?_
        rintro _ h4 ⟨kd, rfl, okd, _, H⟩
        have ha := Fm.arity_le (k := kd)
        have ha2 := Fm.arity_ge (k := kd)
        simp -implicitDefEqProofs (disch:=first|omega|(simp only[LnZ];omega))[wrap64, setC]
        refine c_l5Arity.go ?_
        rintro _ h4 ⟨rfl, rfl⟩
        obtain ⟨ar, har⟩ : ∃ ar, ar = Fm.arity kd := ⟨_, rfl⟩
        rw [← har] at ha ha2
        simp -implicitDefEqProofs (disch:=first|omega|(simp only[LnZ];omega))[wrap64, ← har]
        refine wp_while (σ := Nat) (fun j e h' => ∃ (ks : List Exq) (w : Value) (p' : Int), e = [some (.pointer (some ⟨b, 0, none⟩)), some (.int .i64 ((d : Int) + 1)), some (.agg #[.int .i64 0, .int .i64 0, .slice none 0 0]), some (.agg #[.int .i64 kd, .int .i64 0, w]), some (.int .i64 (ar - j))] ∧ HS g (ow w ks :: rb b sl p' :: Γ) h' ∧ ks.length = j ∧ Exq.nods ks ≤ j * (2 * q - 1) ∧ j ≤ 2 ∧ p ≤ p' ∧ p' ≤ p + 2 + j * (4 * q - 2)) (fun j => 3 - j) 0 ⟨[], .slice none 0 0, _, by simp, H.nil_ow, rfl, by simp [Exq.nods], by omega, by omega, by omega⟩ ?_
        clear H
        rintro J j _ h5 hJ ⟨ks, w, p', rfl, H, hkl, hkn, hj, hp3, hp4⟩
        by_cases c2 : (j : Int) < ar
        · have hj2 : j = 0 ∨ j = 1 := by omega
          simp -implicitDefEqProofs (disch:=first|omega|(simp only[LnZ];omega))[wrap64, c2]
          refine (ih (by omega) R H.sw1 (by omega) (by rcases hj2 with rfl | rfl <;> omega)).go ?_
          rintro _ h6 ⟨y, p2, H, hy, hp5, hp6⟩
          obtain ⟨wy, rfl, k1, k2, H'⟩ := H.unExq
          have hO' := H'.rep.one
          have hC' := H'.rep.cells
          simp -implicitDefEqProofs (disch:=first|omega|(simp only[LnZ];omega))[wrap64, setC, hO', hC']
          refine HS.appO (bytes := 40) H.sw2.sw1 rfl rfl rfl rfl rfl (by omega) (by omega) fun w' h7 H => ?_
          have hO := H.rep.one
          have hC := H.rep.cells
          simp -implicitDefEqProofs (disch:=first|omega|(simp only[LnZ];omega))[wrap64, setC, hO, hC]
          refine hJ (j + 1) _ _ (by omega) ⟨ks ++ [y], w', p2, by simp; omega, H, by simp [hkl], ?_, by omega, by omega, ?_⟩
          · rw [nods_append, show Exq.nods [y] = y.nod by simp [Exq.nods]]
            rcases hj2 with rfl | rfl <;> omega
          · rcases hj2 with rfl | rfl <;> omega
        · have hO := H.rep.one
          have hC := H.rep.cells
          simp -implicitDefEqProofs (disch:=first|omega|(simp only[LnZ];omega))[wrap64, c2, setC, hO, hC]
          refine RetK.keep (hk _ _ ⟨Exq.mk kd 0 ks, p', HS.mkExq' H okd ⟨by decide, by decide⟩, ?_, by omega, ?_⟩)
          · rw [Exq.nod_eq, Exq.kids_mk]
            obtain rfl | rfl | rfl : j = 0 ∨ j = 1 ∨ j = 2 := by omega
            all_goals omega
          · obtain rfl | rfl | rfl : j = 0 ∨ j = 1 ∨ j = 2 := by omega
            all_goals omega
theorem c_l5Formula {b : Nat} {sl : Value} {l : List (BitVec 8)} {g h : Heap} {Γ : List HP} {p : Int} (R : Rep g sl l) (H : HS g (rb b sl p :: Γ) h) (hp : 0 ≤ p) (hp2 : p ≤ 900000000000) :
    CallE Try.prog fn_spec_l5Formula [.pointer (some ⟨b, 0, none⟩)] h (fun u h' => ∃ (y : Exq) (p' : Int), HS g (ow u y :: rb b sl p' :: Γ) h' ∧ p ≤ p' ∧ p' ≤ p + 100) := by
  refine CallE.gen fun k hk => EN_spec_l5Formula rfl ?_
  simp -implicitDefEqProofs (disch:=first|omega|(simp only[LnZ];omega))[wrap64]
  refine H.bls [(3 : Int), 2, 4, 3] rfl rfl (okL (by decide)) (by decide) fun v h1 H => ?_
  simp -implicitDefEqProofs (disch:=first|omega|(simp only[LnZ];omega))[wrap64]
  refine (c_num R H (by omega) (by omega) (by simp)).go ?_
  rintro _ h2 ⟨r, rfl, orr, hr, H⟩
  obtain ⟨d, rfl, hd⟩ : ∃ d : Nat, r = d ∧ d ≤ 4 := by
    simp at hr
    exact ⟨r.toNat, by omega, by omega⟩
  have hq : 2 ^ d ≤ 2 ^ 4 := Nat.pow_le_pow_right (by decide) hd
  simp -implicitDefEqProofs (disch:=first|omega|(simp only[LnZ];omega))[wrap64]
  refine (c_l5Random d hd R H (by omega) (by omega)).go ?_
  rintro _ h3 ⟨y, p1, H, hy, hp3, hp4⟩
  have FY := H.rep.aExq
  simp -implicitDefEqProofs (disch:=first|omega|(simp only[LnZ];omega))[wrap64, FY]
  refine (c_spec_FormulaValid H.rep).go ?_
  rintro _ h3 ⟨rfl, rfl⟩
  by_cases q : Fm.Ok y
  · simp -implicitDefEqProofs (disch:=first|omega|(simp only[LnZ];omega))[wrap64, q, FY, setC]
    exact RetK.keep (hk _ _ ⟨y, p1, H, by omega, by omega⟩)
  · simp -implicitDefEqProofs (disch:=first|omega|(simp only[LnZ];omega))[wrap64, q, setC]
    refine HS.blsO1 ((H.drop).leaf (k := 2) (v := 0) i64c i64c) rfl fun w h4 H => ?_
    simp -implicitDefEqProofs (disch:=first|omega|(simp only[LnZ];omega))[wrap64, setC, H.rep.cells, H.rep.one]
    exact RetK.keep (hk _ _ ⟨_, p1, HS.mkExq' (kd := 10) (vl := 0) H i64c i64c, by omega, by omega⟩)
end Go.Proofs.Ytglnelcmcimljaa

namespace Go.Proofs.Ytglnelcmcimljaa
open Go
namespace Fm
theorem tN_acc1 {B : List Exq} {U : List Int} {L0 : List (List Int)} : ∀ n, 1 ≤ n → (tN B U L0 n).1 ≠ [] → (tN B U L0 n).1.length ≤ 64 → 1 ≤ (tN B U L0 n).2.1.length
  | 0, h, _, _ => absurd h (by omega)
  | n + 1, _, h1, h2 => by
    unfold tN at h1 h2 ⊢
    simp only at h1 h2 ⊢
    split
    · simp
    · rename_i hc
      rw [if_neg hc] at h1 h2
      by_cases e : n = 0
      · subst e
        exfalso
        apply hc
        exact ⟨List.length_pos_iff.2 h1, h2⟩
      · exact tN_acc1 n (by omega) h1 h2
theorem trow_len {B : List Exq} {i s : Nat} {p : Int} {q : List (List Int) × List Tr} : ∀ n, (trow B i s p n q).2.length ≤ q.2.length + n
  | 0 => by simp [trow]
  | n + 1 => by
    have ih := trow_len (B := B) (i := i) (s := s) (p := p) (q := q) n
    unfold trow
    simp only
    split
    · simp; omega
    · omega
theorem tN_ratio {B : List Exq} {U : List Int} {L0 : List (List Int)} : ∀ n, (tN B U L0 n).2.2.length ≤ (tN B U L0 n).2.1.length * 2 ^ B.length
  | 0 => by simp [tN]
  | n + 1 => by
    have ih := tN_ratio (B := B) (U := U) (L0 := L0) n
    unfold tN
    simp only
    split
    · have h1 := trow_len (B := B) (i := n) (s := (((tN B U L0 n).1.getD n []).getD 0 0).toNat) (p := (phs B U (((tN B U L0 n).1.getD n []).getD 0 0).toNat (((tN B U L0 n).1.getD n []).getD 1 0)).1) (q := ((tN B U L0 n).1, (tN B U L0 n).2.2)) (2 ^ B.length)
      simp only [List.length_append, List.length_singleton, Nat.add_mul, Nat.one_mul] at h1 ⊢
      omega
    · exact ih
theorem trR_bnd {x : Exq} (h : trOk x) : 1 ≤ (trR x).acc.length ∧ (trR x).acc.length ≤ 64 ∧ (trR x).init.length ≤ 32 ∧ (trR x).edges.length ≤ 32 * (trR x).acc.length := by
  rw [trR, if_pos h]
  have rat := tN_ratio (B := basics x) (U := unt (basics x) (basics x).length) (L0 := ini0 (basics x) (push x false) (2 ^ (basics x).length)) 64
  have h5 := h.1.2
  have hc := p2le h5
  have hl0 := ini0_len (B := basics x) (g := push x false) (2 ^ (basics x).length)
  have inv := tN_inv (B := basics x) (U := unt (basics x) (basics x).length) (L0 := ini0 (basics x) (push x false) (2 ^ (basics x).length)) (ini0_ok (Nat.le_refl _)) hl0 64
  have ac1 := tN_acc1 (B := basics x) (U := unt (basics x) (basics x).length) (L0 := ini0 (basics x) (push x false) (2 ^ (basics x).length)) 64 (by omega)
  have h64 := h.2
  have e : trT x = tN (basics x) (unt (basics x) (basics x).length) (ini0 (basics x) (push x false) (2 ^ (basics x).length)) 64 := rfl
  have e2 : trA x = ⟨upto (ini0 (basics x) (push x false) (2 ^ (basics x).length)).length, if (trT x).1 = [] then [false] else (trT x).2.1, (trT x).2.2⟩ := rfl
  rw [← e] at inv ac1 rat
  rw [e2]
  generalize ini0 (basics x) (push x false) (2 ^ (basics x).length) = I at *
  generalize trT x = T at *
  have i1 := inv.al
  have i2 := inv.el
  have hm : 64 * 2 ^ (basics x).length ≤ 64 * 32 := Nat.mul_le_mul_left 64 hc
  refine ⟨?_, ?_, ?_, ?_⟩
  · simp only
    split
    · simp
    · rename_i hne
      exact ac1 hne h64
  · simp only
    split
    · simp
    · omega
  · simp [upto]; omega
  · have hm2 : T.2.1.length * 2 ^ (basics x).length ≤ T.2.1.length * 32 := Nat.mul_le_mul_left _ hc
    simp only
    split
    · rename_i he
      have h0 : T.2.1.length = 0 := by
        have := i1.2
        rw [he] at this
        simpa using this
      rw [h0] at hm2 rat
      simp at rat
      simp [rat]
    · omega
end Fm
structure ASz (x : Aut) (n : Nat) : Prop where
  i : x.init.length ≤ n
  a : x.acc.length ≤ n
  e : x.edges.length ≤ n
theorem and_ok {a b : Int} : I64 (andI .i64 a b) := by
  unfold andI
  have h : ∀ z : Int, I64 (IntKind.i64.wrap z) := fun z => by
    have : IntKind.i64.wrap z = if z % 18446744073709551616 ≥ 9223372036854775808 then z % 18446744073709551616 - 18446744073709551616 else z % 18446744073709551616 := by
      simp [IntKind.wrap, IntKind.signed, IntKind.bits]
    rw [this]
    split
    · exact ⟨by omega, by omega⟩
    · exact ⟨by omega, by omega⟩
  exact h _
set_option maxHeartbeats 1000000 in
theorem c_l7Automaton {b : Nat} {sl : Value} {l : List (BitVec 8)} {g h : Heap} {Γ : List HP} {p : Int} (R : Rep g sl l) (H : HS g (rb b sl p :: Γ) h) (hp : 0 ≤ p) (hp2 : p ≤ 800000000000) :
    CallE Try.prog fn_spec_l7Automaton [.pointer (some ⟨b, 0, none⟩)] h (fun u h' => ∃ (a : Aut) (p' : Int), HS g (ow u a :: rb b sl p' :: Γ) h' ∧ 1 ≤ a.acc.length ∧ a.acc.length ≤ 16 ∧ (ASz a 2048 ∧ a.edges.length ≤ 32 * a.acc.length) ∧ p ≤ p' ∧ p' ≤ p + 1000) := by
  refine CallE.gen fun k hk => EN_spec_l7Automaton rfl ?_
  have main : ∀ {h : Heap} {p1 : Int} {q2 q3 : Option Value}, HS g (rb b sl p1 :: Γ) h → p ≤ p1 → p1 ≤ p + 200 → K52_34.wp Try.prog (retQ [(1, some (some 3))] k) [some (.pointer (some ⟨b, 0, none⟩)), some (.agg #[.slice none 0 0, .slice none 0 0, .slice none 0 0]), q2, q3, none, none, none, none, none] h := by
    intro h p1 q2 q3 H hp3 hp4
    simp -implicitDefEqProofs (disch:=first|omega|(simp only[LnZ];omega))[wrap64]
    refine H.bls [(3 : Int), 2, 4, 1, 5] rfl rfl (okL (by decide)) (by decide) fun v h1 H => ?_
    simp -implicitDefEqProofs (disch:=first|omega|(simp only[LnZ];omega))[wrap64]
    refine (c_num R H (by omega) (by omega) (by simp)).go ?_
    rintro _ h2 ⟨r, rfl, orr, hr, H⟩
    obtain ⟨n, rfl, hn1, hn5⟩ : ∃ n : Nat, r = n ∧ 1 ≤ n ∧ n ≤ 5 := by
      simp at hr
      exact ⟨r.toNat, by omega, by omega, by omega⟩
    simp -implicitDefEqProofs (disch:=first|omega|(simp only[LnZ];omega))[wrap64]
    refine HS.mks (bytes := 1) (α := Bool) (z := false) (n := n) (c := n) H rfl rfl own_false (Nat.le_refl _) (by omega) (by omega) fun o h3 H => ?_
    simp -implicitDefEqProofs (disch:=first|omega|(simp only[LnZ];omega))[wrap64, setC, H.rep.cells, H.rep.one]
    refine wp_count n (fun i e h' => ∃ (li : Value) (I : List Int) (y : List Bool) (p' : Int), e = [some (.pointer (some ⟨b, 0, none⟩)), some (.agg #[.slice none 0 0, .slice none 0 0, .slice none 0 0]), none, none, some (.int .i64 n), some (.agg #[li, o, .slice none 0 0]), some (.int .i64 i), none, none] ∧ HS g (ow o y :: ow li I :: rb b sl p' :: Γ) h' ∧ y.length = n ∧ I.length ≤ i ∧ p ≤ p' ∧ p' ≤ p + 201 + 3 * i) ⟨.slice none 0 0, [], _, _, by simp, H.nil_ow.sw1, by simp, by simp, by omega, by omega⟩ ?_
    clear H
    rintro J i _ h4 hJ hi ⟨li, I, y, p', rfl, H, hyl, hIl, hp5, hp6⟩
    simp -implicitDefEqProofs (disch:=first|omega|(simp only[LnZ];omega))[wrap64]
    refine IteW.mk (fun hlt => ?_) (fun hge => ?_)
    · have hin : i < n := by omega
      simp -implicitDefEqProofs (disch:=first|omega|(simp only[LnZ];omega))[wrap64]
      refine (c_pick (n := 3) R H.sw2 (by omega) (by omega) i64c).go ?_
      rintro _ h5 ⟨r1, rfl, o1, z1, y1, H⟩
      simp -implicitDefEqProofs (disch:=first|omega|(simp only[LnZ];omega))[wrap64, H.sw1.rep.B]
      refine H.sw1.storeF (decide (r1 = 0)) (i := i) (by omega) rfl rfl trivial rfl fun h6 H => ?_
      simp -implicitDefEqProofs (disch:=first|omega|(simp only[LnZ];omega))[wrap64]
      have H := H.sw1
      by_cases i0 : i = 0
      · subst i0
        simp -implicitDefEqProofs (disch:=first|omega|(simp only[LnZ];omega))[wrap64]
        refine (c_pick (n := 12) R H (by omega) (by omega) i64c).go ?_
        rintro _ h7 ⟨r2, rfl, o2, z2, y2, H⟩
        by_cases c2 : 0 < r2
        · simp -implicitDefEqProofs (disch:=first|omega|(simp only[LnZ];omega))[wrap64, c2]
          simp -implicitDefEqProofs (disch:=first|omega|(simp only[LnZ];omega))[wrap64, setC]
          refine HS.app1 (bytes := 8) H.sw2 (0 : Int) rfl rfl rfl ⟨by omega, by omega⟩ rfl rfl (by omega) (by omega) fun li' h8 H => ?_
          simp -implicitDefEqProofs (disch:=first|omega|(simp only[LnZ];omega))[wrap64, setC, H.rep.cells, H.rep.one]
          exact hJ _ _ hin ⟨li', _, _, _, by simp, H.sw2, by simp [hyl], by rw [List.length_append]; simp only [List.length_singleton]; omega, by omega, by push_cast; omega⟩
        · simp -implicitDefEqProofs (disch:=first|omega|(simp only[LnZ];omega))[wrap64, c2]
          refine (c_pick (n := 5) R H (by omega) (by omega) i64c).go ?_
          rintro _ h7 ⟨r3, rfl, o3, z3, y3, H⟩
          by_cases c3 : r3 = 0
          · simp -implicitDefEqProofs (disch:=first|omega|(simp only[LnZ];omega))[wrap64, c3]
            simp -implicitDefEqProofs (disch:=first|omega|(simp only[LnZ];omega))[wrap64, setC]
            refine HS.app1 (bytes := 8) H.sw2 (0 : Int) rfl rfl rfl ⟨by omega, by omega⟩ rfl rfl (by omega) (by omega) fun li' h8 H => ?_
            simp -implicitDefEqProofs (disch:=first|omega|(simp only[LnZ];omega))[wrap64, setC, H.rep.cells, H.rep.one]
            exact hJ _ _ hin ⟨li', _, _, _, by simp, H.sw2, by simp [hyl], by rw [List.length_append]; simp only [List.length_singleton]; omega, by omega, by push_cast; omega⟩
          · simp -implicitDefEqProofs (disch:=first|omega|(simp only[LnZ];omega))[wrap64, c3]
            exact hJ _ _ hin ⟨li, _, _, _, by simp, H.sw1.under fun _ H => H.sw1, by simp [hyl], by omega, by omega, by push_cast; omega⟩
      · simp -implicitDefEqProofs (disch:=first|omega|(simp only[LnZ];omega))[wrap64, i0]
        refine (c_pick (n := 5) R H (by omega) (by omega) i64c).go ?_
        rintro _ h7 ⟨r3, rfl, o3, z3, y3, H⟩
        by_cases c3 : r3 = 0
        · simp -implicitDefEqProofs (disch:=first|omega|(simp only[LnZ];omega))[wrap64, c3]
          simp -implicitDefEqProofs (disch:=first|omega|(simp only[LnZ];omega))[wrap64, setC]
          refine HS.app1 (bytes := 8) H.sw2 (i : Int) rfl rfl rfl ⟨by omega, by omega⟩ rfl rfl (by omega) (by omega) fun li' h8 H => ?_
          simp -implicitDefEqProofs (disch:=first|omega|(simp only[LnZ];omega))[wrap64, setC, H.rep.cells, H.rep.one]
          exact hJ _ _ hin ⟨li', _, _, _, by simp, H.sw2, by simp [hyl], by rw [List.length_append]; simp only [List.length_singleton]; omega, by omega, by push_cast; omega⟩
        · simp -implicitDefEqProofs (disch:=first|omega|(simp only[LnZ];omega))[wrap64, c3]
          exact hJ _ _ hin ⟨li, _, _, _, by simp, H.sw1.under fun _ H => H.sw1, by simp [hyl], by omega, by omega, by push_cast; omega⟩
    obtain rfl : i = n := by omega
    simp -implicitDefEqProofs (disch:=first|omega|(simp only[LnZ];omega))[wrap64]
    refine H.bls [(6 : Int), 4, 8, 3, 10] rfl rfl (okL (by decide)) (by decide) fun v h5 H => ?_
    simp -implicitDefEqProofs (disch:=first|omega|(simp only[LnZ];omega))[wrap64]
    refine (c_num R (H.under fun _ H => H.sw2) (by omega) (by omega) (by simp)).go ?_
    rintro _ h6 ⟨r, rfl, orr, hr, H⟩
    have hr10 : 0 ≤ r ∧ r ≤ 10 := by simp at hr; omega
    simp -implicitDefEqProofs (disch:=first|omega|(simp only[LnZ];omega))[wrap64]
    refine wp_while (σ := Nat) (fun j e h' => ∃ (ed : Value) (E : List Tr) (p2 : Int), e = [some (.pointer (some ⟨b, 0, none⟩)), some (.agg #[.slice none 0 0, .slice none 0 0, .slice none 0 0]), none, none, some (.int .i64 i), some (.agg #[li, o, ed]), none, some (.int .i64 (r - j)), none] ∧ HS g (rb b sl p2 :: ow ed E :: ow o y :: ow li I :: Γ) h' ∧ E.length = j ∧ j ≤ 10 ∧ p ≤ p2 ∧ p2 ≤ p + 300 + 6 * j) (fun j => 11 - j) 0 ⟨.slice none 0 0, [], _, by simp, H.nil_ow.sw1, rfl, by omega, by omega, by omega⟩ ?_
    clear H
    rintro J2 j _ h7 hJ2 ⟨ed, E, p2, rfl, H, hEl, hj, hp7, hp8⟩
    by_cases c2 : (j : Int) < r
    · simp -implicitDefEqProofs (disch:=first|omega|(simp only[LnZ];omega))[wrap64, c2]
      refine H.bls [(1 : Int), 3, 0, 2, 7] rfl rfl (okL (by decide)) (by decide) fun v h8 H => ?_
      simp -implicitDefEqProofs (disch:=first|omega|(simp only[LnZ];omega))[wrap64]
      refine (c_num R H (by omega) (by omega) (by simp)).go ?_
      rintro _ h9 ⟨ca, rfl, oca, hca, H⟩
      simp -implicitDefEqProofs (disch:=first|omega|(simp only[LnZ];omega))[wrap64]
      refine (c_pick (n := i) R H (by omega) (by omega) ⟨by omega, by omega⟩).go ?_
      rintro _ h10 ⟨r1, rfl, o1, z1, y1, H⟩
      simp -implicitDefEqProofs (disch:=first|omega|(simp only[LnZ];omega))[wrap64]
      refine (c_pick (n := 8) R H (by omega) (by omega) i64c).go ?_
      rintro _ h11 ⟨r2, rfl, o2, z2, y2, H⟩
      simp -implicitDefEqProofs (disch:=first|omega|(simp only[LnZ];omega))[wrap64]
      refine (c_pick (n := i) R H (by omega) (by omega) ⟨by omega, by omega⟩).go ?_
      rintro _ h12 ⟨r3, rfl, o3, z3, y3, H⟩
      simp -implicitDefEqProofs (disch:=first|omega|(simp only[LnZ];omega))[wrap64, setC]
      refine HS.app1 (bytes := 32) H.sw1 (⟨r1, ca, andI .i64 r2 ca, r3⟩ : Tr) rfl rfl rfl (Tr.ok_iff.2 ⟨o1, oca, and_ok, o3⟩) rfl rfl (by omega) (by omega) fun ed' h13 H => ?_
      simp -implicitDefEqProofs (disch:=first|omega|(simp only[LnZ];omega))[wrap64, setC, H.rep.cells, H.rep.one]
      exact hJ2 (j + 1) _ _ (by omega) ⟨ed', _, _, by simp; omega, H.sw1, by simp [hEl], by omega, by omega, by push_cast; omega⟩
    · simp -implicitDefEqProofs (disch:=first|omega|(simp only[LnZ];omega))[wrap64, c2, setC, H.sw1.rep.one, H.sw2.rep.one, H.sw3.rep.one]
      have H2 : HS g (ow li I :: ow o y :: ow ed E :: rb b sl p2 :: Γ) h7 := (H.sw3.under fun _ H => H.sw2.under fun _ H => H.sw1)
      exact RetK.keep (hk _ _ ⟨⟨I, y, E⟩, p2, HS.mkAut (a := ⟨I, y, E⟩) H2, by simp only; omega, by simp only; omega, ⟨⟨by simp only; omega, by simp only; omega, by simp only; omega⟩, by simp only; omega⟩, by omega, by omega⟩)
  simp -implicitDefEqProofs (disch:=first|omega|(simp only[LnZ];omega))[wrap64]
  refine (c_pick (n := 3) R H (by omega) (by omega) i64c).go ?_
  rintro _ h1 ⟨r0, rfl, o0, z0, y0, H⟩
  by_cases c0 : r0 = 0
  case neg =>
    have M := fun q2 q3 => main (q2 := q2) (q3 := q3) H (by omega) (by omega)
    simp -implicitDefEqProofs (disch:=first|omega|(simp only[LnZ];omega))[wrap64] at M
    simp -implicitDefEqProofs (disch:=first|omega|(simp only[LnZ];omega))[wrap64, c0]
    exact M _ _
  simp -implicitDefEqProofs (disch:=first|omega|(simp only[LnZ];omega))[wrap64, c0]
  refine (c_l5Formula R H (by omega) (by omega)).go ?_
  rintro _ h2 ⟨y, p1, H, hp3, hp4⟩
  simp -implicitDefEqProofs (disch:=first|omega|(simp only[LnZ];omega))[wrap64]
  refine (c_spec_TranslateFormula H.rep).go ?_
  rintro _ h3 ⟨w, rfl, G⟩
  have H := G.app H
  have FA := H.rep.aAut
  have RA := H.rep
  have H := H.sw2
  have Hd : HS g (rb b sl p1 :: Γ) h3 := H.under fun _ H => H.drop.drop
  have M := fun q2 q3 => main (q2 := q2) (q3 := q3) Hd (by omega) (by omega)
  simp -implicitDefEqProofs (disch:=first|omega|(simp only[LnZ];omega))[wrap64] at M
  by_cases q : Fm.trOk y
  case neg =>
    simp -implicitDefEqProofs (disch:=first|omega|(simp only[LnZ];omega))[wrap64, q, FA, setC]
    exact M _ _
  obtain ⟨b1, b2, b3, b4⟩ := Fm.trR_bnd q
  obtain ⟨w1, w2, w3, rfl, HA⟩ := H.sw1.unAut
  have hO1 := HA.rep.one
  have hO2 := HA.sw1.rep.one
  have hO3 := HA.sw2.rep.one
  by_cases q16 : ((Fm.trR y).acc.length : Int) ≤ 16
  · simp -implicitDefEqProofs (disch:=first|omega|(simp only[LnZ];omega))[wrap64, q, FA, setC, hO1, hO2, hO3, HA.sw1.rep.len, q16]
    exact RetK.keep (hk _ _ ⟨_, p1, (H.sw1.under fun _ H => H.under fun _ H => H.drop), b1, by omega, ⟨⟨by omega, by omega, by omega⟩, b4⟩, by omega, by omega⟩)
  · simp -implicitDefEqProofs (disch:=first|omega|(simp only[LnZ];omega))[wrap64, q, FA, setC, hO1, hO2, hO3, HA.sw1.rep.len, q16]
    exact M _ _
end Go.Proofs.Ytglnelcmcimljaa
