/-
  Texts of this proof, one behind the other.
-/
import Derived.WalkKit
import Derived.ProofKit
import Derived.OpenShut
import Derived.Carry
import Derived.Deep.Slices
import Derived.SizedLaws
import Derived.Test.YtglnelcmcimljaaGreatYF3
set_option linter.all false
set_option linter.unusedVariables false
set_option linter.unusedSimpArgs false
set_option linter.defProp false
set_option maxRecDepth 1000000
namespace Go.Proofs.YtglnelcmcimljaaGreat
open Go
theorem Rep.cut {α : Type} [Ty α] {h : Heap} {v : Value} {l : List α} (R : Rep h v l) {n esz : Nat} {k : IntKind} (hn : n ≤ l.length) : ∃ v', sliceVV esz v none (some (some (.int k n))) none = some v' ∧ Rep h v' (l.take n) := by
  obtain ⟨p, cap, rfl, h1, h2, h3⟩ := Rep_list.1 R
  have hl : (l.take n).length = n := by simp; omega
  have hc : n ≤ cap := by omega
  cases n with
  | zero =>
    cases p with
    | none =>
      refine ⟨.slice none 0 cap, ?_, Rep_list.2 ⟨none, cap, by simp, by simp, trivial, fun i hi => by simp at hi⟩⟩
      simp [sliceVV, bndV]
    | some a =>
      by_cases hz : cap = 0
      · refine ⟨.slice (some a) 0 cap, ?_, Rep_list.2 ⟨some a, cap, by simp, by simp, trivial, fun i hi => by simp at hi⟩⟩
        simp [sliceVV, bndV, hz]
      · refine ⟨.slice (some (a.add 0)) 0 cap, ?_, Rep_list.2 ⟨some (a.add 0), cap, by simp, by simp, trivial, fun i hi => by simp at hi⟩⟩
        simp [sliceVV, bndV, hz]
  | succ n =>
    obtain ⟨b, off, vs, rfl, _⟩ := h3 0 (by omega)
    refine ⟨.slice (some ⟨b, off, none⟩) (n + 1) cap, ?_, Rep_list.2 ⟨_, cap, by rw [hl], by rw [hl]; omega, trivial, fun i hi => ?_⟩⟩
    · simp [sliceVV, bndV, add_none]
      rw [if_pos (by omega)]
    · rw [hl] at hi
      obtain ⟨b', off', vs, e1, e2, e3⟩ := h3 i (by omega)
      exact ⟨b', off', vs, e1, e2, by simpa using e3⟩
@[simp] theorem nilcV_ptr {a : Addr} : nilcV (.pointer (some a)) = some (.pointer (some a)) := rfl
instance instTyU8 : Ty (BitVec 8) where
  agg := false
  sz := 1
  rep := fun _ cs n => cs = [.int .u8 n.toNat]
  own := fun r cs n => r = Heap.nil ∧ cs = [.int .u8 n.toNat]
  one := fun _ => rfl
  len := by rintro h cs x rfl; rfl
  cell := by rintro h cs x rfl v hv; simp at hv; subst hv; rfl
  mono := fun _ hr => hr
  own_rep := fun ho => ho.2
instance instFlatU8 : Flat (BitVec 8) := ⟨fun n => [.int .u8 n.toNat], fun _ => True, by simp [Ty.rep], by simp [Ty.own]⟩
theorem Rep.Y {h : Heap} {v : Value} {l : List (BitVec 8)} (hr : Rep h v l) : ((∀ (kd : IntKind) (i : Nat), i < l.length → iaV 1 v (.int kd i) = some (elp 1 v i)) ∧ (∀ (kd : IntKind) (i : Int), 0 ≤ i → i < l.length → iaV 1 v (.int kd i) = some (elp 1 v i.toNat)) ∧ lenVV v = some (.int .i64 l.length)) ∧
    ∀ (i : Nat) (hi : i < l.length), hload h (some (elp 1 v i)) none = some (.int .u8 l[i].toNat) := ⟨hr.X rfl, fun _ hi => hr.ldF hi⟩
theorem xor_nn {a b : Int} (ha : 0 ≤ a) (ha2 : a < 9223372036854775808) (hb : 0 ≤ b) (hb2 : b < 9223372036854775808) : 0 ≤ xorI .i64 a b ∧ xorI .i64 a b < 9223372036854775808 := by
  have e1 : (BitVec.ofInt 64 a).toNat = a.toNat := by rw [BitVec.toNat_ofInt]; congr 1; exact Int.emod_eq_of_lt ha (by omega)
  have e2 : (BitVec.ofInt 64 b).toNat = b.toNat := by rw [BitVec.toNat_ofInt]; congr 1; exact Int.emod_eq_of_lt hb (by omega)
  have h : a.toNat ^^^ b.toNat < 2 ^ 63 := Nat.xor_lt_two_pow (by omega) (by omega)
  have e3 : xorI .i64 a b = ((a.toNat ^^^ b.toNat : Nat) : Int) := by
    unfold xorI
    rw [show IntKind.i64.bits = 64 from rfl, BitVec.toNat_xor, e1, e2]
    exact wrap64 (by omega) (by omega)
  rw [e3]
  omega
abbrev rb (b : Nat) (sl : Value) (p : Int) : HP := bx b [sl, .int .i64 p]
theorem tmod_rng {a b : Int} (ha : 0 ≤ a) (hb : 0 < b) : 0 ≤ a.tmod b ∧ a.tmod b < b := by
  rw [Int.tmod_eq_emod_of_nonneg ha]
  exact ⟨Int.emod_nonneg _ (by omega), Int.emod_lt_of_pos _ hb⟩
theorem tdiv_rng {a b : Int} (ha : 0 ≤ a) (hb : 0 < b) : 0 ≤ a.tdiv b ∧ a.tdiv b ≤ a := by
  rw [Int.tdiv_eq_ediv_of_nonneg ha]
  exact ⟨Int.ediv_nonneg ha (by omega), Int.ediv_le_self _ ha⟩
theorem c_pick {g h : Heap} {Γ : List HP} {b : Nat} {sl : Value} {l : List (BitVec 8)} {p n : Int} (R : Rep g sl l) (H : HS g (rb b sl p :: Γ) h) (hp : 0 ≤ p) (hp2 : p < 1099511627776) (hn : I64 n) :
    CallE Tryz.prog fn_spec_l16Rd_pick [.pointer (some ⟨b, 0, none⟩), .int .i64 n] h (fun u h' => ∃ r, u = .int .i64 r ∧ I64 r ∧ 0 ≤ r ∧ (1 ≤ n → r < n) ∧ HS g (rb b sl (p + 1) :: Γ) h') := by
  have hL := R.lt
  have hn1 := hn.1
  have hn2 := hn.2
  refine CallE.gen fun k hk => EN_spec_l16Rd_pick rfl ?_
  have hb0 : hload h (some (.pointer (some ⟨b, 0, none⟩))) none = some sl := H.bxld rfl
  have hb1 : hload h (some (.pointer (some ⟨b, 1, none⟩))) none = some (.int .i64 p) := H.bxld rfl
  simp -implicitDefEqProofs (disch:=first|omega|(simp only[LnZ];omega))[wrap64, hb0, hb1]
  refine HS.bxst (o := 1) (sz := 1) (u := .int .i64 (p + 1)) H rfl rfl rfl rfl (by simp) fun h2 H => ?_
  replace H : HS g (rb b sl (p + 1) :: Γ) h2 := H
  have hb0 : hload h2 (some (.pointer (some ⟨b, 0, none⟩))) none = some sl := H.bxld rfl
  have hb1 : hload h2 (some (.pointer (some ⟨b, 1, none⟩))) none = some (.int .i64 (p + 1)) := H.bxld rfl
  by_cases a1 : n < 1
  · simp -implicitDefEqProofs (disch:=first|omega|(simp only[LnZ];omega))[wrap64, hb0, hb1, a1]
    exact RetK.keep (hk _ _ ⟨0, rfl, ⟨by omega, by omega⟩, by omega, fun h => absurd h (by omega), H⟩)
  obtain ⟨ln, hln⟩ : ∃ ln : Int, ln = l.length := ⟨_, rfl⟩
  have hlen := (R.on H).len
  rw [← hln] at hlen
  by_cases a2 : ln = 0
  · simp -implicitDefEqProofs (disch:=first|omega|(simp only[LnZ];omega))[wrap64, hb0, hb1, a1, hlen, a2]
    exact RetK.keep (hk _ _ ⟨0, rfl, ⟨by omega, by omega⟩, by omega, fun h => by omega, H⟩)
  obtain ⟨m, rfl⟩ : ∃ m : Nat, p = m := ⟨p.toNat, (Int.toNat_of_nonneg hp).symm⟩
  have hn0 : ¬ n = 0 := by omega
  by_cases a3 : (m : Int) < ln
  · have hk3 : m < l.length := by omega
    obtain ⟨c, hc⟩ : ∃ c : Int, c = l[m].toNat := ⟨_, rfl⟩
    have hc2 : c < 256 := by have := l[m].isLt; omega
    have hc0 : 0 ≤ c := by omega
    have hld := (R.on H).Y.2 m hk3
    rw [← hc] at hld
    obtain ⟨r1, r2⟩ := tmod_rng hc0 (show 0 < n by omega)
    simp -implicitDefEqProofs (disch:=first|omega|(simp only[LnZ];omega))[wrap64, hb0, hb1, a1, hlen, a2, a3, (R.on H).Y.1.1, hld, hn0]
    exact RetK.keep (hk _ _ ⟨c.tmod n, rfl, ⟨by omega, by omega⟩, r1, fun _ => r2, H⟩)
  · obtain ⟨s1, s2⟩ := tmod_rng (a := (m : Int)) (b := ln) (by omega) (by omega)
    obtain ⟨i1, hi1⟩ : ∃ i1 : Nat, (m : Int).tmod ln = i1 := ⟨_, (Int.toNat_of_nonneg s1).symm⟩
    obtain ⟨t1, t2⟩ := tmod_rng (a := (m : Int) * 7 + 3) (b := ln) (by omega) (by omega)
    obtain ⟨i2, hi2⟩ : ∃ i2 : Nat, ((m : Int) * 7 + 3).tmod ln = i2 := ⟨_, (Int.toNat_of_nonneg t1).symm⟩
    obtain ⟨q1, q2⟩ := tdiv_rng (a := (m : Int)) (b := ln) (by omega) (by omega)
    obtain ⟨q, hq⟩ : ∃ q : Int, (m : Int).tdiv ln = q := ⟨_, rfl⟩
    rw [hi1] at s1 s2
    rw [hi2] at t1 t2
    rw [hq] at q1 q2
    have hl1 : i1 < l.length := by omega
    have hl2 : i2 < l.length := by omega
    obtain ⟨c, hc⟩ : ∃ c : Int, c = l[i1].toNat := ⟨_, rfl⟩
    have hc2 : c < 256 := by have := l[i1].isLt; omega
    have hc0 : 0 ≤ c := by omega
    have hld := (R.on H).Y.2 i1 hl1
    rw [← hc] at hld
    obtain ⟨d, hd⟩ : ∃ d : Int, d = l[i2].toNat := ⟨_, rfl⟩
    have hd2 : d < 256 := by have := l[i2].isLt; omega
    have hd0 : 0 ≤ d := by omega
    have hld2 := (R.on H).Y.2 i2 hl2
    rw [← hd] at hld2
    obtain ⟨x, hx⟩ : ∃ x : Int, x = c * 131 + d * 1117 + (m : Int) * 29 + q * 53 := ⟨_, rfl⟩
    have hx0 : 0 ≤ x := by omega
    have hx1 : x < 9223372036854775808 := by omega
    obtain ⟨y1, y2⟩ := tdiv_rng (a := x) (b := 64) hx0 (by omega)
    obtain ⟨z1, z2⟩ := xor_nn hx0 hx1 y1 (by omega)
    obtain ⟨w1, w2⟩ := tmod_rng z1 (show 0 < n by omega)
    simp -implicitDefEqProofs (disch:=first|omega|(simp only[LnZ];omega))[wrap64, hb0, hb1, a1, hlen, a2, a3, (R.on H).Y.1.1, hi1, hi2, hq, hld, hld2, hn0, ← hx]
    exact RetK.keep (hk _ _ ⟨_, rfl, ⟨by omega, by omega⟩, w1, fun _ => w2, H⟩)
theorem c_num {g h : Heap} {Γ : List HP} {b : Nat} {sl v : Value} {l : List (BitVec 8)} {p : Int} {xs : List Int} (R : Rep g sl l) (H : HS g (ow v xs :: rb b sl p :: Γ) h) (hp : 0 ≤ p) (hp2 : p < 1099511627776) (hx : xs ≠ []) :
    CallE Tryz.prog fn_spec_l16Rd_num [.pointer (some ⟨b, 0, none⟩), v] h (fun u h' => ∃ r, u = .int .i64 r ∧ I64 r ∧ r ∈ xs ∧ HS g (rb b sl (p + 1) :: Γ) h') := by
  have hL := H.rep.lt
  have hpos : 0 < xs.length := List.length_pos_iff.2 hx
  refine CallE.gen fun k hk => EN_spec_l16Rd_num rfl ?_
  simp -implicitDefEqProofs (disch:=first|omega|(simp only[LnZ];omega))[wrap64, H.rep.len]
  refine (c_pick R H.sw1 hp hp2 ⟨by omega, by omega⟩).go ?_
  rintro _ h1 ⟨r, rfl, hr, hr0, hr1, H⟩
  obtain ⟨i, rfl⟩ : ∃ i : Nat, r = i := ⟨r.toNat, (Int.toNat_of_nonneg hr0).symm⟩
  have hi : i < xs.length := by have := hr1 (by omega); omega
  have hok := H.sw1.rep.okI hi
  simp -implicitDefEqProofs (disch:=first|omega|(simp only[LnZ];omega))[wrap64, H.sw1.rep.I]
  exact RetK.keep (hk _ _ ⟨xs[i], rfl, ⟨hok.1, hok.2⟩, List.getElem_mem hi, H.sw1.drop⟩)
theorem c_l16Open {h : Heap} {v : Value} {l : List (BitVec 8)} (R : Rep h v l) : CallE Tryz.prog fn_spec_l16Open [v] h (fun u h' => ∃ b sl, ∃ l' : List (BitVec 8), u = .pointer (some ⟨b, 0, none⟩) ∧ Rep h sl l' ∧ HS h [rb b sl 0] h') := by
  have hL := R.lt
  refine CallE.gen fun k hk => EN_spec_l16Open rfl ?_
  by_cases a1 : (2000 : Int) < l.length
  · obtain ⟨v', e1, R'⟩ := R.cut (n := 2000) (esz := 1) (k := .i64) (by omega)
    have hO := R'.one
    have e2 : sliceVV 1 v none (some (some (.int .i64 2000))) none = some v' := e1
    simp -implicitDefEqProofs (disch:=first|omega|(simp only[LnZ];omega))[wrap64, R.len, a1, e2, setC, hO, R'.cells]
    refine HS.init.alloc rfl fun b h1 H => ?_
    simp -implicitDefEqProofs (disch:=first|omega|(simp only[LnZ];omega))[wrap64]
    exact RetK.keep (hk _ _ ⟨b, v', _, rfl, R', H⟩)
  · have hO := R.one
    simp -implicitDefEqProofs (disch:=first|omega|(simp only[LnZ];omega))[wrap64, R.len, a1, setC, hO, R.cells]
    refine HS.init.alloc rfl fun b h1 H => ?_
    simp -implicitDefEqProofs (disch:=first|omega|(simp only[LnZ];omega))[wrap64]
    exact RetK.keep (hk _ _ ⟨b, v, _, rfl, R, H⟩)
end Go.Proofs.YtglnelcmcimljaaGreat

namespace Go.Proofs.YtglnelcmcimljaaGreat
open Go Go.RowKit
def whole (w : World) : Heap := fun b => w.heap[b]?
theorem calls_law {P : Program} {f : FuncId} {fn : Func} {args : List Value} {W : World} (hf : P.funcs[f]? = some fn) (hname : (fn.name == "runtime.NumGoroutine") = false) (hb : fn.body.isSome = true)
    (h : CallE P f args (whole W) (fun u h' => (whole W).le h' ∧ u = .bool true)) : Calls P f args.toArray W fun e W' => e = .returned (.bool true) ∧ Below W.heap.size W W' := by
  have h1 := h W (fun b o hb => hb)
  obtain ⟨bd, hbd⟩ := Option.isSome_iff_exists.1 hb
  have hname' : ¬ fn.name = "runtime.NumGoroutine" := by simpa using hname
  have hcall : (callFunc f args.toArray).run P W = .ok (.enter f args.toArray) W := by
    simp [callFunc, hf, hname', hbd]
  rw [hcall] at h1
  refine Calls.mono h1 ?_
  rintro e W' ⟨v, h', rfl, ⟨hl, rfl⟩, hs, hF⟩
  refine ⟨rfl, hF.os, hF.tape, hF.output, hF.size, ?_⟩
  intro k hk
  have h2 : whole W k = some W.heap[k] := by simp [whole, hk]
  rw [hs _ _ (hl _ _ h2)]
  simp [hk]
section
variable {H : Type} {enc : TypeId × Value → H} {P : Program}
theorem trodAll_below (hl : laidOutB P = true) {W W' : World} : ∀ {ts : List TypeId} {vs : List Value} {ds : List (DataW H)} {ps : List MemPlace}, (∀ t ∈ ts, P.readableRec t = true ∧ t < P.types.size) →
    DataW.TrodAll enc P W 0 (fun _ => true) true ts vs ds ps → Below W.heap.size W W' → (∀ x ∈ ps, x.block < W.heap.size) → DataW.TrodAll enc P W' 0 (fun b => decide (b < W.heap.size)) true ts vs ds ps
  | [], [], [], _, _, h, _, _ => h
  | _ :: _, _ :: _, _ :: _, _, ht, ⟨p, q, h1, h2, e⟩, hb, hlt =>
    ⟨p, q, Below.trod hl (ht _ (by simp)).1 (ht _ (by simp)).2 h1 hb (fun x hx => hlt x (by rw [e]; exact List.mem_append_left _ hx)),
      trodAll_below hl (fun t h => ht t (by simp [h])) h2 hb (fun x hx => hlt x (by rw [e]; exact List.mem_append_right _ hx)), e⟩
theorem kept_below {W W' : World} (hb : Below W.heap.size W W') (may : MemPlace → Prop) : W.keptBut W' may := by
  refine ⟨hb.os, hb.output, fun i hi => ?_⟩
  rw [hb.block i hi]
  split
  · rename_i h1 h2; rw [h1] at h2; simp only [Option.some.injEq, Obj.cells.injEq] at h2; obtain ⟨rfl, rfl, rfl⟩ := h2; exact ⟨rfl, rfl, rfl, fun _ _ => rfl⟩
  · rename_i h1 h2; rw [h1] at h2; simp only [Option.some.injEq, Obj.map.injEq] at h2; obtain ⟨rfl, rfl⟩ := h2; exact .inr ⟨rfl, rfl⟩
  · rfl
theorem post_law {f : Func} {s : ChangeSpec} {W W' : World} {args : Array Value} {ds gs : List (DataW H)} {before : List MemPlace} (hl : laidOutB P = true) (hvars : s.vars = []) (ht : ∀ t ∈ f.params.toList, P.readableRec t = true ∧ t < P.types.size)
    (hr : ∃ t, f.resultTypes = #[t] ∧ P.underlying t = some .bool) (hspec : (s.fn H (ds ++ gs)).results = [.lit (.bool true)] ∧ (s.fn H (ds ++ gs)).args = ds ∧ (s.fn H (ds ++ gs)).vars = [])
    (hW : DataW.Whole enc P f.params.toList s.vars false W args.toList ds gs before) (hb : Below W.heap.size W W') : s.post enc P f false true false false W args (.bool true) W' := by
  obtain ⟨t, ht1, ht2⟩ := hr
  obtain ⟨h1, h2, h3⟩ := hspec
  have hW' := hW
  obtain ⟨p, q, hA, hV, rfl, hz, hn⟩ := hW
  rw [hvars] at hV
  obtain ⟨rfl, rfl⟩ := Go.ChangeShapes.trodVars_none hV
  have hlt : ∀ x ∈ p ++ [], x.block < W.heap.size := fun x hx => by simpa using hW'.lt x hx
  refine ⟨ds, [], p ++ [], [], p, [], hW', ?_, ?_, ?_, World.keptBut_mono (fun x hx => ⟨by simpa using hx, .inr (.inl (by simpa using hx))⟩) (kept_below hb (fun x => x ∈ p)), by simp⟩
  · rw [h1, ht1]
    exact trodAll_cons_mk (shut_bool ht2 _) Go.ChangeShapes.trodAll_mk0
  · rw [h2]
    exact trodAll_below hl ht hA hb (fun x hx => hlt x (by simpa using hx))
  · rw [h3, hvars]; rfl
end
def wOk {H : Type} (P : Program) (t : TypeId) (d : DataW H) : Prop := ∀ n ∈ d.weights P t, n ≤ reachBytes
theorem wOk_all {H : Type} {P : Program} {e : TypeId} : ∀ {l : List (DataW H)}, (∀ n ∈ DataW.weightsAll P e l, n ≤ reachBytes) → ∀ d ∈ l, wOk P e d
  | [], _, d, hd => by simp at hd
  | x :: l, h, d, hd => by
    simp only [DataW.weightsAll, List.mem_append] at h
    rcases List.mem_cons.1 hd with rfl | hd
    · exact fun n hn => h n (.inl hn)
    · exact wOk_all (fun n hn => h n (.inr hn)) d hd
theorem wOk_each {H : Type} {P : Program} : ∀ {ts : List TypeId} {l : List (DataW H)}, (∀ n ∈ DataW.weightsEach P ts l, n ≤ reachBytes) → ∀ (i : Nat) t d, ts[i]? = some t → l[i]? = some d → wOk P t d
  | [], _, _, i, t, d, h1, _ => by simp at h1
  | _ :: _, [], _, i, t, d, _, h2 => by simp at h2
  | t0 :: ts, x :: l, h, 0, t, d, h1, h2 => by
    simp at h1 h2; subst h1 h2
    exact fun n hn => h n (by simp only [DataW.weightsEach, List.mem_append]; exact .inl hn)
  | t0 :: ts, x :: l, h, i + 1, t, d, h1, h2 => wOk_each (ts := ts) (l := l) (fun n hn => h n (by simp only [DataW.weightsEach, List.mem_append]; exact .inr hn)) i t d (by simpa using h1) (by simpa using h2)
def RdT (P : Program) (t : TypeId) (α : Type) [Ty α] : Prop := ∀ {H : Type} (enc : TypeId × Value → H) (W : World) (sp : Nat → Bool) (fuel : Nat) (cs : List Value) (x : DataW H × List MemPlace),
  DataW.trod enc P W 0 sp true fuel t cs = some x → wOk P t x.1 → ∃ y : α, Ty.rep (whole W) cs y
section
variable {P : Program} {t : TypeId}
theorem cells_whole {W : World} {b off : Nat} : ∀ {n : Nat} {l : List Value}, W.cells? 0 ⟨b, off, none⟩ n = some l → hcells (whole W) b off n = some l := by
  have key : ∀ n o l, (List.range' o n).mapM (fun i => W.cell? ((⟨b, off, none⟩ : Addr).add i)) = some l → hcells (whole W) b (off + o) n = some l := by
    intro n
    induction n with
    | zero => intro o l h; simpa [hcells] using h
    | succ n ih =>
      intro o l h
      rw [List.range'_succ, List.mapM_cons] at h
      simp only [Option.bind_eq_bind, Option.bind_eq_some_iff, Option.pure_def, Option.some.injEq] at h
      obtain ⟨v, h1, r, h2, rfl⟩ := h
      have h3 := ih (o + 1) r h2
      have h4 : hcell (whole W) b (off + o) = some v := by
        rw [addr_add0] at h1
        simp only [World.cell?, Option.isSome_none, Bool.false_eq_true, if_false] at h1
        simp only [hcell, whole]
        split at h1
        · rename_i hb; rw [hb]; exact h1
        · simp at h1
      simp only [hcells, h4]
      rw [show off + o + 1 = off + (o + 1) by omega, h3]
  intro n l h
  simp only [World.cells?, Nat.zero_le, if_true] at h
  rw [List.range_eq_range'] at h
  exact key n 0 l h
theorem cells_spot {W : World} {b off s n : Nat} (hn : 0 < n) : W.cells? 0 ⟨b, off, some s⟩ n = none := by
  simp only [World.cells?, Nat.zero_le, if_true]
  cases n with
  | zero => omega
  | succ n =>
    rw [List.range_succ_eq_map, List.mapM_cons]
    have : W.cell? ((⟨b, off, some s⟩ : Addr).add 0) = none := by
      simp only [Addr.add, if_true, World.cell?]
      split <;> simp
    rw [this]; rfl
theorem rd_list {α : Type} [Ty α] {e : TypeId} (ht : P.underlying t = some (.slice e)) (hc : P.cellsOf e = Ty.sz α) (hpos : 0 < Ty.sz α) (hby : 0 < P.bytesOf e) (he : RdT P e α) : RdT P t (List α) := by
  intro H enc W sp fuel cs x h hwt
  rcases Go.Deep.open_slice ht h with ⟨rfl, _⟩ | ⟨a, len, cap, m, n, D, Pl, rfl, _, hlen, hcap, hm, rfl, hel⟩
  · exact ⟨[], none, 0, rfl, by simp, trivial, fun i hi => by simp at hi⟩
  · have hle : len ≤ m := by rw [hm]; split <;> omega
    simp only [wOk, DataW.weights, ht, List.mem_cons, List.mem_append] at hwt
    have hsz : len ≤ reachBytes := by
      have h1 := hwt _ (.inl rfl)
      simp only [List.length_map, List.length_range] at h1
      have h2 : len * 1 ≤ (len + (m - len)) * P.bytesOf e := Nat.mul_le_mul (by omega) hby
      omega
    have hwe := wOk_all (fun n hn => hwt n (.inr (.inl hn)))
    have hall : ∀ i, i < len → ∃ y : α, ∃ b off vs, some a = some (⟨b, off, none⟩ : Addr) ∧ hcells (whole W) b (off + i * Ty.sz α) (Ty.sz α) = some vs ∧ Ty.rep (whole W) vs y := by
      intro i hi
      obtain ⟨cs', h1, h2⟩ := hel i (by omega)
      obtain ⟨y, hy⟩ := he enc W sp n cs' _ h2 (hwe _ (List.mem_map.2 ⟨i, by simpa using hi, rfl⟩))
      obtain ⟨b, off, spot⟩ := a
      rw [hc] at h1
      -- the address is plain: its first element could be read
      have h0 : spot = none := by
        cases spot with
        | none => rfl
        | some s =>
          obtain ⟨cs0, g1, _⟩ := hel 0 (by omega)
          rw [hc] at g1
          simp only [Nat.zero_mul, Addr.add, if_true] at g1
          rw [cells_spot hpos] at g1
          simp at g1
      subst h0
      rw [addr_add0] at h1
      exact ⟨y, b, off, cs', rfl, cells_whole h1, hy⟩
    have hch : ∃ l : List α, l.length = len ∧ ∀ i (hi : i < l.length), ∃ b off vs, some a = some (⟨b, off, none⟩ : Addr) ∧ hcells (whole W) b (off + i * Ty.sz α) (Ty.sz α) = some vs ∧ Ty.rep (whole W) vs l[i] := by
      refine ⟨(List.finRange len).map fun i => Classical.choose (hall i.1 i.2), by simp, fun i hi => ?_⟩
      have hi' : i < len := by simpa using hi
      have := Classical.choose_spec (hall i hi')
      simpa using this
    obtain ⟨l, hl, hr⟩ := hch
    refine ⟨l, some a, cap, by rw [hl], ⟨by omega, ?_⟩, trivial, hr⟩
    have : reachBytes < 4611686018427387904 := by decide
    omega
end
section
variable {P : Program} {W : World} {r : Reach} {base : Nat} {t e : TypeId} {v : Value}
theorem okWide_slice (ht : P.underlying t = some (.slice e)) (h : Value.okWide P W r base t v) : ∃ a n c, v = .slice a n c := by
  unfold Value.okWide at h
  rw [ht] at h
  simp only [Cell.okWide, ht] at h
  cases v <;> simp [Cell.ok, ht] at h ⊢
end
end Go.Proofs.YtglnelcmcimljaaGreat

namespace Go.Proofs.YtglnelcmcimljaaGreat
open Go
theorem rd_u8 {P : Program} {t : TypeId} (ht : P.underlying t = some (.int .u8)) : RdT P t (BitVec 8) := by
  intro H enc W sp fuel cs x h hwt
  cases fuel with
  | zero => simp [DataW.trod] at h
  | succ n =>
    unfold DataW.trod at h
    rw [ht] at h
    split at h
    case h_2 k k' m h1 =>
      simp only [Option.some.injEq, TypeDesc.int.injEq] at h1
      subst h1
      split at h
      case isTrue hc =>
        obtain ⟨rfl, hw⟩ := hc
        have := bounds_u8 hw
        refine ⟨BitVec.ofNat 8 m.toNat, ?_⟩
        show _ = [Value.int .u8 ((BitVec.ofNat 8 m.toNat).toNat : Int)]
        have e : ((BitVec.ofNat 8 m.toNat).toNat : Int) = m := by
          rw [BitVec.toNat_ofNat, Nat.mod_eq_of_lt (by omega)]; omega
        rw [e]
      case isFalse => simp at h
    all_goals simp_all
end Go.Proofs.YtglnelcmcimljaaGreat

namespace Go.Proofs.YtglnelcmcimljaaGreat
open Go
def H_impl_LassoSame : Hint := ⟨[(0, false), (1, false), (2, true), (3, true), (4, false)], []⟩
def K25_1 : Pl := .x 16 (.pick (.v 10) (.v 15) (.c (.bool false))) <|
 .m 4 16 .done
@[simp] def W25_1 := Pl.w K25_1.eq_1
def K25_2 : Pl := .m 10 9 <|
 .y 10 (.als 11 none 2) <|
 .y 10 (.pget (some 12) (some 11) 2 1 none) <|
 .y 10 (.als 13 none 3) <|
 .y 10 (.pget (some 14) (some 13) 3 1 none) <|
 .st (.act (some (.v 10, true)) (.ex (some 15) (.call fn_slices_Equal_S_int_int [.v 12, .v 14]))) K25_1
@[simp] def W25_2 := Pl.w K25_2.eq_1
def K25_3 : C := .seq (.pl <| .e 5 12 <|
 .a 5 2 <|
 .g 6 5 2 0 <|
 .a 7 3 <|
 .g 8 7 3 0 <|
 .c 9 (.call fn_slices_Equal_S_int_int [.v 6, .v 8]) K25_2) (.ret)
@[simp] def W25_3 := C.w K25_3.eq_1
def B_impl_LassoSame : C := .seq (.pl <| .e 5 0 <|
 .o (.pnew 2 (.v 0) []) <|
 .o (.pnew 3 (.v 1) []) <|
 .x 4 (.mv (.c (.bool false))) .done) K25_3
@[simp] def WB_impl_LassoSame := C.w B_impl_LassoSame.eq_1
def R_impl_LassoSame : FIR := ⟨B_impl_LassoSame, 5, [(4, none)]⟩
theorem IR_impl_LassoSame : cfun Tryz.prog H_impl_LassoSame Tryz.f25 = some R_impl_LassoSame := by kernel_rfl
theorem EN_impl_LassoSame : ENT Tryz.prog B_impl_LassoSame [(4, none)] 2 5 fn_impl_LassoSame := fun hargs hw => enter Tryz.func25 rfl IR_impl_LassoSame hargs hw
def H_impl_LetterAt : Hint := ⟨[(0, false), (1, false), (2, true), (4, false), (5, false)], []⟩
def K26_1 : C := .seq (.pl <| .e 5 13 <|
 .a 5 2 <|
 .g 6 5 2 1 <|
 .m 7 1 <|
 .a 8 2 <|
 .g 9 8 2 0 <|
 .x 10 (.lenV (.v 9)) <|
 .x 11 (.bin .sub (.v 7) (.v 10)) <|
 .a 12 2 <|
 .g 13 12 2 1 <|
 .x 14 (.lenV (.v 13)) <|
 .x 15 (.bin .rem (.v 11) (.v 14)) <|
 .x 16 (.ia 1 (.v 6) (.v 15)) <|
 .l 17 16 <|
 .m 3 17 <|
 .x 4 (.mv (.c (.bool true))) .done) (.ret)
@[simp] def W26_1 := C.w K26_1.eq_1
def K26_2 : C := .seq (.pl <| .e 5 0 <|
 .x 3 (.mv (.c (.int .i64 0))) <|
 .x 4 (.mv (.c (.bool false))) .done) (.ret)
@[simp] def W26_2 := C.w K26_2.eq_1
def K26_3 : C := .seq (.pl <| .e 5 5 <|
 .a 5 2 <|
 .g 6 5 2 0 <|
 .m 7 1 <|
 .x 8 (.ia 1 (.v 6) (.v 7)) <|
 .l 9 8 <|
 .m 3 9 <|
 .x 4 (.mv (.c (.bool true))) .done) (.ret)
@[simp] def W26_3 := C.w K26_3.eq_1
def K26_4 : C := .cond 5 (.v 10) K26_3 (.skip)
@[simp] def W26_4 := C.w K26_4.eq_1
def K26_5 : C := .seq (.pl <| .e 5 6 <|
 .m 5 1 <|
 .a 6 2 <|
 .g 7 6 2 0 <|
 .x 8 (.lenV (.v 7)) <|
 .x 9 (.bin .lss (.v 5) (.v 8)) <|
 .m 10 9 .done) K26_4
@[simp] def W26_5 := C.w K26_5.eq_1
def K26_6 : C := .cond 5 (.v 12) K26_2 K26_5
@[simp] def W26_6 := C.w K26_6.eq_1
def K26_7 : Pl := .x 7 (.un .not (.v 6)) <|
 .m 8 7 <|
 .n 8 (.px (some 9) (.mv (.v 1))) <|
 .n 8 (.px (some 10) (.bin .lss (.v 9) (.c (.int .i64 0)))) <|
 .x 11 (.pick (.v 8) (.c (.bool true)) (.v 10)) <|
 .m 12 11 .done
@[simp] def W26_7 := Pl.w K26_7.eq_1
def K26_8 : C := .seq (.block 0 (.seq (.pl <| .e 5 8 <|
 .o (.pget (some 5) none 2 0 (some 2)) <|
 .c 6 (.call fn_impl_LassoValid [.v 5]) K26_7) K26_6)) K26_1
@[simp] def W26_8 := C.w K26_8.eq_1
def B_impl_LetterAt : C := .seq (.pl <| .e 5 0 <|
 .o (.pnew 2 (.v 0) []) <|
 .x 3 (.mv (.c (.int .i64 0))) <|
 .x 4 (.mv (.c (.bool false))) .done) K26_8
@[simp] def WB_impl_LetterAt := C.w B_impl_LetterAt.eq_1
def R_impl_LetterAt : FIR := ⟨B_impl_LetterAt, 5, [(3, none), (4, none)]⟩
theorem IR_impl_LetterAt : cfun Tryz.prog H_impl_LetterAt Tryz.f26 = some R_impl_LetterAt := by kernel_rfl
theorem EN_impl_LetterAt : ENT Tryz.prog B_impl_LetterAt [(3, none), (4, none)] 2 5 fn_impl_LetterAt := fun hargs hw => enter Tryz.func26 rfl IR_impl_LetterAt hargs hw
def H_laws_FnExtendWord : Hint := ⟨[(0, false), (2, false), (3, true), (4, false), (5, true), (6, false), (7, true), (8, false), (9, false), (10, false), (11, false), (12, false), (13, false)], [[0, 1, 5, 6, 7, 9, 10, 11, 12]]⟩
def K6_1 : C := .seq (.pl <| .e 13 4 <|
 .m 13 12 <|
 .m 14 13 <|
 .y 14 (.px (some 15) (.mv (.v 11))) <|
 .x 16 (.pick (.v 14) (.v 15) (.c (.bool false))) <|
 .m 1 16 .done) (.ret)
@[simp] def W6_1 := C.w K6_1.eq_1
def K6_2 : Pl := .m 16 15 <|
 .x 17 (.extract 0 (.v 16)) <|
 .x 18 (.extract 1 (.v 16)) <|
 .m 11 17 <|
 .m 12 18 .done
@[simp] def W6_2 := Pl.w K6_2.eq_1
def K6_3 : C := .seq (.pl <| .e 13 6 <|
 .o (.pget (some 13) none 2 0 (some 3)) <|
 .o (.pget (some 14) none 4 0 (some 2)) <|
 .c 15 (.call fn_impl_Accepts [.v 13, .v 14]) K6_2) K6_1
@[simp] def W6_3 := C.w K6_3.eq_1
def K6_4 : C := .pl <| .e 13 2 <|
 .m 13 8 <|
 .x 14 (.bin .add (.v 13) (.c (.int .i64 1))) <|
 .m 8 14 .done
@[simp] def W6_4 := C.w K6_4.eq_1
def K6_5 : C := .seq (.pl <| .e 13 0 <|
 .x 1 (.mv (.c (.bool false))) .done) (.ret)
@[simp] def W6_5 := C.w K6_5.eq_1
def K6_6 : C := .cond 13 (.v 22) K6_5 (.skip)
@[simp] def W6_6 := C.w K6_6.eq_1
def K6_7 : C := .seq (.pl <| .e 13 10 <|
 .m 13 10 <|
 .x 14 (.un .not (.v 13)) <|
 .m 15 14 <|
 .n 15 (.px (some 16) (.mv (.v 9))) <|
 .n 15 (.px (some 17) (.mv (.v 3))) <|
 .n 15 (.px (some 18) (.mv (.v 8))) <|
 .n 15 (.px (some 19) (.ia 1 (.v 17) (.v 18))) <|
 .n 15 (.ld (some 20) (.v 19) none) <|
 .n 15 (.px (some 21) (.bin .neq (.v 16) (.v 20))) <|
 .x 22 (.pick (.v 15) (.c (.bool true)) (.v 21)) .done) K6_6
@[simp] def W6_7 := C.w K6_7.eq_1
def K6_8 : Pl := .m 16 15 <|
 .x 17 (.extract 0 (.v 16)) <|
 .x 18 (.extract 1 (.v 16)) <|
 .m 9 17 <|
 .m 10 18 .done
@[simp] def W6_8 := Pl.w K6_8.eq_1
def K6_9 : C := .seq (.block 1 (.seq (.pl <| .e 13 6 <|
 .o (.pget (some 13) none 4 0 (some 2)) <|
 .m 14 8 <|
 .c 15 (.call fn_impl_LetterAt [.v 13, .v 14]) K6_8) K6_7)) K6_4
@[simp] def W6_9 := C.w K6_9.eq_1
def K6_10 : C := .cond 13 (.v 16) (.skip) (.exit 0)
@[simp] def W6_10 := C.w K6_10.eq_1
def K6_11 : C := .seq (.seq (.pl <| .e 13 4 <|
 .m 13 8 <|
 .m 14 3 <|
 .x 15 (.lenV (.v 14)) <|
 .x 16 (.bin .lss (.v 13) (.v 15)) .done) K6_10) K6_9
@[simp] def W6_11 := C.w K6_11.eq_1
def K6_12 : C := .block 0 (.loop 13 [0, 1, 5, 6, 7, 9, 10, 11, 12] K6_11)
@[simp] def W6_12 := C.w K6_12.eq_1
def K6_13 : C := .seq (.seq (.pl <| .e 13 0 <|
 .x 8 (.mv (.c (.int .i64 0))) .done) K6_12) K6_3
@[simp] def W6_13 := C.w K6_13.eq_1
def K6_14 : Pl := .x 20 (.pick (.v 16) (.v 19) (.c (.bool false))) <|
 .m 1 20 .done
@[simp] def W6_14 := Pl.w K6_14.eq_1
def K6_15 : C := .seq (.pl <| .e 13 8 <|
 .m 13 5 <|
 .m 14 7 <|
 .x 15 (.eqb false (.v 13) (.v 14)) <|
 .m 16 15 <|
 .y 16 (.pget (some 17) none 4 0 (some 2)) <|
 .y 16 (.pget (some 18) none 6 0 (some 2)) <|
 .st (.act (some (.v 16, true)) (.ex (some 19) (.call fn_impl_LassoSame [.v 17, .v 18]))) K6_14) (.ret)
@[simp] def W6_15 := C.w K6_15.eq_1
def K6_16 : C := .cond 13 (.v 25) K6_15 (.skip)
@[simp] def W6_16 := C.w K6_16.eq_1
def K6_17 : Pl := .n 16 (.px (some 20) (.un .not (.v 19))) <|
 .x 21 (.pick (.v 16) (.c (.bool true)) (.v 20)) <|
 .m 22 21 <|
 .n 22 (.px (some 23) (.mv (.v 5))) <|
 .n 22 (.px (some 24) (.un .not (.v 23))) <|
 .x 25 (.pick (.v 22) (.c (.bool true)) (.v 24)) .done
@[simp] def W6_17 := Pl.w K6_17.eq_1
def K6_18 : C := .seq (.seq (.pl <| .e 13 13 <|
 .m 13 5 <|
 .m 14 7 <|
 .x 15 (.eqb true (.v 13) (.v 14)) <|
 .m 16 15 <|
 .n 16 (.pget (some 17) none 4 0 (some 2)) <|
 .n 16 (.pget (some 18) none 6 0 (some 2)) <|
 .st (.act (some (.v 16, false)) (.ex (some 19) (.call fn_impl_LassoSame [.v 17, .v 18]))) K6_17) K6_16) K6_13
@[simp] def W6_18 := C.w K6_18.eq_1
def K6_19 : Pl := .m 16 15 <|
 .x 17 (.extract 0 (.v 16)) <|
 .x 18 (.extract 1 (.v 16)) <|
 .o (.pnew 6 (.c (.agg #[.slice none 0 0, .slice none 0 0])) []) <|
 .o (.pset none 6 0 2 (.v 17)) <|
 .m 7 18 .done
@[simp] def W6_19 := Pl.w K6_19.eq_1
def K6_20 : C := .seq (.pl <| .e 13 6 <|
 .o (.pget (some 13) none 2 0 (some 3)) <|
 .m 14 3 <|
 .c 15 (.call fn_spec_ExtendWord [.v 13, .v 14]) K6_19) K6_18
@[simp] def W6_20 := C.w K6_20.eq_1
def K6_21 : Pl := .m 16 15 <|
 .x 17 (.extract 0 (.v 16)) <|
 .x 18 (.extract 1 (.v 16)) <|
 .o (.pnew 4 (.c (.agg #[.slice none 0 0, .slice none 0 0])) []) <|
 .o (.pset none 4 0 2 (.v 17)) <|
 .m 5 18 .done
@[simp] def W6_21 := Pl.w K6_21.eq_1
def K6_22 : C := .seq (.pl <| .e 13 6 <|
 .o (.pget (some 13) none 2 0 (some 3)) <|
 .m 14 3 <|
 .c 15 (.call fn_impl_ExtendWord [.v 13, .v 14]) K6_21) K6_20
@[simp] def W6_22 := C.w K6_22.eq_1
def K6_23 : Pl := .m 15 14 <|
 .x 16 (.extract 0 (.v 15)) <|
 .x 17 (.extract 1 (.v 15)) <|
 .o (.pnew 2 (.c (.agg #[.slice none 0 0, .slice none 0 0, .slice none 0 0])) []) <|
 .o (.pset none 2 0 3 (.v 16)) <|
 .m 3 17 .done
@[simp] def W6_23 := Pl.w K6_23.eq_1
def K6_24 : C := .seq (.pl <| .e 13 5 <|
 .m 13 0 <|
 .c 14 (.call fn_spec_DrawExtendWord [.v 13]) K6_23) K6_22
@[simp] def W6_24 := C.w K6_24.eq_1
def K6_25 : C := .seq (.pl <| .e 13 0 <|
 .x 1 (.mv (.c (.bool true))) .done) (.ret)
@[simp] def W6_25 := C.w K6_25.eq_1
def K6_26 : C := .cond 13 (.v 15) K6_25 (.skip)
@[simp] def W6_26 := C.w K6_26.eq_1
def K6_27 : C := .seq (.seq (.pl <| .e 13 3 <|
 .m 13 0 <|
 .x 14 (.lenV (.v 13)) <|
 .x 15 (.bin .gtr (.v 14) (.c (.int .i64 1048576))) .done) K6_26) K6_24
@[simp] def W6_27 := C.w K6_27.eq_1
def B_laws_FnExtendWord : C := .seq (.pl <| .e 13 0 <|
 .x 1 (.mv (.c (.bool false))) .done) K6_27
@[simp] def WB_laws_FnExtendWord := C.w B_laws_FnExtendWord.eq_1
def R_laws_FnExtendWord : FIR := ⟨B_laws_FnExtendWord, 13, [(1, none)]⟩
theorem IR_laws_FnExtendWord : cfun Tryz.prog H_laws_FnExtendWord Tryz.f6 = some R_laws_FnExtendWord := by kernel_rfl
theorem EN_laws_FnExtendWord : ENT Tryz.prog B_laws_FnExtendWord [(1, none)] 1 13 fn_laws_FnExtendWord := fun hargs hw => enter Tryz.func6 rfl IR_laws_FnExtendWord hargs hw
def H_spec_DrawExtendWord : Hint := ⟨[(0, false), (2, true), (3, false)], []⟩
def K23_1 : Pl := .x 5 (.extract 0 (.v 4)) <|
 .x 6 (.extract 1 (.v 4)) <|
 .o (.pset none 1 0 3 (.v 5)) <|
 .m 2 6 .done
@[simp] def W23_1 := Pl.w K23_1.eq_1
def K23_2 : C := .seq (.pl <| .e 3 4 <|
 .m 3 0 <|
 .c 4 (.call fn_spec_DrawPrefixStates [.v 3]) K23_1) (.ret)
@[simp] def W23_2 := C.w K23_2.eq_1
def B_spec_DrawExtendWord : C := .seq (.pl <| .e 3 0 <|
 .o (.pnew 1 (.c (.agg #[.slice none 0 0, .slice none 0 0, .slice none 0 0])) []) <|
 .x 2 (.mv (.c (.slice none 0 0))) .done) K23_2
@[simp] def WB_spec_DrawExtendWord := C.w B_spec_DrawExtendWord.eq_1
def R_spec_DrawExtendWord : FIR := ⟨B_spec_DrawExtendWord, 3, [(1, some (some 3)), (2, none)]⟩
theorem IR_spec_DrawExtendWord : cfun Tryz.prog H_spec_DrawExtendWord Tryz.f23 = some R_spec_DrawExtendWord := by kernel_rfl
theorem EN_spec_DrawExtendWord : ENT Tryz.prog B_spec_DrawExtendWord [(1, some (some 3)), (2, none)] 1 3 fn_spec_DrawExtendWord := fun hargs hw => enter Tryz.func23 rfl IR_spec_DrawExtendWord hargs hw
def H_spec_ExtendWord : Hint := ⟨[(0, false), (1, false), (2, true), (4, true), (5, false), (6, false), (7, false), (8, true), (10, true)], []⟩
def K24_1 : C := .seq (.pl <| .e 9 1 <|
 .o (.pget (some 9) none 8 0 (some 2)) <|
 .o (.pset none 3 0 2 (.v 9)) <|
 .x 4 (.mv (.c (.bool true))) .done) (.ret)
@[simp] def W24_1 := C.w K24_1.eq_1
def K24_2 : C := .seq (.pl <| .e 9 1 <|
 .x 9 (.build [.slice none 0 0, .slice none 0 0] []) <|
 .o (.pset none 3 0 2 (.v 9)) <|
 .x 4 (.mv (.c (.bool false))) .done) (.ret)
@[simp] def W24_2 := C.w K24_2.eq_1
def K24_3 : C := .cond 9 (.v 11) K24_2 (.skip)
@[simp] def W24_3 := C.w K24_3.eq_1
def K24_4 : Pl := .x 11 (.un .not (.v 10)) .done
@[simp] def W24_4 := Pl.w K24_4.eq_1
def K24_5 : C := .seq (.seq (.pl <| .e 9 3 <|
 .o (.pget (some 9) none 8 0 (some 2)) <|
 .c 10 (.call fn_spec_LassoValid [.v 9]) K24_4) K24_3) K24_1
@[simp] def W24_5 := C.w K24_5.eq_1
def K24_6 : Pl := .x 17 (.build [.slice none 0 0, .slice none 0 0] [(0, 1, .v 14), (1, 1, .v 16)]) <|
 .o (.pset none 8 0 2 (.v 17)) .done
@[simp] def W24_6 := Pl.w K24_6.eq_1
def K24_7 : Pl := .c 14 (.app 8 1 [.int .i64 0] (.o (.v 11)) (.o (.v 13))) K24_6
@[simp] def W24_7 := Pl.w K24_7.eq_1
def K24_8 : C := .seq (.pl <| .e 9 9 <|
 .o (.psl 9 [] []) <|
 .m 10 1 <|
 .a 12 7 <|
 .g 13 12 7 0 <|
 .a 15 7 <|
 .g 16 15 7 1 <|
 .o (.pnew 8 (.c (.agg #[.slice none 0 0, .slice none 0 0])) []) <|
 .c 11 (.app 8 1 [.int .i64 0] (.p 0 9) (.o (.v 10))) K24_7) K24_5
@[simp] def W24_8 := C.w K24_8.eq_1
def K24_9 : Pl := .m 16 15 <|
 .x 17 (.extract 0 (.v 16)) <|
 .x 18 (.extract 1 (.v 16)) <|
 .o (.pnew 7 (.c (.agg #[.slice none 0 0, .slice none 0 0])) []) <|
 .o (.pset none 7 0 2 (.v 17)) <|
 .m 19 18 .done
@[simp] def W24_9 := Pl.w K24_9.eq_1
def K24_10 : C := .seq (.pl <| .e 9 11 <|
 .m 9 5 <|
 .a 10 2 <|
 .g 11 10 2 1 <|
 .a 12 2 <|
 .g 13 12 2 2 <|
 .x 14 (.build [.slice none 0 0, .slice none 0 0, .slice none 0 0] [(0, 1, .v 9), (1, 1, .v 11), (2, 1, .v 13)]) <|
 .c 15 (.call fn_spec_FindWord [.v 14]) K24_9) K24_8
@[simp] def W24_10 := C.w K24_10.eq_1
def K24_11 : C := .seq (.pl <| .e 9 1 <|
 .x 9 (.build [.slice none 0 0, .slice none 0 0] []) <|
 .o (.pset none 3 0 2 (.v 9)) <|
 .x 4 (.mv (.c (.bool false))) .done) (.ret)
@[simp] def W24_11 := C.w K24_11.eq_1
def K24_12 : C := .cond 9 (.v 15) K24_11 (.skip)
@[simp] def W24_12 := C.w K24_12.eq_1
def K24_13 : C := .seq (.seq (.pl <| .e 9 7 <|
 .m 9 6 <|
 .x 10 (.un .not (.v 9)) <|
 .m 11 10 <|
 .n 11 (.px (some 12) (.mv (.v 5))) <|
 .n 11 (.px (some 13) (.lenV (.v 12))) <|
 .n 11 (.px (some 14) (.bin .eql (.v 13) (.c (.int .i64 0)))) <|
 .x 15 (.pick (.v 11) (.c (.bool true)) (.v 14)) .done) K24_12) K24_10
@[simp] def W24_13 := C.w K24_13.eq_1
def K24_14 : Pl := .m 12 11 <|
 .x 13 (.extract 0 (.v 12)) <|
 .x 14 (.extract 1 (.v 12)) <|
 .m 5 13 <|
 .m 6 14 .done
@[simp] def W24_14 := Pl.w K24_14.eq_1
def K24_15 : C := .seq (.pl <| .e 9 6 <|
 .o (.pget (some 9) none 2 0 (some 3)) <|
 .m 10 1 <|
 .c 11 (.call fn_spec_PrefixStates [.v 9, .v 10]) K24_14) K24_13
@[simp] def W24_15 := C.w K24_15.eq_1
def B_spec_ExtendWord : C := .seq (.pl <| .e 9 0 <|
 .o (.pnew 2 (.v 0) []) <|
 .o (.pnew 3 (.c (.agg #[.slice none 0 0, .slice none 0 0])) []) <|
 .x 4 (.mv (.c (.bool false))) .done) K24_15
@[simp] def WB_spec_ExtendWord := C.w B_spec_ExtendWord.eq_1
def R_spec_ExtendWord : FIR := ⟨B_spec_ExtendWord, 9, [(3, some (some 2)), (4, none)]⟩
theorem IR_spec_ExtendWord : cfun Tryz.prog H_spec_ExtendWord Tryz.f24 = some R_spec_ExtendWord := by kernel_rfl
theorem EN_spec_ExtendWord : ENT Tryz.prog B_spec_ExtendWord [(3, some (some 2)), (4, none)] 2 9 fn_spec_ExtendWord := fun hargs hw => enter Tryz.func24 rfl IR_spec_ExtendWord hargs hw
def H_spec_FindWord : Hint := ⟨[(0, false), (1, true), (2, true), (3, false), (4, false), (5, false), (6, false), (7, false)], [[0, 3, 7]]⟩
def K56_1 : C := .seq (.pl <| .e 8 1 <|
 .x 8 (.build [.slice none 0 0, .slice none 0 0] []) <|
 .o (.pset none 2 0 2 (.v 8)) <|
 .x 3 (.mv (.c (.bool false))) .done) (.ret)
@[simp] def W56_1 := C.w K56_1.eq_1
def K56_2 : C := .pl <| .e 8 2 <|
 .m 8 6 <|
 .x 9 (.bin .add (.v 8) (.c (.int .i64 1))) <|
 .m 6 9 .done
@[simp] def W56_2 := C.w K56_2.eq_1
def K56_3 : Pl := .x 16 (.build [.slice none 0 0, .slice none 0 0] [(0, 1, .v 14), (1, 1, .v 15)]) <|
 .o (.pset none 2 0 2 (.v 16)) <|
 .x 3 (.mv (.c (.bool true))) .done
@[simp] def W56_3 := Pl.w K56_3.eq_1
def K56_4 : C := .seq (.pl <| .e 8 9 <|
 .o (.pget (some 8) none 1 0 (some 3)) <|
 .m 9 4 <|
 .m 10 5 <|
 .m 11 6 <|
 .x 12 (.ia 1 (.v 10) (.v 11)) <|
 .l 13 12 <|
 .m 15 7 <|
 .c 14 (.call fn_spec_l7Letters [.v 8, .v 9, .v 13]) K56_3) (.ret)
@[simp] def W56_4 := C.w K56_4.eq_1
def K56_5 : C := .cond 8 (.v 10) K56_4 (.skip)
@[simp] def W56_5 := C.w K56_5.eq_1
def K56_6 : C := .seq (.pl <| .e 8 3 <|
 .m 8 7 <|
 .x 9 (.lenV (.v 8)) <|
 .x 10 (.bin .gtr (.v 9) (.c (.int .i64 0))) .done) K56_5
@[simp] def W56_6 := C.w K56_6.eq_1
def K56_7 : Pl := .m 7 13 .done
@[simp] def W56_7 := Pl.w K56_7.eq_1
def K56_8 : C := .seq (.pl <| .e 8 6 <|
 .o (.pget (some 8) none 1 0 (some 3)) <|
 .m 9 5 <|
 .m 10 6 <|
 .x 11 (.ia 1 (.v 9) (.v 10)) <|
 .l 12 11 <|
 .c 13 (.call fn_spec_l7Cycle [.v 8, .v 12]) K56_7) K56_6
@[simp] def W56_8 := C.w K56_8.eq_1
def K56_9 : C := .cond 8 (.v 15) K56_8 (.skip)
@[simp] def W56_9 := C.w K56_9.eq_1
def K56_10 : C := .seq (.block 1 (.seq (.pl <| .e 8 8 <|
 .a 8 1 <|
 .g 9 8 1 1 <|
 .m 10 5 <|
 .m 11 6 <|
 .x 12 (.ia 1 (.v 10) (.v 11)) <|
 .l 13 12 <|
 .x 14 (.ia 1 (.v 9) (.v 13)) <|
 .l 15 14 .done) K56_9)) K56_2
@[simp] def W56_10 := C.w K56_10.eq_1
def K56_11 : C := .cond 8 (.v 11) (.skip) (.exit 0)
@[simp] def W56_11 := C.w K56_11.eq_1
def K56_12 : C := .seq (.seq (.pl <| .e 8 4 <|
 .m 8 6 <|
 .m 9 5 <|
 .x 10 (.lenV (.v 9)) <|
 .x 11 (.bin .lss (.v 8) (.v 10)) .done) K56_11) K56_10
@[simp] def W56_12 := C.w K56_12.eq_1
def K56_13 : C := .block 0 (.loop 8 [0, 3, 7] K56_12)
@[simp] def W56_13 := C.w K56_13.eq_1
def K56_14 : C := .seq (.seq (.pl <| .e 8 0 <|
 .x 6 (.mv (.c (.int .i64 0))) .done) K56_13) K56_1
@[simp] def W56_14 := C.w K56_14.eq_1
def K56_15 : Pl := .m 12 11 <|
 .x 13 (.extract 0 (.v 12)) <|
 .x 14 (.extract 1 (.v 12)) <|
 .m 4 13 <|
 .m 5 14 .done
@[simp] def W56_15 := Pl.w K56_15.eq_1
def K56_16 : C := .seq (.pl <| .e 8 7 <|
 .o (.pget (some 8) none 1 0 (some 3)) <|
 .a 9 1 <|
 .g 10 9 1 0 <|
 .c 11 (.call fn_spec_l7Tree [.v 8, .v 10]) K56_15) K56_14
@[simp] def W56_16 := C.w K56_16.eq_1
def K56_17 : C := .seq (.pl <| .e 8 1 <|
 .x 8 (.build [.slice none 0 0, .slice none 0 0] []) <|
 .o (.pset none 2 0 2 (.v 8)) <|
 .x 3 (.mv (.c (.bool false))) .done) (.ret)
@[simp] def W56_17 := C.w K56_17.eq_1
def K56_18 : C := .cond 8 (.v 10) K56_17 (.skip)
@[simp] def W56_18 := C.w K56_18.eq_1
def K56_19 : Pl := .x 10 (.un .not (.v 9)) .done
@[simp] def W56_19 := Pl.w K56_19.eq_1
def K56_20 : C := .seq (.seq (.pl <| .e 8 3 <|
 .o (.pget (some 8) none 1 0 (some 3)) <|
 .c 9 (.call fn_spec_AutomatonValid [.v 8]) K56_19) K56_18) K56_16
@[simp] def W56_20 := C.w K56_20.eq_1
def B_spec_FindWord : C := .seq (.pl <| .e 8 0 <|
 .o (.pnew 1 (.v 0) []) <|
 .o (.pnew 2 (.c (.agg #[.slice none 0 0, .slice none 0 0])) []) <|
 .x 3 (.mv (.c (.bool false))) .done) K56_20
@[simp] def WB_spec_FindWord := C.w B_spec_FindWord.eq_1
def R_spec_FindWord : FIR := ⟨B_spec_FindWord, 8, [(2, some (some 2)), (3, none)]⟩
theorem IR_spec_FindWord : cfun Tryz.prog H_spec_FindWord Tryz.f56 = some R_spec_FindWord := by kernel_rfl
theorem EN_spec_FindWord : ENT Tryz.prog B_spec_FindWord [(2, some (some 2)), (3, none)] 1 8 fn_spec_FindWord := fun hargs hw => enter Tryz.func56 rfl IR_spec_FindWord hargs hw
def H_spec_LassoValid : Hint := ⟨[(0, false), (1, true), (2, false)], []⟩
def K57_1 : Pl := .x 10 (.pick (.v 6) (.v 9) (.c (.bool false))) <|
 .m 11 10 <|
 .y 11 (.als 12 none 1) <|
 .y 11 (.pget (some 13) (some 12) 1 0 none) <|
 .y 11 (.px (some 14) (.lenV (.v 13))) <|
 .y 11 (.px (some 15) (.bin .leq (.v 14) (.c (.int .i64 80)))) <|
 .x 16 (.pick (.v 11) (.v 15) (.c (.bool false))) <|
 .m 17 16 <|
 .y 17 (.als 18 none 1) <|
 .y 17 (.pget (some 19) (some 18) 1 1 none) <|
 .y 17 (.px (some 20) (.lenV (.v 19))) <|
 .y 17 (.px (some 21) (.bin .geq (.v 20) (.c (.int .i64 1)))) <|
 .x 22 (.pick (.v 17) (.v 21) (.c (.bool false))) <|
 .m 23 22 <|
 .y 23 (.als 24 none 1) <|
 .y 23 (.pget (some 25) (some 24) 1 1 none) <|
 .y 23 (.px (some 26) (.lenV (.v 25))) <|
 .y 23 (.px (some 27) (.bin .leq (.v 26) (.c (.int .i64 80)))) <|
 .x 28 (.pick (.v 23) (.v 27) (.c (.bool false))) <|
 .m 2 28 .done
@[simp] def W57_1 := Pl.w K57_1.eq_1
def K57_2 : Pl := .m 6 5 <|
 .y 6 (.als 7 none 1) <|
 .y 6 (.pget (some 8) (some 7) 1 1 none) <|
 .st (.act (some (.v 6, true)) (.ex (some 9) (.call fn_spec_l6Letters [.v 8]))) K57_1
@[simp] def W57_2 := Pl.w K57_2.eq_1
def K57_3 : C := .seq (.pl <| .e 3 26 <|
 .a 3 1 <|
 .g 4 3 1 0 <|
 .c 5 (.call fn_spec_l6Letters [.v 4]) K57_2) (.ret)
@[simp] def W57_3 := C.w K57_3.eq_1
def B_spec_LassoValid : C := .seq (.pl <| .e 3 0 <|
 .o (.pnew 1 (.v 0) []) <|
 .x 2 (.mv (.c (.bool false))) .done) K57_3
@[simp] def WB_spec_LassoValid := C.w B_spec_LassoValid.eq_1
def R_spec_LassoValid : FIR := ⟨B_spec_LassoValid, 3, [(2, none)]⟩
theorem IR_spec_LassoValid : cfun Tryz.prog H_spec_LassoValid Tryz.f57 = some R_spec_LassoValid := by kernel_rfl
theorem EN_spec_LassoValid : ENT Tryz.prog B_spec_LassoValid [(2, none)] 1 3 fn_spec_LassoValid := fun hargs hw => enter Tryz.func57 rfl IR_spec_LassoValid hargs hw
def H_spec_l7Cycle : Hint := ⟨[(0, false), (1, false), (2, true), (4, false), (5, false), (6, false), (7, false), (8, false), (9, false)], [[0, 3, 5, 6, 7, 8], [0, 3, 4, 8], [0, 3, 4]]⟩
def K100_1 : Pl := .m 3 9 .done
@[simp] def W100_1 := Pl.w K100_1.eq_1
def K100_2 : C := .seq (.pl <| .e 9 1 <|
 .c 9 (.bls 1 0 [.int .i64 0] []) K100_1) (.ret)
@[simp] def W100_2 := C.w K100_2.eq_1
def K100_3 : C := .pl <| .e 9 2 <|
 .m 9 7 <|
 .x 10 (.bin .add (.v 9) (.c (.int .i64 1))) <|
 .m 7 10 .done
@[simp] def W100_3 := C.w K100_3.eq_1
def K100_4 : C := .pl <| .e 9 2 <|
 .m 9 8 <|
 .x 10 (.bin .add (.v 9) (.c (.int .i64 1))) <|
 .m 8 10 .done
@[simp] def W100_4 := C.w K100_4.eq_1
def K100_5 : Pl := .m 3 23 .done
@[simp] def W100_5 := Pl.w K100_5.eq_1
def K100_6 : Pl := .st (.re 21 (.v 20) none none) <|
 .c 23 (.app 8 1 [.int .i64 0] (.o (.v 15)) (.p 1 22)) K100_5
@[simp] def W100_6 := Pl.w K100_6.eq_1
def K100_7 : C := .seq (.pl <| .e 9 15 <|
 .o (.pget (some 9) none 2 0 (some 3)) <|
 .m 10 5 <|
 .m 11 6 <|
 .m 12 7 <|
 .x 13 (.ia 1 (.v 11) (.v 12)) <|
 .l 14 13 <|
 .a 16 2 <|
 .g 17 16 2 2 <|
 .m 18 8 <|
 .x 19 (.ia 4 (.v 17) (.v 18)) <|
 .x 20 (.fa 2 (.v 19)) <|
 .l 21 20 <|
 .o (.psl 22 [.int .i64 0] [(0, 1, .v 21)]) <|
 .c 15 (.call fn_spec_l7Letters [.v 9, .v 10, .v 14]) K100_6) (.ret)
@[simp] def W100_7 := C.w K100_7.eq_1
def K100_8 : C := .cond 9 (.v 29) K100_7 (.skip)
@[simp] def W100_8 := C.w K100_8.eq_1
def K100_9 : C := .seq (.block 5 (.seq (.pl <| .e 9 21 <|
 .a 9 2 <|
 .g 10 9 2 2 <|
 .m 11 8 <|
 .x 12 (.ia 4 (.v 10) (.v 11)) <|
 .x 13 (.fa 0 (.v 12)) <|
 .l 14 13 <|
 .m 15 6 <|
 .m 16 7 <|
 .x 17 (.ia 1 (.v 15) (.v 16)) <|
 .l 18 17 <|
 .x 19 (.bin .eql (.v 14) (.v 18)) <|
 .m 20 19 <|
 .y 20 (.als 21 none 2) <|
 .y 20 (.pget (some 22) (some 21) 2 2 none) <|
 .y 20 (.px (some 23) (.mv (.v 8))) <|
 .y 20 (.px (some 24) (.ia 4 (.v 22) (.v 23))) <|
 .y 20 (.px (some 25) (.fa 3 (.v 24))) <|
 .y 20 (.ld (some 26) (.v 25) none) <|
 .y 20 (.px (some 27) (.mv (.v 1))) <|
 .y 20 (.px (some 28) (.bin .eql (.v 26) (.v 27))) <|
 .x 29 (.pick (.v 20) (.v 28) (.c (.bool false))) .done) K100_8)) K100_4
@[simp] def W100_9 := C.w K100_9.eq_1
def K100_10 : C := .cond 9 (.v 13) (.skip) (.exit 4)
@[simp] def W100_10 := C.w K100_10.eq_1
def K100_11 : C := .seq (.seq (.pl <| .e 9 5 <|
 .m 9 8 <|
 .a 10 2 <|
 .g 11 10 2 2 <|
 .x 12 (.lenV (.v 11)) <|
 .x 13 (.bin .lss (.v 9) (.v 12)) .done) K100_10) K100_9
@[simp] def W100_11 := C.w K100_11.eq_1
def K100_12 : C := .block 4 (.loop 9 [0, 3, 4] K100_11)
@[simp] def W100_12 := C.w K100_12.eq_1
def K100_13 : C := .seq (.block 3 (.seq (.pl <| .e 9 0 <|
 .x 8 (.mv (.c (.int .i64 0))) .done) K100_12)) K100_3
@[simp] def W100_13 := C.w K100_13.eq_1
def K100_14 : C := .cond 9 (.v 12) (.skip) (.exit 2)
@[simp] def W100_14 := C.w K100_14.eq_1
def K100_15 : C := .seq (.seq (.pl <| .e 9 4 <|
 .m 9 7 <|
 .m 10 6 <|
 .x 11 (.lenV (.v 10)) <|
 .x 12 (.bin .lss (.v 9) (.v 11)) .done) K100_14) K100_13
@[simp] def W100_15 := C.w K100_15.eq_1
def K100_16 : C := .block 2 (.loop 9 [0, 3, 4, 8] K100_15)
@[simp] def W100_16 := C.w K100_16.eq_1
def K100_17 : C := .seq (.seq (.pl <| .e 9 0 <|
 .x 7 (.mv (.c (.int .i64 0))) .done) K100_16) K100_2
@[simp] def W100_17 := C.w K100_17.eq_1
def K100_18 : Pl := .m 13 12 <|
 .x 14 (.extract 0 (.v 13)) <|
 .x 15 (.extract 1 (.v 13)) <|
 .m 5 14 <|
 .m 6 15 .done
@[simp] def W100_18 := Pl.w K100_18.eq_1
def K100_19 : Pl := .c 12 (.call fn_spec_l7Tree [.v 9, .v 11]) K100_18
@[simp] def W100_19 := Pl.w K100_19.eq_1
def K100_20 : C := .seq (.pl <| .e 9 7 <|
 .o (.pget (some 9) none 2 0 (some 3)) <|
 .m 10 1 <|
 .c 11 (.bls 1 1 [.int .i64 0] [(0, 1, .v 10)]) K100_19) K100_17
@[simp] def W100_20 := C.w K100_20.eq_1
def K100_21 : C := .pl <| .e 9 2 <|
 .m 9 4 <|
 .x 10 (.bin .add (.v 9) (.c (.int .i64 1))) <|
 .m 4 10 .done
@[simp] def W100_21 := C.w K100_21.eq_1
def K100_22 : Pl := .m 3 15 .done
@[simp] def W100_22 := Pl.w K100_22.eq_1
def K100_23 : C := .seq (.pl <| .e 9 7 <|
 .a 9 2 <|
 .g 10 9 2 2 <|
 .m 11 4 <|
 .x 12 (.ia 4 (.v 10) (.v 11)) <|
 .x 13 (.fa 2 (.v 12)) <|
 .l 14 13 <|
 .c 15 (.bls 1 1 [.int .i64 0] [(0, 1, .v 14)]) K100_22) (.ret)
@[simp] def W100_23 := C.w K100_23.eq_1
def K100_24 : C := .cond 9 (.v 26) K100_23 (.skip)
@[simp] def W100_24 := C.w K100_24.eq_1
def K100_25 : C := .seq (.block 1 (.seq (.pl <| .e 9 18 <|
 .a 9 2 <|
 .g 10 9 2 2 <|
 .m 11 4 <|
 .x 12 (.ia 4 (.v 10) (.v 11)) <|
 .x 13 (.fa 0 (.v 12)) <|
 .l 14 13 <|
 .m 15 1 <|
 .x 16 (.bin .eql (.v 14) (.v 15)) <|
 .m 17 16 <|
 .y 17 (.als 18 none 2) <|
 .y 17 (.pget (some 19) (some 18) 2 2 none) <|
 .y 17 (.px (some 20) (.mv (.v 4))) <|
 .y 17 (.px (some 21) (.ia 4 (.v 19) (.v 20))) <|
 .y 17 (.px (some 22) (.fa 3 (.v 21))) <|
 .y 17 (.ld (some 23) (.v 22) none) <|
 .y 17 (.px (some 24) (.mv (.v 1))) <|
 .y 17 (.px (some 25) (.bin .eql (.v 23) (.v 24))) <|
 .x 26 (.pick (.v 17) (.v 25) (.c (.bool false))) .done) K100_24)) K100_21
@[simp] def W100_25 := C.w K100_25.eq_1
def K100_26 : C := .cond 9 (.v 13) (.skip) (.exit 0)
@[simp] def W100_26 := C.w K100_26.eq_1
def K100_27 : C := .seq (.seq (.pl <| .e 9 5 <|
 .m 9 4 <|
 .a 10 2 <|
 .g 11 10 2 2 <|
 .x 12 (.lenV (.v 11)) <|
 .x 13 (.bin .lss (.v 9) (.v 12)) .done) K100_26) K100_25
@[simp] def W100_27 := C.w K100_27.eq_1
def K100_28 : C := .block 0 (.loop 9 [0, 3, 5, 6, 7, 8] K100_27)
@[simp] def W100_28 := C.w K100_28.eq_1
def K100_29 : C := .seq (.seq (.pl <| .e 9 0 <|
 .x 4 (.mv (.c (.int .i64 0))) .done) K100_28) K100_20
@[simp] def W100_29 := C.w K100_29.eq_1
def B_spec_l7Cycle : C := .seq (.pl <| .e 9 0 <|
 .o (.pnew 2 (.v 0) []) <|
 .x 3 (.mv (.c (.slice none 0 0))) .done) K100_29
@[simp] def WB_spec_l7Cycle := C.w B_spec_l7Cycle.eq_1
def R_spec_l7Cycle : FIR := ⟨B_spec_l7Cycle, 9, [(3, none)]⟩
theorem IR_spec_l7Cycle : cfun Tryz.prog H_spec_l7Cycle Tryz.f100 = some R_spec_l7Cycle := by kernel_rfl
theorem EN_spec_l7Cycle : ENT Tryz.prog B_spec_l7Cycle [(3, none)] 2 9 fn_spec_l7Cycle := fun hargs hw => enter Tryz.func100 rfl IR_spec_l7Cycle hargs hw
def H_spec_l7Letters : Hint := ⟨[(0, false), (1, false), (2, false), (3, true), (6, false), (7, false), (8, true)], [[0, 4, 6]]⟩
def K101_1 : C := .seq (.pl <| .e 7 1 <|
 .m 7 5 <|
 .m 4 7 .done) (.ret)
@[simp] def W101_1 := C.w K101_1.eq_1
def K101_2 : C := .pl <| .e 7 2 <|
 .a 7 6 <|
 .g 8 7 6 0 <|
 .m 2 8 .done
@[simp] def W101_2 := C.w K101_2.eq_1
def K101_3 : Pl := .m 5 11 .done
@[simp] def W101_3 := Pl.w K101_3.eq_1
def K101_4 : Pl := .m 10 5 <|
 .c 11 (.app 8 1 [.int .i64 0] (.o (.v 9)) (.o (.v 10))) K101_3
@[simp] def W101_4 := Pl.w K101_4.eq_1
def K101_5 : C := .seq (.pl <| .e 7 5 <|
 .a 7 6 <|
 .g 8 7 6 2 <|
 .c 9 (.bls 1 1 [.int .i64 0] [(0, 1, .v 8)]) K101_4) K101_2
@[simp] def W101_5 := C.w K101_5.eq_1
def K101_6 : C := .block 1 (.seq (.pl <| .e 7 8 <|
 .a 7 3 <|
 .g 8 7 3 2 <|
 .m 9 1 <|
 .m 10 2 <|
 .x 11 (.ia 1 (.v 9) (.v 10)) <|
 .l 12 11 <|
 .x 13 (.ia 4 (.v 8) (.v 12)) <|
 .o (.ld (some 14) (.v 13) (some 4)) <|
 .o (.pnew 6 (.c (.agg #[.int .i64 0, .int .i64 0, .int .i64 0, .int .i64 0])) []) <|
 .o (.pset none 6 0 4 (.v 14)) .done) K101_5)
@[simp] def W101_6 := C.w K101_6.eq_1
def K101_7 : C := .cond 7 (.v 11) (.skip) (.exit 0)
@[simp] def W101_7 := C.w K101_7.eq_1
def K101_8 : C := .seq (.seq (.pl <| .e 7 5 <|
 .m 7 1 <|
 .m 8 2 <|
 .x 9 (.ia 1 (.v 7) (.v 8)) <|
 .l 10 9 <|
 .x 11 (.bin .geq (.v 10) (.c (.int .i64 0))) .done) K101_7) K101_6
@[simp] def W101_8 := C.w K101_8.eq_1
def K101_9 : C := .seq (.block 0 (.loop 7 [0, 4, 6] K101_8)) K101_1
@[simp] def W101_9 := C.w K101_9.eq_1
def K101_10 : Pl := .m 5 7 .done
@[simp] def W101_10 := Pl.w K101_10.eq_1
def K101_11 : C := .seq (.pl <| .e 7 1 <|
 .c 7 (.bls 1 0 [.int .i64 0] []) K101_10) K101_9
@[simp] def W101_11 := C.w K101_11.eq_1
def B_spec_l7Letters : C := .seq (.pl <| .e 7 0 <|
 .o (.pnew 3 (.v 0) []) <|
 .x 4 (.mv (.c (.slice none 0 0))) .done) K101_11
@[simp] def WB_spec_l7Letters := C.w B_spec_l7Letters.eq_1
def R_spec_l7Letters : FIR := ⟨B_spec_l7Letters, 7, [(4, none)]⟩
theorem IR_spec_l7Letters : cfun Tryz.prog H_spec_l7Letters Tryz.f101 = some R_spec_l7Letters := by kernel_rfl
theorem EN_spec_l7Letters : ENT Tryz.prog B_spec_l7Letters [(4, none)] 3 7 fn_spec_l7Letters := fun hargs hw => enter Tryz.func101 rfl IR_spec_l7Letters hargs hw
def H_spec_l7Tree : Hint := ⟨[(0, false), (1, false), (2, true), (4, false), (5, false), (6, false), (7, false), (8, false), (9, false), (10, false), (11, false), (12, false)], [[0, 3, 4, 8, 9, 10, 11], [0, 3, 4, 7, 10, 11], [0, 1, 3, 4, 7, 9, 11], [0, 1, 3, 4, 7, 9]]⟩
def K99_1 : C := .seq (.pl <| .e 12 2 <|
 .m 12 5 <|
 .m 13 8 <|
 .m 3 12 <|
 .m 4 13 .done) (.ret)
@[simp] def W99_1 := C.w K99_1.eq_1
def K99_2 : C := .pl <| .e 12 2 <|
 .m 12 10 <|
 .x 13 (.bin .add (.v 12) (.c (.int .i64 1))) <|
 .m 10 13 .done
@[simp] def W99_2 := C.w K99_2.eq_1
def K99_3 : C := .pl <| .e 12 2 <|
 .m 12 11 <|
 .x 13 (.bin .add (.v 12) (.c (.int .i64 1))) <|
 .m 11 13 .done
@[simp] def W99_3 := C.w K99_3.eq_1
def K99_4 : Pl := .m 8 20 .done
@[simp] def W99_4 := Pl.w K99_4.eq_1
def K99_5 : C := .pl <| .e 12 9 <|
 .m 12 8 <|
 .a 13 2 <|
 .g 14 13 2 2 <|
 .m 15 11 <|
 .x 16 (.ia 4 (.v 14) (.v 15)) <|
 .x 17 (.fa 3 (.v 16)) <|
 .l 18 17 <|
 .o (.psl 19 [.int .i64 0] [(0, 1, .v 18)]) <|
 .c 20 (.app 8 1 [.int .i64 0] (.o (.v 12)) (.p 1 19)) K99_4
@[simp] def W99_5 := C.w K99_5.eq_1
def K99_6 : C := .seq (.pl <| .e 12 9 <|
 .m 12 5 <|
 .a 13 2 <|
 .g 14 13 2 2 <|
 .m 15 11 <|
 .x 16 (.ia 4 (.v 14) (.v 15)) <|
 .x 17 (.fa 3 (.v 16)) <|
 .l 18 17 <|
 .m 19 11 <|
 .x 20 (.ia 1 (.v 12) (.v 18)) <|
 .o (.ex none (.store 1 (.v 20) (.v 19))) .done) K99_5
@[simp] def W99_6 := C.w K99_6.eq_1
def K99_7 : C := .seq (.pl <| .e 12 8 <|
 .m 12 6 <|
 .a 13 2 <|
 .g 14 13 2 2 <|
 .m 15 11 <|
 .x 16 (.ia 4 (.v 14) (.v 15)) <|
 .x 17 (.fa 3 (.v 16)) <|
 .l 18 17 <|
 .x 19 (.ia 1 (.v 12) (.v 18)) <|
 .o (.ex none (.store 1 (.v 19) (.c (.bool true)))) .done) K99_6
@[simp] def W99_7 := C.w K99_7.eq_1
def K99_8 : C := .cond 12 (.v 34) K99_7 (.skip)
@[simp] def W99_8 := C.w K99_8.eq_1
def K99_9 : C := .seq (.block 7 (.seq (.pl <| .e 12 23 <|
 .a 12 2 <|
 .g 13 12 2 2 <|
 .m 14 11 <|
 .x 15 (.ia 4 (.v 13) (.v 14)) <|
 .x 16 (.fa 0 (.v 15)) <|
 .l 17 16 <|
 .m 18 8 <|
 .m 19 10 <|
 .x 20 (.ia 1 (.v 18) (.v 19)) <|
 .l 21 20 <|
 .x 22 (.bin .eql (.v 17) (.v 21)) <|
 .m 23 22 <|
 .y 23 (.px (some 24) (.mv (.v 6))) <|
 .y 23 (.als 25 none 2) <|
 .y 23 (.pget (some 26) (some 25) 2 2 none) <|
 .y 23 (.px (some 27) (.mv (.v 11))) <|
 .y 23 (.px (some 28) (.ia 4 (.v 26) (.v 27))) <|
 .y 23 (.px (some 29) (.fa 3 (.v 28))) <|
 .y 23 (.ld (some 30) (.v 29) none) <|
 .y 23 (.px (some 31) (.ia 1 (.v 24) (.v 30))) <|
 .y 23 (.ld (some 32) (.v 31) none) <|
 .y 23 (.px (some 33) (.un .not (.v 32))) <|
 .x 34 (.pick (.v 23) (.v 33) (.c (.bool false))) .done) K99_8)) K99_3
@[simp] def W99_9 := C.w K99_9.eq_1
def K99_10 : C := .cond 12 (.v 16) (.skip) (.exit 6)
@[simp] def W99_10 := C.w K99_10.eq_1
def K99_11 : C := .seq (.seq (.pl <| .e 12 5 <|
 .m 12 11 <|
 .a 13 2 <|
 .g 14 13 2 2 <|
 .x 15 (.lenV (.v 14)) <|
 .x 16 (.bin .lss (.v 12) (.v 15)) .done) K99_10) K99_9
@[simp] def W99_11 := C.w K99_11.eq_1
def K99_12 : C := .block 6 (.loop 12 [0, 1, 3, 4, 7, 9] K99_11)
@[simp] def W99_12 := C.w K99_12.eq_1
def K99_13 : C := .seq (.block 5 (.seq (.pl <| .e 12 0 <|
 .x 11 (.mv (.c (.int .i64 0))) .done) K99_12)) K99_2
@[simp] def W99_13 := C.w K99_13.eq_1
def K99_14 : C := .cond 12 (.v 15) (.skip) (.exit 4)
@[simp] def W99_14 := C.w K99_14.eq_1
def K99_15 : C := .seq (.seq (.pl <| .e 12 4 <|
 .m 12 10 <|
 .m 13 8 <|
 .x 14 (.lenV (.v 13)) <|
 .x 15 (.bin .lss (.v 12) (.v 14)) .done) K99_14) K99_13
@[simp] def W99_15 := C.w K99_15.eq_1
def K99_16 : C := .block 4 (.loop 12 [0, 1, 3, 4, 7, 9, 11] K99_15)
@[simp] def W99_16 := C.w K99_16.eq_1
def K99_17 : C := .seq (.seq (.pl <| .e 12 0 <|
 .x 10 (.mv (.c (.int .i64 0))) .done) K99_16) K99_1
@[simp] def W99_17 := C.w K99_17.eq_1
def K99_18 : C := .pl <| .e 12 2 <|
 .m 12 9 <|
 .x 13 (.bin .add (.v 12) (.c (.int .i64 1))) <|
 .m 9 13 .done
@[simp] def W99_18 := C.w K99_18.eq_1
def K99_19 : C := .seq (.block 3 (.pl <| .e 12 6 <|
 .m 12 6 <|
 .m 13 1 <|
 .m 14 9 <|
 .x 15 (.ia 1 (.v 13) (.v 14)) <|
 .l 16 15 <|
 .x 17 (.ia 1 (.v 12) (.v 16)) <|
 .o (.ex none (.store 1 (.v 17) (.c (.bool true)))) .done)) K99_18
@[simp] def W99_19 := C.w K99_19.eq_1
def K99_20 : C := .cond 12 (.v 15) (.skip) (.exit 2)
@[simp] def W99_20 := C.w K99_20.eq_1
def K99_21 : C := .seq (.seq (.pl <| .e 12 4 <|
 .m 12 9 <|
 .m 13 1 <|
 .x 14 (.lenV (.v 13)) <|
 .x 15 (.bin .lss (.v 12) (.v 14)) .done) K99_20) K99_19
@[simp] def W99_21 := C.w K99_21.eq_1
def K99_22 : C := .block 2 (.loop 12 [0, 3, 4, 7, 10, 11] K99_21)
@[simp] def W99_22 := C.w K99_22.eq_1
def K99_23 : C := .seq (.seq (.pl <| .e 12 0 <|
 .x 9 (.mv (.c (.int .i64 0))) .done) K99_22) K99_17
@[simp] def W99_23 := C.w K99_23.eq_1
def K99_24 : Pl := .m 8 14 .done
@[simp] def W99_24 := Pl.w K99_24.eq_1
def K99_25 : C := .seq (.pl <| .e 12 3 <|
 .o (.psl 12 [] []) <|
 .m 13 1 <|
 .c 14 (.app 8 1 [.int .i64 0] (.p 0 12) (.o (.v 13))) K99_24) K99_23
@[simp] def W99_25 := C.w K99_25.eq_1
def K99_26 : C := .pl <| .e 12 2 <|
 .m 12 7 <|
 .x 13 (.bin .add (.v 12) (.c (.int .i64 1))) <|
 .m 7 13 .done
@[simp] def W99_26 := C.w K99_26.eq_1
def K99_27 : Pl := .m 5 14 .done
@[simp] def W99_27 := Pl.w K99_27.eq_1
def K99_28 : C := .seq (.block 1 (.pl <| .e 12 3 <|
 .m 12 5 <|
 .o (.psl 13 [.int .i64 0] [(0, 1, .c (.int .i64 (-1)))]) <|
 .c 14 (.app 8 1 [.int .i64 0] (.o (.v 12)) (.p 1 13)) K99_27)) K99_26
@[simp] def W99_28 := C.w K99_28.eq_1
def K99_29 : C := .cond 12 (.v 16) (.skip) (.exit 0)
@[simp] def W99_29 := C.w K99_29.eq_1
def K99_30 : C := .seq (.seq (.pl <| .e 12 5 <|
 .m 12 7 <|
 .a 13 2 <|
 .g 14 13 2 1 <|
 .x 15 (.lenV (.v 14)) <|
 .x 16 (.bin .lss (.v 12) (.v 15)) .done) K99_29) K99_28
@[simp] def W99_30 := C.w K99_30.eq_1
def K99_31 : C := .block 0 (.loop 12 [0, 3, 4, 8, 9, 10, 11] K99_30)
@[simp] def W99_31 := C.w K99_31.eq_1
def K99_32 : C := .seq (.seq (.pl <| .e 12 0 <|
 .x 7 (.mv (.c (.int .i64 0))) .done) K99_31) K99_25
@[simp] def W99_32 := C.w K99_32.eq_1
def K99_33 : Pl := .m 6 15 .done
@[simp] def W99_33 := Pl.w K99_33.eq_1
def K99_34 : C := .seq (.pl <| .e 12 4 <|
 .a 12 2 <|
 .g 13 12 2 1 <|
 .x 14 (.lenV (.v 13)) <|
 .c 15 (.mks 1 1 [.bool false] (.v 14) (.v 14)) K99_33) K99_32
@[simp] def W99_34 := C.w K99_34.eq_1
def K99_35 : Pl := .m 5 12 .done
@[simp] def W99_35 := Pl.w K99_35.eq_1
def K99_36 : C := .seq (.pl <| .e 12 1 <|
 .c 12 (.bls 1 0 [.int .i64 0] []) K99_35) K99_34
@[simp] def W99_36 := C.w K99_36.eq_1
def B_spec_l7Tree : C := .seq (.pl <| .e 12 0 <|
 .o (.pnew 2 (.v 0) []) <|
 .x 3 (.mv (.c (.slice none 0 0))) <|
 .x 4 (.mv (.c (.slice none 0 0))) .done) K99_36
@[simp] def WB_spec_l7Tree := C.w B_spec_l7Tree.eq_1
def R_spec_l7Tree : FIR := ⟨B_spec_l7Tree, 12, [(3, none), (4, none)]⟩
theorem IR_spec_l7Tree : cfun Tryz.prog H_spec_l7Tree Tryz.f99 = some R_spec_l7Tree := by kernel_rfl
theorem EN_spec_l7Tree : ENT Tryz.prog B_spec_l7Tree [(3, none), (4, none)] 2 12 fn_spec_l7Tree := fun hargs hw => enter Tryz.func99 rfl IR_spec_l7Tree hargs hw
end Go.Proofs.YtglnelcmcimljaaGreat

namespace Go.Proofs.YtglnelcmcimljaaGreat
open Go
end Go.Proofs.YtglnelcmcimljaaGreat

namespace Go.Proofs.YtglnelcmcimljaaGreat
open Go
end Go.Proofs.YtglnelcmcimljaaGreat

namespace Go.Proofs.YtglnelcmcimljaaGreat
open Go
def H_impl_Automaton_after : Hint := ⟨[(0, false), (1, false), (2, false), (3, false), (4, true), (8, false), (9, false), (11, true), (16, false), (17, false), (18, false)], [[0, 4, 5, 7]]⟩
def K65_1 : C := .seq (.pl <| .e 11 1 <|
 .m 11 6 <|
 .m 5 11 .done) (.ret)
@[simp] def W65_1 := C.w K65_1.eq_1
def K65_2 : C := .pl <| .e 11 1 <|
 .x 11 (.bin .add (.v 10) (.c (.int .i64 1))) <|
 .m 10 11 .done
@[simp] def W65_2 := C.w K65_2.eq_1
def K65_3 : C := .pl <| .e 11 4 <|
 .m 11 6 <|
 .a 12 7 <|
 .g 13 12 7 3 <|
 .x 14 (.ia 1 (.v 11) (.v 13)) <|
 .o (.ex none (.store 1 (.v 14) (.c (.bool true)))) .done
@[simp] def W65_3 := C.w K65_3.eq_1
def K65_4 : C := .cond 11 (.v 27) K65_3 (.skip)
@[simp] def W65_4 := C.w K65_4.eq_1
def K65_5 : Pl := .x 27 (.pick (.v 23) (.v 26) (.c (.bool false))) .done
@[simp] def W65_5 := Pl.w K65_5.eq_1
def K65_6 : C := .seq (.pl <| .e 11 17 <|
 .m 11 2 <|
 .a 12 7 <|
 .g 13 12 7 0 <|
 .x 14 (.ia 1 (.v 11) (.v 13)) <|
 .l 15 14 <|
 .m 16 15 <|
 .y 16 (.px (some 17) (.mv (.v 1))) <|
 .y 16 (.als 18 none 7) <|
 .y 16 (.pget (some 19) (some 18) 7 3 none) <|
 .y 16 (.px (some 20) (.ia 1 (.v 17) (.v 19))) <|
 .y 16 (.ld (some 21) (.v 20) none) <|
 .x 22 (.pick (.v 16) (.v 21) (.c (.bool false))) <|
 .m 23 22 <|
 .y 23 (.pget (some 24) none 7 0 (some 4)) <|
 .y 23 (.px (some 25) (.mv (.v 3))) <|
 .st (.act (some (.v 23, true)) (.ex (some 26) (.call fn_impl_Transition_takes [.v 24, .v 25]))) K65_5) K65_4
@[simp] def W65_6 := C.w K65_6.eq_1
def K65_7 : C := .seq (.block 1 (.seq (.pl <| .e 11 2 <|
 .x 11 (.ia 4 (.v 8) (.v 10)) <|
 .o (.ld (some 12) (.v 11) (some 4)) <|
 .o (.pnew 7 (.c (.agg #[.int .i64 0, .int .i64 0, .int .i64 0, .int .i64 0])) []) <|
 .o (.pset none 7 0 4 (.v 12)) .done) K65_6)) K65_2
@[simp] def W65_7 := C.w K65_7.eq_1
def K65_8 : C := .seq (.cond 11 (.v 11) (.skip) (.exit 0)) K65_7
@[simp] def W65_8 := C.w K65_8.eq_1
def K65_9 : C := .seq (.pl <| .e 11 1 <|
 .x 11 (.bin .lss (.v 10) (.v 9)) .done) K65_8
@[simp] def W65_9 := C.w K65_9.eq_1
def K65_10 : C := .block 0 (.loop 11 [0, 4, 5, 7] K65_9)
@[simp] def W65_10 := C.w K65_10.eq_1
def K65_11 : C := .seq (.seq (.pl <| .e 11 1 <|
 .a 11 4 <|
 .g 8 11 4 2 <|
 .x 9 (.lenV (.v 8)) <|
 .x 10 (.mv (.c (.int .i64 0))) .done) K65_10) K65_1
@[simp] def W65_11 := C.w K65_11.eq_1
def K65_12 : Pl := .m 6 13 .done
@[simp] def W65_12 := Pl.w K65_12.eq_1
def K65_13 : C := .seq (.pl <| .e 11 3 <|
 .m 11 1 <|
 .x 12 (.lenV (.v 11)) <|
 .c 13 (.mks 1 1 [.bool false] (.v 12) (.v 12)) K65_12) K65_11
@[simp] def W65_13 := C.w K65_13.eq_1
def B_impl_Automaton_after : C := .seq (.pl <| .e 11 0 <|
 .o (.pnew 4 (.v 0) []) <|
 .x 5 (.mv (.c (.slice none 0 0))) .done) K65_13
@[simp] def WB_impl_Automaton_after := C.w B_impl_Automaton_after.eq_1
def R_impl_Automaton_after : FIR := ⟨B_impl_Automaton_after, 11, [(5, none)]⟩
theorem IR_impl_Automaton_after : cfun Tryz.prog H_impl_Automaton_after Tryz.f65 = some R_impl_Automaton_after := by kernel_rfl
theorem EN_impl_Automaton_after : ENT Tryz.prog B_impl_Automaton_after [(5, none)] 4 11 fn_impl_Automaton_after := fun hargs hw => enter Tryz.func65 rfl IR_impl_Automaton_after hargs hw
def H_impl_Automaton_begin : Hint := ⟨[(0, false), (1, false), (2, true), (4, false), (5, false), (7, false), (12, false), (13, false), (14, false)], [[0, 2, 3, 5]]⟩
def K64_1 : C := .seq (.pl <| .e 9 1 <|
 .m 9 4 <|
 .m 3 9 .done) (.ret)
@[simp] def W64_1 := C.w K64_1.eq_1
def K64_2 : C := .pl <| .e 9 1 <|
 .x 9 (.bin .add (.v 8) (.c (.int .i64 1))) <|
 .m 8 9 .done
@[simp] def W64_2 := C.w K64_2.eq_1
def K64_3 : C := .pl <| .e 9 7 <|
 .m 9 4 <|
 .m 10 5 <|
 .m 11 1 <|
 .m 12 5 <|
 .x 13 (.ia 1 (.v 11) (.v 12)) <|
 .l 14 13 <|
 .x 15 (.ia 1 (.v 9) (.v 10)) <|
 .o (.ex none (.store 1 (.v 15) (.v 14))) .done
@[simp] def W64_3 := C.w K64_3.eq_1
def K64_4 : C := .seq (.block 1 (.seq (.pl <| .e 9 2 <|
 .x 9 (.ia 1 (.v 6) (.v 8)) <|
 .l 10 9 <|
 .m 5 10 .done) K64_3)) K64_2
@[simp] def W64_4 := C.w K64_4.eq_1
def K64_5 : C := .seq (.cond 9 (.v 9) (.skip) (.exit 0)) K64_4
@[simp] def W64_5 := C.w K64_5.eq_1
def K64_6 : C := .seq (.pl <| .e 9 1 <|
 .x 9 (.bin .lss (.v 8) (.v 7)) .done) K64_5
@[simp] def W64_6 := C.w K64_6.eq_1
def K64_7 : C := .block 0 (.loop 9 [0, 2, 3, 5] K64_6)
@[simp] def W64_7 := C.w K64_7.eq_1
def K64_8 : C := .seq (.seq (.pl <| .e 9 1 <|
 .a 9 2 <|
 .g 6 9 2 0 <|
 .x 7 (.lenV (.v 6)) <|
 .x 8 (.mv (.c (.int .i64 0))) .done) K64_7) K64_1
@[simp] def W64_8 := C.w K64_8.eq_1
def K64_9 : Pl := .m 4 11 .done
@[simp] def W64_9 := Pl.w K64_9.eq_1
def K64_10 : C := .seq (.pl <| .e 9 3 <|
 .m 9 1 <|
 .x 10 (.lenV (.v 9)) <|
 .c 11 (.mks 1 1 [.bool false] (.v 10) (.v 10)) K64_9) K64_8
@[simp] def W64_10 := C.w K64_10.eq_1
def B_impl_Automaton_begin : C := .seq (.pl <| .e 9 0 <|
 .o (.pnew 2 (.v 0) []) <|
 .x 3 (.mv (.c (.slice none 0 0))) .done) K64_10
@[simp] def WB_impl_Automaton_begin := C.w B_impl_Automaton_begin.eq_1
def R_impl_Automaton_begin : FIR := ⟨B_impl_Automaton_begin, 9, [(3, none)]⟩
theorem IR_impl_Automaton_begin : cfun Tryz.prog H_impl_Automaton_begin Tryz.f64 = some R_impl_Automaton_begin := by kernel_rfl
theorem EN_impl_Automaton_begin : ENT Tryz.prog B_impl_Automaton_begin [(3, none)] 2 9 fn_impl_Automaton_begin := fun hargs hw => enter Tryz.func64 rfl IR_impl_Automaton_begin hargs hw
def H_impl_Automaton_prefix : Hint := ⟨[(0, false), (1, false), (2, true), (4, false), (5, false), (6, false), (8, false), (14, false), (15, false), (16, false)], [[0, 1, 3, 6]]⟩
def K32_1 : Pl := .m 3 11 .done
@[simp] def W32_1 := Pl.w K32_1.eq_1
def K32_2 : C := .seq (.pl <| .e 10 2 <|
 .m 10 5 <|
 .c 11 (.call fn_impl_members [.v 10]) K32_1) (.ret)
@[simp] def W32_2 := C.w K32_2.eq_1
def K32_3 : C := .pl <| .e 10 1 <|
 .x 10 (.bin .add (.v 9) (.c (.int .i64 1))) <|
 .m 9 10 .done
@[simp] def W32_3 := C.w K32_3.eq_1
def K32_4 : Pl := .m 5 14 .done
@[simp] def W32_4 := Pl.w K32_4.eq_1
def K32_5 : C := .pl <| .e 10 5 <|
 .o (.pget (some 10) none 2 0 (some 3)) <|
 .m 11 4 <|
 .m 12 5 <|
 .m 13 6 <|
 .c 14 (.call fn_impl_Automaton_after [.v 10, .v 11, .v 12, .v 13]) K32_4
@[simp] def W32_5 := C.w K32_5.eq_1
def K32_6 : C := .seq (.block 1 (.seq (.pl <| .e 10 2 <|
 .x 10 (.ia 1 (.v 7) (.v 9)) <|
 .l 11 10 <|
 .m 6 11 .done) K32_5)) K32_3
@[simp] def W32_6 := C.w K32_6.eq_1
def K32_7 : C := .seq (.cond 10 (.v 10) (.skip) (.exit 0)) K32_6
@[simp] def W32_7 := C.w K32_7.eq_1
def K32_8 : C := .seq (.pl <| .e 10 1 <|
 .x 10 (.bin .lss (.v 9) (.v 8)) .done) K32_7
@[simp] def W32_8 := C.w K32_8.eq_1
def K32_9 : C := .block 0 (.loop 10 [0, 1, 3, 6] K32_8)
@[simp] def W32_9 := C.w K32_9.eq_1
def K32_10 : C := .seq (.seq (.pl <| .e 10 0 <|
 .m 7 1 <|
 .x 8 (.lenV (.v 7)) <|
 .x 9 (.mv (.c (.int .i64 0))) .done) K32_9) K32_2
@[simp] def W32_10 := C.w K32_10.eq_1
def K32_11 : Pl := .m 5 12 .done
@[simp] def W32_11 := Pl.w K32_11.eq_1
def K32_12 : C := .seq (.pl <| .e 10 3 <|
 .o (.pget (some 10) none 2 0 (some 3)) <|
 .m 11 4 <|
 .c 12 (.call fn_impl_Automaton_begin [.v 10, .v 11]) K32_11) K32_10
@[simp] def W32_12 := C.w K32_12.eq_1
def K32_13 : Pl := .m 4 11 .done
@[simp] def W32_13 := Pl.w K32_13.eq_1
def K32_14 : C := .seq (.pl <| .e 10 2 <|
 .o (.pget (some 10) none 2 0 (some 3)) <|
 .c 11 (.call fn_impl_Automaton_live [.v 10]) K32_13) K32_12
@[simp] def W32_14 := C.w K32_14.eq_1
def B_impl_Automaton_prefix : C := .seq (.pl <| .e 10 0 <|
 .o (.pnew 2 (.v 0) []) <|
 .x 3 (.mv (.c (.slice none 0 0))) .done) K32_14
@[simp] def WB_impl_Automaton_prefix := C.w B_impl_Automaton_prefix.eq_1
def R_impl_Automaton_prefix : FIR := ⟨B_impl_Automaton_prefix, 10, [(3, none)]⟩
theorem IR_impl_Automaton_prefix : cfun Tryz.prog H_impl_Automaton_prefix Tryz.f32 = some R_impl_Automaton_prefix := by kernel_rfl
theorem EN_impl_Automaton_prefix : ENT Tryz.prog B_impl_Automaton_prefix [(3, none)] 2 10 fn_impl_Automaton_prefix := fun hargs hw => enter Tryz.func32 rfl IR_impl_Automaton_prefix hargs hw
def H_impl_Automaton_values : Hint := ⟨[(0, false), (1, false), (2, true), (3, false), (4, false), (5, false), (6, false), (7, false), (27, false)], [[0, 1, 4, 7, 8]]⟩
def K77_1 : Pl := .m 4 10 .done
@[simp] def W77_1 := Pl.w K77_1.eq_1
def K77_2 : C := .seq (.pl <| .e 9 2 <|
 .m 9 5 <|
 .c 10 (.call fn_slices_Clip_S_int_int [.v 9]) K77_1) (.ret)
@[simp] def W77_2 := C.w K77_2.eq_1
def K77_3 : C := .pl <| .e 9 2 <|
 .l 9 6 <|
 .x 10 (.bin .add (.v 9) (.c (.int .i64 1))) <|
 .o (.ex none (.store 1 (.v 6) (.v 10))) .done
@[simp] def W77_3 := C.w K77_3.eq_1
def K77_4 : Pl := .o (.ex none (.store 1 (.v 6) (.v 8))) .done
@[simp] def W77_4 := Pl.w K77_4.eq_1
def K77_5 : C := .pl <| .e 9 0 <|
 .c 6 (.alloc (.c (.int .i64 0))) K77_4
@[simp] def W77_5 := C.w K77_5.eq_1
def K77_6 : C := .seq (.seq (.pl <| .e 9 0 <|
 .l 8 6 .done) K77_5) K77_3
@[simp] def W77_6 := C.w K77_6.eq_1
def K77_7 : Pl := .m 5 17 .done
@[simp] def W77_7 := Pl.w K77_7.eq_1
def K77_8 : C := .pl <| .e 9 9 <|
 .m 9 5 <|
 .a 10 2 <|
 .g 11 10 2 2 <|
 .m 12 7 <|
 .x 13 (.ia 4 (.v 11) (.v 12)) <|
 .x 14 (.fa 2 (.v 13)) <|
 .l 15 14 <|
 .o (.psl 16 [.int .i64 0] [(0, 1, .v 15)]) <|
 .c 17 (.app 8 1 [.int .i64 0] (.o (.v 9)) (.p 1 16)) K77_7
@[simp] def W77_8 := C.w K77_8.eq_1
def K77_9 : Pl := .m 7 12 .done
@[simp] def W77_9 := Pl.w K77_9.eq_1
def K77_10 : C := .seq (.block 1 (.seq (.pl <| .e 9 4 <|
 .a 9 2 <|
 .g 10 9 2 2 <|
 .x 11 (.mkf (.func fn_impl_Automaton_values_1) [] [.v 3, .v 6]) <|
 .c 12 (.call fn_slices_IndexFunc_S_impl_Transition_impl_Transition [.v 10, .v 11]) K77_9) K77_8)) K77_6
@[simp] def W77_10 := C.w K77_10.eq_1
def K77_11 : C := .cond 9 (.v 12) (.skip) (.exit 0)
@[simp] def W77_11 := C.w K77_11.eq_1
def K77_12 : C := .seq (.seq (.pl <| .e 9 4 <|
 .l 9 6 <|
 .l 10 3 <|
 .x 11 (.lenV (.v 10)) <|
 .x 12 (.bin .lss (.v 9) (.v 11)) .done) K77_11) K77_10
@[simp] def W77_12 := C.w K77_12.eq_1
def K77_13 : C := .block 0 (.loop 9 [0, 1, 4, 7, 8] K77_12)
@[simp] def W77_13 := C.w K77_13.eq_1
def K77_14 : Pl := .o (.ex none (.store 1 (.v 6) (.c (.int .i64 1)))) .done
@[simp] def W77_14 := Pl.w K77_14.eq_1
def K77_15 : C := .seq (.seq (.pl <| .e 9 0 <|
 .c 6 (.alloc (.c (.int .i64 0))) K77_14) K77_13) K77_2
@[simp] def W77_15 := C.w K77_15.eq_1
def K77_16 : C := .seq (.pl <| .e 9 0 <|
 .x 5 (.mv (.c (.slice none 0 0))) .done) K77_15
@[simp] def W77_16 := C.w K77_16.eq_1
def K77_17 : Pl := .x 4 (.mv (.c (.slice none 0 0))) .done
@[simp] def W77_17 := Pl.w K77_17.eq_1
def B_impl_Automaton_values : C := .seq (.pl <| .e 9 0 <|
 .o (.pnew 2 (.v 0) []) <|
 .c 3 (.alloc (.v 1)) K77_17) K77_16
@[simp] def WB_impl_Automaton_values := C.w B_impl_Automaton_values.eq_1
def R_impl_Automaton_values : FIR := ⟨B_impl_Automaton_values, 9, [(4, none)]⟩
theorem IR_impl_Automaton_values : cfun Tryz.prog H_impl_Automaton_values Tryz.f77 = some R_impl_Automaton_values := by kernel_rfl
theorem EN_impl_Automaton_values : ENT Tryz.prog B_impl_Automaton_values [(4, none)] 2 9 fn_impl_Automaton_values := fun hargs hw => enter Tryz.func77 rfl IR_impl_Automaton_values hargs hw
def H_impl_Automaton_values_1 : Hint := ⟨[(0, false), (1, false), (2, false), (3, true), (4, false)], []⟩
def K123_1 : C := .seq (.pl <| .e 5 17 <|
 .a 5 3 <|
 .g 6 5 3 0 <|
 .l 7 1 <|
 .l 8 2 <|
 .x 9 (.bin .sub (.v 8) (.c (.int .i64 1))) <|
 .x 10 (.ia 1 (.v 7) (.v 9)) <|
 .l 11 10 <|
 .x 12 (.bin .eql (.v 6) (.v 11)) <|
 .m 13 12 <|
 .y 13 (.als 14 none 3) <|
 .y 13 (.pget (some 15) (some 14) 3 3 none) <|
 .y 13 (.ld (some 16) (.v 1) none) <|
 .y 13 (.ld (some 17) (.v 2) none) <|
 .y 13 (.px (some 18) (.ia 1 (.v 16) (.v 17))) <|
 .y 13 (.ld (some 19) (.v 18) none) <|
 .y 13 (.px (some 20) (.bin .eql (.v 15) (.v 19))) <|
 .x 21 (.pick (.v 13) (.v 20) (.c (.bool false))) <|
 .m 4 21 .done) (.ret)
@[simp] def W123_1 := C.w K123_1.eq_1
def B_impl_Automaton_values_1 : C := .seq (.pl <| .e 5 0 <|
 .o (.pnew 3 (.v 0) []) <|
 .x 4 (.mv (.c (.bool false))) .done) K123_1
@[simp] def WB_impl_Automaton_values_1 := C.w B_impl_Automaton_values_1.eq_1
def R_impl_Automaton_values_1 : FIR := ⟨B_impl_Automaton_values_1, 5, [(4, none)]⟩
theorem IR_impl_Automaton_values_1 : cfun Tryz.prog H_impl_Automaton_values_1 Tryz.f123 = some R_impl_Automaton_values_1 := by kernel_rfl
theorem EN_impl_Automaton_values_1 : ENT Tryz.prog B_impl_Automaton_values_1 [(4, none)] 3 5 fn_impl_Automaton_values_1 := fun hargs hw => enter Tryz.func123 rfl IR_impl_Automaton_values_1 hargs hw
def H_impl_ExtendWord : Hint := ⟨[(0, false), (1, false), (2, true), (4, true), (5, false), (6, false), (7, false), (8, true), (9, true)], []⟩
def K12_1 : C := .seq (.pl <| .e 9 1 <|
 .o (.pget (some 9) none 8 0 (some 2)) <|
 .o (.pset none 3 0 2 (.v 9)) <|
 .x 4 (.mv (.c (.bool true))) .done) (.ret)
@[simp] def W12_1 := C.w K12_1.eq_1
def K12_2 : C := .seq (.pl <| .e 9 1 <|
 .x 9 (.build [.slice none 0 0, .slice none 0 0] []) <|
 .o (.pset none 3 0 2 (.v 9)) <|
 .x 4 (.mv (.c (.bool false))) .done) (.ret)
@[simp] def W12_2 := C.w K12_2.eq_1
def K12_3 : C := .cond 9 (.v 15) K12_2 (.skip)
@[simp] def W12_3 := C.w K12_3.eq_1
def K12_4 : Pl := .n 11 (.px (some 14) (.un .not (.v 13))) <|
 .x 15 (.pick (.v 11) (.c (.bool true)) (.v 14)) .done
@[simp] def W12_4 := Pl.w K12_4.eq_1
def K12_5 : C := .seq (.seq (.pl <| .e 9 7 <|
 .m 9 6 <|
 .x 10 (.un .not (.v 9)) <|
 .m 11 10 <|
 .n 11 (.pget (some 12) none 8 0 (some 2)) <|
 .st (.act (some (.v 11, false)) (.ex (some 13) (.call fn_impl_LassoValid [.v 12]))) K12_4) K12_3) K12_1
@[simp] def W12_5 := C.w K12_5.eq_1
def K12_6 : Pl := .x 17 (.build [.slice none 0 0, .slice none 0 0] [(0, 1, .v 14), (1, 1, .v 16)]) <|
 .o (.pset none 8 0 2 (.v 17)) .done
@[simp] def W12_6 := Pl.w K12_6.eq_1
def K12_7 : Pl := .c 14 (.call fn_slices_Clip_S_int_int [.v 13]) K12_6
@[simp] def W12_7 := Pl.w K12_7.eq_1
def K12_8 : Pl := .c 13 (.call fn_slices_Concat_S_int_int [.v 12]) K12_7
@[simp] def W12_8 := Pl.w K12_8.eq_1
def K12_9 : C := .seq (.pl <| .e 9 9 <|
 .m 9 1 <|
 .a 10 7 <|
 .g 11 10 7 0 <|
 .a 15 7 <|
 .g 16 15 7 1 <|
 .o (.pnew 8 (.c (.agg #[.slice none 0 0, .slice none 0 0])) []) <|
 .c 12 (.bls 1 2 [.slice none 0 0] [(0, 1, .v 9), (1, 1, .v 11)]) K12_8) K12_5
@[simp] def W12_9 := C.w K12_9.eq_1
def K12_10 : Pl := .m 16 15 <|
 .x 17 (.extract 0 (.v 16)) <|
 .x 18 (.extract 1 (.v 16)) <|
 .o (.pnew 7 (.c (.agg #[.slice none 0 0, .slice none 0 0])) []) <|
 .o (.pset none 7 0 2 (.v 17)) <|
 .m 6 18 .done
@[simp] def W12_10 := Pl.w K12_10.eq_1
def K12_11 : C := .seq (.pl <| .e 9 10 <|
 .m 9 5 <|
 .a 10 2 <|
 .g 11 10 2 1 <|
 .a 12 2 <|
 .g 13 12 2 2 <|
 .x 14 (.build [.slice none 0 0, .slice none 0 0, .slice none 0 0] [(0, 1, .v 9), (1, 1, .v 11), (2, 1, .v 13)]) <|
 .c 15 (.call fn_impl_FindWord [.v 14]) K12_10) K12_9
@[simp] def W12_11 := C.w K12_11.eq_1
def K12_12 : C := .seq (.pl <| .e 9 1 <|
 .x 9 (.build [.slice none 0 0, .slice none 0 0] []) <|
 .o (.pset none 3 0 2 (.v 9)) <|
 .x 4 (.mv (.c (.bool false))) .done) (.ret)
@[simp] def W12_12 := C.w K12_12.eq_1
def K12_13 : C := .cond 9 (.v 15) K12_12 (.skip)
@[simp] def W12_13 := C.w K12_13.eq_1
def K12_14 : C := .seq (.seq (.pl <| .e 9 7 <|
 .m 9 6 <|
 .x 10 (.un .not (.v 9)) <|
 .m 11 10 <|
 .n 11 (.px (some 12) (.mv (.v 5))) <|
 .n 11 (.px (some 13) (.lenV (.v 12))) <|
 .n 11 (.px (some 14) (.bin .eql (.v 13) (.c (.int .i64 0)))) <|
 .x 15 (.pick (.v 11) (.c (.bool true)) (.v 14)) .done) K12_13) K12_11
@[simp] def W12_14 := C.w K12_14.eq_1
def K12_15 : Pl := .m 12 11 <|
 .x 13 (.extract 0 (.v 12)) <|
 .x 14 (.extract 1 (.v 12)) <|
 .m 5 13 <|
 .m 6 14 .done
@[simp] def W12_15 := Pl.w K12_15.eq_1
def K12_16 : C := .seq (.pl <| .e 9 6 <|
 .o (.pget (some 9) none 2 0 (some 3)) <|
 .m 10 1 <|
 .c 11 (.call fn_impl_PrefixStates [.v 9, .v 10]) K12_15) K12_14
@[simp] def W12_16 := C.w K12_16.eq_1
def B_impl_ExtendWord : C := .seq (.pl <| .e 9 0 <|
 .o (.pnew 2 (.v 0) []) <|
 .o (.pnew 3 (.c (.agg #[.slice none 0 0, .slice none 0 0])) []) <|
 .x 4 (.mv (.c (.bool false))) .done) K12_16
@[simp] def WB_impl_ExtendWord := C.w B_impl_ExtendWord.eq_1
def R_impl_ExtendWord : FIR := ⟨B_impl_ExtendWord, 9, [(3, some (some 2)), (4, none)]⟩
theorem IR_impl_ExtendWord : cfun Tryz.prog H_impl_ExtendWord Tryz.f12 = some R_impl_ExtendWord := by kernel_rfl
theorem EN_impl_ExtendWord : ENT Tryz.prog B_impl_ExtendWord [(3, some (some 2)), (4, none)] 2 9 fn_impl_ExtendWord := fun hargs hw => enter Tryz.func12 rfl IR_impl_ExtendWord hargs hw
def H_impl_FindWord : Hint := ⟨[(0, false), (1, false), (2, true), (3, false), (4, false), (5, false), (6, false)], []⟩
def K37_1 : Pl := .x 25 (.build [.slice none 0 0, .slice none 0 0] [(0, 1, .v 15), (1, 1, .v 24)]) <|
 .o (.pset none 2 0 2 (.v 25)) <|
 .x 3 (.mv (.c (.bool true))) .done
@[simp] def W37_1 := Pl.w K37_1.eq_1
def K37_2 : Pl := .st (.re 16 (.v 1) (some 3) none) <|
 .c 24 (.call fn_impl_Automaton_values [.v 16, .v 23]) K37_1
@[simp] def W37_2 := Pl.w K37_2.eq_1
def K37_3 : Pl := .st (.re 16 (.v 1) (some 3) none) <|
 .st (.re 21 (.v 20) none none) <|
 .c 23 (.app 8 1 [.int .i64 0] (.o (.v 18)) (.p 1 22)) K37_2
@[simp] def W37_3 := Pl.w K37_3.eq_1
def K37_4 : Pl := .st (.re 16 (.v 1) (some 3) none) <|
 .st (.re 21 (.v 20) none none) <|
 .c 18 (.call fn_impl_clone_int [.v 17]) K37_3
@[simp] def W37_4 := Pl.w K37_4.eq_1
def K37_5 : Pl := .st (.re 7 (.v 1) (some 3) none) <|
 .st (.re 16 (.v 1) (some 3) none) <|
 .st (.re 21 (.v 20) none none) <|
 .c 15 (.call fn_impl_Automaton_values [.v 7, .v 14]) K37_4
@[simp] def W37_5 := Pl.w K37_5.eq_1
def K37_6 : Pl := .st (.re 7 (.v 1) (some 3) none) <|
 .st (.re 12 (.v 11) none none) <|
 .st (.re 16 (.v 1) (some 3) none) <|
 .st (.re 21 (.v 20) none none) <|
 .c 14 (.app 8 1 [.int .i64 0] (.o (.v 9)) (.p 1 13)) K37_5
@[simp] def W37_6 := Pl.w K37_6.eq_1
def K37_7 : C := .seq (.pl <| .e 7 19 <|
 .o (.ld (some 7) (.v 1) (some 3)) <|
 .m 8 4 <|
 .m 10 5 <|
 .x 11 (.ia 1 (.v 10) (.c (.int .i64 0))) <|
 .l 12 11 <|
 .o (.psl 13 [.int .i64 0] [(0, 1, .v 12)]) <|
 .o (.ld (some 16) (.v 1) (some 3)) <|
 .m 17 5 <|
 .m 19 5 <|
 .x 20 (.ia 1 (.v 19) (.c (.int .i64 0))) <|
 .l 21 20 <|
 .o (.psl 22 [.int .i64 0] [(0, 1, .v 21)]) <|
 .c 9 (.call fn_impl_clone_int [.v 8]) K37_6) (.ret)
@[simp] def W37_7 := C.w K37_7.eq_1
def K37_8 : C := .seq (.pl <| .e 7 1 <|
 .x 7 (.build [.slice none 0 0, .slice none 0 0] []) <|
 .o (.pset none 2 0 2 (.v 7)) <|
 .x 3 (.mv (.c (.bool false))) .done) (.ret)
@[simp] def W37_8 := C.w K37_8.eq_1
def K37_9 : C := .cond 7 (.v 8) K37_8 (.skip)
@[simp] def W37_9 := C.w K37_9.eq_1
def K37_10 : C := .seq (.seq (.pl <| .e 7 2 <|
 .m 7 6 <|
 .x 8 (.un .not (.v 7)) .done) K37_9) K37_7
@[simp] def W37_10 := C.w K37_10.eq_1
def K37_11 : Pl := .m 13 12 <|
 .x 14 (.extract 0 (.v 13)) <|
 .x 15 (.extract 1 (.v 13)) <|
 .x 16 (.extract 2 (.v 13)) <|
 .m 4 14 <|
 .m 5 15 <|
 .m 6 16 .done
@[simp] def W37_11 := Pl.w K37_11.eq_1
def K37_12 : Pl := .st (.re 10 (.v 9) none none) <|
 .c 12 (.call fn_impl_lasso [.v 8, .v 10, .v 11]) K37_11
@[simp] def W37_12 := Pl.w K37_12.eq_1
def K37_13 : C := .seq (.pl <| .e 7 10 <|
 .o (.ld (some 7) (.v 1) (some 3)) <|
 .x 9 (.fa 0 (.v 1)) <|
 .l 10 9 <|
 .x 11 (.mkf (.func fn_impl_FindWord_1) [] [.v 1]) <|
 .c 8 (.call fn_impl_Automaton_next [.v 7]) K37_12) K37_10
@[simp] def W37_13 := C.w K37_13.eq_1
def K37_14 : C := .seq (.pl <| .e 7 1 <|
 .x 7 (.build [.slice none 0 0, .slice none 0 0] []) <|
 .o (.pset none 2 0 2 (.v 7)) <|
 .x 3 (.mv (.c (.bool false))) .done) (.ret)
@[simp] def W37_14 := C.w K37_14.eq_1
def K37_15 : C := .cond 7 (.v 9) K37_14 (.skip)
@[simp] def W37_15 := C.w K37_15.eq_1
def K37_16 : Pl := .x 9 (.un .not (.v 8)) .done
@[simp] def W37_16 := Pl.w K37_16.eq_1
def K37_17 : C := .seq (.seq (.pl <| .e 7 3 <|
 .o (.ld (some 7) (.v 1) (some 3)) <|
 .c 8 (.call fn_impl_AutomatonValid [.v 7]) K37_16) K37_15) K37_13
@[simp] def W37_17 := C.w K37_17.eq_1
def K37_18 : Pl := .o (.pnew 2 (.c (.agg #[.slice none 0 0, .slice none 0 0])) []) <|
 .x 3 (.mv (.c (.bool false))) .done
@[simp] def W37_18 := Pl.w K37_18.eq_1
def B_impl_FindWord : C := .seq (.pl <| .e 7 0 <|
 .c 1 (.alloc (.v 0)) K37_18) K37_17
@[simp] def WB_impl_FindWord := C.w B_impl_FindWord.eq_1
def R_impl_FindWord : FIR := ⟨B_impl_FindWord, 7, [(2, some (some 2)), (3, none)]⟩
theorem IR_impl_FindWord : cfun Tryz.prog H_impl_FindWord Tryz.f37 = some R_impl_FindWord := by kernel_rfl
theorem EN_impl_FindWord : ENT Tryz.prog B_impl_FindWord [(2, some (some 2)), (3, none)] 1 7 fn_impl_FindWord := fun hargs hw => enter Tryz.func37 rfl IR_impl_FindWord hargs hw
def H_impl_FindWord_1 : Hint := ⟨[(0, false), (1, false), (3, false)], []⟩
def K76_1 : C := .seq (.pl <| .e 3 5 <|
 .x 3 (.fa 1 (.v 1)) <|
 .l 4 3 <|
 .m 5 0 <|
 .x 6 (.ia 1 (.v 4) (.v 5)) <|
 .l 7 6 <|
 .m 2 7 .done) (.ret)
@[simp] def W76_1 := C.w K76_1.eq_1
def B_impl_FindWord_1 : C := .seq (.pl <| .e 3 0 <|
 .x 2 (.mv (.c (.bool false))) .done) K76_1
@[simp] def WB_impl_FindWord_1 := C.w B_impl_FindWord_1.eq_1
def R_impl_FindWord_1 : FIR := ⟨B_impl_FindWord_1, 3, [(2, none)]⟩
theorem IR_impl_FindWord_1 : cfun Tryz.prog H_impl_FindWord_1 Tryz.f76 = some R_impl_FindWord_1 := by kernel_rfl
theorem EN_impl_FindWord_1 : ENT Tryz.prog B_impl_FindWord_1 [(2, none)] 2 3 fn_impl_FindWord_1 := fun hargs hw => enter Tryz.func76 rfl IR_impl_FindWord_1 hargs hw
def H_impl_PrefixStates : Hint := ⟨[(0, false), (1, false), (2, true), (4, false), (5, false)], []⟩
def K8_1 : Pl := .m 3 7 <|
 .x 4 (.mv (.c (.bool true))) .done
@[simp] def W8_1 := Pl.w K8_1.eq_1
def K8_2 : C := .seq (.pl <| .e 5 3 <|
 .o (.pget (some 5) none 2 0 (some 3)) <|
 .m 6 1 <|
 .c 7 (.call fn_impl_Automaton_prefix [.v 5, .v 6]) K8_1) (.ret)
@[simp] def W8_2 := C.w K8_2.eq_1
def K8_3 : C := .seq (.pl <| .e 5 0 <|
 .x 3 (.mv (.c (.slice none 0 0))) <|
 .x 4 (.mv (.c (.bool false))) .done) (.ret)
@[simp] def W8_3 := C.w K8_3.eq_1
def K8_4 : C := .cond 5 (.v 12) K8_3 (.skip)
@[simp] def W8_4 := C.w K8_4.eq_1
def K8_5 : Pl := .n 8 (.px (some 11) (.un .not (.v 10))) <|
 .x 12 (.pick (.v 8) (.c (.bool true)) (.v 11)) .done
@[simp] def W8_5 := Pl.w K8_5.eq_1
def K8_6 : Pl := .x 7 (.un .not (.v 6)) <|
 .m 8 7 <|
 .n 8 (.px (some 9) (.mv (.v 1))) <|
 .st (.act (some (.v 8, false)) (.ex (some 10) (.call fn_impl_wordOk [.v 9]))) K8_5
@[simp] def W8_6 := Pl.w K8_6.eq_1
def K8_7 : C := .seq (.seq (.pl <| .e 5 8 <|
 .o (.pget (some 5) none 2 0 (some 3)) <|
 .c 6 (.call fn_impl_AutomatonValid [.v 5]) K8_6) K8_4) K8_2
@[simp] def W8_7 := C.w K8_7.eq_1
def B_impl_PrefixStates : C := .seq (.pl <| .e 5 0 <|
 .o (.pnew 2 (.v 0) []) <|
 .x 3 (.mv (.c (.slice none 0 0))) <|
 .x 4 (.mv (.c (.bool false))) .done) K8_7
@[simp] def WB_impl_PrefixStates := C.w B_impl_PrefixStates.eq_1
def R_impl_PrefixStates : FIR := ⟨B_impl_PrefixStates, 5, [(3, none), (4, none)]⟩
theorem IR_impl_PrefixStates : cfun Tryz.prog H_impl_PrefixStates Tryz.f8 = some R_impl_PrefixStates := by kernel_rfl
theorem EN_impl_PrefixStates : ENT Tryz.prog B_impl_PrefixStates [(3, none), (4, none)] 2 5 fn_impl_PrefixStates := fun hargs hw => enter Tryz.func8 rfl IR_impl_PrefixStates hargs hw
def H_impl_around : Hint := ⟨[(0, false), (1, false), (2, false), (3, false), (4, false)], []⟩
def K122_1 : Pl := .m 4 9 .done
@[simp] def W122_1 := Pl.w K122_1.eq_1
def K122_2 : Pl := .x 8 (.mkf (.func fn_impl_around_1) [] [.v 3, .v 2]) <|
 .c 9 (.call fn_impl_shortest [.v 5, .v 7, .v 8]) K122_1
@[simp] def W122_2 := Pl.w K122_2.eq_1
def K122_3 : C := .seq (.pl <| .e 5 5 <|
 .l 5 2 <|
 .l 6 3 <|
 .c 7 (.bls 1 1 [.int .i64 0] [(0, 1, .v 6)]) K122_2) (.ret)
@[simp] def W122_3 := C.w K122_3.eq_1
def K122_4 : Pl := .m 4 6 .done
@[simp] def W122_4 := Pl.w K122_4.eq_1
def K122_5 : C := .seq (.pl <| .e 5 2 <|
 .l 5 3 <|
 .c 6 (.bls 1 1 [.int .i64 0] [(0, 1, .v 5)]) K122_4) (.ret)
@[simp] def W122_5 := C.w K122_5.eq_1
def K122_6 : C := .cond 5 (.v 10) K122_5 (.skip)
@[simp] def W122_6 := C.w K122_6.eq_1
def K122_7 : C := .seq (.seq (.pl <| .e 5 6 <|
 .l 5 2 <|
 .l 6 3 <|
 .x 7 (.ia 1 (.v 5) (.v 6)) <|
 .l 8 7 <|
 .l 9 3 <|
 .c 10 (.call fn_slices_Contains_S_int_int [.v 8, .v 9]) .done) K122_6) K122_3
@[simp] def W122_7 := C.w K122_7.eq_1
def K122_8 : Pl := .x 4 (.mv (.c (.slice none 0 0))) .done
@[simp] def W122_8 := Pl.w K122_8.eq_1
def K122_9 : Pl := .c 3 (.alloc (.v 1)) K122_8
@[simp] def W122_9 := Pl.w K122_9.eq_1
def B_impl_around : C := .seq (.pl <| .e 5 0 <|
 .c 2 (.alloc (.v 0)) K122_9) K122_7
@[simp] def WB_impl_around := C.w B_impl_around.eq_1
def R_impl_around : FIR := ⟨B_impl_around, 5, [(4, none)]⟩
theorem IR_impl_around : cfun Tryz.prog H_impl_around Tryz.f122 = some R_impl_around := by kernel_rfl
theorem EN_impl_around : ENT Tryz.prog B_impl_around [(4, none)] 2 5 fn_impl_around := fun hargs hw => enter Tryz.func122 rfl IR_impl_around hargs hw
def H_impl_around_1 : Hint := ⟨[(0, false), (1, false), (2, false), (4, false)], []⟩
def K147_1 : Pl := .x 14 (.pick (.v 7) (.v 13) (.c (.bool false))) <|
 .m 3 14 .done
@[simp] def W147_1 := Pl.w K147_1.eq_1
def K147_2 : C := .seq (.pl <| .e 4 11 <|
 .m 4 0 <|
 .l 5 1 <|
 .x 6 (.bin .neq (.v 4) (.v 5)) <|
 .m 7 6 <|
 .y 7 (.ld (some 8) (.v 2) none) <|
 .y 7 (.px (some 9) (.mv (.v 0))) <|
 .y 7 (.px (some 10) (.ia 1 (.v 8) (.v 9))) <|
 .y 7 (.ld (some 11) (.v 10) none) <|
 .y 7 (.ld (some 12) (.v 1) none) <|
 .st (.act (some (.v 7, true)) (.ex (some 13) (.call fn_slices_Contains_S_int_int [.v 11, .v 12]))) K147_1) (.ret)
@[simp] def W147_2 := C.w K147_2.eq_1
def B_impl_around_1 : C := .seq (.pl <| .e 4 0 <|
 .x 3 (.mv (.c (.bool false))) .done) K147_2
@[simp] def WB_impl_around_1 := C.w B_impl_around_1.eq_1
def R_impl_around_1 : FIR := ⟨B_impl_around_1, 4, [(3, none)]⟩
theorem IR_impl_around_1 : cfun Tryz.prog H_impl_around_1 Tryz.f147 = some R_impl_around_1 := by kernel_rfl
theorem EN_impl_around_1 : ENT Tryz.prog B_impl_around_1 [(3, none)] 3 4 fn_impl_around_1 := fun hargs hw => enter Tryz.func147 rfl IR_impl_around_1 hargs hw
def H_impl_lasso : Hint := ⟨[(0, false), (1, false), (2, false), (6, false), (7, false), (8, false), (9, false), (11, false), (12, false), (17, false), (18, false), (19, false)], [[3, 4, 5, 7, 8]]⟩
def K75_1 : C := .seq (.pl <| .e 12 0 <|
 .x 3 (.mv (.c (.slice none 0 0))) <|
 .x 4 (.mv (.c (.slice none 0 0))) <|
 .x 5 (.mv (.c (.bool false))) .done) (.ret)
@[simp] def W75_1 := C.w K75_1.eq_1
def K75_2 : C := .pl <| .e 12 1 <|
 .x 12 (.bin .add (.v 11) (.c (.int .i64 1))) <|
 .m 11 12 .done
@[simp] def W75_2 := C.w K75_2.eq_1
def K75_3 : Pl := .m 3 16 <|
 .m 4 19 <|
 .x 5 (.mv (.c (.bool true))) .done
@[simp] def W75_3 := Pl.w K75_3.eq_1
def K75_4 : C := .seq (.pl <| .e 12 8 <|
 .m 12 8 <|
 .m 13 8 <|
 .x 14 (.lenV (.v 13)) <|
 .x 15 (.bin .sub (.v 14) (.c (.int .i64 1))) <|
 .x 16 (.sliceV 1 (.v 12) none (some (.v 15)) none) <|
 .m 17 0 <|
 .l 18 7 <|
 .c 19 (.call fn_impl_around [.v 17, .v 18]) K75_3) (.ret)
@[simp] def W75_4 := C.w K75_4.eq_1
def K75_5 : Pl := .m 8 15 .done
@[simp] def W75_5 := Pl.w K75_5.eq_1
def K75_6 : C := .seq (.pl <| .e 12 4 <|
 .m 12 0 <|
 .m 13 1 <|
 .x 14 (.mkf (.func fn_impl_lasso_1) [] [.v 7]) <|
 .c 15 (.call fn_impl_shortest [.v 12, .v 13, .v 14]) K75_5) K75_4
@[simp] def W75_6 := C.w K75_6.eq_1
def K75_7 : C := .cond 12 (.v 20) K75_6 (.skip)
@[simp] def W75_7 := C.w K75_7.eq_1
def K75_8 : Pl := .m 15 14 <|
 .y 15 (.px (some 16) (.mv (.v 6))) <|
 .y 15 (.ld (some 17) (.v 7) none) <|
 .y 15 (.px (some 18) (.ia 1 (.v 16) (.v 17))) <|
 .y 15 (.ld (some 19) (.v 18) none) <|
 .x 20 (.pick (.v 15) (.v 19) (.c (.bool false))) .done
@[simp] def W75_8 := Pl.w K75_8.eq_1
def K75_9 : C := .seq (.pl <| .e 12 9 <|
 .m 12 2 <|
 .l 13 7 <|
 .c 14 (.callv (.v 12) [.v 13]) K75_8) K75_7
@[simp] def W75_9 := C.w K75_9.eq_1
def K75_10 : Pl := .o (.ex none (.store 1 (.v 7) (.v 13))) .done
@[simp] def W75_10 := Pl.w K75_10.eq_1
def K75_11 : C := .seq (.block 1 (.seq (.pl <| .e 12 2 <|
 .x 12 (.ia 1 (.v 9) (.v 11)) <|
 .l 13 12 <|
 .c 7 (.alloc (.c (.int .i64 0))) K75_10) K75_9)) K75_2
@[simp] def W75_11 := C.w K75_11.eq_1
def K75_12 : C := .seq (.cond 12 (.v 12) (.skip) (.exit 0)) K75_11
@[simp] def W75_12 := C.w K75_12.eq_1
def K75_13 : C := .seq (.pl <| .e 12 1 <|
 .x 12 (.bin .lss (.v 11) (.v 10)) .done) K75_12
@[simp] def W75_13 := C.w K75_13.eq_1
def K75_14 : C := .block 0 (.loop 12 [3, 4, 5, 7, 8] K75_13)
@[simp] def W75_14 := C.w K75_14.eq_1
def K75_15 : Pl := .x 10 (.lenV (.v 9)) <|
 .x 11 (.mv (.c (.int .i64 0))) .done
@[simp] def W75_15 := Pl.w K75_15.eq_1
def K75_16 : C := .seq (.seq (.pl <| .e 12 2 <|
 .m 12 0 <|
 .m 13 1 <|
 .c 9 (.call fn_impl_order [.v 12, .v 13]) K75_15) K75_14) K75_1
@[simp] def W75_16 := C.w K75_16.eq_1
def K75_17 : Pl := .m 6 13 .done
@[simp] def W75_17 := Pl.w K75_17.eq_1
def K75_18 : C := .seq (.pl <| .e 12 2 <|
 .m 12 0 <|
 .c 13 (.call fn_impl_cyclic [.v 12]) K75_17) K75_16
@[simp] def W75_18 := C.w K75_18.eq_1
def B_impl_lasso : C := .seq (.pl <| .e 12 0 <|
 .x 3 (.mv (.c (.slice none 0 0))) <|
 .x 4 (.mv (.c (.slice none 0 0))) <|
 .x 5 (.mv (.c (.bool false))) .done) K75_18
@[simp] def WB_impl_lasso := C.w B_impl_lasso.eq_1
def R_impl_lasso : FIR := ⟨B_impl_lasso, 12, [(3, none), (4, none), (5, none)]⟩
theorem IR_impl_lasso : cfun Tryz.prog H_impl_lasso Tryz.f75 = some R_impl_lasso := by kernel_rfl
theorem EN_impl_lasso : ENT Tryz.prog B_impl_lasso [(3, none), (4, none), (5, none)] 3 12 fn_impl_lasso := fun hargs hw => enter Tryz.func75 rfl IR_impl_lasso hargs hw
def H_impl_lasso_1 : Hint := ⟨[(0, false), (1, false), (3, false)], []⟩
def K121_1 : C := .seq (.pl <| .e 3 3 <|
 .m 3 0 <|
 .l 4 1 <|
 .x 5 (.bin .eql (.v 3) (.v 4)) <|
 .m 2 5 .done) (.ret)
@[simp] def W121_1 := C.w K121_1.eq_1
def B_impl_lasso_1 : C := .seq (.pl <| .e 3 0 <|
 .x 2 (.mv (.c (.bool false))) .done) K121_1
@[simp] def WB_impl_lasso_1 := C.w B_impl_lasso_1.eq_1
def R_impl_lasso_1 : FIR := ⟨B_impl_lasso_1, 3, [(2, none)]⟩
theorem IR_impl_lasso_1 : cfun Tryz.prog H_impl_lasso_1 Tryz.f121 = some R_impl_lasso_1 := by kernel_rfl
theorem EN_impl_lasso_1 : ENT Tryz.prog B_impl_lasso_1 [(2, none)] 2 3 fn_impl_lasso_1 := fun hargs hw => enter Tryz.func121 rfl IR_impl_lasso_1 hargs hw
def H_impl_members : Hint := ⟨[(0, false), (2, false), (3, false), (4, false), (5, false), (6, false), (7, false), (8, false)], [[0, 1, 3, 4]]⟩
def K66_1 : Pl := .m 1 9 .done
@[simp] def W66_1 := Pl.w K66_1.eq_1
def K66_2 : C := .seq (.pl <| .e 8 2 <|
 .m 8 2 <|
 .c 9 (.call fn_slices_Clip_S_int_int [.v 8]) K66_1) (.ret)
@[simp] def W66_2 := C.w K66_2.eq_1
def K66_3 : C := .pl <| .e 8 1 <|
 .x 8 (.bin .add (.v 7) (.c (.int .i64 1))) <|
 .m 7 8 .done
@[simp] def W66_3 := C.w K66_3.eq_1
def K66_4 : Pl := .m 2 11 .done
@[simp] def W66_4 := Pl.w K66_4.eq_1
def K66_5 : C := .pl <| .e 8 4 <|
 .m 8 2 <|
 .m 9 3 <|
 .o (.psl 10 [.int .i64 0] [(0, 1, .v 9)]) <|
 .c 11 (.app 8 1 [.int .i64 0] (.o (.v 8)) (.p 1 10)) K66_4
@[simp] def W66_5 := C.w K66_5.eq_1
def K66_6 : C := .cond 8 (.v 8) K66_5 (.skip)
@[simp] def W66_6 := C.w K66_6.eq_1
def K66_7 : C := .seq (.pl <| .e 8 1 <|
 .m 8 4 .done) K66_6
@[simp] def W66_7 := C.w K66_7.eq_1
def K66_8 : C := .seq (.block 1 (.seq (.pl <| .e 8 3 <|
 .m 8 7 <|
 .x 9 (.ia 1 (.v 5) (.v 7)) <|
 .l 10 9 <|
 .m 3 8 <|
 .m 4 10 .done) K66_7)) K66_3
@[simp] def W66_8 := C.w K66_8.eq_1
def K66_9 : C := .seq (.cond 8 (.v 8) (.skip) (.exit 0)) K66_8
@[simp] def W66_9 := C.w K66_9.eq_1
def K66_10 : C := .seq (.pl <| .e 8 1 <|
 .x 8 (.bin .lss (.v 7) (.v 6)) .done) K66_9
@[simp] def W66_10 := C.w K66_10.eq_1
def K66_11 : C := .block 0 (.loop 8 [0, 1, 3, 4] K66_10)
@[simp] def W66_11 := C.w K66_11.eq_1
def K66_12 : C := .seq (.seq (.pl <| .e 8 0 <|
 .m 5 0 <|
 .x 6 (.lenV (.v 5)) <|
 .x 7 (.mv (.c (.int .i64 0))) .done) K66_11) K66_2
@[simp] def W66_12 := C.w K66_12.eq_1
def K66_13 : C := .seq (.pl <| .e 8 0 <|
 .x 2 (.mv (.c (.slice none 0 0))) .done) K66_12
@[simp] def W66_13 := C.w K66_13.eq_1
def B_impl_members : C := .seq (.pl <| .e 8 0 <|
 .x 1 (.mv (.c (.slice none 0 0))) .done) K66_13
@[simp] def WB_impl_members := C.w B_impl_members.eq_1
def R_impl_members : FIR := ⟨B_impl_members, 8, [(1, none)]⟩
theorem IR_impl_members : cfun Tryz.prog H_impl_members Tryz.f66 = some R_impl_members := by kernel_rfl
theorem EN_impl_members : ENT Tryz.prog B_impl_members [(1, none)] 1 8 fn_impl_members := fun hargs hw => enter Tryz.func66 rfl IR_impl_members hargs hw
def H_impl_order : Hint := ⟨[(0, false), (1, false), (4, false), (5, false), (6, false), (7, false), (9, false), (10, false), (12, false), (17, false), (18, false), (19, false), (39, false), (40, false), (41, false)], [[1, 2, 3, 6, 7, 8, 12, 13, 14], [1, 2, 3, 6, 8, 9, 10, 11, 12, 13, 14], [1, 2, 3, 6, 8, 9, 10, 11]]⟩
def K119_1 : C := .seq (.pl <| .e 15 1 <|
 .l 15 4 <|
 .m 2 15 .done) (.ret)
@[simp] def W119_1 := C.w K119_1.eq_1
def K119_2 : C := .pl <| .e 15 2 <|
 .m 15 7 <|
 .x 16 (.bin .add (.v 15) (.c (.int .i64 1))) <|
 .m 7 16 .done
@[simp] def W119_2 := C.w K119_2.eq_1
def K119_3 : C := .pl <| .e 15 1 <|
 .x 15 (.bin .add (.v 14) (.c (.int .i64 1))) <|
 .m 14 15 .done
@[simp] def W119_3 := C.w K119_3.eq_1
def K119_4 : C := .pl <| .e 15 3 <|
 .m 15 5 <|
 .m 16 8 <|
 .c 17 (.callv (.v 15) [.v 16]) .done
@[simp] def W119_4 := C.w K119_4.eq_1
def K119_5 : C := .seq (.block 5 (.seq (.pl <| .e 15 2 <|
 .x 15 (.ia 1 (.v 12) (.v 14)) <|
 .l 16 15 <|
 .m 8 16 .done) K119_4)) K119_3
@[simp] def W119_5 := C.w K119_5.eq_1
def K119_6 : C := .seq (.cond 15 (.v 15) (.skip) (.exit 4)) K119_5
@[simp] def W119_6 := C.w K119_6.eq_1
def K119_7 : C := .seq (.pl <| .e 15 1 <|
 .x 15 (.bin .lss (.v 14) (.v 13)) .done) K119_6
@[simp] def W119_7 := C.w K119_7.eq_1
def K119_8 : C := .block 4 (.loop 15 [1, 2, 3, 6, 8, 9, 10, 11] K119_7)
@[simp] def W119_8 := C.w K119_8.eq_1
def K119_9 : C := .seq (.block 3 (.seq (.pl <| .e 15 6 <|
 .m 15 0 <|
 .l 16 4 <|
 .m 17 7 <|
 .x 18 (.ia 1 (.v 16) (.v 17)) <|
 .l 19 18 <|
 .x 20 (.ia 1 (.v 15) (.v 19)) <|
 .l 12 20 <|
 .x 13 (.lenV (.v 12)) <|
 .x 14 (.mv (.c (.int .i64 0))) .done) K119_8)) K119_2
@[simp] def W119_9 := C.w K119_9.eq_1
def K119_10 : C := .cond 15 (.v 18) (.skip) (.exit 2)
@[simp] def W119_10 := C.w K119_10.eq_1
def K119_11 : C := .seq (.seq (.pl <| .e 15 4 <|
 .m 15 7 <|
 .l 16 4 <|
 .x 17 (.lenV (.v 16)) <|
 .x 18 (.bin .lss (.v 15) (.v 17)) .done) K119_10) K119_9
@[simp] def W119_11 := C.w K119_11.eq_1
def K119_12 : C := .block 2 (.loop 15 [1, 2, 3, 6, 8, 9, 10, 11, 12, 13, 14] K119_11)
@[simp] def W119_12 := C.w K119_12.eq_1
def K119_13 : C := .seq (.seq (.pl <| .e 15 0 <|
 .x 7 (.mv (.c (.int .i64 0))) .done) K119_12) K119_1
@[simp] def W119_13 := C.w K119_13.eq_1
def K119_14 : C := .pl <| .e 15 1 <|
 .x 15 (.bin .add (.v 11) (.c (.int .i64 1))) <|
 .m 11 15 .done
@[simp] def W119_14 := C.w K119_14.eq_1
def K119_15 : C := .pl <| .e 15 3 <|
 .m 15 5 <|
 .m 16 6 <|
 .c 17 (.callv (.v 15) [.v 16]) .done
@[simp] def W119_15 := C.w K119_15.eq_1
def K119_16 : C := .seq (.block 1 (.seq (.pl <| .e 15 2 <|
 .x 15 (.ia 1 (.v 9) (.v 11)) <|
 .l 16 15 <|
 .m 6 16 .done) K119_15)) K119_14
@[simp] def W119_16 := C.w K119_16.eq_1
def K119_17 : C := .seq (.cond 15 (.v 15) (.skip) (.exit 0)) K119_16
@[simp] def W119_17 := C.w K119_17.eq_1
def K119_18 : C := .seq (.pl <| .e 15 1 <|
 .x 15 (.bin .lss (.v 11) (.v 10)) .done) K119_17
@[simp] def W119_18 := C.w K119_18.eq_1
def K119_19 : C := .block 0 (.loop 15 [1, 2, 3, 6, 7, 8, 12, 13, 14] K119_18)
@[simp] def W119_19 := C.w K119_19.eq_1
def K119_20 : C := .seq (.seq (.pl <| .e 15 0 <|
 .m 9 1 <|
 .x 10 (.lenV (.v 9)) <|
 .x 11 (.mv (.c (.int .i64 0))) .done) K119_19) K119_13
@[simp] def W119_20 := C.w K119_20.eq_1
def K119_21 : C := .seq (.pl <| .e 15 1 <|
 .x 15 (.mkf (.func fn_impl_order_1) [] [.v 3, .v 4]) <|
 .m 5 15 .done) K119_20
@[simp] def W119_21 := C.w K119_21.eq_1
def K119_22 : C := .seq (.pl <| .e 15 0 <|
 .c 4 (.alloc (.c (.slice none 0 0))) .done) K119_21
@[simp] def W119_22 := C.w K119_22.eq_1
def K119_23 : Pl := .o (.ex none (.store 1 (.v 3) (.v 17))) .done
@[simp] def W119_23 := Pl.w K119_23.eq_1
def K119_24 : Pl := .c 3 (.alloc (.c (.slice none 0 0))) K119_23
@[simp] def W119_24 := Pl.w K119_24.eq_1
def K119_25 : C := .seq (.pl <| .e 15 3 <|
 .m 15 0 <|
 .x 16 (.lenV (.v 15)) <|
 .c 17 (.mks 1 1 [.bool false] (.v 16) (.v 16)) K119_24) K119_22
@[simp] def W119_25 := C.w K119_25.eq_1
def B_impl_order : C := .seq (.pl <| .e 15 0 <|
 .x 2 (.mv (.c (.slice none 0 0))) .done) K119_25
@[simp] def WB_impl_order := C.w B_impl_order.eq_1
def R_impl_order : FIR := ⟨B_impl_order, 15, [(2, none)]⟩
theorem IR_impl_order : cfun Tryz.prog H_impl_order Tryz.f119 = some R_impl_order := by kernel_rfl
theorem EN_impl_order : ENT Tryz.prog B_impl_order [(2, none)] 2 15 fn_impl_order := fun hargs hw => enter Tryz.func119 rfl IR_impl_order hargs hw
def H_impl_order_1 : Hint := ⟨[(0, false), (1, false), (2, false)], []⟩
def K145_1 : Pl := .o (.ex none (.store 1 (.v 2) (.v 6))) .done
@[simp] def W145_1 := Pl.w K145_1.eq_1
def K145_2 : C := .pl <| .e 3 4 <|
 .l 3 2 <|
 .m 4 0 <|
 .o (.psl 5 [.int .i64 0] [(0, 1, .v 4)]) <|
 .c 6 (.app 8 1 [.int .i64 0] (.o (.v 3)) (.p 1 5)) K145_1
@[simp] def W145_2 := C.w K145_2.eq_1
def K145_3 : C := .seq (.pl <| .e 3 3 <|
 .l 3 1 <|
 .m 4 0 <|
 .x 5 (.ia 1 (.v 3) (.v 4)) <|
 .o (.ex none (.store 1 (.v 5) (.c (.bool true)))) .done) K145_2
@[simp] def W145_3 := C.w K145_3.eq_1
def K145_4 : C := .cond 3 (.v 7) K145_3 (.skip)
@[simp] def W145_4 := C.w K145_4.eq_1
def B_impl_order_1 : C := .seq (.pl <| .e 3 5 <|
 .l 3 1 <|
 .m 4 0 <|
 .x 5 (.ia 1 (.v 3) (.v 4)) <|
 .l 6 5 <|
 .x 7 (.un .not (.v 6)) .done) K145_4
@[simp] def WB_impl_order_1 := C.w B_impl_order_1.eq_1
def R_impl_order_1 : FIR := ⟨B_impl_order_1, 3, []⟩
theorem IR_impl_order_1 : cfun Tryz.prog H_impl_order_1 Tryz.f145 = some R_impl_order_1 := by kernel_rfl
theorem EN_impl_order_1 : ENT Tryz.prog B_impl_order_1 [] 3 3 fn_impl_order_1 := fun hargs hw => enter Tryz.func145 rfl IR_impl_order_1 hargs hw
def H_impl_shortest : Hint := ⟨[(0, false), (1, false), (2, false), (6, false), (7, false), (8, false), (9, false), (11, false), (12, false), (13, false), (14, false), (16, false), (21, false), (22, false), (29, false), (30, false), (31, false), (76, false), (77, false), (78, false)], [[3, 5, 6, 7, 8, 9, 10, 11, 14, 15, 16, 17, 18, 19], [1, 3, 5, 7, 8, 9, 10, 11, 12, 13, 17, 18, 19], [1, 3, 5, 7, 9, 10, 11, 12, 13, 14, 15, 16, 17, 18, 19], [0, 1, 2, 3, 5, 6, 7, 8, 11, 12, 13, 14, 15, 16, 17, 18, 19], [1, 3, 5, 7, 9, 10, 11, 12, 13, 14, 15, 16]]⟩
def K120_1 : C := .seq (.pl <| .e 20 0 <|
 .x 3 (.mv (.c (.slice none 0 0))) .done) (.ret)
@[simp] def W120_1 := C.w K120_1.eq_1
def K120_2 : C := .pl <| .e 20 2 <|
 .m 20 8 <|
 .x 21 (.bin .add (.v 20) (.c (.int .i64 1))) <|
 .m 8 21 .done
@[simp] def W120_2 := C.w K120_2.eq_1
def K120_3 : C := .pl <| .e 20 1 <|
 .x 20 (.bin .add (.v 19) (.c (.int .i64 1))) <|
 .m 19 20 .done
@[simp] def W120_3 := C.w K120_3.eq_1
def K120_4 : Pl := .m 6 23 .done
@[simp] def W120_4 := Pl.w K120_4.eq_1
def K120_5 : C := .pl <| .e 20 4 <|
 .m 20 6 <|
 .m 21 11 <|
 .o (.psl 22 [.int .i64 0] [(0, 1, .v 21)]) <|
 .c 23 (.app 8 1 [.int .i64 0] (.o (.v 20)) (.p 1 22)) K120_4
@[simp] def W120_5 := C.w K120_5.eq_1
def K120_6 : C := .seq (.pl <| .e 20 7 <|
 .m 20 4 <|
 .m 21 11 <|
 .m 22 6 <|
 .m 23 8 <|
 .x 24 (.ia 1 (.v 22) (.v 23)) <|
 .l 25 24 <|
 .x 26 (.ia 1 (.v 20) (.v 21)) <|
 .o (.ex none (.store 1 (.v 26) (.v 25))) .done) K120_5
@[simp] def W120_6 := C.w K120_6.eq_1
def K120_7 : C := .cond 20 (.v 24) K120_6 (.skip)
@[simp] def W120_7 := C.w K120_7.eq_1
def K120_8 : C := .seq (.pl <| .e 20 5 <|
 .m 20 4 <|
 .m 21 11 <|
 .x 22 (.ia 1 (.v 20) (.v 21)) <|
 .l 23 22 <|
 .x 24 (.bin .eql (.v 23) (.c (.int .i64 (-2)))) .done) K120_7
@[simp] def W120_8 := C.w K120_8.eq_1
def K120_9 : C := .seq (.block 9 (.seq (.pl <| .e 20 2 <|
 .x 20 (.ia 1 (.v 17) (.v 19)) <|
 .l 21 20 <|
 .m 11 21 .done) K120_8)) K120_3
@[simp] def W120_9 := C.w K120_9.eq_1
def K120_10 : C := .seq (.cond 20 (.v 20) (.skip) (.exit 8)) K120_9
@[simp] def W120_10 := C.w K120_10.eq_1
def K120_11 : C := .seq (.pl <| .e 20 1 <|
 .x 20 (.bin .lss (.v 19) (.v 18)) .done) K120_10
@[simp] def W120_11 := C.w K120_11.eq_1
def K120_12 : C := .block 8 (.loop 20 [1, 3, 5, 7, 9, 10, 11, 12, 13, 14, 15, 16] K120_11)
@[simp] def W120_12 := C.w K120_12.eq_1
def K120_13 : C := .seq (.pl <| .e 20 6 <|
 .m 20 0 <|
 .m 21 6 <|
 .m 22 8 <|
 .x 23 (.ia 1 (.v 21) (.v 22)) <|
 .l 24 23 <|
 .x 25 (.ia 1 (.v 20) (.v 24)) <|
 .l 17 25 <|
 .x 18 (.lenV (.v 17)) <|
 .x 19 (.mv (.c (.int .i64 0))) .done) K120_12
@[simp] def W120_13 := C.w K120_13.eq_1
def K120_14 : Pl := .m 3 21 .done
@[simp] def W120_14 := Pl.w K120_14.eq_1
def K120_15 : C := .seq (.pl <| .e 20 2 <|
 .m 20 10 <|
 .c 21 (.call fn_slices_Clip_S_int_int [.v 20]) K120_14) (.ret)
@[simp] def W120_15 := C.w K120_15.eq_1
def K120_16 : C := .seq (.pl <| .e 20 2 <|
 .m 20 10 <|
 .c 21 (.call fn_slices_Reverse_S_int_int [.v 20]) .done) K120_15
@[simp] def W120_16 := C.w K120_16.eq_1
def K120_17 : C := .pl <| .e 20 4 <|
 .m 20 4 <|
 .m 21 9 <|
 .x 22 (.ia 1 (.v 20) (.v 21)) <|
 .l 23 22 <|
 .m 9 23 .done
@[simp] def W120_17 := C.w K120_17.eq_1
def K120_18 : Pl := .m 10 23 .done
@[simp] def W120_18 := Pl.w K120_18.eq_1
def K120_19 : C := .seq (.block 7 (.pl <| .e 20 4 <|
 .m 20 10 <|
 .m 21 9 <|
 .o (.psl 22 [.int .i64 0] [(0, 1, .v 21)]) <|
 .c 23 (.app 8 1 [.int .i64 0] (.o (.v 20)) (.p 1 22)) K120_18)) K120_17
@[simp] def W120_19 := C.w K120_19.eq_1
def K120_20 : C := .cond 20 (.v 21) (.skip) (.exit 6)
@[simp] def W120_20 := C.w K120_20.eq_1
def K120_21 : C := .seq (.seq (.pl <| .e 20 2 <|
 .m 20 9 <|
 .x 21 (.bin .geq (.v 20) (.c (.int .i64 0))) .done) K120_20) K120_19
@[simp] def W120_21 := C.w K120_21.eq_1
def K120_22 : C := .seq (.block 6 (.loop 20 [0, 1, 2, 3, 5, 6, 7, 8, 11, 12, 13, 14, 15, 16, 17, 18, 19] K120_21)) K120_16
@[simp] def W120_22 := C.w K120_22.eq_1
def K120_23 : C := .seq (.pl <| .e 20 0 <|
 .x 10 (.mv (.c (.slice none 0 0))) .done) K120_22
@[simp] def W120_23 := C.w K120_23.eq_1
def K120_24 : C := .cond 20 (.v 22) K120_23 (.skip)
@[simp] def W120_24 := C.w K120_24.eq_1
def K120_25 : C := .seq (.pl <| .e 20 3 <|
 .m 20 2 <|
 .m 21 9 <|
 .c 22 (.callv (.v 20) [.v 21]) .done) K120_24
@[simp] def W120_25 := C.w K120_25.eq_1
def K120_26 : C := .seq (.block 5 (.seq (.seq (.pl <| .e 20 4 <|
 .m 20 6 <|
 .m 21 8 <|
 .x 22 (.ia 1 (.v 20) (.v 21)) <|
 .l 23 22 <|
 .m 9 23 .done) K120_25) K120_13)) K120_2
@[simp] def W120_26 := C.w K120_26.eq_1
def K120_27 : C := .cond 20 (.v 23) (.skip) (.exit 4)
@[simp] def W120_27 := C.w K120_27.eq_1
def K120_28 : C := .seq (.seq (.pl <| .e 20 4 <|
 .m 20 8 <|
 .m 21 6 <|
 .x 22 (.lenV (.v 21)) <|
 .x 23 (.bin .lss (.v 20) (.v 22)) .done) K120_27) K120_26
@[simp] def W120_28 := C.w K120_28.eq_1
def K120_29 : C := .block 4 (.loop 20 [1, 3, 5, 7, 9, 10, 11, 12, 13, 14, 15, 16, 17, 18, 19] K120_28)
@[simp] def W120_29 := C.w K120_29.eq_1
def K120_30 : C := .seq (.seq (.pl <| .e 20 0 <|
 .x 8 (.mv (.c (.int .i64 0))) .done) K120_29) K120_1
@[simp] def W120_30 := C.w K120_30.eq_1
def K120_31 : C := .pl <| .e 20 1 <|
 .x 20 (.bin .add (.v 16) (.c (.int .i64 1))) <|
 .m 16 20 .done
@[simp] def W120_31 := C.w K120_31.eq_1
def K120_32 : Pl := .m 6 23 .done
@[simp] def W120_32 := Pl.w K120_32.eq_1
def K120_33 : C := .pl <| .e 20 4 <|
 .m 20 6 <|
 .m 21 7 <|
 .o (.psl 22 [.int .i64 0] [(0, 1, .v 21)]) <|
 .c 23 (.app 8 1 [.int .i64 0] (.o (.v 20)) (.p 1 22)) K120_32
@[simp] def W120_33 := C.w K120_33.eq_1
def K120_34 : C := .seq (.pl <| .e 20 3 <|
 .m 20 4 <|
 .m 21 7 <|
 .x 22 (.ia 1 (.v 20) (.v 21)) <|
 .o (.ex none (.store 1 (.v 22) (.c (.int .i64 (-1))))) .done) K120_33
@[simp] def W120_34 := C.w K120_34.eq_1
def K120_35 : C := .seq (.block 3 (.seq (.pl <| .e 20 2 <|
 .x 20 (.ia 1 (.v 14) (.v 16)) <|
 .l 21 20 <|
 .m 7 21 .done) K120_34)) K120_31
@[simp] def W120_35 := C.w K120_35.eq_1
def K120_36 : C := .seq (.cond 20 (.v 20) (.skip) (.exit 2)) K120_35
@[simp] def W120_36 := C.w K120_36.eq_1
def K120_37 : C := .seq (.pl <| .e 20 1 <|
 .x 20 (.bin .lss (.v 16) (.v 15)) .done) K120_36
@[simp] def W120_37 := C.w K120_37.eq_1
def K120_38 : C := .block 2 (.loop 20 [1, 3, 5, 7, 8, 9, 10, 11, 12, 13, 17, 18, 19] K120_37)
@[simp] def W120_38 := C.w K120_38.eq_1
def K120_39 : C := .seq (.seq (.pl <| .e 20 0 <|
 .m 14 1 <|
 .x 15 (.lenV (.v 14)) <|
 .x 16 (.mv (.c (.int .i64 0))) .done) K120_38) K120_30
@[simp] def W120_39 := C.w K120_39.eq_1
def K120_40 : C := .seq (.pl <| .e 20 0 <|
 .x 6 (.mv (.c (.slice none 0 0))) .done) K120_39
@[simp] def W120_40 := C.w K120_40.eq_1
def K120_41 : C := .pl <| .e 20 1 <|
 .x 20 (.bin .add (.v 13) (.c (.int .i64 1))) <|
 .m 13 20 .done
@[simp] def W120_41 := C.w K120_41.eq_1
def K120_42 : C := .pl <| .e 20 3 <|
 .m 20 4 <|
 .m 21 5 <|
 .x 22 (.ia 1 (.v 20) (.v 21)) <|
 .o (.ex none (.store 1 (.v 22) (.c (.int .i64 (-2))))) .done
@[simp] def W120_42 := C.w K120_42.eq_1
def K120_43 : C := .seq (.block 1 (.seq (.pl <| .e 20 1 <|
 .m 20 13 <|
 .m 5 20 .done) K120_42)) K120_41
@[simp] def W120_43 := C.w K120_43.eq_1
def K120_44 : C := .seq (.cond 20 (.v 20) (.skip) (.exit 0)) K120_43
@[simp] def W120_44 := C.w K120_44.eq_1
def K120_45 : C := .seq (.pl <| .e 20 1 <|
 .x 20 (.bin .lss (.v 13) (.v 12)) .done) K120_44
@[simp] def W120_45 := C.w K120_45.eq_1
def K120_46 : C := .block 0 (.loop 20 [3, 5, 6, 7, 8, 9, 10, 11, 14, 15, 16, 17, 18, 19] K120_45)
@[simp] def W120_46 := C.w K120_46.eq_1
def K120_47 : C := .seq (.seq (.pl <| .e 20 1 <|
 .m 20 4 <|
 .x 12 (.lenV (.v 20)) <|
 .x 13 (.mv (.c (.int .i64 0))) .done) K120_46) K120_40
@[simp] def W120_47 := C.w K120_47.eq_1
def K120_48 : Pl := .m 4 22 .done
@[simp] def W120_48 := Pl.w K120_48.eq_1
def K120_49 : C := .seq (.pl <| .e 20 3 <|
 .m 20 0 <|
 .x 21 (.lenV (.v 20)) <|
 .c 22 (.mks 8 1 [.int .i64 0] (.v 21) (.v 21)) K120_48) K120_47
@[simp] def W120_49 := C.w K120_49.eq_1
def B_impl_shortest : C := .seq (.pl <| .e 20 0 <|
 .x 3 (.mv (.c (.slice none 0 0))) .done) K120_49
@[simp] def WB_impl_shortest := C.w B_impl_shortest.eq_1
def R_impl_shortest : FIR := ⟨B_impl_shortest, 20, [(3, none)]⟩
theorem IR_impl_shortest : cfun Tryz.prog H_impl_shortest Tryz.f120 = some R_impl_shortest := by kernel_rfl
theorem EN_impl_shortest : ENT Tryz.prog B_impl_shortest [(3, none)] 3 20 fn_impl_shortest := fun hargs hw => enter Tryz.func120 rfl IR_impl_shortest hargs hw
def H_impl_wordOk : Hint := ⟨[(0, false), (2, false)], []⟩
def K31_1 : Pl := .x 8 (.pick (.v 5) (.v 7) (.c (.bool false))) <|
 .m 1 8 .done
@[simp] def W31_1 := Pl.w K31_1.eq_1
def K31_2 : C := .seq (.pl <| .e 2 7 <|
 .m 2 0 <|
 .x 3 (.lenV (.v 2)) <|
 .x 4 (.bin .leq (.v 3) (.c (.int .i64 200))) <|
 .m 5 4 <|
 .y 5 (.px (some 6) (.mv (.v 0))) <|
 .st (.act (some (.v 5, true)) (.ex (some 7) (.call fn_impl_letters [.v 6]))) K31_1) (.ret)
@[simp] def W31_2 := C.w K31_2.eq_1
def B_impl_wordOk : C := .seq (.pl <| .e 2 0 <|
 .x 1 (.mv (.c (.bool false))) .done) K31_2
@[simp] def WB_impl_wordOk := C.w B_impl_wordOk.eq_1
def R_impl_wordOk : FIR := ⟨B_impl_wordOk, 2, [(1, none)]⟩
theorem IR_impl_wordOk : cfun Tryz.prog H_impl_wordOk Tryz.f31 = some R_impl_wordOk := by kernel_rfl
theorem EN_impl_wordOk : ENT Tryz.prog B_impl_wordOk [(1, none)] 1 2 fn_impl_wordOk := fun hargs hw => enter Tryz.func31 rfl IR_impl_wordOk hargs hw
def H_slices_Reverse_S_int_int : Hint := ⟨[(0, false), (2, false), (3, false)], [[]]⟩
def K146_1 : C := .pl <| .e 3 4 <|
 .m 3 1 <|
 .x 4 (.bin .add (.v 3) (.c (.int .i64 1))) <|
 .m 5 2 <|
 .x 6 (.bin .sub (.v 5) (.c (.int .i64 1))) <|
 .m 1 4 <|
 .m 2 6 .done
@[simp] def W146_1 := C.w K146_1.eq_1
def K146_2 : Pl := .x 16 (.ia 1 (.v 5) (.v 6)) <|
 .o (.ex none (.store 1 (.v 16) (.v 14))) .done
@[simp] def W146_2 := Pl.w K146_2.eq_1
def K146_3 : C := .seq (.block 1 (.pl <| .e 3 14 <|
 .m 3 0 <|
 .m 4 1 <|
 .m 5 0 <|
 .m 6 2 <|
 .m 7 0 <|
 .m 8 2 <|
 .x 9 (.ia 1 (.v 7) (.v 8)) <|
 .l 10 9 <|
 .m 11 0 <|
 .m 12 1 <|
 .x 13 (.ia 1 (.v 11) (.v 12)) <|
 .l 14 13 <|
 .x 15 (.ia 1 (.v 3) (.v 4)) <|
 .o (.ex none (.store 1 (.v 15) (.v 10))) K146_2)) K146_1
@[simp] def W146_3 := C.w K146_3.eq_1
def K146_4 : C := .cond 3 (.v 5) (.skip) (.exit 0)
@[simp] def W146_4 := C.w K146_4.eq_1
def K146_5 : C := .seq (.seq (.pl <| .e 3 3 <|
 .m 3 1 <|
 .m 4 2 <|
 .x 5 (.bin .lss (.v 3) (.v 4)) .done) K146_4) K146_3
@[simp] def W146_5 := C.w K146_5.eq_1
def K146_6 : C := .block 0 (.loop 3 [] K146_5)
@[simp] def W146_6 := C.w K146_6.eq_1
def B_slices_Reverse_S_int_int : C := .seq (.pl <| .e 3 3 <|
 .m 3 0 <|
 .x 4 (.lenV (.v 3)) <|
 .x 5 (.bin .sub (.v 4) (.c (.int .i64 1))) <|
 .x 1 (.mv (.c (.int .i64 0))) <|
 .m 2 5 .done) K146_6
@[simp] def WB_slices_Reverse_S_int_int := C.w B_slices_Reverse_S_int_int.eq_1
def R_slices_Reverse_S_int_int : FIR := ⟨B_slices_Reverse_S_int_int, 3, []⟩
theorem IR_slices_Reverse_S_int_int : cfun Tryz.prog H_slices_Reverse_S_int_int Tryz.f146 = some R_slices_Reverse_S_int_int := by kernel_rfl
theorem EN_slices_Reverse_S_int_int : ENT Tryz.prog B_slices_Reverse_S_int_int [] 1 3 fn_slices_Reverse_S_int_int := fun hargs hw => enter Tryz.func146 rfl IR_slices_Reverse_S_int_int hargs hw
def H_spec_DrawPrefixStates : Hint := ⟨[(0, false), (2, true), (3, false), (4, false), (5, true)], []⟩
def K7_1 : Pl := .o (.pset none 1 0 3 (.v 5)) <|
 .m 2 7 .done
@[simp] def W7_1 := Pl.w K7_1.eq_1
def K7_2 : C := .seq (.pl <| .e 5 3 <|
 .o (.pget (some 5) none 4 0 (some 3)) <|
 .m 6 3 <|
 .c 7 (.call fn_spec_l12Letters [.v 6]) K7_1) (.ret)
@[simp] def W7_2 := C.w K7_2.eq_1
def K7_3 : Pl := .o (.pnew 4 (.c (.agg #[.slice none 0 0, .slice none 0 0, .slice none 0 0])) []) <|
 .o (.pset none 4 0 3 (.v 8)) .done
@[simp] def W7_3 := Pl.w K7_3.eq_1
def K7_4 : Pl := .c 8 (.call fn_spec_l7Mutate [.v 5, .v 7]) K7_3
@[simp] def W7_4 := Pl.w K7_4.eq_1
def K7_5 : C := .seq (.pl <| .e 5 4 <|
 .m 5 3 <|
 .m 6 3 <|
 .c 7 (.call fn_spec_l7Automaton [.v 6]) K7_4) K7_2
@[simp] def W7_5 := C.w K7_5.eq_1
def K7_6 : Pl := .m 3 6 .done
@[simp] def W7_6 := Pl.w K7_6.eq_1
def K7_7 : C := .seq (.pl <| .e 5 2 <|
 .m 5 0 <|
 .c 6 (.call fn_spec_l16Open [.v 5]) K7_6) K7_5
@[simp] def W7_7 := C.w K7_7.eq_1
def B_spec_DrawPrefixStates : C := .seq (.pl <| .e 5 0 <|
 .o (.pnew 1 (.c (.agg #[.slice none 0 0, .slice none 0 0, .slice none 0 0])) []) <|
 .x 2 (.mv (.c (.slice none 0 0))) .done) K7_7
@[simp] def WB_spec_DrawPrefixStates := C.w B_spec_DrawPrefixStates.eq_1
def R_spec_DrawPrefixStates : FIR := ⟨B_spec_DrawPrefixStates, 5, [(1, some (some 3)), (2, none)]⟩
theorem IR_spec_DrawPrefixStates : cfun Tryz.prog H_spec_DrawPrefixStates Tryz.f7 = some R_spec_DrawPrefixStates := by kernel_rfl
theorem EN_spec_DrawPrefixStates : ENT Tryz.prog B_spec_DrawPrefixStates [(1, some (some 3)), (2, none)] 1 5 fn_spec_DrawPrefixStates := fun hargs hw => enter Tryz.func7 rfl IR_spec_DrawPrefixStates hargs hw
def H_spec_PrefixStates : Hint := ⟨[(0, false), (1, false), (2, true), (4, false), (5, false)], []⟩
def K9_1 : Pl := .m 3 7 <|
 .x 4 (.mv (.c (.bool true))) .done
@[simp] def W9_1 := Pl.w K9_1.eq_1
def K9_2 : C := .seq (.pl <| .e 5 3 <|
 .o (.pget (some 5) none 2 0 (some 3)) <|
 .m 6 1 <|
 .c 7 (.call fn_spec_l12States [.v 5, .v 6]) K9_1) (.ret)
@[simp] def W9_2 := C.w K9_2.eq_1
def K9_3 : Pl := .m 3 5 <|
 .x 4 (.mv (.c (.bool false))) .done
@[simp] def W9_3 := Pl.w K9_3.eq_1
def K9_4 : C := .seq (.pl <| .e 5 1 <|
 .c 5 (.bls 1 0 [.int .i64 0] []) K9_3) (.ret)
@[simp] def W9_4 := C.w K9_4.eq_1
def K9_5 : C := .cond 5 (.v 12) K9_4 (.skip)
@[simp] def W9_5 := C.w K9_5.eq_1
def K9_6 : Pl := .n 8 (.px (some 11) (.un .not (.v 10))) <|
 .x 12 (.pick (.v 8) (.c (.bool true)) (.v 11)) .done
@[simp] def W9_6 := Pl.w K9_6.eq_1
def K9_7 : Pl := .x 7 (.un .not (.v 6)) <|
 .m 8 7 <|
 .n 8 (.px (some 9) (.mv (.v 1))) <|
 .st (.act (some (.v 8, false)) (.ex (some 10) (.call fn_spec_l12Word [.v 9]))) K9_6
@[simp] def W9_7 := Pl.w K9_7.eq_1
def K9_8 : C := .seq (.seq (.pl <| .e 5 8 <|
 .o (.pget (some 5) none 2 0 (some 3)) <|
 .c 6 (.call fn_spec_AutomatonValid [.v 5]) K9_7) K9_5) K9_2
@[simp] def W9_8 := C.w K9_8.eq_1
def B_spec_PrefixStates : C := .seq (.pl <| .e 5 0 <|
 .o (.pnew 2 (.v 0) []) <|
 .x 3 (.mv (.c (.slice none 0 0))) <|
 .x 4 (.mv (.c (.bool false))) .done) K9_8
@[simp] def WB_spec_PrefixStates := C.w B_spec_PrefixStates.eq_1
def R_spec_PrefixStates : FIR := ⟨B_spec_PrefixStates, 5, [(3, none), (4, none)]⟩
theorem IR_spec_PrefixStates : cfun Tryz.prog H_spec_PrefixStates Tryz.f9 = some R_spec_PrefixStates := by kernel_rfl
theorem EN_spec_PrefixStates : ENT Tryz.prog B_spec_PrefixStates [(3, none), (4, none)] 2 5 fn_spec_PrefixStates := fun hargs hw => enter Tryz.func9 rfl IR_spec_PrefixStates hargs hw
def H_spec_l12Letters : Hint := ⟨[(0, false), (2, false), (3, false), (10, false)], [[1, 3]]⟩
def K30_1 : C := .seq (.pl <| .e 4 1 <|
 .m 4 2 <|
 .m 1 4 .done) (.ret)
@[simp] def W30_1 := C.w K30_1.eq_1
def K30_2 : Pl := .m 2 9 .done
@[simp] def W30_2 := Pl.w K30_2.eq_1
def K30_3 : Pl := .o (.psl 8 [.int .i64 0] [(0, 1, .v 7)]) <|
 .c 9 (.app 8 1 [.int .i64 0] (.o (.v 4)) (.p 1 8)) K30_2
@[simp] def W30_3 := Pl.w K30_3.eq_1
def K30_4 : Pl := .c 7 (.call fn_spec_l16Rd_num [.v 5, .v 6]) K30_3
@[simp] def W30_4 := Pl.w K30_4.eq_1
def K30_5 : C := .pl <| .e 4 6 <|
 .m 4 2 <|
 .m 5 0 <|
 .c 6 (.bls 1 3 [.int .i64 0] [(0, 1, .c (.int .i64 8)), (1, 1, .c (.int .i64 (-1))), (2, 1, .c (.int .i64 9223372036854775807))]) K30_4
@[simp] def W30_5 := C.w K30_5.eq_1
def K30_6 : Pl := .m 2 6 .done
@[simp] def W30_6 := Pl.w K30_6.eq_1
def K30_7 : C := .block 2 (.pl <| .e 4 3 <|
 .m 4 2 <|
 .o (.psl 5 [.int .i64 0] [(0, 1, .c (.int .i64 1))]) <|
 .c 6 (.app 8 1 [.int .i64 0] (.o (.v 4)) (.p 1 5)) K30_6)
@[simp] def W30_7 := C.w K30_7.eq_1
def K30_8 : C := .cond 4 (.v 9) (.skip) (.exit 1)
@[simp] def W30_8 := C.w K30_8.eq_1
def K30_9 : Pl := .x 8 (.bin .add (.c (.int .i64 200)) (.v 7)) <|
 .x 9 (.bin .lss (.v 5) (.v 8)) .done
@[simp] def W30_9 := Pl.w K30_9.eq_1
def K30_10 : C := .seq (.seq (.pl <| .e 4 6 <|
 .m 4 2 <|
 .x 5 (.lenV (.v 4)) <|
 .m 6 0 <|
 .c 7 (.call fn_spec_l16Rd_pick [.v 6, .c (.int .i64 2)]) K30_9) K30_8) K30_7
@[simp] def W30_10 := C.w K30_10.eq_1
def K30_11 : C := .block 1 (.loop 4 [1, 3] K30_10)
@[simp] def W30_11 := C.w K30_11.eq_1
def K30_12 : C := .cond 4 (.v 5) K30_11 (.skip)
@[simp] def W30_12 := C.w K30_12.eq_1
def K30_13 : C := .seq (.pl <| .e 4 2 <|
 .x 4 (.bin .eql (.v 3) (.c (.int .i64 1))) <|
 .m 5 4 .done) K30_12
@[simp] def W30_13 := C.w K30_13.eq_1
def K30_14 : C := .cond 4 (.v 5) K30_5 K30_13
@[simp] def W30_14 := C.w K30_14.eq_1
def K30_15 : C := .block 0 (.seq (.pl <| .e 4 2 <|
 .x 4 (.bin .eql (.v 3) (.c (.int .i64 0))) <|
 .m 5 4 .done) K30_14)
@[simp] def W30_15 := C.w K30_15.eq_1
def K30_16 : C := .seq (.seq (.pl <| .e 4 1 <|
 .m 4 0 <|
 .c 3 (.call fn_spec_l16Rd_pick [.v 4, .c (.int .i64 40)]) .done) K30_15) K30_1
@[simp] def W30_16 := C.w K30_16.eq_1
def K30_17 : Pl := .m 2 8 .done
@[simp] def W30_17 := Pl.w K30_17.eq_1
def K30_18 : Pl := .c 8 (.call fn_spec_l6Word [.v 4, .v 7]) K30_17
@[simp] def W30_18 := Pl.w K30_18.eq_1
def K30_19 : Pl := .c 7 (.call fn_spec_l16Rd_num [.v 5, .v 6]) K30_18
@[simp] def W30_19 := Pl.w K30_19.eq_1
def K30_20 : C := .seq (.pl <| .e 4 5 <|
 .m 4 0 <|
 .m 5 0 <|
 .c 6 (.bls 1 6 [.int .i64 0] [(0, 1, .c (.int .i64 3)), (1, 1, .c (.int .i64 2)), (2, 1, .c (.int .i64 4)), (3, 1, .c (.int .i64 1)), (4, 1, .c (.int .i64 0)), (5, 1, .c (.int .i64 6))]) K30_19) K30_16
@[simp] def W30_20 := C.w K30_20.eq_1
def B_spec_l12Letters : C := .seq (.pl <| .e 4 0 <|
 .x 1 (.mv (.c (.slice none 0 0))) .done) K30_20
@[simp] def WB_spec_l12Letters := C.w B_spec_l12Letters.eq_1
def R_spec_l12Letters : FIR := ⟨B_spec_l12Letters, 4, [(1, none)]⟩
theorem IR_spec_l12Letters : cfun Tryz.prog H_spec_l12Letters Tryz.f30 = some R_spec_l12Letters := by kernel_rfl
theorem EN_spec_l12Letters : ENT Tryz.prog B_spec_l12Letters [(1, none)] 1 4 fn_spec_l12Letters := fun hargs hw => enter Tryz.func30 rfl IR_spec_l12Letters hargs hw
def H_spec_l12Only : Hint := ⟨[(0, false), (1, false), (4, false), (5, false), (6, false)], [[2]]⟩
def K70_1 : C := .seq (.pl <| .e 5 1 <|
 .m 5 3 <|
 .m 2 5 .done) (.ret)
@[simp] def W70_1 := C.w K70_1.eq_1
def K70_2 : C := .pl <| .e 5 2 <|
 .m 5 4 <|
 .x 6 (.bin .add (.v 5) (.c (.int .i64 1))) <|
 .m 4 6 .done
@[simp] def W70_2 := C.w K70_2.eq_1
def K70_3 : Pl := .m 3 11 .done
@[simp] def W70_3 := Pl.w K70_3.eq_1
def K70_4 : C := .pl <| .e 5 7 <|
 .m 5 3 <|
 .m 6 0 <|
 .m 7 4 <|
 .x 8 (.ia 1 (.v 6) (.v 7)) <|
 .l 9 8 <|
 .o (.psl 10 [.int .i64 0] [(0, 1, .v 9)]) <|
 .c 11 (.app 8 1 [.int .i64 0] (.o (.v 5)) (.p 1 10)) K70_3
@[simp] def W70_4 := C.w K70_4.eq_1
def K70_5 : C := .cond 5 (.v 11) K70_4 (.skip)
@[simp] def W70_5 := C.w K70_5.eq_1
def K70_6 : C := .seq (.block 1 (.seq (.pl <| .e 5 7 <|
 .m 5 1 <|
 .m 6 0 <|
 .m 7 4 <|
 .x 8 (.ia 1 (.v 6) (.v 7)) <|
 .l 9 8 <|
 .x 10 (.ia 1 (.v 5) (.v 9)) <|
 .l 11 10 .done) K70_5)) K70_2
@[simp] def W70_6 := C.w K70_6.eq_1
def K70_7 : C := .cond 5 (.v 8) (.skip) (.exit 0)
@[simp] def W70_7 := C.w K70_7.eq_1
def K70_8 : C := .seq (.seq (.pl <| .e 5 4 <|
 .m 5 4 <|
 .m 6 0 <|
 .x 7 (.lenV (.v 6)) <|
 .x 8 (.bin .lss (.v 5) (.v 7)) .done) K70_7) K70_6
@[simp] def W70_8 := C.w K70_8.eq_1
def K70_9 : C := .block 0 (.loop 5 [2] K70_8)
@[simp] def W70_9 := C.w K70_9.eq_1
def K70_10 : C := .seq (.seq (.pl <| .e 5 0 <|
 .x 4 (.mv (.c (.int .i64 0))) .done) K70_9) K70_1
@[simp] def W70_10 := C.w K70_10.eq_1
def K70_11 : Pl := .m 3 5 .done
@[simp] def W70_11 := Pl.w K70_11.eq_1
def K70_12 : C := .seq (.pl <| .e 5 1 <|
 .c 5 (.bls 1 0 [.int .i64 0] []) K70_11) K70_10
@[simp] def W70_12 := C.w K70_12.eq_1
def B_spec_l12Only : C := .seq (.pl <| .e 5 0 <|
 .x 2 (.mv (.c (.slice none 0 0))) .done) K70_12
@[simp] def WB_spec_l12Only := C.w B_spec_l12Only.eq_1
def R_spec_l12Only : FIR := ⟨B_spec_l12Only, 5, [(2, none)]⟩
theorem IR_spec_l12Only : cfun Tryz.prog H_spec_l12Only Tryz.f70 = some R_spec_l12Only := by kernel_rfl
theorem EN_spec_l12Only : ENT Tryz.prog B_spec_l12Only [(2, none)] 2 5 fn_spec_l12Only := fun hargs hw => enter Tryz.func70 rfl IR_spec_l12Only hargs hw
def H_spec_l12States : Hint := ⟨[(0, false), (1, false), (2, true), (4, false), (5, false), (6, false), (7, false)], [[0, 3]]⟩
def K35_1 : Pl := .m 3 9 .done
@[simp] def W35_1 := Pl.w K35_1.eq_1
def K35_2 : C := .seq (.pl <| .e 7 3 <|
 .o (.psl 7 [] []) <|
 .m 8 5 <|
 .c 9 (.app 8 1 [.int .i64 0] (.p 0 7) (.o (.v 8))) K35_1) (.ret)
@[simp] def W35_2 := C.w K35_2.eq_1
def K35_3 : C := .pl <| .e 7 2 <|
 .m 7 6 <|
 .x 8 (.bin .add (.v 7) (.c (.int .i64 1))) <|
 .m 6 8 .done
@[simp] def W35_3 := C.w K35_3.eq_1
def K35_4 : Pl := .m 5 15 .done
@[simp] def W35_4 := Pl.w K35_4.eq_1
def K35_5 : Pl := .c 15 (.call fn_spec_l12Only [.v 13, .v 14]) K35_4
@[simp] def W35_5 := Pl.w K35_5.eq_1
def K35_6 : C := .seq (.block 1 (.pl <| .e 7 9 <|
 .o (.pget (some 7) none 2 0 (some 3)) <|
 .m 8 5 <|
 .m 9 1 <|
 .m 10 6 <|
 .x 11 (.ia 1 (.v 9) (.v 10)) <|
 .l 12 11 <|
 .m 14 4 <|
 .c 13 (.call fn_spec_l12Step [.v 7, .v 8, .v 12]) K35_5)) K35_3
@[simp] def W35_6 := C.w K35_6.eq_1
def K35_7 : C := .cond 7 (.v 10) (.skip) (.exit 0)
@[simp] def W35_7 := C.w K35_7.eq_1
def K35_8 : C := .seq (.seq (.pl <| .e 7 4 <|
 .m 7 6 <|
 .m 8 1 <|
 .x 9 (.lenV (.v 8)) <|
 .x 10 (.bin .lss (.v 7) (.v 9)) .done) K35_7) K35_6
@[simp] def W35_8 := C.w K35_8.eq_1
def K35_9 : C := .block 0 (.loop 7 [0, 3] K35_8)
@[simp] def W35_9 := C.w K35_9.eq_1
def K35_10 : C := .seq (.seq (.pl <| .e 7 0 <|
 .x 6 (.mv (.c (.int .i64 0))) .done) K35_9) K35_2
@[simp] def W35_10 := C.w K35_10.eq_1
def K35_11 : Pl := .m 5 10 .done
@[simp] def W35_11 := Pl.w K35_11.eq_1
def K35_12 : C := .seq (.pl <| .e 7 4 <|
 .a 7 2 <|
 .g 8 7 2 0 <|
 .m 9 4 <|
 .c 10 (.call fn_spec_l12Only [.v 8, .v 9]) K35_11) K35_10
@[simp] def W35_12 := C.w K35_12.eq_1
def K35_13 : Pl := .m 4 8 .done
@[simp] def W35_13 := Pl.w K35_13.eq_1
def K35_14 : C := .seq (.pl <| .e 7 2 <|
 .o (.pget (some 7) none 2 0 (some 3)) <|
 .c 8 (.call fn_spec_LiveStates [.v 7]) K35_13) K35_12
@[simp] def W35_14 := C.w K35_14.eq_1
def B_spec_l12States : C := .seq (.pl <| .e 7 0 <|
 .o (.pnew 2 (.v 0) []) <|
 .x 3 (.mv (.c (.slice none 0 0))) .done) K35_14
@[simp] def WB_spec_l12States := C.w B_spec_l12States.eq_1
def R_spec_l12States : FIR := ⟨B_spec_l12States, 7, [(3, none)]⟩
theorem IR_spec_l12States : cfun Tryz.prog H_spec_l12States Tryz.f35 = some R_spec_l12States := by kernel_rfl
theorem EN_spec_l12States : ENT Tryz.prog B_spec_l12States [(3, none)] 2 7 fn_spec_l12States := fun hargs hw => enter Tryz.func35 rfl IR_spec_l12States hargs hw
def H_spec_l12Step : Hint := ⟨[(0, false), (1, false), (2, false), (3, true), (6, false), (7, false), (8, false)], [[0, 4]]⟩
def K71_1 : C := .seq (.pl <| .e 7 1 <|
 .m 7 5 <|
 .m 4 7 .done) (.ret)
@[simp] def W71_1 := C.w K71_1.eq_1
def K71_2 : C := .pl <| .e 7 2 <|
 .m 7 6 <|
 .x 8 (.bin .add (.v 7) (.c (.int .i64 1))) <|
 .m 6 8 .done
@[simp] def W71_2 := C.w K71_2.eq_1
def K71_3 : Pl := .m 5 14 .done
@[simp] def W71_3 := Pl.w K71_3.eq_1
def K71_4 : C := .pl <| .e 7 8 <|
 .m 7 5 <|
 .a 8 3 <|
 .g 9 8 3 2 <|
 .m 10 6 <|
 .x 11 (.ia 4 (.v 9) (.v 10)) <|
 .x 12 (.fa 3 (.v 11)) <|
 .l 13 12 <|
 .c 14 (.call fn_spec_l10Sorted [.v 7, .v 13]) K71_3
@[simp] def W71_4 := C.w K71_4.eq_1
def K71_5 : C := .cond 7 (.v 23) K71_4 (.skip)
@[simp] def W71_5 := C.w K71_5.eq_1
def K71_6 : Pl := .x 23 (.pick (.v 15) (.v 22) (.c (.bool false))) .done
@[simp] def W71_6 := Pl.w K71_6.eq_1
def K71_7 : Pl := .m 15 14 <|
 .y 15 (.als 16 none 3) <|
 .y 15 (.pget (some 17) (some 16) 3 2 none) <|
 .y 15 (.px (some 18) (.mv (.v 6))) <|
 .y 15 (.px (some 19) (.ia 4 (.v 17) (.v 18))) <|
 .y 15 (.ld (some 20) (.v 19) (some 4)) <|
 .y 15 (.px (some 21) (.mv (.v 2))) <|
 .st (.act (some (.v 15, true)) (.ex (some 22) (.call fn_spec_l7On [.v 20, .v 21]))) K71_6
@[simp] def W71_7 := Pl.w K71_7.eq_1
def K71_8 : C := .seq (.block 1 (.seq (.pl <| .e 7 17 <|
 .m 7 1 <|
 .a 8 3 <|
 .g 9 8 3 2 <|
 .m 10 6 <|
 .x 11 (.ia 4 (.v 9) (.v 10)) <|
 .x 12 (.fa 0 (.v 11)) <|
 .l 13 12 <|
 .c 14 (.call fn_spec_l4In [.v 7, .v 13]) K71_7) K71_5)) K71_2
@[simp] def W71_8 := C.w K71_8.eq_1
def K71_9 : C := .cond 7 (.v 11) (.skip) (.exit 0)
@[simp] def W71_9 := C.w K71_9.eq_1
def K71_10 : C := .seq (.seq (.pl <| .e 7 5 <|
 .m 7 6 <|
 .a 8 3 <|
 .g 9 8 3 2 <|
 .x 10 (.lenV (.v 9)) <|
 .x 11 (.bin .lss (.v 7) (.v 10)) .done) K71_9) K71_8
@[simp] def W71_10 := C.w K71_10.eq_1
def K71_11 : C := .block 0 (.loop 7 [0, 4] K71_10)
@[simp] def W71_11 := C.w K71_11.eq_1
def K71_12 : C := .seq (.seq (.pl <| .e 7 0 <|
 .x 6 (.mv (.c (.int .i64 0))) .done) K71_11) K71_1
@[simp] def W71_12 := C.w K71_12.eq_1
def K71_13 : Pl := .m 5 7 .done
@[simp] def W71_13 := Pl.w K71_13.eq_1
def K71_14 : C := .seq (.pl <| .e 7 1 <|
 .c 7 (.bls 1 0 [.int .i64 0] []) K71_13) K71_12
@[simp] def W71_14 := C.w K71_14.eq_1
def B_spec_l12Step : C := .seq (.pl <| .e 7 0 <|
 .o (.pnew 3 (.v 0) []) <|
 .x 4 (.mv (.c (.slice none 0 0))) .done) K71_14
@[simp] def WB_spec_l12Step := C.w B_spec_l12Step.eq_1
def R_spec_l12Step : FIR := ⟨B_spec_l12Step, 7, [(4, none)]⟩
theorem IR_spec_l12Step : cfun Tryz.prog H_spec_l12Step Tryz.f71 = some R_spec_l12Step := by kernel_rfl
theorem EN_spec_l12Step : ENT Tryz.prog B_spec_l12Step [(4, none)] 3 7 fn_spec_l12Step := fun hargs hw => enter Tryz.func71 rfl IR_spec_l12Step hargs hw
def H_spec_l12Word : Hint := ⟨[(0, false), (2, false)], []⟩
def K34_1 : Pl := .m 4 3 <|
 .y 4 (.px (some 5) (.mv (.v 0))) <|
 .y 4 (.px (some 6) (.lenV (.v 5))) <|
 .y 4 (.px (some 7) (.bin .leq (.v 6) (.c (.int .i64 200)))) <|
 .x 8 (.pick (.v 4) (.v 7) (.c (.bool false))) <|
 .m 1 8 .done
@[simp] def W34_1 := Pl.w K34_1.eq_1
def K34_2 : C := .seq (.pl <| .e 2 7 <|
 .m 2 0 <|
 .c 3 (.call fn_spec_l6Letters [.v 2]) K34_1) (.ret)
@[simp] def W34_2 := C.w K34_2.eq_1
def B_spec_l12Word : C := .seq (.pl <| .e 2 0 <|
 .x 1 (.mv (.c (.bool false))) .done) K34_2
@[simp] def WB_spec_l12Word := C.w B_spec_l12Word.eq_1
def R_spec_l12Word : FIR := ⟨B_spec_l12Word, 2, [(1, none)]⟩
theorem IR_spec_l12Word : cfun Tryz.prog H_spec_l12Word Tryz.f34 = some R_spec_l12Word := by kernel_rfl
theorem EN_spec_l12Word : ENT Tryz.prog B_spec_l12Word [(1, none)] 1 2 fn_spec_l12Word := fun hargs hw => enter Tryz.func34 rfl IR_spec_l12Word hargs hw
def H_spec_l6Letters : Hint := ⟨[(0, false), (2, false), (3, false)], [[1]]⟩
def K68_1 : C := .seq (.pl <| .e 3 0 <|
 .x 1 (.mv (.c (.bool true))) .done) (.ret)
@[simp] def W68_1 := C.w K68_1.eq_1
def K68_2 : C := .pl <| .e 3 2 <|
 .m 3 2 <|
 .x 4 (.bin .add (.v 3) (.c (.int .i64 1))) <|
 .m 2 4 .done
@[simp] def W68_2 := C.w K68_2.eq_1
def K68_3 : C := .seq (.pl <| .e 3 0 <|
 .x 1 (.mv (.c (.bool false))) .done) (.ret)
@[simp] def W68_3 := C.w K68_3.eq_1
def K68_4 : C := .cond 3 (.v 14) K68_3 (.skip)
@[simp] def W68_4 := C.w K68_4.eq_1
def K68_5 : C := .seq (.block 1 (.seq (.pl <| .e 3 12 <|
 .m 3 0 <|
 .m 4 2 <|
 .x 5 (.ia 1 (.v 3) (.v 4)) <|
 .l 6 5 <|
 .x 7 (.bin .lss (.v 6) (.c (.int .i64 0))) <|
 .m 8 7 <|
 .n 8 (.px (some 9) (.mv (.v 0))) <|
 .n 8 (.px (some 10) (.mv (.v 2))) <|
 .n 8 (.px (some 11) (.ia 1 (.v 9) (.v 10))) <|
 .n 8 (.ld (some 12) (.v 11) none) <|
 .n 8 (.px (some 13) (.bin .gtr (.v 12) (.c (.int .i64 7)))) <|
 .x 14 (.pick (.v 8) (.c (.bool true)) (.v 13)) .done) K68_4)) K68_2
@[simp] def W68_5 := C.w K68_5.eq_1
def K68_6 : C := .cond 3 (.v 6) (.skip) (.exit 0)
@[simp] def W68_6 := C.w K68_6.eq_1
def K68_7 : C := .seq (.seq (.pl <| .e 3 4 <|
 .m 3 2 <|
 .m 4 0 <|
 .x 5 (.lenV (.v 4)) <|
 .x 6 (.bin .lss (.v 3) (.v 5)) .done) K68_6) K68_5
@[simp] def W68_7 := C.w K68_7.eq_1
def K68_8 : C := .block 0 (.loop 3 [1] K68_7)
@[simp] def W68_8 := C.w K68_8.eq_1
def K68_9 : C := .seq (.seq (.pl <| .e 3 0 <|
 .x 2 (.mv (.c (.int .i64 0))) .done) K68_8) K68_1
@[simp] def W68_9 := C.w K68_9.eq_1
def B_spec_l6Letters : C := .seq (.pl <| .e 3 0 <|
 .x 1 (.mv (.c (.bool false))) .done) K68_9
@[simp] def WB_spec_l6Letters := C.w B_spec_l6Letters.eq_1
def R_spec_l6Letters : FIR := ⟨B_spec_l6Letters, 3, [(1, none)]⟩
theorem IR_spec_l6Letters : cfun Tryz.prog H_spec_l6Letters Tryz.f68 = some R_spec_l6Letters := by kernel_rfl
theorem EN_spec_l6Letters : ENT Tryz.prog B_spec_l6Letters [(1, none)] 1 3 fn_spec_l6Letters := fun hargs hw => enter Tryz.func68 rfl IR_spec_l6Letters hargs hw
end Go.Proofs.YtglnelcmcimljaaGreat

namespace Go.Proofs.YtglnelcmcimljaaGreat
open Go
end Go.Proofs.YtglnelcmcimljaaGreat

namespace Go.Proofs.YtglnelcmcimljaaGreat
open Go
def H_spec_l5Shape : Hint := ⟨[(0, false), (1, false), (2, true), (4, false), (5, false)], [[0, 3]]⟩
def K140_1 : C := .seq (.pl <| .e 5 0 <|
 .x 3 (.mv (.c (.bool true))) .done) (.ret)
@[simp] def W140_1 := C.w K140_1.eq_1
def K140_2 : C := .pl <| .e 5 2 <|
 .m 5 4 <|
 .x 6 (.bin .add (.v 5) (.c (.int .i64 1))) <|
 .m 4 6 .done
@[simp] def W140_2 := C.w K140_2.eq_1
def K140_3 : C := .seq (.pl <| .e 5 0 <|
 .x 3 (.mv (.c (.bool false))) .done) (.ret)
@[simp] def W140_3 := C.w K140_3.eq_1
def K140_4 : C := .cond 5 (.v 13) K140_3 (.skip)
@[simp] def W140_4 := C.w K140_4.eq_1
def K140_5 : Pl := .x 13 (.un .not (.v 12)) .done
@[simp] def W140_5 := Pl.w K140_5.eq_1
def K140_6 : C := .seq (.block 1 (.seq (.pl <| .e 5 9 <|
 .a 5 2 <|
 .g 6 5 2 2 <|
 .m 7 4 <|
 .x 8 (.ia 3 (.v 6) (.v 7)) <|
 .o (.ld (some 9) (.v 8) (some 3)) <|
 .m 10 1 <|
 .x 11 (.bin .sub (.v 10) (.c (.int .i64 1))) <|
 .c 12 (.call fn_spec_l5Shape [.v 9, .v 11]) K140_5) K140_4)) K140_2
@[simp] def W140_6 := C.w K140_6.eq_1
def K140_7 : C := .cond 5 (.v 9) (.skip) (.exit 0)
@[simp] def W140_7 := C.w K140_7.eq_1
def K140_8 : C := .seq (.seq (.pl <| .e 5 5 <|
 .m 5 4 <|
 .a 6 2 <|
 .g 7 6 2 2 <|
 .x 8 (.lenV (.v 7)) <|
 .x 9 (.bin .lss (.v 5) (.v 8)) .done) K140_7) K140_6
@[simp] def W140_8 := C.w K140_8.eq_1
def K140_9 : C := .block 0 (.loop 5 [0, 3] K140_8)
@[simp] def W140_9 := C.w K140_9.eq_1
def K140_10 : C := .seq (.seq (.pl <| .e 5 0 <|
 .x 4 (.mv (.c (.int .i64 0))) .done) K140_9) K140_1
@[simp] def W140_10 := C.w K140_10.eq_1
def K140_11 : C := .seq (.pl <| .e 5 0 <|
 .x 3 (.mv (.c (.bool false))) .done) (.ret)
@[simp] def W140_11 := C.w K140_11.eq_1
def K140_12 : C := .cond 5 (.v 22) K140_11 (.skip)
@[simp] def W140_12 := C.w K140_12.eq_1
def K140_13 : C := .seq (.seq (.pl <| .e 5 18 <|
 .a 5 2 <|
 .g 6 5 2 1 <|
 .x 7 (.bin .lss (.v 6) (.c (.int .i64 0))) <|
 .m 8 7 <|
 .n 8 (.als 9 none 2) <|
 .n 8 (.pget (some 10) (some 9) 2 1 none) <|
 .n 8 (.px (some 11) (.bin .geq (.v 10) (.c (.int .i64 3)))) <|
 .x 12 (.pick (.v 8) (.c (.bool true)) (.v 11)) <|
 .m 13 12 <|
 .n 13 (.als 14 none 2) <|
 .n 13 (.pget (some 15) (some 14) 2 0 none) <|
 .n 13 (.px (some 16) (.bin .neq (.v 15) (.c (.int .i64 2)))) <|
 .n 13 (.px (some 17) (.mv (.v 16))) <|
 .y 17 (.als 18 none 2) <|
 .y 17 (.pget (some 19) (some 18) 2 1 none) <|
 .y 17 (.px (some 20) (.bin .neq (.v 19) (.c (.int .i64 0)))) <|
 .n 13 (.px (some 21) (.pick (.v 17) (.v 20) (.c (.bool false)))) <|
 .x 22 (.pick (.v 13) (.c (.bool true)) (.v 21)) .done) K140_12) K140_10
@[simp] def W140_13 := C.w K140_13.eq_1
def K140_14 : C := .seq (.pl <| .e 5 0 <|
 .x 3 (.mv (.c (.bool false))) .done) (.ret)
@[simp] def W140_14 := C.w K140_14.eq_1
def K140_15 : C := .cond 5 (.v 15) K140_14 (.skip)
@[simp] def W140_15 := C.w K140_15.eq_1
def K140_16 : Pl := .n 7 (.px (some 14) (.bin .neq (.v 10) (.v 13))) <|
 .x 15 (.pick (.v 7) (.c (.bool true)) (.v 14)) .done
@[simp] def W140_16 := Pl.w K140_16.eq_1
def K140_17 : C := .seq (.seq (.pl <| .e 5 11 <|
 .m 5 1 <|
 .x 6 (.bin .lss (.v 5) (.c (.int .i64 1))) <|
 .m 7 6 <|
 .n 7 (.als 8 none 2) <|
 .n 7 (.pget (some 9) (some 8) 2 2 none) <|
 .n 7 (.px (some 10) (.lenV (.v 9))) <|
 .n 7 (.als 11 none 2) <|
 .n 7 (.pget (some 12) (some 11) 2 0 none) <|
 .st (.act (some (.v 7, false)) (.ex (some 13) (.call fn_spec_l5Arity [.v 12]))) K140_16) K140_15) K140_13
@[simp] def W140_17 := C.w K140_17.eq_1
def B_spec_l5Shape : C := .seq (.pl <| .e 5 0 <|
 .o (.pnew 2 (.v 0) []) <|
 .x 3 (.mv (.c (.bool false))) .done) K140_17
@[simp] def WB_spec_l5Shape := C.w B_spec_l5Shape.eq_1
def R_spec_l5Shape : FIR := ⟨B_spec_l5Shape, 5, [(3, none)]⟩
theorem IR_spec_l5Shape : cfun Tryz.prog H_spec_l5Shape Tryz.f140 = some R_spec_l5Shape := by kernel_rfl
theorem EN_spec_l5Shape : ENT Tryz.prog B_spec_l5Shape [(3, none)] 2 5 fn_spec_l5Shape := fun hargs hw => enter Tryz.func140 rfl IR_spec_l5Shape hargs hw
def H_spec_l5Subs : Hint := ⟨[(0, false), (1, false), (3, true), (4, false), (5, false)], [[1, 3]]⟩
def K132_1 : C := .seq (.pl <| .e 5 1 <|
 .m 5 0 <|
 .m 3 5 .done) (.ret)
@[simp] def W132_1 := C.w K132_1.eq_1
def K132_2 : Pl := .m 0 9 .done
@[simp] def W132_2 := Pl.w K132_2.eq_1
def K132_3 : Pl := .o (.psl 8 [.int .i64 0, .int .i64 0, .slice none 0 0] [(0, 3, .v 7)]) <|
 .c 9 (.app 40 3 [.int .i64 0, .int .i64 0, .slice none 0 0] (.o (.v 5)) (.p 1 8)) K132_2
@[simp] def W132_3 := Pl.w K132_3.eq_1
def K132_4 : C := .pl <| .e 5 5 <|
 .m 5 0 <|
 .o (.pget (some 6) none 2 0 (some 3)) <|
 .c 7 (.call fn_spec_l5Copy [.v 6]) K132_3
@[simp] def W132_4 := C.w K132_4.eq_1
def K132_5 : C := .cond 5 (.v 8) K132_4 (.skip)
@[simp] def W132_5 := C.w K132_5.eq_1
def K132_6 : Pl := .x 8 (.bin .lss (.v 7) (.c (.int .i64 0))) .done
@[simp] def W132_6 := Pl.w K132_6.eq_1
def K132_7 : C := .seq (.seq (.pl <| .e 5 4 <|
 .m 5 0 <|
 .o (.pget (some 6) none 2 0 (some 3)) <|
 .c 7 (.call fn_spec_l5Find [.v 5, .v 6]) K132_6) K132_5) K132_1
@[simp] def W132_7 := C.w K132_7.eq_1
def K132_8 : C := .pl <| .e 5 2 <|
 .m 5 4 <|
 .x 6 (.bin .add (.v 5) (.c (.int .i64 1))) <|
 .m 4 6 .done
@[simp] def W132_8 := C.w K132_8.eq_1
def K132_9 : Pl := .m 0 11 .done
@[simp] def W132_9 := Pl.w K132_9.eq_1
def K132_10 : C := .seq (.block 1 (.pl <| .e 5 7 <|
 .m 5 0 <|
 .a 6 2 <|
 .g 7 6 2 2 <|
 .m 8 4 <|
 .x 9 (.ia 3 (.v 7) (.v 8)) <|
 .o (.ld (some 10) (.v 9) (some 3)) <|
 .c 11 (.call fn_spec_l5Subs [.v 5, .v 10]) K132_9)) K132_8
@[simp] def W132_10 := C.w K132_10.eq_1
def K132_11 : C := .cond 5 (.v 9) (.skip) (.exit 0)
@[simp] def W132_11 := C.w K132_11.eq_1
def K132_12 : C := .seq (.seq (.pl <| .e 5 5 <|
 .m 5 4 <|
 .a 6 2 <|
 .g 7 6 2 2 <|
 .x 8 (.lenV (.v 7)) <|
 .x 9 (.bin .lss (.v 5) (.v 8)) .done) K132_11) K132_10
@[simp] def W132_12 := C.w K132_12.eq_1
def K132_13 : C := .block 0 (.loop 5 [1, 3] K132_12)
@[simp] def W132_13 := C.w K132_13.eq_1
def K132_14 : C := .seq (.seq (.pl <| .e 5 0 <|
 .x 4 (.mv (.c (.int .i64 0))) .done) K132_13) K132_7
@[simp] def W132_14 := C.w K132_14.eq_1
def B_spec_l5Subs : C := .seq (.pl <| .e 5 0 <|
 .o (.pnew 2 (.v 1) []) <|
 .x 3 (.mv (.c (.slice none 0 0))) .done) K132_14
@[simp] def WB_spec_l5Subs := C.w B_spec_l5Subs.eq_1
def R_spec_l5Subs : FIR := ⟨B_spec_l5Subs, 5, [(3, none)]⟩
theorem IR_spec_l5Subs : cfun Tryz.prog H_spec_l5Subs Tryz.f132 = some R_spec_l5Subs := by kernel_rfl
theorem EN_spec_l5Subs : ENT Tryz.prog B_spec_l5Subs [(3, none)] 2 5 fn_spec_l5Subs := fun hargs hw => enter Tryz.func132 rfl IR_spec_l5Subs hargs hw
def H_spec_l5True : Hint := ⟨[(0, true)], []⟩
def K138_1 : C := .seq (.pl <| .e 1 1 <|
 .x 1 (.build [.int .i64 0, .int .i64 0, .slice none 0 0] [(0, 1, .c (.int .i64 1))]) <|
 .o (.pset none 0 0 3 (.v 1)) .done) (.ret)
@[simp] def W138_1 := C.w K138_1.eq_1
def B_spec_l5True : C := .seq (.pl <| .e 1 0 <|
 .o (.pnew 0 (.c (.agg #[.int .i64 0, .int .i64 0, .slice none 0 0])) []) .done) K138_1
@[simp] def WB_spec_l5True := C.w B_spec_l5True.eq_1
def R_spec_l5True : FIR := ⟨B_spec_l5True, 1, [(0, some (some 3))]⟩
theorem IR_spec_l5True : cfun Tryz.prog H_spec_l5True Tryz.f138 = some R_spec_l5True := by kernel_rfl
theorem EN_spec_l5True : ENT Tryz.prog B_spec_l5True [(0, some (some 3))] 0 1 fn_spec_l5True := fun hargs hw => enter Tryz.func138 rfl IR_spec_l5True hargs hw
def H_spec_l6Has : Hint := ⟨[(0, false), (1, false), (4, false)], []⟩
def K135_1 : C := .seq (.pl <| .e 3 6 <|
 .m 3 0 <|
 .m 4 1 <|
 .x 5 (.conv .u64 (.v 4)) <|
 .x 6 (.bin .shr (.v 3) (.v 5)) <|
 .x 7 (.bin .and (.v 6) (.c (.int .i64 1))) <|
 .x 8 (.bin .eql (.v 7) (.c (.int .i64 1))) <|
 .m 2 8 .done) (.ret)
@[simp] def W135_1 := C.w K135_1.eq_1
def B_spec_l6Has : C := .seq (.pl <| .e 3 0 <|
 .x 2 (.mv (.c (.bool false))) .done) K135_1
@[simp] def WB_spec_l6Has := C.w B_spec_l6Has.eq_1
def R_spec_l6Has : FIR := ⟨B_spec_l6Has, 3, [(2, none)]⟩
theorem IR_spec_l6Has : cfun Tryz.prog H_spec_l6Has Tryz.f135 = some R_spec_l6Has := by kernel_rfl
theorem EN_spec_l6Has : ENT Tryz.prog B_spec_l6Has [(2, none)] 2 3 fn_spec_l6Has := fun hargs hw => enter Tryz.func135 rfl IR_spec_l6Has hargs hw
def H_spec_l6Word : Hint := ⟨[(0, false), (1, false), (4, false), (5, false), (6, false)], [[2]]⟩
def K62_1 : C := .seq (.pl <| .e 5 1 <|
 .m 5 3 <|
 .m 2 5 .done) (.ret)
@[simp] def W62_1 := C.w K62_1.eq_1
def K62_2 : C := .pl <| .e 5 2 <|
 .m 5 4 <|
 .x 6 (.bin .add (.v 5) (.c (.int .i64 1))) <|
 .m 4 6 .done
@[simp] def W62_2 := C.w K62_2.eq_1
def K62_3 : Pl := .m 3 10 .done
@[simp] def W62_3 := Pl.w K62_3.eq_1
def K62_4 : Pl := .o (.psl 9 [.int .i64 0] [(0, 1, .v 8)]) <|
 .c 10 (.app 8 1 [.int .i64 0] (.o (.v 5)) (.p 1 9)) K62_3
@[simp] def W62_4 := Pl.w K62_4.eq_1
def K62_5 : Pl := .c 8 (.call fn_spec_l16Rd_num [.v 6, .v 7]) K62_4
@[simp] def W62_5 := Pl.w K62_5.eq_1
def K62_6 : C := .seq (.block 1 (.pl <| .e 5 6 <|
 .m 5 3 <|
 .m 6 0 <|
 .c 7 (.bls 1 9 [.int .i64 0] [(0, 1, .c (.int .i64 0)), (1, 1, .c (.int .i64 1)), (2, 1, .c (.int .i64 2)), (3, 1, .c (.int .i64 3)), (4, 1, .c (.int .i64 1)), (5, 1, .c (.int .i64 0)), (6, 1, .c (.int .i64 5)), (7, 1, .c (.int .i64 4)), (8, 1, .c (.int .i64 7))]) K62_5)) K62_2
@[simp] def W62_6 := C.w K62_6.eq_1
def K62_7 : C := .cond 5 (.v 7) (.skip) (.exit 0)
@[simp] def W62_7 := C.w K62_7.eq_1
def K62_8 : C := .seq (.seq (.pl <| .e 5 3 <|
 .m 5 4 <|
 .m 6 1 <|
 .x 7 (.bin .lss (.v 5) (.v 6)) .done) K62_7) K62_6
@[simp] def W62_8 := C.w K62_8.eq_1
def K62_9 : C := .block 0 (.loop 5 [2] K62_8)
@[simp] def W62_9 := C.w K62_9.eq_1
def K62_10 : C := .seq (.seq (.pl <| .e 5 0 <|
 .x 4 (.mv (.c (.int .i64 0))) .done) K62_9) K62_1
@[simp] def W62_10 := C.w K62_10.eq_1
def K62_11 : Pl := .m 3 5 .done
@[simp] def W62_11 := Pl.w K62_11.eq_1
def K62_12 : C := .seq (.pl <| .e 5 1 <|
 .c 5 (.bls 1 0 [.int .i64 0] []) K62_11) K62_10
@[simp] def W62_12 := C.w K62_12.eq_1
def B_spec_l6Word : C := .seq (.pl <| .e 5 0 <|
 .x 2 (.mv (.c (.slice none 0 0))) .done) K62_12
@[simp] def WB_spec_l6Word := C.w B_spec_l6Word.eq_1
def R_spec_l6Word : FIR := ⟨B_spec_l6Word, 5, [(2, none)]⟩
theorem IR_spec_l6Word : cfun Tryz.prog H_spec_l6Word Tryz.f62 = some R_spec_l6Word := by kernel_rfl
theorem EN_spec_l6Word : ENT Tryz.prog B_spec_l6Word [(2, none)] 2 5 fn_spec_l6Word := fun hargs hw => enter Tryz.func62 rfl IR_spec_l6Word hargs hw
def H_spec_l7Automaton : Hint := ⟨[(0, false), (2, true), (3, true), (4, false), (5, false), (6, true), (7, false), (8, false), (9, false)], [[2, 3, 7, 8], [2, 3, 6, 8]]⟩
def K29_1 : C := .seq (.pl <| .e 9 1 <|
 .o (.pget (some 9) none 5 0 (some 3)) <|
 .o (.pset none 1 0 3 (.v 9)) .done) (.ret)
@[simp] def W29_1 := C.w K29_1.eq_1
def K29_2 : C := .pl <| .e 9 2 <|
 .m 9 7 <|
 .x 10 (.bin .sub (.v 9) (.c (.int .i64 1))) <|
 .m 7 10 .done
@[simp] def W29_2 := C.w K29_2.eq_1
def K29_3 : Pl := .a 25 5 <|
 .o (.pset (some 25) 5 2 1 (.v 24)) .done
@[simp] def W29_3 := Pl.w K29_3.eq_1
def K29_4 : Pl := .x 22 (.build [.int .i64 0, .int .i64 0, .int .i64 0, .int .i64 0] [(0, 1, .v 13), (1, 1, .v 14), (2, 1, .v 18), (3, 1, .v 21)]) <|
 .o (.psl 23 [.int .i64 0, .int .i64 0, .int .i64 0, .int .i64 0] [(0, 4, .v 22)]) <|
 .c 24 (.app 32 4 [.int .i64 0, .int .i64 0, .int .i64 0, .int .i64 0] (.o (.v 10)) (.p 1 23)) K29_3
@[simp] def W29_4 := Pl.w K29_4.eq_1
def K29_5 : Pl := .x 18 (.bin .and (.v 16) (.v 17)) <|
 .c 21 (.call fn_spec_l16Rd_pick [.v 19, .v 20]) K29_4
@[simp] def W29_5 := Pl.w K29_5.eq_1
def K29_6 : Pl := .c 16 (.call fn_spec_l16Rd_pick [.v 15, .c (.int .i64 8)]) K29_5
@[simp] def W29_6 := Pl.w K29_6.eq_1
def K29_7 : C := .pl <| .e 9 17 <|
 .a 9 5 <|
 .g 10 9 5 2 <|
 .m 11 0 <|
 .m 12 4 <|
 .m 14 8 <|
 .m 15 0 <|
 .m 17 8 <|
 .m 19 0 <|
 .m 20 4 <|
 .c 13 (.call fn_spec_l16Rd_pick [.v 11, .v 12]) K29_6
@[simp] def W29_7 := C.w K29_7.eq_1
def K29_8 : Pl := .m 8 11 .done
@[simp] def W29_8 := Pl.w K29_8.eq_1
def K29_9 : Pl := .c 11 (.call fn_spec_l16Rd_num [.v 9, .v 10]) K29_8
@[simp] def W29_9 := Pl.w K29_9.eq_1
def K29_10 : C := .seq (.block 3 (.seq (.pl <| .e 9 3 <|
 .m 9 0 <|
 .c 10 (.bls 1 5 [.int .i64 0] [(0, 1, .c (.int .i64 1)), (1, 1, .c (.int .i64 3)), (2, 1, .c (.int .i64 0)), (3, 1, .c (.int .i64 2)), (4, 1, .c (.int .i64 7))]) K29_9) K29_7)) K29_2
@[simp] def W29_10 := C.w K29_10.eq_1
def K29_11 : C := .cond 9 (.v 10) (.skip) (.exit 2)
@[simp] def W29_11 := C.w K29_11.eq_1
def K29_12 : C := .seq (.seq (.pl <| .e 9 2 <|
 .m 9 7 <|
 .x 10 (.bin .gtr (.v 9) (.c (.int .i64 0))) .done) K29_11) K29_10
@[simp] def W29_12 := C.w K29_12.eq_1
def K29_13 : C := .block 2 (.loop 9 [2, 3, 6, 8] K29_12)
@[simp] def W29_13 := C.w K29_13.eq_1
def K29_14 : Pl := .m 7 11 .done
@[simp] def W29_14 := Pl.w K29_14.eq_1
def K29_15 : Pl := .c 11 (.call fn_spec_l16Rd_num [.v 9, .v 10]) K29_14
@[simp] def W29_15 := Pl.w K29_15.eq_1
def K29_16 : C := .seq (.seq (.pl <| .e 9 3 <|
 .m 9 0 <|
 .c 10 (.bls 1 5 [.int .i64 0] [(0, 1, .c (.int .i64 6)), (1, 1, .c (.int .i64 4)), (2, 1, .c (.int .i64 8)), (3, 1, .c (.int .i64 3)), (4, 1, .c (.int .i64 10))]) K29_15) K29_13) K29_1
@[simp] def W29_16 := C.w K29_16.eq_1
def K29_17 : C := .pl <| .e 9 2 <|
 .m 9 6 <|
 .x 10 (.bin .add (.v 9) (.c (.int .i64 1))) <|
 .m 6 10 .done
@[simp] def W29_17 := C.w K29_17.eq_1
def K29_18 : Pl := .a 14 5 <|
 .o (.pset (some 14) 5 0 1 (.v 13)) .done
@[simp] def W29_18 := Pl.w K29_18.eq_1
def K29_19 : C := .pl <| .e 9 6 <|
 .a 9 5 <|
 .g 10 9 5 0 <|
 .m 11 6 <|
 .o (.psl 12 [.int .i64 0] [(0, 1, .v 11)]) <|
 .c 13 (.app 8 1 [.int .i64 0] (.o (.v 10)) (.p 1 12)) K29_18
@[simp] def W29_19 := C.w K29_19.eq_1
def K29_20 : C := .cond 9 (.v 20) K29_19 (.skip)
@[simp] def W29_20 := C.w K29_20.eq_1
def K29_21 : Pl := .n 16 (.px (some 19) (.bin .eql (.v 18) (.c (.int .i64 0)))) <|
 .x 20 (.pick (.v 16) (.c (.bool true)) (.v 19)) .done
@[simp] def W29_21 := Pl.w K29_21.eq_1
def K29_22 : Pl := .y 11 (.px (some 14) (.bin .gtr (.v 13) (.c (.int .i64 0)))) <|
 .x 15 (.pick (.v 11) (.v 14) (.c (.bool false))) <|
 .m 16 15 <|
 .n 16 (.px (some 17) (.mv (.v 0))) <|
 .st (.act (some (.v 16, false)) (.ex (some 18) (.call fn_spec_l16Rd_pick [.v 17, .c (.int .i64 5)]))) K29_21
@[simp] def W29_22 := Pl.w K29_22.eq_1
def K29_23 : C := .seq (.pl <| .e 9 12 <|
 .m 9 6 <|
 .x 10 (.bin .eql (.v 9) (.c (.int .i64 0))) <|
 .m 11 10 <|
 .y 11 (.px (some 12) (.mv (.v 0))) <|
 .st (.act (some (.v 11, true)) (.ex (some 13) (.call fn_spec_l16Rd_pick [.v 12, .c (.int .i64 12)]))) K29_22) K29_20
@[simp] def W29_23 := C.w K29_23.eq_1
def K29_24 : Pl := .x 14 (.bin .eql (.v 13) (.c (.int .i64 0))) <|
 .x 15 (.ia 1 (.v 10) (.v 11)) <|
 .o (.ex none (.store 1 (.v 15) (.v 14))) .done
@[simp] def W29_24 := Pl.w K29_24.eq_1
def K29_25 : C := .seq (.block 1 (.seq (.pl <| .e 9 7 <|
 .a 9 5 <|
 .g 10 9 5 1 <|
 .m 11 6 <|
 .m 12 0 <|
 .c 13 (.call fn_spec_l16Rd_pick [.v 12, .c (.int .i64 3)]) K29_24) K29_23)) K29_17
@[simp] def W29_25 := C.w K29_25.eq_1
def K29_26 : C := .cond 9 (.v 11) (.skip) (.exit 0)
@[simp] def W29_26 := C.w K29_26.eq_1
def K29_27 : C := .seq (.seq (.pl <| .e 9 3 <|
 .m 9 6 <|
 .m 10 4 <|
 .x 11 (.bin .lss (.v 9) (.v 10)) .done) K29_26) K29_25
@[simp] def W29_27 := C.w K29_27.eq_1
def K29_28 : C := .block 0 (.loop 9 [2, 3, 7, 8] K29_27)
@[simp] def W29_28 := C.w K29_28.eq_1
def K29_29 : C := .seq (.seq (.pl <| .e 9 0 <|
 .x 6 (.mv (.c (.int .i64 0))) .done) K29_28) K29_16
@[simp] def W29_29 := C.w K29_29.eq_1
def K29_30 : Pl := .x 11 (.build [.slice none 0 0, .slice none 0 0, .slice none 0 0] [(1, 1, .v 10)]) <|
 .o (.pnew 5 (.c (.agg #[.slice none 0 0, .slice none 0 0, .slice none 0 0])) []) <|
 .o (.pset none 5 0 3 (.v 11)) .done
@[simp] def W29_30 := Pl.w K29_30.eq_1
def K29_31 : C := .seq (.pl <| .e 9 3 <|
 .m 9 4 <|
 .c 10 (.mks 1 1 [.bool false] (.v 9) (.v 9)) K29_30) K29_29
@[simp] def W29_31 := C.w K29_31.eq_1
def K29_32 : Pl := .m 4 11 .done
@[simp] def W29_32 := Pl.w K29_32.eq_1
def K29_33 : Pl := .c 11 (.call fn_spec_l16Rd_num [.v 9, .v 10]) K29_32
@[simp] def W29_33 := Pl.w K29_33.eq_1
def K29_34 : C := .seq (.pl <| .e 9 3 <|
 .m 9 0 <|
 .c 10 (.bls 1 5 [.int .i64 0] [(0, 1, .c (.int .i64 3)), (1, 1, .c (.int .i64 2)), (2, 1, .c (.int .i64 4)), (3, 1, .c (.int .i64 1)), (4, 1, .c (.int .i64 5))]) K29_33) K29_31
@[simp] def W29_34 := C.w K29_34.eq_1
def K29_35 : C := .seq (.pl <| .e 9 1 <|
 .o (.pget (some 9) none 2 0 (some 3)) <|
 .o (.pset none 1 0 3 (.v 9)) .done) (.ret)
@[simp] def W29_35 := C.w K29_35.eq_1
def K29_36 : C := .cond 9 (.v 15) K29_35 (.skip)
@[simp] def W29_36 := C.w K29_36.eq_1
def K29_37 : C := .seq (.pl <| .e 9 7 <|
 .m 9 3 <|
 .m 10 9 <|
 .y 10 (.als 11 none 2) <|
 .y 10 (.pget (some 12) (some 11) 2 1 none) <|
 .y 10 (.px (some 13) (.lenV (.v 12))) <|
 .y 10 (.px (some 14) (.bin .leq (.v 13) (.c (.int .i64 16)))) <|
 .x 15 (.pick (.v 10) (.v 14) (.c (.bool false))) .done) K29_36
@[simp] def W29_37 := C.w K29_37.eq_1
def K29_38 : Pl := .m 12 11 <|
 .x 13 (.extract 0 (.v 12)) <|
 .x 14 (.extract 1 (.v 12)) <|
 .o (.pnew 2 (.c (.agg #[.slice none 0 0, .slice none 0 0, .slice none 0 0])) []) <|
 .o (.pset none 2 0 3 (.v 13)) <|
 .m 3 14 .done
@[simp] def W29_38 := Pl.w K29_38.eq_1
def K29_39 : Pl := .c 11 (.call fn_spec_TranslateFormula [.v 10]) K29_38
@[simp] def W29_39 := Pl.w K29_39.eq_1
def K29_40 : C := .seq (.pl <| .e 9 6 <|
 .m 9 0 <|
 .c 10 (.call fn_spec_l5Formula [.v 9]) K29_39) K29_37
@[simp] def W29_40 := C.w K29_40.eq_1
def K29_41 : C := .cond 9 (.v 11) K29_40 (.skip)
@[simp] def W29_41 := C.w K29_41.eq_1
def K29_42 : Pl := .x 11 (.bin .eql (.v 10) (.c (.int .i64 0))) .done
@[simp] def W29_42 := Pl.w K29_42.eq_1
def K29_43 : C := .seq (.seq (.pl <| .e 9 3 <|
 .m 9 0 <|
 .c 10 (.call fn_spec_l16Rd_pick [.v 9, .c (.int .i64 3)]) K29_42) K29_41) K29_34
@[simp] def W29_43 := C.w K29_43.eq_1
def B_spec_l7Automaton : C := .seq (.pl <| .e 9 0 <|
 .o (.pnew 1 (.c (.agg #[.slice none 0 0, .slice none 0 0, .slice none 0 0])) []) .done) K29_43
@[simp] def WB_spec_l7Automaton := C.w B_spec_l7Automaton.eq_1
def R_spec_l7Automaton : FIR := ⟨B_spec_l7Automaton, 9, [(1, some (some 3))]⟩
theorem IR_spec_l7Automaton : cfun Tryz.prog H_spec_l7Automaton Tryz.f29 = some R_spec_l7Automaton := by kernel_rfl
theorem EN_spec_l7Automaton : ENT Tryz.prog B_spec_l7Automaton [(1, some (some 3))] 1 9 fn_spec_l7Automaton := fun hargs hw => enter Tryz.func29 rfl IR_spec_l7Automaton hargs hw
def H_spec_l7Basic : Hint := ⟨[(0, false), (1, true), (2, false)], []⟩
def K133_1 : C := .seq (.pl <| .e 3 18 <|
 .a 3 1 <|
 .g 4 3 1 0 <|
 .x 5 (.bin .eql (.v 4) (.c (.int .i64 2))) <|
 .m 6 5 <|
 .n 6 (.als 7 none 1) <|
 .n 6 (.pget (some 8) (some 7) 1 0 none) <|
 .n 6 (.px (some 9) (.bin .eql (.v 8) (.c (.int .i64 6)))) <|
 .x 10 (.pick (.v 6) (.c (.bool true)) (.v 9)) <|
 .m 11 10 <|
 .n 11 (.als 12 none 1) <|
 .n 11 (.pget (some 13) (some 12) 1 0 none) <|
 .n 11 (.px (some 14) (.bin .eql (.v 13) (.c (.int .i64 7)))) <|
 .x 15 (.pick (.v 11) (.c (.bool true)) (.v 14)) <|
 .m 16 15 <|
 .n 16 (.als 17 none 1) <|
 .n 16 (.pget (some 18) (some 17) 1 0 none) <|
 .n 16 (.px (some 19) (.bin .eql (.v 18) (.c (.int .i64 8)))) <|
 .x 20 (.pick (.v 16) (.c (.bool true)) (.v 19)) <|
 .m 2 20 .done) (.ret)
@[simp] def W133_1 := C.w K133_1.eq_1
def B_spec_l7Basic : C := .seq (.pl <| .e 3 0 <|
 .o (.pnew 1 (.v 0) []) <|
 .x 2 (.mv (.c (.bool false))) .done) K133_1
@[simp] def WB_spec_l7Basic := C.w B_spec_l7Basic.eq_1
def R_spec_l7Basic : FIR := ⟨B_spec_l7Basic, 3, [(2, none)]⟩
theorem IR_spec_l7Basic : cfun Tryz.prog H_spec_l7Basic Tryz.f133 = some R_spec_l7Basic := by kernel_rfl
theorem EN_spec_l7Basic : ENT Tryz.prog B_spec_l7Basic [(2, none)] 1 3 fn_spec_l7Basic := fun hargs hw => enter Tryz.func133 rfl IR_spec_l7Basic hargs hw
def H_spec_l7Edge : Hint := ⟨[(0, false), (1, false), (2, true), (4, false)], []⟩
def K67_1 : C := .seq (.pl <| .e 4 45 <|
 .a 4 2 <|
 .g 5 4 2 0 <|
 .x 6 (.bin .geq (.v 5) (.c (.int .i64 0))) <|
 .m 7 6 <|
 .y 7 (.als 8 none 2) <|
 .y 7 (.pget (some 9) (some 8) 2 0 none) <|
 .y 7 (.px (some 10) (.mv (.v 1))) <|
 .y 7 (.px (some 11) (.bin .lss (.v 9) (.v 10))) <|
 .x 12 (.pick (.v 7) (.v 11) (.c (.bool false))) <|
 .m 13 12 <|
 .y 13 (.als 14 none 2) <|
 .y 13 (.pget (some 15) (some 14) 2 3 none) <|
 .y 13 (.px (some 16) (.bin .geq (.v 15) (.c (.int .i64 0)))) <|
 .x 17 (.pick (.v 13) (.v 16) (.c (.bool false))) <|
 .m 18 17 <|
 .y 18 (.als 19 none 2) <|
 .y 18 (.pget (some 20) (some 19) 2 3 none) <|
 .y 18 (.px (some 21) (.mv (.v 1))) <|
 .y 18 (.px (some 22) (.bin .lss (.v 20) (.v 21))) <|
 .x 23 (.pick (.v 18) (.v 22) (.c (.bool false))) <|
 .m 24 23 <|
 .y 24 (.als 25 none 2) <|
 .y 24 (.pget (some 26) (some 25) 2 1 none) <|
 .y 24 (.px (some 27) (.bin .geq (.v 26) (.c (.int .i64 0)))) <|
 .x 28 (.pick (.v 24) (.v 27) (.c (.bool false))) <|
 .m 29 28 <|
 .y 29 (.als 30 none 2) <|
 .y 29 (.pget (some 31) (some 30) 2 1 none) <|
 .y 29 (.px (some 32) (.bin .leq (.v 31) (.c (.int .i64 7)))) <|
 .x 33 (.pick (.v 29) (.v 32) (.c (.bool false))) <|
 .m 34 33 <|
 .y 34 (.als 35 none 2) <|
 .y 34 (.pget (some 36) (some 35) 2 2 none) <|
 .y 34 (.px (some 37) (.bin .geq (.v 36) (.c (.int .i64 0)))) <|
 .x 38 (.pick (.v 34) (.v 37) (.c (.bool false))) <|
 .m 39 38 <|
 .y 39 (.als 40 none 2) <|
 .y 39 (.pget (some 41) (some 40) 2 2 none) <|
 .y 39 (.als 42 none 2) <|
 .y 39 (.pget (some 43) (some 42) 2 1 none) <|
 .y 39 (.px (some 44) (.bin .and (.v 41) (.v 43))) <|
 .y 39 (.als 45 none 2) <|
 .y 39 (.pget (some 46) (some 45) 2 2 none) <|
 .y 39 (.px (some 47) (.bin .eql (.v 44) (.v 46))) <|
 .x 48 (.pick (.v 39) (.v 47) (.c (.bool false))) <|
 .m 3 48 .done) (.ret)
@[simp] def W67_1 := C.w K67_1.eq_1
def B_spec_l7Edge : C := .seq (.pl <| .e 4 0 <|
 .o (.pnew 2 (.v 0) []) <|
 .x 3 (.mv (.c (.bool false))) .done) K67_1
@[simp] def WB_spec_l7Edge := C.w B_spec_l7Edge.eq_1
def R_spec_l7Edge : FIR := ⟨B_spec_l7Edge, 4, [(3, none)]⟩
theorem IR_spec_l7Edge : cfun Tryz.prog H_spec_l7Edge Tryz.f67 = some R_spec_l7Edge := by kernel_rfl
theorem EN_spec_l7Edge : ENT Tryz.prog B_spec_l7Edge [(3, none)] 2 4 fn_spec_l7Edge := fun hargs hw => enter Tryz.func67 rfl IR_spec_l7Edge hargs hw
def H_spec_l7Follows : Hint := ⟨[(0, false), (1, false), (2, false), (6, false), (7, false), (8, true), (9, false), (10, false), (26, false)], [[3, 5, 6, 7, 8]]⟩
def K108_1 : C := .seq (.pl <| .e 9 0 <|
 .x 3 (.mv (.c (.bool true))) .done) (.ret)
@[simp] def W108_1 := C.w K108_1.eq_1
def K108_2 : C := .pl <| .e 9 2 <|
 .m 9 4 <|
 .x 10 (.bin .add (.v 9) (.c (.int .i64 1))) <|
 .m 4 10 .done
@[simp] def W108_2 := C.w K108_2.eq_1
def K108_3 : C := .seq (.pl <| .e 9 0 <|
 .x 3 (.mv (.c (.bool false))) .done) (.ret)
@[simp] def W108_3 := C.w K108_3.eq_1
def K108_4 : C := .cond 9 (.v 11) K108_3 (.skip)
@[simp] def W108_4 := C.w K108_4.eq_1
def K108_5 : C := .seq (.pl <| .e 9 3 <|
 .m 9 7 <|
 .m 10 6 <|
 .x 11 (.eqb true (.v 9) (.v 10)) .done) K108_4
@[simp] def W108_5 := C.w K108_5.eq_1
def K108_6 : Pl := .m 7 15 .done
@[simp] def W108_6 := Pl.w K108_6.eq_1
def K108_7 : C := .pl <| .e 9 7 <|
 .m 9 0 <|
 .m 10 2 <|
 .a 11 5 <|
 .g 12 11 5 2 <|
 .x 13 (.ia 3 (.v 12) (.c (.int .i64 0))) <|
 .o (.ld (some 14) (.v 13) (some 3)) <|
 .c 15 (.call fn_spec_l7Value [.v 9, .v 10, .v 14]) K108_6
@[simp] def W108_7 := C.w K108_7.eq_1
def K108_8 : Pl := .n 16 (.px (some 28) (.pick (.v 24) (.v 27) (.c (.bool false)))) <|
 .x 29 (.pick (.v 16) (.c (.bool true)) (.v 28)) <|
 .m 7 29 .done
@[simp] def W108_8 := Pl.w K108_8.eq_1
def K108_9 : Pl := .n 16 (.px (some 24) (.mv (.v 23))) <|
 .y 24 (.px (some 25) (.mv (.v 2))) <|
 .y 24 (.px (some 26) (.mv (.v 4))) <|
 .st (.act (some (.v 24, true)) (.ex (some 27) (.call fn_spec_l6Has [.v 25, .v 26]))) K108_8
@[simp] def W108_9 := Pl.w K108_9.eq_1
def K108_10 : Pl := .m 16 15 <|
 .n 16 (.px (some 17) (.mv (.v 0))) <|
 .n 16 (.px (some 18) (.mv (.v 1))) <|
 .n 16 (.als 19 none 5) <|
 .n 16 (.pget (some 20) (some 19) 5 2 none) <|
 .n 16 (.px (some 21) (.ia 3 (.v 20) (.c (.int .i64 0)))) <|
 .n 16 (.ld (some 22) (.v 21) (some 3)) <|
 .st (.act (some (.v 16, false)) (.ex (some 23) (.call fn_spec_l7Value [.v 17, .v 18, .v 22]))) K108_9
@[simp] def W108_10 := Pl.w K108_10.eq_1
def K108_11 : C := .pl <| .e 9 21 <|
 .m 9 0 <|
 .m 10 1 <|
 .a 11 5 <|
 .g 12 11 5 2 <|
 .x 13 (.ia 3 (.v 12) (.c (.int .i64 1))) <|
 .o (.ld (some 14) (.v 13) (some 3)) <|
 .c 15 (.call fn_spec_l7Value [.v 9, .v 10, .v 14]) K108_10
@[simp] def W108_11 := C.w K108_11.eq_1
def K108_12 : Pl := .y 16 (.px (some 28) (.pick (.v 24) (.c (.bool true)) (.v 27))) <|
 .x 29 (.pick (.v 16) (.v 28) (.c (.bool false))) <|
 .m 7 29 .done
@[simp] def W108_12 := Pl.w K108_12.eq_1
def K108_13 : Pl := .y 16 (.px (some 24) (.mv (.v 23))) <|
 .n 24 (.px (some 25) (.mv (.v 2))) <|
 .n 24 (.px (some 26) (.mv (.v 4))) <|
 .st (.act (some (.v 24, false)) (.ex (some 27) (.call fn_spec_l6Has [.v 25, .v 26]))) K108_12
@[simp] def W108_13 := Pl.w K108_13.eq_1
def K108_14 : Pl := .m 16 15 <|
 .y 16 (.px (some 17) (.mv (.v 0))) <|
 .y 16 (.px (some 18) (.mv (.v 1))) <|
 .y 16 (.als 19 none 5) <|
 .y 16 (.pget (some 20) (some 19) 5 2 none) <|
 .y 16 (.px (some 21) (.ia 3 (.v 20) (.c (.int .i64 0)))) <|
 .y 16 (.ld (some 22) (.v 21) (some 3)) <|
 .st (.act (some (.v 16, true)) (.ex (some 23) (.call fn_spec_l7Value [.v 17, .v 18, .v 22]))) K108_13
@[simp] def W108_14 := Pl.w K108_14.eq_1
def K108_15 : C := .pl <| .e 9 21 <|
 .m 9 0 <|
 .m 10 1 <|
 .a 11 5 <|
 .g 12 11 5 2 <|
 .x 13 (.ia 3 (.v 12) (.c (.int .i64 1))) <|
 .o (.ld (some 14) (.v 13) (some 3)) <|
 .c 15 (.call fn_spec_l7Value [.v 9, .v 10, .v 14]) K108_14
@[simp] def W108_15 := C.w K108_15.eq_1
def K108_16 : C := .cond 9 (.v 10) K108_15 (.skip)
@[simp] def W108_16 := C.w K108_16.eq_1
def K108_17 : C := .seq (.pl <| .e 9 2 <|
 .x 9 (.bin .eql (.v 8) (.c (.int .i64 8))) <|
 .m 10 9 .done) K108_16
@[simp] def W108_17 := C.w K108_17.eq_1
def K108_18 : C := .cond 9 (.v 10) K108_11 K108_17
@[simp] def W108_18 := C.w K108_18.eq_1
def K108_19 : C := .seq (.pl <| .e 9 2 <|
 .x 9 (.bin .eql (.v 8) (.c (.int .i64 7))) <|
 .m 10 9 .done) K108_18
@[simp] def W108_19 := C.w K108_19.eq_1
def K108_20 : C := .cond 9 (.v 10) K108_7 K108_19
@[simp] def W108_20 := C.w K108_20.eq_1
def K108_21 : C := .block 2 (.seq (.pl <| .e 9 2 <|
 .x 9 (.bin .eql (.v 8) (.c (.int .i64 6))) <|
 .m 10 9 .done) K108_20)
@[simp] def W108_21 := C.w K108_21.eq_1
def K108_22 : C := .seq (.seq (.pl <| .e 9 1 <|
 .a 9 5 <|
 .g 8 9 5 0 .done) K108_21) K108_5
@[simp] def W108_22 := C.w K108_22.eq_1
def K108_23 : C := .seq (.pl <| .e 9 1 <|
 .m 9 6 <|
 .m 7 9 .done) K108_22
@[simp] def W108_23 := C.w K108_23.eq_1
def K108_24 : Pl := .m 6 11 .done
@[simp] def W108_24 := Pl.w K108_24.eq_1
def K108_25 : C := .seq (.pl <| .e 9 3 <|
 .m 9 1 <|
 .m 10 4 <|
 .c 11 (.call fn_spec_l6Has [.v 9, .v 10]) K108_24) K108_23
@[simp] def W108_25 := C.w K108_25.eq_1
def K108_26 : C := .seq (.block 1 (.seq (.pl <| .e 9 4 <|
 .m 9 0 <|
 .m 10 4 <|
 .x 11 (.ia 3 (.v 9) (.v 10)) <|
 .o (.ld (some 12) (.v 11) (some 3)) <|
 .o (.pnew 5 (.c (.agg #[.int .i64 0, .int .i64 0, .slice none 0 0])) []) <|
 .o (.pset none 5 0 3 (.v 12)) .done) K108_25)) K108_2
@[simp] def W108_26 := C.w K108_26.eq_1
def K108_27 : C := .cond 9 (.v 12) (.skip) (.exit 0)
@[simp] def W108_27 := C.w K108_27.eq_1
def K108_28 : C := .seq (.seq (.pl <| .e 9 4 <|
 .m 9 4 <|
 .m 10 0 <|
 .x 11 (.lenV (.v 10)) <|
 .x 12 (.bin .lss (.v 9) (.v 11)) .done) K108_27) K108_26
@[simp] def W108_28 := C.w K108_28.eq_1
def K108_29 : C := .block 0 (.loop 9 [3, 5, 6, 7, 8] K108_28)
@[simp] def W108_29 := C.w K108_29.eq_1
def K108_30 : C := .seq (.seq (.pl <| .e 9 0 <|
 .x 4 (.mv (.c (.int .i64 0))) .done) K108_29) K108_1
@[simp] def W108_30 := C.w K108_30.eq_1
def B_spec_l7Follows : C := .seq (.pl <| .e 9 0 <|
 .x 3 (.mv (.c (.bool false))) .done) K108_30
@[simp] def WB_spec_l7Follows := C.w B_spec_l7Follows.eq_1
def R_spec_l7Follows : FIR := ⟨B_spec_l7Follows, 9, [(3, none)]⟩
theorem IR_spec_l7Follows : cfun Tryz.prog H_spec_l7Follows Tryz.f108 = some R_spec_l7Follows := by kernel_rfl
theorem EN_spec_l7Follows : ENT Tryz.prog B_spec_l7Follows [(3, none)] 3 9 fn_spec_l7Follows := fun hargs hw => enter Tryz.func108 rfl IR_spec_l7Follows hargs hw
def H_spec_l7Fulfils : Hint := ⟨[(0, false), (1, false), (2, false), (6, false)], []⟩
def K137_1 : Pl := .x 19 (.pick (.v 8) (.c (.bool true)) (.v 18)) <|
 .m 3 19 .done
@[simp] def W137_1 := Pl.w K137_1.eq_1
def K137_2 : Pl := .x 7 (.un .not (.v 6)) <|
 .m 8 7 <|
 .n 8 (.px (some 9) (.mv (.v 0))) <|
 .n 8 (.px (some 10) (.mv (.v 1))) <|
 .n 8 (.px (some 11) (.mv (.v 0))) <|
 .n 8 (.px (some 12) (.mv (.v 2))) <|
 .n 8 (.px (some 13) (.ia 3 (.v 11) (.v 12))) <|
 .n 8 (.px (some 14) (.fa 2 (.v 13))) <|
 .n 8 (.ld (some 15) (.v 14) none) <|
 .n 8 (.px (some 16) (.ia 3 (.v 15) (.c (.int .i64 1)))) <|
 .n 8 (.ld (some 17) (.v 16) (some 3)) <|
 .st (.act (some (.v 8, false)) (.ex (some 18) (.call fn_spec_l7Value [.v 9, .v 10, .v 17]))) K137_1
@[simp] def W137_2 := Pl.w K137_2.eq_1
def K137_3 : C := .seq (.pl <| .e 4 16 <|
 .m 4 1 <|
 .m 5 2 <|
 .c 6 (.call fn_spec_l6Has [.v 4, .v 5]) K137_2) (.ret)
@[simp] def W137_3 := C.w K137_3.eq_1
def B_spec_l7Fulfils : C := .seq (.pl <| .e 4 0 <|
 .x 3 (.mv (.c (.bool false))) .done) K137_3
@[simp] def WB_spec_l7Fulfils := C.w B_spec_l7Fulfils.eq_1
def R_spec_l7Fulfils : FIR := ⟨B_spec_l7Fulfils, 4, [(3, none)]⟩
theorem IR_spec_l7Fulfils : cfun Tryz.prog H_spec_l7Fulfils Tryz.f137 = some R_spec_l7Fulfils := by kernel_rfl
theorem EN_spec_l7Fulfils : ENT Tryz.prog B_spec_l7Fulfils [(3, none)] 3 4 fn_spec_l7Fulfils := fun hargs hw => enter Tryz.func137 rfl IR_spec_l7Fulfils hargs hw
def H_spec_l7Letter : Hint := ⟨[(0, false), (1, false), (4, false), (5, false), (6, false), (7, false), (8, false)], [[2, 3]]⟩
def K107_1 : C := .seq (.pl <| .e 7 2 <|
 .m 7 4 <|
 .m 8 5 <|
 .m 2 7 <|
 .m 3 8 .done) (.ret)
@[simp] def W107_1 := C.w K107_1.eq_1
def K107_2 : C := .pl <| .e 7 2 <|
 .m 7 6 <|
 .x 8 (.bin .add (.v 7) (.c (.int .i64 1))) <|
 .m 6 8 .done
@[simp] def W107_2 := C.w K107_2.eq_1
def K107_3 : C := .pl <| .e 7 9 <|
 .m 7 5 <|
 .m 8 0 <|
 .m 9 6 <|
 .x 10 (.ia 3 (.v 8) (.v 9)) <|
 .x 11 (.fa 1 (.v 10)) <|
 .l 12 11 <|
 .x 13 (.conv .u64 (.v 12)) <|
 .x 14 (.bin .shl (.c (.int .i64 1)) (.v 13)) <|
 .x 15 (.bin .or (.v 7) (.v 14)) <|
 .m 5 15 .done
@[simp] def W107_3 := C.w K107_3.eq_1
def K107_4 : C := .cond 7 (.v 9) K107_3 (.skip)
@[simp] def W107_4 := C.w K107_4.eq_1
def K107_5 : C := .seq (.pl <| .e 7 3 <|
 .m 7 1 <|
 .m 8 6 <|
 .c 9 (.call fn_spec_l6Has [.v 7, .v 8]) .done) K107_4
@[simp] def W107_5 := C.w K107_5.eq_1
def K107_6 : C := .seq (.pl <| .e 7 9 <|
 .m 7 4 <|
 .m 8 0 <|
 .m 9 6 <|
 .x 10 (.ia 3 (.v 8) (.v 9)) <|
 .x 11 (.fa 1 (.v 10)) <|
 .l 12 11 <|
 .x 13 (.conv .u64 (.v 12)) <|
 .x 14 (.bin .shl (.c (.int .i64 1)) (.v 13)) <|
 .x 15 (.bin .or (.v 7) (.v 14)) <|
 .m 4 15 .done) K107_5
@[simp] def W107_6 := C.w K107_6.eq_1
def K107_7 : C := .cond 7 (.v 12) K107_6 (.skip)
@[simp] def W107_7 := C.w K107_7.eq_1
def K107_8 : C := .seq (.block 1 (.seq (.pl <| .e 7 6 <|
 .m 7 0 <|
 .m 8 6 <|
 .x 9 (.ia 3 (.v 7) (.v 8)) <|
 .x 10 (.fa 0 (.v 9)) <|
 .l 11 10 <|
 .x 12 (.bin .eql (.v 11) (.c (.int .i64 2))) .done) K107_7)) K107_2
@[simp] def W107_8 := C.w K107_8.eq_1
def K107_9 : C := .cond 7 (.v 10) (.skip) (.exit 0)
@[simp] def W107_9 := C.w K107_9.eq_1
def K107_10 : C := .seq (.seq (.pl <| .e 7 4 <|
 .m 7 6 <|
 .m 8 0 <|
 .x 9 (.lenV (.v 8)) <|
 .x 10 (.bin .lss (.v 7) (.v 9)) .done) K107_9) K107_8
@[simp] def W107_10 := C.w K107_10.eq_1
def K107_11 : C := .block 0 (.loop 7 [2, 3] K107_10)
@[simp] def W107_11 := C.w K107_11.eq_1
def K107_12 : C := .seq (.seq (.pl <| .e 7 0 <|
 .x 6 (.mv (.c (.int .i64 0))) .done) K107_11) K107_1
@[simp] def W107_12 := C.w K107_12.eq_1
def K107_13 : C := .seq (.pl <| .e 7 0 <|
 .x 5 (.mv (.c (.int .i64 0))) .done) K107_12
@[simp] def W107_13 := C.w K107_13.eq_1
def K107_14 : C := .seq (.pl <| .e 7 0 <|
 .x 4 (.mv (.c (.int .i64 0))) .done) K107_13
@[simp] def W107_14 := C.w K107_14.eq_1
def B_spec_l7Letter : C := .seq (.pl <| .e 7 0 <|
 .x 2 (.mv (.c (.int .i64 0))) <|
 .x 3 (.mv (.c (.int .i64 0))) .done) K107_14
@[simp] def WB_spec_l7Letter := C.w B_spec_l7Letter.eq_1
def R_spec_l7Letter : FIR := ⟨B_spec_l7Letter, 7, [(2, none), (3, none)]⟩
theorem IR_spec_l7Letter : cfun Tryz.prog H_spec_l7Letter Tryz.f107 = some R_spec_l7Letter := by kernel_rfl
theorem EN_spec_l7Letter : ENT Tryz.prog B_spec_l7Letter [(2, none), (3, none)] 2 7 fn_spec_l7Letter := fun hargs hw => enter Tryz.func107 rfl IR_spec_l7Letter hargs hw
def H_spec_l7Mutate : Hint := ⟨[(0, false), (1, false), (3, true), (4, true), (5, true), (20, false)], []⟩
def K28_1 : C := .seq (.pl <| .e 6 1 <|
 .o (.pget (some 6) none 4 0 (some 3)) <|
 .o (.pset none 3 0 3 (.v 6)) .done) (.ret)
@[simp] def W28_1 := C.w K28_1.eq_1
def K28_2 : Pl := .a 13 4 <|
 .o (.pset (some 13) 4 0 1 (.v 12)) .done
@[simp] def W28_2 := Pl.w K28_2.eq_1
def K28_3 : Pl := .o (.psl 11 [.int .i64 0] [(0, 1, .v 10)]) <|
 .c 12 (.app 8 1 [.int .i64 0] (.o (.v 7)) (.p 1 11)) K28_2
@[simp] def W28_3 := Pl.w K28_3.eq_1
def K28_4 : Pl := .c 10 (.call fn_spec_l16Rd_num [.v 8, .v 9]) K28_3
@[simp] def W28_4 := Pl.w K28_4.eq_1
def K28_5 : C := .pl <| .e 6 8 <|
 .a 6 4 <|
 .g 7 6 4 0 <|
 .m 8 0 <|
 .c 9 (.bls 1 4 [.int .i64 0] [(0, 1, .c (.int .i64 0)), (1, 1, .c (.int .i64 (-1))), (2, 1, .c (.int .i64 64)), (3, 1, .c (.int .i64 3))]) K28_4
@[simp] def W28_5 := C.w K28_5.eq_1
def K28_6 : Pl := .x 11 (.ia 4 (.v 7) (.c (.int .i64 0))) <|
 .x 12 (.fa 2 (.v 11)) <|
 .o (.ex none (.store 1 (.v 12) (.v 10))) .done
@[simp] def W28_6 := Pl.w K28_6.eq_1
def K28_7 : Pl := .c 10 (.call fn_spec_l16Rd_num [.v 8, .v 9]) K28_6
@[simp] def W28_7 := Pl.w K28_7.eq_1
def K28_8 : C := .pl <| .e 6 7 <|
 .a 6 4 <|
 .g 7 6 4 2 <|
 .m 8 0 <|
 .c 9 (.bls 1 3 [.int .i64 0] [(0, 1, .c (.int .i64 8)), (1, 1, .c (.int .i64 (-1))), (2, 1, .c (.int .i64 7))]) K28_7
@[simp] def W28_8 := C.w K28_8.eq_1
def K28_9 : C := .cond 6 (.v 9) K28_8 (.skip)
@[simp] def W28_9 := C.w K28_9.eq_1
def K28_10 : C := .seq (.pl <| .e 6 4 <|
 .a 6 4 <|
 .g 7 6 4 2 <|
 .x 8 (.lenV (.v 7)) <|
 .x 9 (.bin .gtr (.v 8) (.c (.int .i64 0))) .done) K28_9
@[simp] def W28_10 := C.w K28_10.eq_1
def K28_11 : Pl := .x 11 (.ia 4 (.v 7) (.c (.int .i64 0))) <|
 .x 12 (.fa 3 (.v 11)) <|
 .o (.ex none (.store 1 (.v 12) (.v 10))) .done
@[simp] def W28_11 := Pl.w K28_11.eq_1
def K28_12 : Pl := .c 10 (.call fn_spec_l16Rd_num [.v 8, .v 9]) K28_11
@[simp] def W28_12 := Pl.w K28_12.eq_1
def K28_13 : C := .pl <| .e 6 7 <|
 .a 6 4 <|
 .g 7 6 4 2 <|
 .m 8 0 <|
 .c 9 (.bls 1 4 [.int .i64 0] [(0, 1, .c (.int .i64 (-1))), (1, 1, .c (.int .i64 0)), (2, 1, .c (.int .i64 64)), (3, 1, .c (.int .i64 9223372036854775807))]) K28_12
@[simp] def W28_13 := C.w K28_13.eq_1
def K28_14 : C := .cond 6 (.v 9) K28_13 (.skip)
@[simp] def W28_14 := C.w K28_14.eq_1
def K28_15 : C := .seq (.pl <| .e 6 4 <|
 .a 6 4 <|
 .g 7 6 4 2 <|
 .x 8 (.lenV (.v 7)) <|
 .x 9 (.bin .gtr (.v 8) (.c (.int .i64 0))) .done) K28_14
@[simp] def W28_15 := C.w K28_15.eq_1
def K28_16 : C := .seq (.pl <| .e 6 1 <|
 .x 6 (.build [.slice none 0 0, .slice none 0 0, .slice none 0 0] []) <|
 .o (.pset none 3 0 3 (.v 6)) .done) (.ret)
@[simp] def W28_16 := C.w K28_16.eq_1
def K28_17 : Pl := .x 15 (.ia 4 (.v 7) (.v 11)) <|
 .x 16 (.fa 1 (.v 15)) <|
 .o (.ex none (.store 1 (.v 16) (.v 14))) .done
@[simp] def W28_17 := Pl.w K28_17.eq_1
def K28_18 : Pl := .c 14 (.call fn_spec_l16Rd_num [.v 12, .v 13]) K28_17
@[simp] def W28_18 := Pl.w K28_18.eq_1
def K28_19 : C := .pl <| .e 6 11 <|
 .a 6 4 <|
 .g 7 6 4 2 <|
 .a 8 4 <|
 .g 9 8 4 2 <|
 .x 10 (.lenV (.v 9)) <|
 .x 11 (.bin .sub (.v 10) (.c (.int .i64 1))) <|
 .m 12 0 <|
 .c 13 (.bls 1 3 [.int .i64 0] [(0, 1, .c (.int .i64 8)), (1, 1, .c (.int .i64 (-1))), (2, 1, .c (.int .i64 0))]) K28_18
@[simp] def W28_19 := C.w K28_19.eq_1
def K28_20 : C := .cond 6 (.v 9) K28_19 (.skip)
@[simp] def W28_20 := C.w K28_20.eq_1
def K28_21 : C := .seq (.pl <| .e 6 4 <|
 .a 6 4 <|
 .g 7 6 4 2 <|
 .x 8 (.lenV (.v 7)) <|
 .x 9 (.bin .gtr (.v 8) (.c (.int .i64 0))) .done) K28_20
@[simp] def W28_21 := C.w K28_21.eq_1
def K28_22 : C := .cond 6 (.v 7) K28_21 (.skip)
@[simp] def W28_22 := C.w K28_22.eq_1
def K28_23 : C := .seq (.pl <| .e 6 2 <|
 .x 6 (.bin .eql (.v 5) (.c (.int .i64 4))) <|
 .m 7 6 .done) K28_22
@[simp] def W28_23 := C.w K28_23.eq_1
def K28_24 : C := .cond 6 (.v 7) K28_16 K28_23
@[simp] def W28_24 := C.w K28_24.eq_1
def K28_25 : C := .seq (.pl <| .e 6 2 <|
 .x 6 (.bin .eql (.v 5) (.c (.int .i64 3))) <|
 .m 7 6 .done) K28_24
@[simp] def W28_25 := C.w K28_25.eq_1
def K28_26 : C := .cond 6 (.v 7) K28_15 K28_25
@[simp] def W28_26 := C.w K28_26.eq_1
def K28_27 : C := .seq (.pl <| .e 6 2 <|
 .x 6 (.bin .eql (.v 5) (.c (.int .i64 2))) <|
 .m 7 6 .done) K28_26
@[simp] def W28_27 := C.w K28_27.eq_1
def K28_28 : C := .cond 6 (.v 7) K28_10 K28_27
@[simp] def W28_28 := C.w K28_28.eq_1
def K28_29 : C := .seq (.pl <| .e 6 2 <|
 .x 6 (.bin .eql (.v 5) (.c (.int .i64 1))) <|
 .m 7 6 .done) K28_28
@[simp] def W28_29 := C.w K28_29.eq_1
def K28_30 : C := .cond 6 (.v 7) K28_5 K28_29
@[simp] def W28_30 := C.w K28_30.eq_1
def K28_31 : C := .block 0 (.seq (.pl <| .e 6 2 <|
 .x 6 (.bin .eql (.v 5) (.c (.int .i64 0))) <|
 .m 7 6 .done) K28_30)
@[simp] def W28_31 := C.w K28_31.eq_1
def K28_32 : C := .seq (.seq (.pl <| .e 6 1 <|
 .m 6 0 <|
 .c 5 (.call fn_spec_l16Rd_pick [.v 6, .c (.int .i64 40)]) .done) K28_31) K28_1
@[simp] def W28_32 := C.w K28_32.eq_1
def K28_33 : Pl := .x 18 (.build [.slice none 0 0, .slice none 0 0, .slice none 0 0] [(0, 1, .v 9), (1, 1, .v 13), (2, 1, .v 17)]) <|
 .o (.pset none 4 0 3 (.v 18)) .done
@[simp] def W28_33 := Pl.w K28_33.eq_1
def K28_34 : Pl := .c 17 (.app 32 4 [.int .i64 0, .int .i64 0, .int .i64 0, .int .i64 0] (.p 0 14) (.o (.v 16))) K28_33
@[simp] def W28_34 := Pl.w K28_34.eq_1
def K28_35 : Pl := .c 13 (.app 1 1 [.bool false] (.p 0 10) (.o (.v 12))) K28_34
@[simp] def W28_35 := Pl.w K28_35.eq_1
def K28_36 : C := .seq (.pl <| .e 6 13 <|
 .o (.psl 6 [] []) <|
 .a 7 2 <|
 .g 8 7 2 0 <|
 .o (.psl 10 [] []) <|
 .a 11 2 <|
 .g 12 11 2 1 <|
 .o (.psl 14 [] []) <|
 .a 15 2 <|
 .g 16 15 2 2 <|
 .o (.pnew 4 (.c (.agg #[.slice none 0 0, .slice none 0 0, .slice none 0 0])) []) <|
 .c 9 (.app 8 1 [.int .i64 0] (.p 0 6) (.o (.v 8))) K28_35) K28_32
@[simp] def W28_36 := C.w K28_36.eq_1
def B_spec_l7Mutate : C := .seq (.pl <| .e 6 0 <|
 .o (.pnew 2 (.v 1) []) <|
 .o (.pnew 3 (.c (.agg #[.slice none 0 0, .slice none 0 0, .slice none 0 0])) []) .done) K28_36
@[simp] def WB_spec_l7Mutate := C.w B_spec_l7Mutate.eq_1
def R_spec_l7Mutate : FIR := ⟨B_spec_l7Mutate, 6, [(3, some (some 3))]⟩
theorem IR_spec_l7Mutate : cfun Tryz.prog H_spec_l7Mutate Tryz.f28 = some R_spec_l7Mutate := by kernel_rfl
theorem EN_spec_l7Mutate : ENT Tryz.prog B_spec_l7Mutate [(3, some (some 3))] 2 6 fn_spec_l7Mutate := fun hargs hw => enter Tryz.func28 rfl IR_spec_l7Mutate hargs hw
def H_spec_l7On : Hint := ⟨[(0, false), (1, false), (2, true), (4, false)], []⟩
def K116_1 : C := .seq (.pl <| .e 4 7 <|
 .m 4 1 <|
 .a 5 2 <|
 .g 6 5 2 1 <|
 .x 7 (.bin .and (.v 4) (.v 6)) <|
 .a 8 2 <|
 .g 9 8 2 2 <|
 .x 10 (.bin .eql (.v 7) (.v 9)) <|
 .m 3 10 .done) (.ret)
@[simp] def W116_1 := C.w K116_1.eq_1
def B_spec_l7On : C := .seq (.pl <| .e 4 0 <|
 .o (.pnew 2 (.v 0) []) <|
 .x 3 (.mv (.c (.bool false))) .done) K116_1
@[simp] def WB_spec_l7On := C.w B_spec_l7On.eq_1
def R_spec_l7On : FIR := ⟨B_spec_l7On, 4, [(3, none)]⟩
theorem IR_spec_l7On : cfun Tryz.prog H_spec_l7On Tryz.f116 = some R_spec_l7On := by kernel_rfl
theorem EN_spec_l7On : ENT Tryz.prog B_spec_l7On [(3, none)] 2 4 fn_spec_l7On := fun hargs hw => enter Tryz.func116 rfl IR_spec_l7On hargs hw
def H_spec_l7Pair : Hint := ⟨[(0, false), (1, false), (4, false), (5, false), (6, false)], [[2, 3]]⟩
def K109_1 : Pl := .m 9 0 <|
 .x 10 (.lenV (.v 9)) <|
 .m 2 8 <|
 .m 3 10 .done
@[simp] def W109_1 := Pl.w K109_1.eq_1
def K109_2 : C := .seq (.pl <| .e 5 6 <|
 .m 5 0 <|
 .m 6 1 <|
 .o (.psl 7 [.slice none 0 0] [(0, 1, .v 6)]) <|
 .c 8 (.app 24 1 [.slice none 0 0] (.o (.v 5)) (.p 1 7)) K109_1) (.ret)
@[simp] def W109_2 := C.w K109_2.eq_1
def K109_3 : C := .pl <| .e 5 2 <|
 .m 5 4 <|
 .x 6 (.bin .add (.v 5) (.c (.int .i64 1))) <|
 .m 4 6 .done
@[simp] def W109_3 := C.w K109_3.eq_1
def K109_4 : C := .seq (.pl <| .e 5 2 <|
 .m 5 0 <|
 .m 6 4 <|
 .m 2 5 <|
 .m 3 6 .done) (.ret)
@[simp] def W109_4 := C.w K109_4.eq_1
def K109_5 : C := .cond 5 (.v 10) K109_4 (.skip)
@[simp] def W109_5 := C.w K109_5.eq_1
def K109_6 : C := .seq (.block 1 (.seq (.pl <| .e 5 6 <|
 .m 5 0 <|
 .m 6 4 <|
 .x 7 (.ia 1 (.v 5) (.v 6)) <|
 .l 8 7 <|
 .m 9 1 <|
 .c 10 (.call fn_spec_l2Ints [.v 8, .v 9]) .done) K109_5)) K109_3
@[simp] def W109_6 := C.w K109_6.eq_1
def K109_7 : C := .cond 5 (.v 8) (.skip) (.exit 0)
@[simp] def W109_7 := C.w K109_7.eq_1
def K109_8 : C := .seq (.seq (.pl <| .e 5 4 <|
 .m 5 4 <|
 .m 6 0 <|
 .x 7 (.lenV (.v 6)) <|
 .x 8 (.bin .lss (.v 5) (.v 7)) .done) K109_7) K109_6
@[simp] def W109_8 := C.w K109_8.eq_1
def K109_9 : C := .block 0 (.loop 5 [2, 3] K109_8)
@[simp] def W109_9 := C.w K109_9.eq_1
def K109_10 : C := .seq (.seq (.pl <| .e 5 0 <|
 .x 4 (.mv (.c (.int .i64 0))) .done) K109_9) K109_2
@[simp] def W109_10 := C.w K109_10.eq_1
def B_spec_l7Pair : C := .seq (.pl <| .e 5 0 <|
 .x 2 (.mv (.c (.slice none 0 0))) <|
 .x 3 (.mv (.c (.int .i64 0))) .done) K109_10
@[simp] def WB_spec_l7Pair := C.w B_spec_l7Pair.eq_1
def R_spec_l7Pair : FIR := ⟨B_spec_l7Pair, 5, [(2, none), (3, none)]⟩
theorem IR_spec_l7Pair : cfun Tryz.prog H_spec_l7Pair Tryz.f109 = some R_spec_l7Pair := by kernel_rfl
theorem EN_spec_l7Pair : ENT Tryz.prog B_spec_l7Pair [(2, none), (3, none)] 2 5 fn_spec_l7Pair := fun hargs hw => enter Tryz.func109 rfl IR_spec_l7Pair hargs hw
def H_spec_l7Phase : Hint := ⟨[(0, false), (1, false), (2, false), (3, false), (8, false), (9, false)], []⟩
def K106_1 : C := .seq (.pl <| .e 6 1 <|
 .m 6 3 <|
 .m 4 6 <|
 .x 5 (.mv (.c (.bool false))) .done) (.ret)
@[simp] def W106_1 := C.w K106_1.eq_1
def K106_2 : C := .seq (.pl <| .e 6 7 <|
 .m 6 3 <|
 .x 7 (.bin .add (.v 6) (.c (.int .i64 1))) <|
 .m 8 1 <|
 .x 9 (.lenV (.v 8)) <|
 .x 10 (.bin .rem (.v 7) (.v 9)) <|
 .m 11 3 <|
 .x 12 (.bin .eql (.v 11) (.c (.int .i64 0))) <|
 .m 4 10 <|
 .m 5 12 .done) (.ret)
@[simp] def W106_2 := C.w K106_2.eq_1
def K106_3 : C := .cond 6 (.v 12) K106_2 (.skip)
@[simp] def W106_3 := C.w K106_3.eq_1
def K106_4 : C := .seq (.seq (.pl <| .e 6 7 <|
 .m 6 0 <|
 .m 7 2 <|
 .m 8 1 <|
 .m 9 3 <|
 .x 10 (.ia 1 (.v 8) (.v 9)) <|
 .l 11 10 <|
 .c 12 (.call fn_spec_l7Fulfils [.v 6, .v 7, .v 11]) .done) K106_3) K106_1
@[simp] def W106_4 := C.w K106_4.eq_1
def K106_5 : C := .seq (.pl <| .e 6 0 <|
 .x 4 (.mv (.c (.int .i64 0))) <|
 .x 5 (.mv (.c (.bool true))) .done) (.ret)
@[simp] def W106_5 := C.w K106_5.eq_1
def K106_6 : C := .cond 6 (.v 8) K106_5 (.skip)
@[simp] def W106_6 := C.w K106_6.eq_1
def K106_7 : C := .seq (.seq (.pl <| .e 6 3 <|
 .m 6 1 <|
 .x 7 (.lenV (.v 6)) <|
 .x 8 (.bin .eql (.v 7) (.c (.int .i64 0))) .done) K106_6) K106_4
@[simp] def W106_7 := C.w K106_7.eq_1
def B_spec_l7Phase : C := .seq (.pl <| .e 6 0 <|
 .x 4 (.mv (.c (.int .i64 0))) <|
 .x 5 (.mv (.c (.bool false))) .done) K106_7
@[simp] def WB_spec_l7Phase := C.w B_spec_l7Phase.eq_1
def R_spec_l7Phase : FIR := ⟨B_spec_l7Phase, 6, [(4, none), (5, none)]⟩
theorem IR_spec_l7Phase : cfun Tryz.prog H_spec_l7Phase Tryz.f106 = some R_spec_l7Phase := by kernel_rfl
theorem EN_spec_l7Phase : ENT Tryz.prog B_spec_l7Phase [(4, none), (5, none)] 4 6 fn_spec_l7Phase := fun hargs hw => enter Tryz.func106 rfl IR_spec_l7Phase hargs hw
def H_spec_l7Untils : Hint := ⟨[(0, false), (2, false), (3, false), (4, false)], [[1]]⟩
def K104_1 : C := .seq (.pl <| .e 4 1 <|
 .m 4 2 <|
 .m 1 4 .done) (.ret)
@[simp] def W104_1 := C.w K104_1.eq_1
def K104_2 : C := .pl <| .e 4 2 <|
 .m 4 3 <|
 .x 5 (.bin .add (.v 4) (.c (.int .i64 1))) <|
 .m 3 5 .done
@[simp] def W104_2 := C.w K104_2.eq_1
def K104_3 : Pl := .m 2 7 .done
@[simp] def W104_3 := Pl.w K104_3.eq_1
def K104_4 : C := .pl <| .e 4 4 <|
 .m 4 2 <|
 .m 5 3 <|
 .o (.psl 6 [.int .i64 0] [(0, 1, .v 5)]) <|
 .c 7 (.app 8 1 [.int .i64 0] (.o (.v 4)) (.p 1 6)) K104_3
@[simp] def W104_4 := C.w K104_4.eq_1
def K104_5 : C := .cond 4 (.v 9) K104_4 (.skip)
@[simp] def W104_5 := C.w K104_5.eq_1
def K104_6 : C := .seq (.block 1 (.seq (.pl <| .e 4 6 <|
 .m 4 0 <|
 .m 5 3 <|
 .x 6 (.ia 3 (.v 4) (.v 5)) <|
 .x 7 (.fa 0 (.v 6)) <|
 .l 8 7 <|
 .x 9 (.bin .eql (.v 8) (.c (.int .i64 7))) .done) K104_5)) K104_2
@[simp] def W104_6 := C.w K104_6.eq_1
def K104_7 : C := .cond 4 (.v 7) (.skip) (.exit 0)
@[simp] def W104_7 := C.w K104_7.eq_1
def K104_8 : C := .seq (.seq (.pl <| .e 4 4 <|
 .m 4 3 <|
 .m 5 0 <|
 .x 6 (.lenV (.v 5)) <|
 .x 7 (.bin .lss (.v 4) (.v 6)) .done) K104_7) K104_6
@[simp] def W104_8 := C.w K104_8.eq_1
def K104_9 : C := .block 0 (.loop 4 [1] K104_8)
@[simp] def W104_9 := C.w K104_9.eq_1
def K104_10 : C := .seq (.seq (.pl <| .e 4 0 <|
 .x 3 (.mv (.c (.int .i64 0))) .done) K104_9) K104_1
@[simp] def W104_10 := C.w K104_10.eq_1
def K104_11 : Pl := .m 2 4 .done
@[simp] def W104_11 := Pl.w K104_11.eq_1
def K104_12 : C := .seq (.pl <| .e 4 1 <|
 .c 4 (.bls 1 0 [.int .i64 0] []) K104_11) K104_10
@[simp] def W104_12 := C.w K104_12.eq_1
def B_spec_l7Untils : C := .seq (.pl <| .e 4 0 <|
 .x 1 (.mv (.c (.slice none 0 0))) .done) K104_12
@[simp] def WB_spec_l7Untils := C.w B_spec_l7Untils.eq_1
def R_spec_l7Untils : FIR := ⟨B_spec_l7Untils, 4, [(1, none)]⟩
theorem IR_spec_l7Untils : cfun Tryz.prog H_spec_l7Untils Tryz.f104 = some R_spec_l7Untils := by kernel_rfl
theorem EN_spec_l7Untils : ENT Tryz.prog B_spec_l7Untils [(1, none)] 1 4 fn_spec_l7Untils := fun hargs hw => enter Tryz.func104 rfl IR_spec_l7Untils hargs hw
def H_spec_l7Value : Hint := ⟨[(0, false), (1, false), (2, false), (5, true), (6, false), (8, false)], []⟩
def K105_1 : Pl := .m 4 10 .done
@[simp] def W105_1 := Pl.w K105_1.eq_1
def K105_2 : Pl := .c 10 (.call fn_spec_l6Has [.v 6, .v 9]) K105_1
@[simp] def W105_2 := Pl.w K105_2.eq_1
def K105_3 : C := .seq (.pl <| .e 6 5 <|
 .m 6 1 <|
 .m 7 0 <|
 .o (.pget (some 8) none 3 0 (some 3)) <|
 .c 9 (.call fn_spec_l5Find [.v 7, .v 8]) K105_2) (.ret)
@[simp] def W105_3 := C.w K105_3.eq_1
def K105_4 : C := .seq (.pl <| .e 6 0 <|
 .x 4 (.mv (.c (.bool true))) .done) (.ret)
@[simp] def W105_4 := C.w K105_4.eq_1
def K105_5 : Pl := .x 13 (.un .not (.v 12)) <|
 .m 4 13 .done
@[simp] def W105_5 := Pl.w K105_5.eq_1
def K105_6 : C := .seq (.pl <| .e 6 8 <|
 .m 6 0 <|
 .m 7 1 <|
 .a 8 3 <|
 .g 9 8 3 2 <|
 .x 10 (.ia 3 (.v 9) (.c (.int .i64 0))) <|
 .o (.ld (some 11) (.v 10) (some 3)) <|
 .c 12 (.call fn_spec_l7Value [.v 6, .v 7, .v 11]) K105_5) (.ret)
@[simp] def W105_6 := C.w K105_6.eq_1
def K105_7 : Pl := .x 21 (.pick (.v 13) (.v 20) (.c (.bool false))) <|
 .m 4 21 .done
@[simp] def W105_7 := Pl.w K105_7.eq_1
def K105_8 : Pl := .m 13 12 <|
 .y 13 (.px (some 14) (.mv (.v 0))) <|
 .y 13 (.px (some 15) (.mv (.v 1))) <|
 .y 13 (.als 16 none 3) <|
 .y 13 (.pget (some 17) (some 16) 3 2 none) <|
 .y 13 (.px (some 18) (.ia 3 (.v 17) (.c (.int .i64 1)))) <|
 .y 13 (.ld (some 19) (.v 18) (some 3)) <|
 .st (.act (some (.v 13, true)) (.ex (some 20) (.call fn_spec_l7Value [.v 14, .v 15, .v 19]))) K105_7
@[simp] def W105_8 := Pl.w K105_8.eq_1
def K105_9 : C := .seq (.pl <| .e 6 16 <|
 .m 6 0 <|
 .m 7 1 <|
 .a 8 3 <|
 .g 9 8 3 2 <|
 .x 10 (.ia 3 (.v 9) (.c (.int .i64 0))) <|
 .o (.ld (some 11) (.v 10) (some 3)) <|
 .c 12 (.call fn_spec_l7Value [.v 6, .v 7, .v 11]) K105_8) (.ret)
@[simp] def W105_9 := C.w K105_9.eq_1
def K105_10 : Pl := .x 21 (.pick (.v 13) (.c (.bool true)) (.v 20)) <|
 .m 4 21 .done
@[simp] def W105_10 := Pl.w K105_10.eq_1
def K105_11 : Pl := .m 13 12 <|
 .n 13 (.px (some 14) (.mv (.v 0))) <|
 .n 13 (.px (some 15) (.mv (.v 1))) <|
 .n 13 (.als 16 none 3) <|
 .n 13 (.pget (some 17) (some 16) 3 2 none) <|
 .n 13 (.px (some 18) (.ia 3 (.v 17) (.c (.int .i64 1)))) <|
 .n 13 (.ld (some 19) (.v 18) (some 3)) <|
 .st (.act (some (.v 13, false)) (.ex (some 20) (.call fn_spec_l7Value [.v 14, .v 15, .v 19]))) K105_10
@[simp] def W105_11 := Pl.w K105_11.eq_1
def K105_12 : C := .seq (.pl <| .e 6 16 <|
 .m 6 0 <|
 .m 7 1 <|
 .a 8 3 <|
 .g 9 8 3 2 <|
 .x 10 (.ia 3 (.v 9) (.c (.int .i64 0))) <|
 .o (.ld (some 11) (.v 10) (some 3)) <|
 .c 12 (.call fn_spec_l7Value [.v 6, .v 7, .v 11]) K105_11) (.ret)
@[simp] def W105_12 := C.w K105_12.eq_1
def K105_13 : C := .cond 6 (.v 7) K105_12 (.skip)
@[simp] def W105_13 := C.w K105_13.eq_1
def K105_14 : C := .seq (.pl <| .e 6 2 <|
 .x 6 (.bin .eql (.v 5) (.c (.int .i64 5))) <|
 .m 7 6 .done) K105_13
@[simp] def W105_14 := C.w K105_14.eq_1
def K105_15 : C := .cond 6 (.v 7) K105_9 K105_14
@[simp] def W105_15 := C.w K105_15.eq_1
def K105_16 : C := .seq (.pl <| .e 6 2 <|
 .x 6 (.bin .eql (.v 5) (.c (.int .i64 4))) <|
 .m 7 6 .done) K105_15
@[simp] def W105_16 := C.w K105_16.eq_1
def K105_17 : C := .cond 6 (.v 7) K105_6 K105_16
@[simp] def W105_17 := C.w K105_17.eq_1
def K105_18 : C := .seq (.pl <| .e 6 2 <|
 .x 6 (.bin .eql (.v 5) (.c (.int .i64 3))) <|
 .m 7 6 .done) K105_17
@[simp] def W105_18 := C.w K105_18.eq_1
def K105_19 : C := .cond 6 (.v 7) K105_4 K105_18
@[simp] def W105_19 := C.w K105_19.eq_1
def K105_20 : C := .block 0 (.seq (.pl <| .e 6 2 <|
 .x 6 (.bin .eql (.v 5) (.c (.int .i64 1))) <|
 .m 7 6 .done) K105_19)
@[simp] def W105_20 := C.w K105_20.eq_1
def K105_21 : C := .seq (.seq (.pl <| .e 6 1 <|
 .a 6 3 <|
 .g 5 6 3 0 .done) K105_20) K105_3
@[simp] def W105_21 := C.w K105_21.eq_1
def B_spec_l7Value : C := .seq (.pl <| .e 6 0 <|
 .o (.pnew 3 (.v 2) []) <|
 .x 4 (.mv (.c (.bool false))) .done) K105_21
@[simp] def WB_spec_l7Value := C.w B_spec_l7Value.eq_1
def R_spec_l7Value : FIR := ⟨B_spec_l7Value, 6, [(4, none)]⟩
theorem IR_spec_l7Value : cfun Tryz.prog H_spec_l7Value Tryz.f105 = some R_spec_l7Value := by kernel_rfl
theorem EN_spec_l7Value : ENT Tryz.prog B_spec_l7Value [(4, none)] 3 6 fn_spec_l7Value := fun hargs hw => enter Tryz.func105 rfl IR_spec_l7Value hargs hw
end Go.Proofs.YtglnelcmcimljaaGreat

namespace Go.Proofs.YtglnelcmcimljaaGreat
open Go
end Go.Proofs.YtglnelcmcimljaaGreat

namespace Go.Proofs.YtglnelcmcimljaaGreat
open Go
end Go.Proofs.YtglnelcmcimljaaGreat

namespace Go.Proofs.YtglnelcmcimljaaGreat
open Go
namespace Fm
def arity (k : Int) : Int := if k = 1 ∨ k = 2 then 0 else if k = 3 ∨ k = 6 ∨ k = 9 ∨ k = 10 then 1 else if k = 4 ∨ k = 5 ∨ k = 7 ∨ k = 8 then 2 else -1
structure Nd (x : Exq) : Prop where
  ar : (x.kids.length : Int) = arity x.kind
  lo : 0 ≤ x.val
  hi : x.val < 3
  ze : x.kind ≠ 2 → x.val = 0
def Shp : Nat → Exq → Prop
  | 0, _ => False
  | n + 1, x => Nd x ∧ ∀ y ∈ x.kids, Shp n y
noncomputable instance {n : Nat} {x : Exq} : Decidable (Shp n x) := Classical.propDecidable _
def Ok (x : Exq) : Prop := Shp 6 x ∧ x.nod ≤ 12
noncomputable instance {x : Exq} : Decidable (Ok x) := Classical.propDecidable _
theorem Nd.kind {x : Exq} (h : Nd x) : 1 ≤ x.kind ∧ x.kind ≤ 10 := by
  have := h.ar
  unfold arity at this
  split at this <;> (try split at this) <;> (try split at this) <;> omega
theorem arity_le {k : Int} : arity k ≤ 2 := by
  unfold arity
  split <;> (try split) <;> (try split) <;> omega
theorem arity_ge {k : Int} : -1 ≤ arity k := by
  unfold arity
  split <;> (try split) <;> (try split) <;> omega
theorem Shp.nd {n : Nat} {x : Exq} (h : Shp n x) : Nd x := by
  cases n with
  | zero => exact h.elim
  | succ n => exact h.1
theorem Shp.kid {n : Nat} {x : Exq} (h : Shp (n + 1) x) {i : Nat} (hi : i < x.kids.length) : Shp n x.kids[i] := h.2 _ (List.getElem_mem hi)
theorem Shp.le2 {n : Nat} {x : Exq} (h : Shp n x) : x.kids.length ≤ 2 := by
  have h1 := h.nd.ar
  have h2 := arity_le (k := x.kind)
  omega
theorem Shp.two {n : Nat} {x : Exq} (h : Shp n x) (hk : x.kind = 4 ∨ x.kind = 5 ∨ x.kind = 7 ∨ x.kind = 8) : x.kids.length = 2 := by
  have h1 := h.nd.ar
  unfold arity at h1
  split at h1 <;> (try split at h1) <;> (try split at h1) <;> omega
theorem Shp.one {n : Nat} {x : Exq} (h : Shp n x) (hk : x.kind = 3 ∨ x.kind = 6 ∨ x.kind = 9 ∨ x.kind = 10) : x.kids.length = 1 := by
  have h1 := h.nd.ar
  unfold arity at h1
  split at h1 <;> (try split at h1) <;> (try split at h1) <;> omega
theorem Shp.none {n : Nat} {x : Exq} (h : Shp n x) (hk : x.kind = 1 ∨ x.kind = 2) : x.kids = [] := by
  have h1 := h.nd.ar
  rw [arity, if_pos hk] at h1
  exact List.length_eq_zero_iff.1 (by omega)
theorem Shp.mono : ∀ {n : Nat} {x : Exq}, Shp n x → Shp (n + 1) x
  | 0, _, h => h.elim
  | n + 1, _, h => ⟨h.1, fun y hy => (h.2 y hy).mono⟩
theorem Shp.bnd : ∀ {n : Nat} {x : Exq}, Shp n x → x.nod < 2 ^ n
  | 0, _, h => h.elim
  | n + 1, x, h => by
    have h2 := h.le2
    rw [Exq.nod_eq]
    have h4 : Exq.nods x.kids + x.kids.length ≤ x.kids.length * 2 ^ n := by
      have key : ∀ l : List Exq, (∀ y ∈ l, y.nod < 2 ^ n) → Exq.nods l + l.length ≤ l.length * 2 ^ n := by
        intro l
        induction l with
        | nil => intro _; simp [Exq.nods]
        | cons y l ih =>
          intro hy
          have e1 := hy y (by simp)
          have e2 := ih fun z hz => hy z (by simp [hz])
          simp only [Exq.nods, List.length_cons, Nat.add_mul]
          omega
      exact key x.kids fun y hy => (h.2 y hy).bnd
    have h5 : 0 < 2 ^ n := Nat.two_pow_pos n
    have h6 : 2 ^ (n + 1) = 2 * 2 ^ n := by rw [Nat.pow_succ]; omega
    rw [h6]
    obtain h7 | h7 | h7 : x.kids.length = 0 ∨ x.kids.length = 1 ∨ x.kids.length = 2 := by omega
    all_goals (rw [h7] at h4; omega)
def tru : Exq := .mk 1 0 []
def neg (x : Exq) : Exq := .mk 3 0 [x]
def dual (k : Int) : Int := if k = 4 then 5 else if k = 5 then 4 else if k = 7 then 8 else 7
mutual
def push : Exq → Bool → Exq
  | .mk k v l, n => if k = 1 ∨ k = 2 then (if n then neg (.mk k v []) else .mk k v [])
    else if k = 3 then (pushes l (!n)).getD 0 Exq.zero
    else if k = 6 then .mk 6 0 [(pushes l n).getD 0 Exq.zero]
    else if k = 9 ∨ k = 10 then (if decide (k = 9) != n then .mk 7 0 [tru, (pushes l n).getD 0 Exq.zero] else .mk 8 0 [neg tru, (pushes l n).getD 0 Exq.zero])
    else .mk (if n then dual k else k) 0 [(pushes l n).getD 0 Exq.zero, (pushes l n).getD 1 Exq.zero]
def pushes : List Exq → Bool → List Exq
  | [], _ => []
  | x :: l, n => push x n :: pushes l n
end
theorem pushes_eq {n : Bool} : ∀ l, pushes l n = l.map fun x => push x n
  | [] => rfl
  | x :: l => by simp only [pushes, List.map_cons, pushes_eq l]
def kp (x : Exq) (n : Bool) (j : Nat) : Exq := (x.kids.map fun y => push y n).getD j Exq.zero
theorem kp_at {x : Exq} {n : Bool} {j : Nat} (hj : j < x.kids.length) : kp x n j = push x.kids[j] n := by simp [kp, hj]
theorem push_eq (x : Exq) (n : Bool) : push x n = if x.kind = 1 ∨ x.kind = 2 then (if n then neg (.mk x.kind x.val []) else .mk x.kind x.val [])
    else if x.kind = 3 then kp x (!n) 0
    else if x.kind = 6 then .mk 6 0 [kp x n 0]
    else if x.kind = 9 ∨ x.kind = 10 then (if decide (x.kind = 9) != n then .mk 7 0 [tru, kp x n 0] else .mk 8 0 [neg tru, kp x n 0])
    else .mk (if n then dual x.kind else x.kind) 0 [kp x n 0, kp x n 1] := by
  cases x with
  | mk k v l => simp only [push, pushes_eq]; rfl
noncomputable def nfR (x : Exq) : Exq := if Ok x ∧ Ok (push x false) then push x false else Exq.zero
noncomputable def fx (l : List Exq) (x : Exq) : Int := match l.findIdx? (fun y => decide (y = x)) with | some i => (i : Int) | .none => -1
theorem fx_at {xs : List Exq} {st : Exq} {i : Nat} (hi : i < xs.length) (he : xs[i] = st) (hn : ∀ (j : Nat) (hj : j < xs.length), j < i → xs[j] ≠ st) : fx xs st = i := by
  have : xs.findIdx? (fun y => decide (y = st)) = some i := by
    rw [List.findIdx?_eq_some_iff_getElem]
    exact ⟨hi, by simpa using he, fun j hj => by simpa using hn j (by omega) hj⟩
  rw [fx, this]
theorem fx_not {xs : List Exq} {st : Exq} (h : st ∉ xs) : fx xs st = -1 := by
  have : xs.findIdx? (fun y => decide (y = st)) = .none := by
    rw [List.findIdx?_eq_none_iff]
    intro y hy
    simp only [decide_eq_false_iff_not]
    rintro rfl
    exact h hy
  rw [fx, this]
theorem fx_mem {xs : List Exq} {st : Exq} (h : st ∈ xs) : ∃ (i : Nat) (hi : i < xs.length), fx xs st = i ∧ xs[i] = st := by
  obtain ⟨i, hi⟩ : ∃ i, xs.findIdx? (fun y => decide (y = st)) = some i := by
    rcases hf : xs.findIdx? (fun y => decide (y = st)) with _ | i
    · rw [List.findIdx?_eq_none_iff] at hf
      have := hf st h
      simp at this
    · exact ⟨i, rfl⟩
  have h2 := hi
  rw [List.findIdx?_eq_some_iff_getElem] at h2
  obtain ⟨h3, h4, _⟩ := h2
  exact ⟨i, h3, by rw [fx, hi], by simpa using h4⟩
theorem fx_neg {xs : List Exq} {st : Exq} : fx xs st < 0 ↔ st ∉ xs := by
  constructor
  · intro h hm
    obtain ⟨i, _, e, _⟩ := fx_mem hm
    omega
  · intro h
    rw [fx_not h]
    decide
noncomputable def ins (o : List Exq) (x : Exq) : List Exq := if x ∈ o then o else o ++ [x]
mutual
noncomputable def subs : Exq → List Exq → List Exq
  | .mk k v l, o => ins (subsL l o) (.mk k v l)
noncomputable def subsL : List Exq → List Exq → List Exq
  | [], o => o
  | x :: l, o => subsL l (subs x o)
end
theorem subsL_eq : ∀ (l : List Exq) (o : List Exq), subsL l o = l.foldl (fun o x => subs x o) o
  | [], _ => rfl
  | x :: l, o => by rw [subsL, subsL_eq l, List.foldl_cons]
theorem subs_eq (x : Exq) (o : List Exq) : subs x o = ins (x.kids.foldl (fun o x => subs x o) o) x := by
  cases x with
  | mk k v l => rw [subs, subsL_eq]; rfl
theorem ins_len {o : List Exq} {x : Exq} : (ins o x).length ≤ o.length + 1 := by unfold ins; split <;> simp
theorem subsL_len : ∀ (l : List Exq), (∀ x ∈ l, ∀ o, (subs x o).length ≤ o.length + x.nod) → ∀ o, (l.foldl (fun o x => subs x o) o).length ≤ o.length + Exq.nods l
  | [], _, o => by simp [Exq.nods]
  | x :: l, h, o => by
    have h1 := h x (by simp) o
    have h2 := subsL_len l (fun y hy => h y (by simp [hy])) (subs x o)
    simp only [List.foldl_cons, Exq.nods]
    omega
theorem subs_len : ∀ (x : Exq) (o : List Exq), (subs x o).length ≤ o.length + x.nod := by
  have key : ∀ (n : Nat) (x : Exq), x.nod ≤ n → ∀ o, (subs x o).length ≤ o.length + x.nod := by
    intro n
    induction n with
    | zero => intro x h; rw [Exq.nod_eq] at h; omega
    | succ n ih =>
      intro x hx o
      rw [Exq.nod_eq] at hx ⊢
      rw [subs_eq]
      have h1 := subsL_len x.kids (fun y hy => ih y (by
        obtain ⟨i, hi, rfl⟩ := List.mem_iff_getElem.1 hy
        have e1 := Exq.nods_take hi
        have e2 := Exq.nods_le x.kids (i + 1)
        omega)) o
      have h2 := ins_len (o := x.kids.foldl (fun o x => subs x o) o) (x := x)
      omega
  exact fun x o => key x.nod x (Nat.le_refl _) o
theorem subs_all {P : Exq → Prop} : ∀ (n : Nat) (x : Exq), (∀ y, P y → ∀ z ∈ y.kids, P z) → x.nod ≤ n → P x → ∀ (o : List Exq), (∀ y ∈ o, P y) → ∀ y ∈ subs x o, P y := by
  intro n
  induction n with
  | zero => intro x _ h; rw [Exq.nod_eq] at h; omega
  | succ n ih =>
    intro x hP hx hPx o ho
    rw [Exq.nod_eq] at hx
    rw [subs_eq]
    have hl : ∀ (l : List Exq), (∀ z ∈ l, P z ∧ z.nod ≤ n) → ∀ (o : List Exq), (∀ y ∈ o, P y) → ∀ y ∈ l.foldl (fun o x => subs x o) o, P y := by
      intro l
      induction l with
      | nil => intro _ o ho; exact ho
      | cons z l ihl =>
        intro hz o ho
        rw [List.foldl_cons]
        exact ihl (fun w hw => hz w (by simp [hw])) _ (ih z hP (hz z (by simp)).2 (hz z (by simp)).1 o ho)
    have h1 := hl x.kids (fun z hz => ⟨hP x hPx z hz, by
      obtain ⟨i, hi, rfl⟩ := List.mem_iff_getElem.1 hz
      have e1 := Exq.nods_take hi
      have e2 := Exq.nods_le x.kids (i + 1)
      omega⟩) o ho
    intro y hy
    unfold ins at hy
    split at hy
    · exact h1 y hy
    · rcases List.mem_append.1 hy with hy | hy
      · exact h1 y hy
      · simp at hy; subst hy; exact hPx
def bas (x : Exq) : Bool := decide (x.kind = 2 ∨ x.kind = 6 ∨ x.kind = 7 ∨ x.kind = 8)
noncomputable def basics (x : Exq) : List Exq := (subs (push x false) []).filter bas
def bOk (x : Exq) : Prop := (Ok x ∧ Ok (push x false)) ∧ (basics x).length ≤ 5
noncomputable instance {x : Exq} : Decidable (bOk x) := Classical.propDecidable _
noncomputable def basR (x : Exq) : List Exq := if bOk x then basics x else []
theorem Shp.kids6 {x : Exq} (h : ∃ n, n ≤ 6 ∧ Shp n x) : ∀ y ∈ x.kids, ∃ n, n ≤ 6 ∧ Shp n y := by
  obtain ⟨n, hn, hs⟩ := h
  cases n with
  | zero => exact hs.elim
  | succ n => exact fun y hy => ⟨n, by omega, hs.2 y hy⟩
theorem Shp.up {n m : Nat} {x : Exq} (h : Shp n x) (hm : n ≤ m) : Shp m x := by
  induction m with
  | zero => have : n = 0 := by omega
            subst this; exact h
  | succ m ih =>
    by_cases e : n = m + 1
    · subst e; exact h
    · exact (ih (by omega)).mono
theorem basics_ok {x : Exq} (h : bOk x) : ∀ y ∈ basics x, Shp 6 y ∧ bas y = true := by
  intro y hy
  obtain ⟨h1, h2⟩ := List.mem_filter.1 hy
  obtain ⟨n, hn, h3⟩ := subs_all (P := fun y => ∃ n, n ≤ 6 ∧ Shp n y) _ (push x false) (fun y hy => Shp.kids6 hy) (Nat.le_refl _) ⟨6, Nat.le_refl _, h.1.2.1⟩ [] (fun y hy => by simp at hy) y h1
  exact ⟨h3.up hn, h2⟩
end Fm
end Go.Proofs.YtglnelcmcimljaaGreat

namespace Go.Proofs.YtglnelcmcimljaaGreat
open Go
theorem c_l5Arity {h : Heap} {n : Int} : CallE Tryz.prog fn_spec_l5Arity [.int .i64 n] h (fun u h' => h' = h ∧ u = .int .i64 (Fm.arity n)) := by
  refine CallE.gen fun k hk => EN_spec_l5Arity rfl ?_
  by_cases c1 : n = 1
  · simp -implicitDefEqProofs (disch:=first|omega|(simp only[LnZ];omega))[wrap64, c1]
    exact RetK.keep (hk _ _ ⟨rfl, by simp [Fm.arity, c1]⟩)
  by_cases c2 : n = 2
  · simp -implicitDefEqProofs (disch:=first|omega|(simp only[LnZ];omega))[wrap64, c1, c2]
    exact RetK.keep (hk _ _ ⟨rfl, by simp [Fm.arity, c2]⟩)
  by_cases c3 : n = 3
  · simp -implicitDefEqProofs (disch:=first|omega|(simp only[LnZ];omega))[wrap64, c1, c2, c3]
    exact RetK.keep (hk _ _ ⟨rfl, by simp [Fm.arity, c3]⟩)
  by_cases c6 : n = 6
  · simp -implicitDefEqProofs (disch:=first|omega|(simp only[LnZ];omega))[wrap64, c1, c2, c3, c6]
    exact RetK.keep (hk _ _ ⟨rfl, by simp [Fm.arity, c6]⟩)
  by_cases c9 : n = 9
  · simp -implicitDefEqProofs (disch:=first|omega|(simp only[LnZ];omega))[wrap64, c1, c2, c3, c6, c9]
    exact RetK.keep (hk _ _ ⟨rfl, by simp [Fm.arity, c9]⟩)
  by_cases c10 : n = 10
  · simp -implicitDefEqProofs (disch:=first|omega|(simp only[LnZ];omega))[wrap64, c1, c2, c3, c6, c9, c10]
    exact RetK.keep (hk _ _ ⟨rfl, by simp [Fm.arity, c10]⟩)
  by_cases c4 : n = 4
  · simp -implicitDefEqProofs (disch:=first|omega|(simp only[LnZ];omega))[wrap64, c1, c2, c3, c6, c9, c10, c4]
    exact RetK.keep (hk _ _ ⟨rfl, by simp [Fm.arity, c4]⟩)
  by_cases c5 : n = 5
  · simp -implicitDefEqProofs (disch:=first|omega|(simp only[LnZ];omega))[wrap64, c1, c2, c3, c6, c9, c10, c4, c5]
    exact RetK.keep (hk _ _ ⟨rfl, by simp [Fm.arity, c5]⟩)
  by_cases c7 : n = 7
  · simp -implicitDefEqProofs (disch:=first|omega|(simp only[LnZ];omega))[wrap64, c1, c2, c3, c6, c9, c10, c4, c5, c7]
    exact RetK.keep (hk _ _ ⟨rfl, by simp [Fm.arity, c7]⟩)
  by_cases c8 : n = 8
  · simp -implicitDefEqProofs (disch:=first|omega|(simp only[LnZ];omega))[wrap64, c1, c2, c3, c6, c9, c10, c4, c5, c7, c8]
    exact RetK.keep (hk _ _ ⟨rfl, by simp [Fm.arity, c8]⟩)
  simp -implicitDefEqProofs (disch:=first|omega|(simp only[LnZ];omega))[wrap64, c1, c2, c3, c4, c5, c6, c7, c8, c9, c10]
  exact RetK.keep (hk _ _ ⟨rfl, by simp [Fm.arity, c1, c2, c3, c4, c5, c6, c7, c8, c9, c10]⟩)
theorem c_l5Shape : ∀ (n : Nat) {x : Exq} {h : Heap} {v : Value} {dv : Int}, dv = n → n ≤ 6 → Rep h v x → CallE Tryz.prog fn_spec_l5Shape [v, .int .i64 dv] h (fun u h' => h' = h ∧ u = .bool (decide (Fm.Shp n x))) := by
  intro n
  induction n with
  | zero =>
    intro x h v dv hd _ R
    have hd : dv = 0 := hd
    obtain ⟨w, rfl, k1, k2, R1⟩ := Rep_Exq.1 R
    refine CallE.gen fun k hk => EN_spec_l5Shape rfl ?_
    simp -implicitDefEqProofs (disch:=first|omega|(simp only[LnZ];omega))[wrap64, hd]
    exact RetK.keep (hk _ _ ⟨rfl, by rw [decide_eq_false (fun hh : Fm.Shp 0 x => hh)]⟩)
  | succ n ih =>
    intro x h v dv hd hd6 R
    obtain ⟨w, rfl, k1, k2, R1⟩ := Rep_Exq.1 R
    have hL := R1.lt
    obtain ⟨ln, hln⟩ : ∃ ln : Int, ln = x.kids.length := ⟨_, rfl⟩
    have hlen := R1.len
    rw [← hln] at hlen
    refine CallE.gen fun k hk => EN_spec_l5Shape rfl ?_
    have hno : ¬ Fm.Shp (n + 1) x → k (.bool false) h := fun hh => hk _ _ ⟨rfl, by rw [decide_eq_false hh]⟩
    simp -implicitDefEqProofs (disch:=first|omega|(simp only[LnZ];omega))[wrap64, hlen, show ¬ dv < 1 by omega]
    refine c_l5Arity.go ?_
    rintro _ h ⟨rfl, rfl⟩
    by_cases q1 : ln = Fm.arity x.kind
    case neg => simp -implicitDefEqProofs (disch:=first|omega|(simp only[LnZ];omega))[wrap64, q1]; exact RetK.keep (hno fun hh => q1 (by rw [hln]; exact hh.1.ar))
    by_cases q2 : x.val < 0
    · simp -implicitDefEqProofs (disch:=first|omega|(simp only[LnZ];omega))[wrap64, q1, q2]; exact RetK.keep (hno fun hh => by have := hh.1.lo; omega)
    by_cases q3 : 3 ≤ x.val
    · simp -implicitDefEqProofs (disch:=first|omega|(simp only[LnZ];omega))[wrap64, q1, q2, q3]; exact RetK.keep (hno fun hh => by have := hh.1.hi; omega)
    have hz : (x.kind = 2) ∨ (x.kind ≠ 2 ∧ x.val ≠ 0) ∨ (x.kind ≠ 2 ∧ x.val = 0) := by omega
    rcases hz with c1 | ⟨c1, c2⟩ | ⟨c1, c2⟩
    case inr.inl => simp -implicitDefEqProofs (disch:=first|omega|(simp only[LnZ];omega))[wrap64, q1, q2, q3, c1, c2]; exact RetK.keep (hno fun hh => c2 (hh.1.ze c1))
    · simp -implicitDefEqProofs (disch:=first|omega|(simp only[LnZ];omega))[wrap64, q1, q2, q3, c1]
      refine wp_count x.kids.length (fun i e h' => h' = h ∧ (∃ kd vl : Int, kd = x.kind ∧ vl = x.val ∧ e = [none, some (.int .i64 dv), some (.agg #[.int .i64 kd, .int .i64 vl, w]), none, some (.int .i64 i)]) ∧ ∀ y ∈ x.kids.take i, Fm.Shp n y) ⟨rfl, ⟨_, _, rfl, rfl, by simp [c1]⟩, by simp⟩ ?_
      rintro J i _ _ hJ hi ⟨rfl, ⟨kd, vl, hkd, hvl, rfl⟩, hall⟩
      simp -implicitDefEqProofs (disch:=first|omega|(simp only[LnZ];omega))[wrap64, R1.len]
      refine IteW.mk (fun hlt => ?_) (fun hge => ?_)
      · have hlx : i < x.kids.length := by omega
        obtain ⟨u, hu, Ru⟩ := R1.ld hlx
        change hload _ (some (elp 3 w i)) (some 3) = some u at hu
        simp -implicitDefEqProofs (disch:=first|omega|(simp only[LnZ];omega))[wrap64, R1.X (n := 3) rfl, hu]
        refine (ih (dv := dv - 1) (by omega) (by omega) Ru).go ?_
        rintro _ _ ⟨rfl, rfl⟩
        by_cases q4 : Fm.Shp n x.kids[i]
        case neg => simp -implicitDefEqProofs (disch:=first|omega|(simp only[LnZ];omega))[wrap64, q4]; exact RetK.keep (hno fun hh => q4 (hh.kid hlx))
        simp -implicitDefEqProofs (disch:=first|omega|(simp only[LnZ];omega))[wrap64, q4]
        refine hJ _ _ hlx ⟨rfl, ⟨kd, vl, hkd, hvl, by simp⟩, fun y hy => ?_⟩
        rw [List.take_add_one, List.getElem?_eq_getElem hlx] at hy
        rcases List.mem_append.1 hy with hy | hy
        · exact hall y hy
        · simp at hy; subst hy; exact q4
      · simp -implicitDefEqProofs (disch:=first|omega|(simp only[LnZ];omega))[wrap64]
        rw [List.take_of_length_le (by omega)] at hall
        refine RetK.keep (hk _ _ ⟨rfl, ?_⟩)
        rw [decide_eq_true (show Fm.Shp (n + 1) x from ⟨⟨by omega, by omega, by omega, by omega⟩, hall⟩)]
    · simp -implicitDefEqProofs (disch:=first|omega|(simp only[LnZ];omega))[wrap64, q1, q2, q3, c1, c2]
      refine wp_count x.kids.length (fun i e h' => h' = h ∧ (∃ kd vl : Int, kd = x.kind ∧ vl = x.val ∧ e = [none, some (.int .i64 dv), some (.agg #[.int .i64 kd, .int .i64 vl, w]), none, some (.int .i64 i)]) ∧ ∀ y ∈ x.kids.take i, Fm.Shp n y) ⟨rfl, ⟨_, _, rfl, rfl, by simp [c1, c2]⟩, by simp⟩ ?_
      rintro J i _ _ hJ hi ⟨rfl, ⟨kd, vl, hkd, hvl, rfl⟩, hall⟩
      simp -implicitDefEqProofs (disch:=first|omega|(simp only[LnZ];omega))[wrap64, R1.len]
      refine IteW.mk (fun hlt => ?_) (fun hge => ?_)
      · have hlx : i < x.kids.length := by omega
        obtain ⟨u, hu, Ru⟩ := R1.ld hlx
        change hload _ (some (elp 3 w i)) (some 3) = some u at hu
        simp -implicitDefEqProofs (disch:=first|omega|(simp only[LnZ];omega))[wrap64, R1.X (n := 3) rfl, hu]
        refine (ih (dv := dv - 1) (by omega) (by omega) Ru).go ?_
        rintro _ _ ⟨rfl, rfl⟩
        by_cases q4 : Fm.Shp n x.kids[i]
        case neg => simp -implicitDefEqProofs (disch:=first|omega|(simp only[LnZ];omega))[wrap64, q4]; exact RetK.keep (hno fun hh => q4 (hh.kid hlx))
        simp -implicitDefEqProofs (disch:=first|omega|(simp only[LnZ];omega))[wrap64, q4]
        refine hJ _ _ hlx ⟨rfl, ⟨kd, vl, hkd, hvl, by simp⟩, fun y hy => ?_⟩
        rw [List.take_add_one, List.getElem?_eq_getElem hlx] at hy
        rcases List.mem_append.1 hy with hy | hy
        · exact hall y hy
        · simp at hy; subst hy; exact q4
      · simp -implicitDefEqProofs (disch:=first|omega|(simp only[LnZ];omega))[wrap64]
        rw [List.take_of_length_le (by omega)] at hall
        refine RetK.keep (hk _ _ ⟨rfl, ?_⟩)
        rw [decide_eq_true (show Fm.Shp (n + 1) x from ⟨⟨by omega, by omega, by omega, by omega⟩, hall⟩)]
theorem c_l5Count : ∀ (n : Nat) {x : Exq} {h : Heap} {v : Value} {dv : Int}, dv = n → n ≤ 6 → Fm.Shp n x → Rep h v x → CallE Tryz.prog fn_spec_l5Count [v, .int .i64 dv] h (fun u h' => h' = h ∧ u = .int .i64 x.nod) := by
  intro n
  induction n with
  | zero => intro x h v dv hd _ hs; exact hs.elim
  | succ n ih =>
    intro x h v dv hd hd6 hs R
    obtain ⟨w, rfl, k1, k2, R1⟩ := Rep_Exq.1 R
    have hL := R1.lt
    have hbnd := hs.bnd
    have hpow : 2 ^ (n + 1) ≤ 2 ^ 6 := Nat.pow_le_pow_right (by decide) hd6
    have hnod := x.nod_eq
    refine CallE.gen fun k hk => EN_spec_l5Count rfl ?_
    simp -implicitDefEqProofs (disch:=first|omega|(simp only[LnZ];omega))[wrap64]
    refine wp_count x.kids.length (fun i e h' => h' = h ∧ e = [none, some (.int .i64 dv), some (.agg #[.int .i64 x.kind, .int .i64 x.val, w]), none, some (.int .i64 ((1 + Exq.nods (x.kids.take i) : Nat) : Int)), some (.int .i64 i)]) ⟨rfl, by simp [Exq.nods]⟩ ?_
    rintro J i _ _ hJ hi ⟨rfl, rfl⟩
    by_cases hlt : i < x.kids.length
    · obtain ⟨u, hu, Ru⟩ := R1.ld hlt
      change hload _ (some (elp 3 w i)) (some 3) = some u at hu
      have hn1 := Exq.nods_take hlt
      have hn2 := Exq.nods_le x.kids (i + 1)
      simp -implicitDefEqProofs (disch:=first|omega|(simp only[LnZ];omega))[wrap64, hlt, R1.len, R1.X (n := 3) rfl, hu, show 0 < dv by omega]
      refine (ih (dv := dv - 1) (by omega) (by omega) (hs.kid hlt) Ru).go ?_
      rintro _ _ ⟨rfl, rfl⟩
      simp -implicitDefEqProofs (disch:=first|omega|(simp only[LnZ];omega))[wrap64]
      refine hJ _ _ hlt ⟨rfl, ?_⟩
      simp [hn1]; omega
    · simp -implicitDefEqProofs (disch:=first|omega|(simp only[LnZ];omega))[wrap64, hlt, R1.len]
      rw [List.take_of_length_le (by omega)]
      refine RetK.keep (hk _ _ ⟨rfl, ?_⟩)
      rw [hnod]; push_cast; rfl
theorem c_spec_FormulaValid {h : Heap} {v : Value} {x : Exq} (R : Rep h v x) : CallE Tryz.prog fn_spec_FormulaValid [v] h (fun u h' => h' = h ∧ u = .bool (decide (Fm.Ok x))) := by
  have F := R.aExq
  refine CallE.gen fun k hk => EN_spec_FormulaValid rfl ?_
  simp -implicitDefEqProofs (disch:=first|omega|(simp only[LnZ];omega))[wrap64, F]
  refine (c_l5Shape 6 (dv := 6) rfl (by omega) R).go ?_
  rintro _ _ ⟨rfl, rfl⟩
  by_cases q1 : Fm.Shp 6 x
  case neg => simp -implicitDefEqProofs (disch:=first|omega|(simp only[LnZ];omega))[wrap64, q1]; exact RetK.keep (hk _ _ ⟨rfl, by rw [decide_eq_false (fun hh : Fm.Ok x => q1 hh.1)]⟩)
  simp -implicitDefEqProofs (disch:=first|omega|(simp only[LnZ];omega))[wrap64, q1, F]
  refine (c_l5Count 6 (dv := 6) rfl (by omega) q1 R).go ?_
  rintro _ _ ⟨rfl, rfl⟩
  simp -implicitDefEqProofs (disch:=first|omega|(simp only[LnZ];omega))[wrap64]
  refine RetK.keep (hk _ _ ⟨rfl, ?_⟩)
  congr 1
  rw [Bool.eq_iff_iff]
  simp [Fm.Ok, q1]
  omega
end Go.Proofs.YtglnelcmcimljaaGreat

namespace Go.Proofs.YtglnelcmcimljaaGreat
open Go
theorem c_spec_FormulaSame : ∀ (x : Exq) {h : Heap} {a b : Value} {y : Exq}, Rep h a x → Rep h b y → CallE Tryz.prog fn_spec_FormulaSame [a, b] h (fun u h' => h' = h ∧ u = .bool (decide (x = y))) := by
  refine Exq.ind fun x ih h a b y Ra Rb => ?_
  obtain ⟨w, rfl, k1, k2, R1⟩ := Rep_Exq.1 Ra
  obtain ⟨w2, rfl, k3, k4, R2⟩ := Rep_Exq.1 Rb
  have hL := R1.lt
  refine CallE.gen fun k hk => EN_spec_FormulaSame rfl ?_
  by_cases h1 : x.kind = y.kind
  case neg =>
    simp -implicitDefEqProofs (disch:=first|omega|(simp only[LnZ];omega))[wrap64, h1]
    exact RetK.keep (hk _ _ ⟨rfl, by simp [Exq.ext_iff', h1]⟩)
  by_cases h2 : x.val = y.val
  case neg =>
    simp -implicitDefEqProofs (disch:=first|omega|(simp only[LnZ];omega))[wrap64, h1, h2]
    exact RetK.keep (hk _ _ ⟨rfl, by simp [Exq.ext_iff', h2]⟩)
  by_cases h3 : (x.kids.length : Int) = y.kids.length
  case neg =>
    simp -implicitDefEqProofs (disch:=first|omega|(simp only[LnZ];omega))[wrap64, h1, h2, R1.len, R2.len, h3]
    exact RetK.keep (hk _ _ ⟨rfl, by rw [eq_comm, Value.bool.injEq, decide_eq_false_iff_not]; intro e; rw [e] at h3; exact h3 rfl⟩)
  simp -implicitDefEqProofs (disch:=first|omega|(simp only[LnZ];omega))[wrap64, h1, h2, R1.len, R2.len, h3]
  refine wp_count x.kids.length (fun i e h' => h' = h ∧ e = [none, none, some (.agg #[.int .i64 y.kind, .int .i64 y.val, w]), some (.agg #[.int .i64 y.kind, .int .i64 y.val, w2]), none, some (.int .i64 i)] ∧ x.kids.take i = y.kids.take i) ⟨rfl, by simp [h1, h2], rfl⟩ ?_
  rintro J i _ _ hJ hi ⟨rfl, rfl, hq⟩
  simp -implicitDefEqProofs (disch:=first|omega|(simp only[LnZ];omega))[wrap64, R1.len]
  refine IteW.mk (fun hlt => ?_) (fun hge => ?_)
  · have hlx : i < x.kids.length := by omega
    have hly : i < y.kids.length := by omega
    obtain ⟨u, hu, Ru⟩ := R1.ld hlx
    obtain ⟨t, ht, Rt⟩ := R2.ld hly
    change hload _ (some (elp 3 w i)) (some 3) = some u at hu
    change hload _ (some (elp 3 w2 i)) (some 3) = some t at ht
    simp -implicitDefEqProofs (disch:=first|omega|(simp only[LnZ];omega))[wrap64, R1.X (n := 3) rfl, R2.X (n := 3) rfl, hu, ht, Ru.aExq, Rt.aExq]
    refine (ih _ (List.getElem_mem hlx) Ru Rt).go ?_
    rintro _ _ ⟨rfl, rfl⟩
    by_cases he : x.kids[i] = y.kids[i]
    · simp -implicitDefEqProofs (disch:=first|omega|(simp only[LnZ];omega))[wrap64, he]
      exact hJ _ _ hlx ⟨rfl, by simp, take_step hq hlx hly he⟩
    · simp -implicitDefEqProofs (disch:=first|omega|(simp only[LnZ];omega))[wrap64, he]
      exact RetK.keep (hk _ _ ⟨rfl, by rw [eq_comm, Value.bool.injEq, decide_eq_false_iff_not]; intro e; subst e; exact he rfl⟩)
  · simp -implicitDefEqProofs (disch:=first|omega|(simp only[LnZ];omega))[wrap64]
    rw [List.take_of_length_le (by omega), List.take_of_length_le (by omega)] at hq
    exact RetK.keep (hk _ _ ⟨rfl, by simp [Exq.ext_iff', h1, h2, hq]⟩)
theorem c_l5Find {h : Heap} {v w : Value} {xs : List Exq} {x : Exq} (R : Rep h v xs) (Rx : Rep h w x) : CallE Tryz.prog fn_spec_l5Find [v, w] h (fun u h' => h' = h ∧ u = .int .i64 (Fm.fx xs x)) := by
  have hL := R.lt
  have FX := Rx.aExq
  refine CallE.gen fun k hk => EN_spec_l5Find rfl ?_
  simp -implicitDefEqProofs (disch:=first|omega|(simp only[LnZ];omega))[wrap64, FX]
  refine wp_count xs.length (fun i e h' => e = [some v, none, some w, none, some (.int .i64 i)] ∧ h' = h ∧ ∀ (j : Nat) (hj : j < xs.length), j < i → xs[j] ≠ x) ⟨by simp, rfl, fun j _ hj => absurd hj (Nat.not_lt_zero j)⟩ ?_
  rintro J i _ h hJ hi ⟨rfl, rfl, hn⟩
  simp -implicitDefEqProofs (disch:=first|omega|(simp only[LnZ];omega))[wrap64, R.len]
  refine IteW.mk (fun hlt => ?_) (fun hge => ?_)
  · have hlx : i < xs.length := by omega
    obtain ⟨u, hu, Ru⟩ := R.ld hlx
    change hload _ (some (elp 3 v i)) (some 3) = some u at hu
    simp -implicitDefEqProofs (disch:=first|omega|(simp only[LnZ];omega))[wrap64, R.X (n := 3) rfl, hu, FX, Ru.aExq]
    refine (c_spec_FormulaSame _ Ru Rx).go ?_
    rintro _ h ⟨rfl, rfl⟩
    by_cases e : xs[i] = x
    · simp -implicitDefEqProofs (disch:=first|omega|(simp only[LnZ];omega))[wrap64, e]
      exact RetK.keep (hk _ _ ⟨rfl, by rw [Fm.fx_at hlx e hn]⟩)
    · simp -implicitDefEqProofs (disch:=first|omega|(simp only[LnZ];omega))[wrap64, e]
      refine hJ _ _ hlx ⟨by simp, rfl, fun j hj hji => ?_⟩
      by_cases hji2 : j = i
      · subst hji2; exact e
      · exact hn j hj (by omega)
  · simp -implicitDefEqProofs (disch:=first|omega|(simp only[LnZ];omega))[wrap64]
    refine RetK.keep (hk _ _ ⟨rfl, ?_⟩)
    rw [Fm.fx_not]
    intro hm
    obtain ⟨j, hj, h1⟩ := List.mem_iff_getElem.1 hm
    exact hn j hj (by omega) h1
theorem nod_kid {x : Exq} {i : Nat} (hi : i < x.kids.length) : x.kids[i].nod + 1 ≤ x.nod := by
  have e1 := Exq.nods_take hi
  have e2 := Exq.nods_le x.kids (i + 1)
  rw [Exq.nod_eq x]
  omega
theorem nods_len : ∀ l : List Exq, l.length ≤ Exq.nods l
  | [] => by simp
  | x :: l => by
    have := nods_len l
    have := x.nod_eq
    simp only [List.length_cons, Exq.nods]
    omega
theorem c_l5Copy : ∀ (x : Exq) {h : Heap} {v : Value}, x.nod ≤ 1048576 → Rep h v x → CallE Tryz.prog fn_spec_l5Copy [v] h (fun u h' => HS h [ow u x] h') := by
  refine Exq.ind fun x ih h v hs R => ?_
  obtain ⟨w, rfl, k1, k2, R1⟩ := Rep_Exq.1 R
  have hL := R1.lt
  have hkl := nods_len x.kids
  have hne := x.nod_eq
  refine CallE.gen fun k hk => EN_spec_l5Copy rfl ?_
  simp -implicitDefEqProofs (disch:=first|omega|(simp only[LnZ];omega))[wrap64, setC]
  refine wp_count x.kids.length (fun i e h' => ∃ o : Value, e = [none, some (.agg #[.int .i64 x.kind, .int .i64 x.val, w]), some (.agg #[.int .i64 0, .int .i64 0, .slice none 0 0]), some (.agg #[.int .i64 x.kind, .int .i64 x.val, o]), some (.int .i64 i)] ∧ HS h [ow o (x.kids.take i)] h') ⟨.slice none 0 0, by simp, by simpa using HS.init.nil_ow (α := Exq)⟩ ?_
  rintro J i _ h2 hJ hi ⟨o, rfl, H⟩
  simp -implicitDefEqProofs (disch:=first|omega|(simp only[LnZ];omega))[wrap64, R1.len]
  refine IteW.mk (fun hlt => ?_) (fun hge => ?_)
  · have hlx : i < x.kids.length := by omega
    have hnk := nod_kid hlx
    obtain ⟨u, hu, Ru⟩ := R1.ld hlx
    have hu2 := hload_le H.base hu
    change hload _ (some (elp 3 w i)) (some 3) = some u at hu2
    simp -implicitDefEqProofs (disch:=first|omega|(simp only[LnZ];omega))[wrap64, R1.X (n := 3) rfl, hu2]
    refine (ih _ (List.getElem_mem hlx) (by omega) (Ru.on H)).go ?_
    intro y h3 G
    have H := G.app H
    have FG := G.rep.aExq
    obtain ⟨y1, rfl, _, _, _⟩ := G.unExq
    simp -implicitDefEqProofs (disch:=first|omega|(simp only[LnZ];omega))[wrap64, FG, setC]
    refine HS.appO (bytes := 40) H rfl rfl rfl rfl rfl (by simp; omega) (by simp; omega) fun o' h4 H => ?_
    simp -implicitDefEqProofs (disch:=first|omega|(simp only[LnZ];omega))[wrap64, H.rep.cells, H.rep.one, setC]
    refine hJ _ _ hlx ⟨o', by simp, ?_⟩
    rw [List.take_add_one, List.getElem?_eq_getElem hlx]
    exact H
  · simp -implicitDefEqProofs (disch:=first|omega|(simp only[LnZ];omega))[wrap64, H.rep.one, setC]
    rw [List.take_of_length_le (by omega)] at H
    exact RetK.keep (hk _ _ (H.mkExq k1 k2))
theorem c_l5Subs : ∀ (x : Exq) {g h : Heap} {Γ : List HP} {v o : Value} {out : List Exq}, out.length + x.nod ≤ 1048576 → Rep g v x → HS g (ow o out :: Γ) h →
    CallE Tryz.prog fn_spec_l5Subs [o, v] h (fun u h' => HS g (ow u (Fm.subs x out) :: Γ) h') := by
  refine Exq.ind fun x ih g h Γ v o out hs R H => ?_
  have R0 := R
  obtain ⟨w, rfl, k1, k2, R1⟩ := Rep_Exq.1 R
  have hL := R1.lt
  have hkl := nods_len x.kids
  have hne := x.nod_eq
  have hse := Fm.subs_eq x out
  refine CallE.gen fun k hk => EN_spec_l5Subs rfl ?_
  simp -implicitDefEqProofs (disch:=first|omega|(simp only[LnZ];omega))[wrap64]
  refine wp_count x.kids.length (fun i e h' => ∃ o : Value, e = [some o, none, some (.agg #[.int .i64 x.kind, .int .i64 x.val, w]), none, some (.int .i64 i)] ∧ HS g (ow o ((x.kids.take i).foldl (fun o x => Fm.subs x o) out) :: Γ) h') ⟨o, by simp, by simpa using H⟩ ?_
  clear H
  rintro J i _ h2 hJ hi ⟨o, rfl, H⟩
  simp -implicitDefEqProofs (disch:=first|omega|(simp only[LnZ];omega))[wrap64, R1.len]
  refine IteW.mk (fun hlt => ?_) (fun hge => ?_)
  · have hlx : i < x.kids.length := by omega
    have hnk := Exq.nods_take hlx
    have hnl := Exq.nods_le x.kids (i + 1)
    have hfl := Fm.subsL_len (x.kids.take i) (fun y _ o => Fm.subs_len y o) out
    have hft := foldl_tk (f := fun o x => Fm.subs x o) (b := out) hlx
    generalize (x.kids.take i).foldl (fun o x => Fm.subs x o) out = D at *
    obtain ⟨u, hu, Ru⟩ := R1.ld hlx
    have hu2 := hload_le H.base hu
    change hload _ (some (elp 3 w i)) (some 3) = some u at hu2
    simp -implicitDefEqProofs (disch:=first|omega|(simp only[LnZ];omega))[wrap64, R1.X (n := 3) rfl, hu2]
    refine (ih _ (List.getElem_mem hlx) (by omega) Ru H).go ?_
    intro o' h3 H
    simp -implicitDefEqProofs (disch:=first|omega|(simp only[LnZ];omega))[wrap64]
    exact hJ _ _ hlx ⟨o', by simp, by rw [hft]; exact H⟩
  have hfl := Fm.subsL_len x.kids (fun y _ o => Fm.subs_len y o) out
  rw [List.take_of_length_le (by omega)] at H
  generalize x.kids.foldl (fun o x => Fm.subs x o) out = D at *
  have FX := R0.aExq
  simp -implicitDefEqProofs (disch:=first|omega|(simp only[LnZ];omega))[wrap64, FX]
  refine (c_l5Find H.rep (R0.on H)).go ?_
  rintro _ h3 ⟨rfl, rfl⟩
  rw [hse] at hk
  by_cases hm : x ∈ D
  · have hf : ¬ Fm.fx D x < 0 := fun e => Fm.fx_neg.1 e hm
    simp -implicitDefEqProofs (disch:=first|omega|(simp only[LnZ];omega))[wrap64, hf]
    exact RetK.keep (hk _ _ (by rw [Fm.ins, if_pos hm]; exact H))
  · have hf := Fm.fx_neg.2 hm
    simp -implicitDefEqProofs (disch:=first|omega|(simp only[LnZ];omega))[wrap64, hf, FX]
    refine (c_l5Copy x (by omega) (R0.on H)).go ?_
    intro y h4 G
    have H := G.app H
    have FG := G.rep.aExq
    obtain ⟨y1, rfl, _, _, _⟩ := G.unExq
    simp -implicitDefEqProofs (disch:=first|omega|(simp only[LnZ];omega))[wrap64, FG, setC]
    refine HS.appO (bytes := 40) H rfl rfl rfl rfl rfl (by omega) (by omega) fun o' h5 H => ?_
    simp -implicitDefEqProofs (disch:=first|omega|(simp only[LnZ];omega))[wrap64]
    exact RetK.keep (hk _ _ (by rw [Fm.ins, if_neg hm]; exact H))
end Go.Proofs.YtglnelcmcimljaaGreat

namespace Go.Proofs.YtglnelcmcimljaaGreat
open Go
theorem c_l5True {h : Heap} : CallE Tryz.prog fn_spec_l5True [] h (fun u h' => h' = h ∧ u = .agg #[.int .i64 1, .int .i64 0, .slice none 0 0]) := by
  refine CallE.gen fun k hk => EN_spec_l5True rfl ?_
  simp -implicitDefEqProofs (disch:=first|omega|(simp only[LnZ];omega))[wrap64, setC]
  exact RetK.keep (hk _ _ ⟨rfl, rfl⟩)
theorem HS.leaf {g h : Heap} {Γ : List HP} (H : HS g Γ h) {k v : Int} (h1 : I64 k) (h2 : I64 v) : HS g (ow (.agg #[.int .i64 k, .int .i64 v, .slice none 0 0]) (Exq.mk k v []) :: Γ) h := HS.mkExq' H.nil_ow h1 h2
theorem c_l5Not {g h : Heap} {Γ : List HP} {v : Value} {x : Exq} (H : HS g (ow v x :: Γ) h) : CallE Tryz.prog fn_spec_l5Not [v] h (fun u h' => HS g (ow u (Fm.neg x) :: Γ) h') := by
  have FX := H.rep.aExq
  obtain ⟨w, rfl, k1, k2, H1⟩ := H.unExq
  refine CallE.gen fun k hk => EN_spec_l5Not rfl ?_
  simp -implicitDefEqProofs (disch:=first|omega|(simp only[LnZ];omega))[wrap64, FX]
  refine HS.blsO1 H rfl fun xs h2 H => ?_
  simp -implicitDefEqProofs (disch:=first|omega|(simp only[LnZ];omega))[wrap64, setC, H.rep.cells, H.rep.one]
  exact RetK.keep (hk _ _ (HS.mkExq' (kd := 3) (vl := 0) H ⟨by decide, by decide⟩ ⟨by decide, by decide⟩))
theorem c_l5Dual {h : Heap} {kd : Int} : CallE Tryz.prog fn_spec_l5Dual [.int .i64 kd] h (fun u h' => h' = h ∧ u = .int .i64 (Fm.dual kd)) := by
  refine CallE.gen fun k hk => EN_spec_l5Dual rfl ?_
  by_cases c4 : kd = 4
  · simp -implicitDefEqProofs (disch:=first|omega|(simp only[LnZ];omega))[wrap64, c4]
    exact RetK.keep (hk _ _ ⟨rfl, by simp [Fm.dual, c4]⟩)
  by_cases c5 : kd = 5
  · simp -implicitDefEqProofs (disch:=first|omega|(simp only[LnZ];omega))[wrap64, c4, c5]
    exact RetK.keep (hk _ _ ⟨rfl, by simp [Fm.dual, c5]⟩)
  by_cases c7 : kd = 7
  · simp -implicitDefEqProofs (disch:=first|omega|(simp only[LnZ];omega))[wrap64, c4, c5, c7]
    exact RetK.keep (hk _ _ ⟨rfl, by simp [Fm.dual, c7]⟩)
  simp -implicitDefEqProofs (disch:=first|omega|(simp only[LnZ];omega))[wrap64, c4, c5, c7]
  exact RetK.keep (hk _ _ ⟨rfl, by simp [Fm.dual, c4, c5, c7]⟩)
theorem i64c {k : Int} (h1 : -9223372036854775808 ≤ k := by decide) (h2 : k < 9223372036854775808 := by decide) : I64 k := ⟨h1, h2⟩
theorem Fm.dual_ok {k : Int} : I64 (Fm.dual k) := by
  unfold Fm.dual
  repeat' split
  all_goals exact ⟨by decide, by decide⟩
theorem c_l5Push : ∀ (n : Nat) {x : Exq} {h : Heap} {v : Value} {ng : Bool}, Fm.Shp n x → Rep h v x → CallE Tryz.prog fn_spec_l5Push [v, .bool ng] h (fun u h' => HS h [ow u (Fm.push x ng)] h') := by
  intro n
  induction n with
  | zero => intro x h v ng hs; exact hs.elim
  | succ n ih =>
  intro x h v ng hs R
  have FX := R.aExq
  obtain ⟨w, rfl, k1, k2, R1⟩ := Rep_Exq.1 R
  have hpe := Fm.push_eq x ng
  have hkd := hs.1.kind
  refine CallE.gen fun k hk => EN_spec_l5Push rfl ?_
  rw [hpe] at hk
  by_cases c12 : x.kind = 1 ∨ x.kind = 2
  · rw [if_pos c12] at hk
    cases ng with
    | true =>
      have H0 := (HS.init (h := h)).leaf k1 k2
      rcases c12 with c1 | c1
      all_goals
        rw [c1] at H0 hk
        simp -implicitDefEqProofs (disch:=first|omega|(simp only[LnZ];omega))[wrap64, c1, setC]
        refine (c_l5Not H0).go ?_
        intro u h1 H
        simp -implicitDefEqProofs (disch:=first|omega|(simp only[LnZ];omega))[wrap64, setC, H.rep.aExq]
        exact RetK.keep (hk _ _ H)
    | false =>
      have H0 := (HS.init (h := h)).leaf k1 k2
      rcases c12 with c1 | c1
      all_goals
        rw [c1] at H0 hk
        simp -implicitDefEqProofs (disch:=first|omega|(simp only[LnZ];omega))[wrap64, c1, setC]
        exact RetK.keep (hk _ _ H0)
  rw [if_neg c12] at hk
  have n1 : ¬ x.kind = 1 := fun e => c12 (.inl e)
  have n2 : ¬ x.kind = 2 := fun e => c12 (.inr e)
  have hkl : 0 < x.kids.length := by
    have h1 := hs.1.ar
    unfold Fm.arity at h1
    rw [if_neg c12] at h1
    split at h1
    · omega
    · split at h1 <;> omega
  obtain ⟨u0, hu0, Ru0⟩ := R1.ld hkl
  change hload _ (some (elp 3 w 0)) (some 3) = some u0 at hu0
  have hX := R1.X (n := 3) rfl
  have hkp := fun m => Fm.kp_at (n := m) hkl
  have hsk := hs.kid hkl
  by_cases c3 : x.kind = 3
  · rw [if_pos c3, hkp] at hk
    simp -implicitDefEqProofs (disch:=first|omega|(simp only[LnZ];omega))[wrap64, n1, n2, c3, hX, hu0]
    refine (ih hsk Ru0).go ?_
    intro u h1 H
    simp -implicitDefEqProofs (disch:=first|omega|(simp only[LnZ];omega))[wrap64, H.rep.aExq]
    exact RetK.keep (hk _ _ H)
  rw [if_neg c3] at hk
  by_cases c6 : x.kind = 6
  · rw [if_pos c6, hkp] at hk
    simp -implicitDefEqProofs (disch:=first|omega|(simp only[LnZ];omega))[wrap64, n1, n2, c3, c6, hX, hu0]
    refine (ih hsk Ru0).go ?_
    intro u h1 H
    have FU := H.rep.aExq
    obtain ⟨w1, rfl, _, _, _⟩ := H.unExq
    simp -implicitDefEqProofs (disch:=first|omega|(simp only[LnZ];omega))[wrap64, FU]
    refine HS.blsO1 H rfl fun xs h2 H => ?_
    simp -implicitDefEqProofs (disch:=first|omega|(simp only[LnZ];omega))[wrap64, setC, H.rep.cells, H.rep.one]
    exact RetK.keep (hk _ _ (HS.mkExq' (kd := 6) (vl := 0) H i64c i64c))
  rw [if_neg c6] at hk
  by_cases c9 : x.kind = 9 ∨ x.kind = 10
  · rw [if_pos c9, hkp] at hk
    have hx : ∃ b : Bool, decide (x.kind = 9) = b ∧ ((x.kind = 9 ∧ b = true) ∨ (¬ x.kind = 9 ∧ x.kind = 10 ∧ b = false)) := by
      rcases c9 with c9 | c9
      · exact ⟨true, by simp [c9], .inl ⟨c9, rfl⟩⟩
      · exact ⟨false, by simp [c9], .inr ⟨by omega, c9, rfl⟩⟩
    obtain ⟨b, hb, hbb⟩ := hx
    rw [hb] at hk
    rcases hbb with ⟨e9, rfl⟩ | ⟨e9, e10, rfl⟩
    all_goals
      first
        | simp -implicitDefEqProofs (disch:=first|omega|(simp only[LnZ];omega))[wrap64, n1, n2, c3, c6, e9, e10, hX, hu0]
        | simp -implicitDefEqProofs (disch:=first|omega|(simp only[LnZ];omega))[wrap64, n1, n2, c3, c6, e9, hX, hu0]
      refine (ih hsk Ru0).go ?_
      intro u h1 H
      have FU := H.rep.aExq
      obtain ⟨w1, rfl, _, _, HW⟩ := H.unExq
      have hO := HW.rep.one
      cases ng
      all_goals
        simp -implicitDefEqProofs (disch:=first|omega|(simp only[LnZ];omega))[wrap64, e9, FU, setC, hO]
        refine c_l5True.go ?_
        rintro _ h1 ⟨rfl, rfl⟩
        have H0 : HS h (ow _ Fm.tru :: _) h1 := H.leaf (k := 1) (v := 0) i64c i64c
        simp -implicitDefEqProofs (disch:=first|omega|(simp only[LnZ];omega))[wrap64, FU, setC, hO]
        first
          | refine HS.blsO2 H0 rfl fun xs h2 H => ?_
            simp -implicitDefEqProofs (disch:=first|omega|(simp only[LnZ];omega))[wrap64, setC, H.rep.cells, H.rep.one]
            exact RetK.keep (hk _ _ (HS.mkExq' (kd := 7) (vl := 0) H i64c i64c))
          | refine (c_l5Not H0).go ?_
            intro u2 h2 H
            have FV := H.rep.aExq
            obtain ⟨w2, rfl, _, _, _⟩ := H.unExq
            simp -implicitDefEqProofs (disch:=first|omega|(simp only[LnZ];omega))[wrap64, FV, FU, hO]
            refine HS.blsO2 H rfl fun xs h3 H => ?_
            simp -implicitDefEqProofs (disch:=first|omega|(simp only[LnZ];omega))[wrap64, setC, H.rep.cells, H.rep.one]
            exact RetK.keep (hk _ _ (HS.mkExq' (kd := 8) (vl := 0) H i64c i64c))
  rw [if_neg c9] at hk
  have n9 : ¬ x.kind = 9 := fun e => c9 (.inl e)
  have n10 : ¬ x.kind = 10 := fun e => c9 (.inr e)
  have hkl2 : 1 < x.kids.length := by
    have := hs.two (by omega)
    omega
  obtain ⟨u1, hu1, Ru1⟩ := R1.ld hkl2
  change hload _ (some (elp 3 w 1)) (some 3) = some u1 at hu1
  have hkp2 := Fm.kp_at (n := ng) hkl2
  have hsk2 := hs.kid hkl2
  rw [hkp, hkp2] at hk
  have fin : ∀ (kd : Int), I64 kd → (∀ u h', HS h [ow u (Exq.mk kd 0 [Fm.push x.kids[0] ng, Fm.push x.kids[1] ng])] h' → k u h') → True := fun _ _ _ => trivial
  cases ng with
  | true =>
    simp -implicitDefEqProofs (disch:=first|omega|(simp only[LnZ];omega))[wrap64, n1, n2, c3, c6, n9, n10]
    refine c_l5Dual.go ?_
    rintro _ _ ⟨rfl, rfl⟩
    simp -implicitDefEqProofs (disch:=first|omega|(simp only[LnZ];omega))[wrap64, hX, hu0, hu1]
    refine (ih hsk Ru0).go ?_
    intro u h1 H
    have FU := H.rep.aExq
    obtain ⟨w1, rfl, _, _, _⟩ := H.unExq
    have hu1' := hload_le H.base hu1
    simp -implicitDefEqProofs (disch:=first|omega|(simp only[LnZ];omega))[wrap64, hX, hu1', FU]
    refine (ih hsk2 (Ru1.on H)).go ?_
    intro u2 h2 G
    have H := G.app H
    have FV := G.rep.aExq
    obtain ⟨w2, rfl, _, _, _⟩ := G.unExq
    simp -implicitDefEqProofs (disch:=first|omega|(simp only[LnZ];omega))[wrap64, FU, FV]
    refine HS.blsO2 H.sw1 rfl fun xs h2 H => ?_
    simp -implicitDefEqProofs (disch:=first|omega|(simp only[LnZ];omega))[wrap64, setC, H.rep.cells, H.rep.one]
    exact RetK.keep (hk _ _ (HS.mkExq' (vl := 0) H Fm.dual_ok i64c))
  | false =>
    simp -implicitDefEqProofs (disch:=first|omega|(simp only[LnZ];omega))[wrap64, n1, n2, c3, c6, n9, n10, hX, hu0, hu1]
    refine (ih hsk Ru0).go ?_
    intro u h1 H
    have FU := H.rep.aExq
    obtain ⟨w1, rfl, _, _, _⟩ := H.unExq
    have hu1' := hload_le H.base hu1
    simp -implicitDefEqProofs (disch:=first|omega|(simp only[LnZ];omega))[wrap64, hX, hu1', FU]
    refine (ih hsk2 (Ru1.on H)).go ?_
    intro u2 h2 G
    have H := G.app H
    have FV := G.rep.aExq
    obtain ⟨w2, rfl, _, _, _⟩ := G.unExq
    simp -implicitDefEqProofs (disch:=first|omega|(simp only[LnZ];omega))[wrap64, FU, FV]
    refine HS.blsO2 H.sw1 rfl fun xs h2 H => ?_
    simp -implicitDefEqProofs (disch:=first|omega|(simp only[LnZ];omega))[wrap64, setC, H.rep.cells, H.rep.one]
    exact RetK.keep (hk _ _ (HS.mkExq' (vl := 0) H k1 i64c))
end Go.Proofs.YtglnelcmcimljaaGreat

namespace Go.Proofs.YtglnelcmcimljaaGreat
open Go
structure Tr where
  frm : Int
  care : Int
  value : Int
  to : Int
deriving DecidableEq
instance instTyTr : Ty Tr := Ty.via fun (t : Tr) => (t.frm, t.care, t.value, t.to)
theorem Tr.ext_iff' {a b : Tr} : a = b ↔ a.frm = b.frm ∧ a.care = b.care ∧ a.value = b.value ∧ a.to = b.to := by
  cases a; cases b; simp
instance instFlatTr : Flat Tr := Flat.via fun (t : Tr) => (t.frm, t.care, t.value, t.to)
def Tr.v (t : Tr) : Value := .agg #[.int .i64 t.frm, .int .i64 t.care, .int .i64 t.value, .int .i64 t.to]
structure Tr.ok (t : Tr) : Prop where
  frm : -9223372036854775808 ≤ t.frm ∧ t.frm < 9223372036854775808
  care : -9223372036854775808 ≤ t.care ∧ t.care < 9223372036854775808
  value : -9223372036854775808 ≤ t.value ∧ t.value < 9223372036854775808
  to : -9223372036854775808 ≤ t.to ∧ t.to < 9223372036854775808
theorem Tr.ok_iff {t : Tr} : Flat.ok t ↔ t.ok := ⟨fun h => ⟨h.1, h.2.1, h.2.2.1, h.2.2.2⟩, fun h => ⟨h.frm, h.care, h.value, h.to⟩⟩
theorem Rep_Tr {h : Heap} {v : Value} {t : Tr} : Rep h v t ↔ v = t.v ∧ t.ok := by rw [Rep_flat, Tr.ok_iff]; rfl
theorem Rep.ldTr {h : Heap} {v : Value} {l : List Tr} (hr : Rep h v l) {i : Nat} (hi : i < l.length) : hload h (some (elp 4 v i)) (some 4) = some l[i].v := hr.ldF hi
theorem Rep.okTr {h : Heap} {v : Value} {l : List Tr} (hr : Rep h v l) {i : Nat} (hi : i < l.length) : l[i].ok := Tr.ok_iff.1 (hr.okF hi)
theorem Rep.xTr {h : Heap} {v : Value} {l : List Tr} (hr : Rep h v l) : ((∀ (kd : IntKind) (i : Nat), i < l.length → iaV 4 v (.int kd i) = some (elp 4 v i)) ∧ (∀ (kd : IntKind) (i : Int), 0 ≤ i → i < l.length → iaV 4 v (.int kd i) = some (elp 4 v i.toNat)) ∧ lenVV v = some (.int .i64 l.length)) ∧
    ∀ (i : Nat) (hi : i < l.length), hload h (some (elp 4 v i)) (some 4) = some l[i].v := ⟨hr.X rfl, fun _ hi => hr.ldTr hi⟩
theorem Rep.fTr {h : Heap} {v : Value} {l : List Tr} (hr : Rep h v l) : (∀ (i fo : Nat), i < l.length → faV fo (elp 4 v i) = some (elpo 4 v i fo)) ∧ (∀ (i : Nat) (hi : i < l.length), hload h (some (elpo 4 v i 0)) none = some (.int .i64 l[i].frm)) ∧ (∀ (i : Nat) (hi : i < l.length), hload h (some (elpo 4 v i 1)) none = some (.int .i64 l[i].care)) ∧ (∀ (i : Nat) (hi : i < l.length), hload h (some (elpo 4 v i 2)) none = some (.int .i64 l[i].value)) ∧ (∀ (i : Nat) (hi : i < l.length), hload h (some (elpo 4 v i 3)) none = some (.int .i64 l[i].to)) := ⟨fun _ _ hi => hr.fa hi, fun _ hi => hr.fld hi rfl rfl, fun _ hi => hr.fld hi rfl rfl, fun _ hi => hr.fld hi rfl rfl, fun _ hi => hr.fld hi rfl rfl⟩
instance instSzTr : Sz Tr := ⟨fun a => Sz.sz a.frm + Sz.sz a.care + Sz.sz a.value + Sz.sz a.to⟩
instance instMkTr : Mk Tr := ⟨fun a => Mk.cnt a.frm + Mk.cnt a.care + Mk.cnt a.value + Mk.cnt a.to,
  fun k a => ⟨Mk.wr (k) a.frm, Mk.wr (k + Mk.cnt a.frm) a.care, Mk.wr (k + Mk.cnt a.frm + Mk.cnt a.care) a.value, Mk.wr (k + Mk.cnt a.frm + Mk.cnt a.care + Mk.cnt a.value) a.to⟩,
  fun k a => by simp [Mk.cnt_wr], fun k j a => by simp [Mk.cnt_wr, Mk.wr_wr]⟩
structure Aut where
  init : List Int
  acc : List Bool
  edges : List Tr
deriving DecidableEq
instance instTyAut : Ty Aut := Ty.via fun (a : Aut) => (a.init, a.acc, a.edges)
theorem Aut.ext_iff' {a b : Aut} : a = b ↔ a.init = b.init ∧ a.acc = b.acc ∧ a.edges = b.edges := by
  cases a; cases b; simp
theorem Rep_Aut {h : Heap} {v : Value} {a : Aut} : Rep h v a ↔ ∃ v1 v2 v3, v = .agg #[v1, v2, v3] ∧ Rep h v1 a.init ∧ Rep h v2 a.acc ∧ Rep h v3 a.edges := by
  constructor
  · rintro ⟨cs, rfl, c0, d0, rfl, h1, c1, d1, rfl, h2, h3⟩
    obtain ⟨v1, rfl, g1⟩ := (rep1 rfl).1 h1
    obtain ⟨v2, rfl, g2⟩ := (rep1 rfl).1 h2
    obtain ⟨v3, rfl, g3⟩ := (rep1 rfl).1 h3
    exact ⟨v1, v2, v3, rfl, g1, g2, g3⟩
  · rintro ⟨v1, v2, v3, rfl, h1, h2, h3⟩
    exact ⟨[v1, v2, v3], rfl, ⟨[v1], [v2, v3], rfl, (rep1 rfl).2 ⟨_, rfl, h1⟩, ⟨[v2], [v3], rfl, (rep1 rfl).2 ⟨_, rfl, h2⟩, (rep1 rfl).2 ⟨_, rfl, h3⟩⟩⟩⟩
theorem HS.unAut {g h : Heap} {Γ : List HP} {v : Value} {a : Aut} (H : HS g (ow v a :: Γ) h) : ∃ v1 v2 v3, v = .agg #[v1, v2, v3] ∧ HS g (ow v1 a.init :: ow v2 a.acc :: ow v3 a.edges :: Γ) h := by
  obtain ⟨cs, rfl, H0⟩ := HS.unvia (fun (a : Aut) => (a.init, a.acc, a.edges)) H
  try dsimp only at H0
  obtain ⟨c0, e0, rfl, H1a⟩ := HS.unprod H0
  obtain ⟨v1, rfl, H1b⟩ := HS.unone rfl H1a
  have H1 := H1b.sw1
  obtain ⟨c1, e1, rfl, H2a⟩ := HS.unprod H1
  obtain ⟨v2, rfl, H2b⟩ := HS.unone rfl H2a
  have H2 := H2b.sw1
  obtain ⟨v3, rfl, HL⟩ := HS.unone rfl H2
  exact ⟨v1, v2, v3, rfl, HL.sw1.sw2⟩
theorem HS.mkAut {g h : Heap} {Γ : List HP} {v1 v2 v3 : Value} {a : Aut} (H : HS g (ow v1 a.init :: ow v2 a.acc :: ow v3 a.edges :: Γ) h) : HS g (ow (.agg #[v1, v2, v3]) a :: Γ) h := by
  refine HS.via (fun (a : Aut) => (a.init, a.acc, a.edges)) ?_
  exact HS.prod rfl (H.under fun _ H => HS.prod rfl (H.under fun _ H => HS.one rfl H))
theorem Rep.aAut {h : Heap} {v : Value} {x : Aut} (hr : Rep h v x) : pgetV (some v) 0 (some 3) = some v ∧ v.cells.size = 3 ∧ allOne v.cells.toList = true ∧ Value.agg v.cells = v := hr.A rfl rfl
instance instSzAut : Sz Aut := ⟨fun a => Sz.sz a.init + Sz.sz a.acc + Sz.sz a.edges⟩
instance instMkAut : Mk Aut := ⟨fun a => Mk.cnt a.init + Mk.cnt a.acc + Mk.cnt a.edges,
  fun k a => ⟨Mk.wr (k) a.init, Mk.wr (k + Mk.cnt a.init) a.acc, Mk.wr (k + Mk.cnt a.init + Mk.cnt a.acc) a.edges⟩,
  fun k a => by simp [Mk.cnt_wr], fun k j a => by simp [Mk.cnt_wr, Mk.wr_wr]⟩
structure Las where
  stem : List Int
  loop : List Int
deriving DecidableEq
instance instTyLas : Ty Las := Ty.via fun (l : Las) => (l.stem, l.loop)
theorem Las.ext_iff' {a b : Las} : a = b ↔ a.stem = b.stem ∧ a.loop = b.loop := by
  cases a; cases b; simp
theorem Rep_Las {h : Heap} {v : Value} {a : Las} : Rep h v a ↔ ∃ v1 v2, v = .agg #[v1, v2] ∧ Rep h v1 a.stem ∧ Rep h v2 a.loop := by
  constructor
  · rintro ⟨cs, rfl, c0, d0, rfl, h1, h2⟩
    obtain ⟨v1, rfl, g1⟩ := (rep1 rfl).1 h1
    obtain ⟨v2, rfl, g2⟩ := (rep1 rfl).1 h2
    exact ⟨v1, v2, rfl, g1, g2⟩
  · rintro ⟨v1, v2, rfl, h1, h2⟩
    exact ⟨[v1, v2], rfl, ⟨[v1], [v2], rfl, (rep1 rfl).2 ⟨_, rfl, h1⟩, (rep1 rfl).2 ⟨_, rfl, h2⟩⟩⟩
theorem HS.unLas {g h : Heap} {Γ : List HP} {v : Value} {a : Las} (H : HS g (ow v a :: Γ) h) : ∃ v1 v2, v = .agg #[v1, v2] ∧ HS g (ow v1 a.stem :: ow v2 a.loop :: Γ) h := by
  obtain ⟨cs, rfl, H0⟩ := HS.unvia (fun (l : Las) => (l.stem, l.loop)) H
  try dsimp only at H0
  obtain ⟨c0, e0, rfl, H1a⟩ := HS.unprod H0
  obtain ⟨v1, rfl, H1b⟩ := HS.unone rfl H1a
  have H1 := H1b.sw1
  obtain ⟨v2, rfl, HL⟩ := HS.unone rfl H1
  exact ⟨v1, v2, rfl, HL.sw1⟩
theorem HS.mkLas {g h : Heap} {Γ : List HP} {v1 v2 : Value} {a : Las} (H : HS g (ow v1 a.stem :: ow v2 a.loop :: Γ) h) : HS g (ow (.agg #[v1, v2]) a :: Γ) h := by
  refine HS.via (fun (l : Las) => (l.stem, l.loop)) ?_
  exact HS.prod rfl (H.under fun _ H => HS.one rfl H)
theorem Rep.aLas {h : Heap} {v : Value} {x : Las} (hr : Rep h v x) : pgetV (some v) 0 (some 2) = some v ∧ v.cells.size = 2 ∧ allOne v.cells.toList = true ∧ Value.agg v.cells = v := hr.A rfl rfl
instance instSzLas : Sz Las := ⟨fun a => Sz.sz a.stem + Sz.sz a.loop⟩
instance instMkLas : Mk Las := ⟨fun a => Mk.cnt a.stem + Mk.cnt a.loop,
  fun k a => ⟨Mk.wr (k) a.stem, Mk.wr (k + Mk.cnt a.stem) a.loop⟩,
  fun k a => by simp [Mk.cnt_wr], fun k j a => by simp [Mk.cnt_wr, Mk.wr_wr]⟩
end Go.Proofs.YtglnelcmcimljaaGreat
