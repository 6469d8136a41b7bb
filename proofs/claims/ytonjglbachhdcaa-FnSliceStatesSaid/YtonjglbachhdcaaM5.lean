/-
  Texts of this proof, one behind the other.
-/
import Derived.WalkKit
import Derived.ProofKit
import Derived.OpenShut
import Derived.Carry
import Derived.Deep.Slices
import Derived.SizedLaws
import Derived.Test.YtonjglbachhdcaaM4
/-
  Valid expressions, by the program.
-/
namespace Go.Proofs.Ytonjglbachhdcaa
open Go
set_option linter.all false
set_option linter.unusedVariables false
set_option linter.unusedSimpArgs false
set_option linter.defProp false
set_option maxRecDepth 1000000

@[simp] theorem nilcV_ptr {a : Addr} : nilcV (.pointer (some a)) = some (.pointer (some a)) := rfl
theorem c_in {h : Heap} {n lo hi : Int} : CallE Try.prog fn_impl_in [.int .i64 n, .int .i64 lo, .int .i64 hi] h (fun u h' => h' = h ∧ u = .bool (decide (lo ≤ n ∧ n ≤ hi))) := by
  refine CallE.gen fun k hk => EN_impl_in rfl ?_
  by_cases h1 : lo ≤ n
  · simp -implicitDefEqProofs (disch := first | omega | (simp only [List.length_set, List.length_replicate, List.length_append, List.length_map, List.length_take, List.length_cons, List.length_nil]; omega)) [wrap64, h1]
    exact RetK.keep (hk _ _ ⟨rfl, by simp [h1]⟩)
  · simp -implicitDefEqProofs (disch := first | omega | (simp only [List.length_set, List.length_replicate, List.length_append, List.length_map, List.length_take, List.length_cons, List.length_nil]; omega)) [wrap64, h1]
    exact RetK.keep (hk _ _ ⟨rfl, by simp [h1]⟩)
/-- what counting the nodes does: the number goes on, as long as all is well -/
def WalkQ (g : Heap) (Γ : List HP) (b n m : Nat) (x : Exq) (neg : Bool) (v : Value) (h' : Heap) : Prop :=
  ∃ (n' : Nat) (ok : Bool), v = .bool (ok != neg) ∧ HS g (bx b [.int .i64 n'] :: Γ) h' ∧ (ok = true ↔ x.Shp m ∧ n + x.nod ≤ 15) ∧ (ok = true → n' = n + x.nod)

theorem c_IndexFunc_walk {g h : Heap} {Γ : List HP} {a fv : Value} {l : List Exq} {b n m : Nat} (Ra : Rep g a l) {f : FuncId} {c1 c2 : List Value} (hf : fnOf fv = some (f, c1, c2)) (H : HS g (bx b [.int .i64 n] :: Γ) h) (hn : n ≤ 15)
    (hp : ∀ (i : Nat) (hi : i < l.length) (u : Value) (n : Nat) (h1 : Heap), Rep g u l[i] → HS g (bx b [.int .i64 n] :: Γ) h1 → n ≤ 15 → CallE Try.prog f (c1 ++ u :: c2) h1 (WalkQ g Γ b n m l[i] true)) :
    CallE Try.prog fn_slices_IndexFunc_S_impl_Expr_impl_Expr [a, fv] h (fun v h' => ∃ (n' : Nat) (j : Int), v = .int .i64 j ∧ HS g (bx b [.int .i64 n'] :: Γ) h' ∧ (j < 0 ↔ (∀ y ∈ l, y.Shp m) ∧ n + Exq.nods l ≤ 15) ∧ (j < 0 → n' = n + Exq.nods l)) := by
  refine CallE.gen fun k hk => EN_slices_IndexFunc_S_impl_Expr_impl_Expr rfl ?_
  have hL := Ra.lt
  simp -implicitDefEqProofs (disch := first | omega | (simp only [List.length_set, List.length_replicate, List.length_append, List.length_map, List.length_take, List.length_cons, List.length_nil]; omega)) [wrap64, Ra.len]
  refine wp_count l.length (fun i e h' => e = [some a, some fv, none, none, some (.int .i64 l.length), some (.int .i64 i)] ∧ HS g (bx b [.int .i64 ((n + Exq.nods (l.take i) : Nat) : Int)] :: Γ) h' ∧ n + Exq.nods (l.take i) ≤ 15 ∧ ∀ (j : Nat) (hj : j < l.length), j < i → l[j].Shp m) ⟨rfl, by simpa [Exq.nods] using H, by simpa [Exq.nods] using hn, fun j _ hj => absurd hj (Nat.not_lt_zero j)⟩ ?_
  clear H
  rintro J i _ h1 hJ hi ⟨rfl, H, hle, hall⟩
  simp -implicitDefEqProofs (disch := first | omega | (simp only [List.length_set, List.length_replicate, List.length_append, List.length_map, List.length_take, List.length_cons, List.length_nil]; omega)) [wrap64]
  refine IteW.mk (fun hlt => ?_) (fun hge => ?_)
  · have hlx : i < l.length := by omega
    have hnt := Exq.nods_take hlx
    have hnl := Exq.nods_le l (i + 1)
    obtain ⟨u, hu, Ru⟩ := Ra.ld hlx
    have hu2 := hload_le H.base hu
    change hload _ (some (elp 3 a i)) (some 3) = some u at hu2
    simp -implicitDefEqProofs (disch := first | omega | (simp only [List.length_set, List.length_replicate, List.length_append, List.length_map, List.length_take, List.length_cons, List.length_nil]; omega)) [wrap64, Ra.X (n := 3) rfl, hu2, hf]
    refine (hp i hlx u _ h1 Ru H hle).go ?_
    rintro _ h2 ⟨n', ok, rfl, H, hok, hn'⟩
    simp -implicitDefEqProofs (disch := first | omega | (simp only [List.length_set, List.length_replicate, List.length_append, List.length_map, List.length_take, List.length_cons, List.length_nil]; omega)) [wrap64]
    refine IteW.mk (fun hq => ?_) (fun hq => ?_)
    · simp -implicitDefEqProofs (disch := first | omega | (simp only [List.length_set, List.length_replicate, List.length_append, List.length_map, List.length_take, List.length_cons, List.length_nil]; omega)) [wrap64]
      refine RetK.keep (hk _ _ ⟨n', _, rfl, H, ⟨fun hh => absurd hh (by omega), fun ⟨e1, e2⟩ => ?_⟩, fun hh => absurd hh (by omega)⟩)
      have : ok = true := hok.2 ⟨e1 _ (List.getElem_mem hlx), by omega⟩
      rw [this] at hq
      simp at hq
    · have hok1 : ok = true := by simpa using hq
      have e1 := hok.1 hok1
      have e2 := hn' hok1
      subst e2
      simp -implicitDefEqProofs (disch := first | omega | (simp only [List.length_set, List.length_replicate, List.length_append, List.length_map, List.length_take, List.length_cons, List.length_nil]; omega)) [wrap64]
      refine hJ _ _ hlx ⟨rfl, ?_, by omega, fun j hj hji => ?_⟩
      · rw [hnt, ← Nat.add_assoc]; exact H
      · by_cases hji2 : j = i
        · subst hji2; exact e1.1
        · exact hall j hj (by omega)
  · simp -implicitDefEqProofs (disch := first | omega | (simp only [List.length_set, List.length_replicate, List.length_append, List.length_map, List.length_take, List.length_cons, List.length_nil]; omega)) [wrap64]
    rw [List.take_of_length_le (by omega)] at H hle
    refine RetK.keep (hk _ _ ⟨_, _, rfl, H, ⟨fun _ => ⟨fun y hy => ?_, hle⟩, fun _ => by omega⟩, fun _ => rfl⟩)
    obtain ⟨j, hj, rfl⟩ := List.mem_iff_getElem.1 hy
    exact hall j hj (by omega)

theorem c_ContainsFunc_walk {g h : Heap} {Γ : List HP} {a fv : Value} {l : List Exq} {b n m : Nat} (Ra : Rep g a l) {f : FuncId} {c1 c2 : List Value} (hf : fnOf fv = some (f, c1, c2)) (H : HS g (bx b [.int .i64 n] :: Γ) h) (hn : n ≤ 15)
    (hp : ∀ (i : Nat) (hi : i < l.length) (u : Value) (n : Nat) (h1 : Heap), Rep g u l[i] → HS g (bx b [.int .i64 n] :: Γ) h1 → n ≤ 15 → CallE Try.prog f (c1 ++ u :: c2) h1 (WalkQ g Γ b n m l[i] true)) :
    CallE Try.prog fn_slices_ContainsFunc_S_impl_Expr_impl_Expr [a, fv] h (fun v h' => ∃ (n' : Nat) (ok : Bool), v = .bool (!ok) ∧ HS g (bx b [.int .i64 n'] :: Γ) h' ∧ (ok = true ↔ (∀ y ∈ l, y.Shp m) ∧ n + Exq.nods l ≤ 15) ∧ (ok = true → n' = n + Exq.nods l)) := by
  refine CallE.gen fun k hk => EN_slices_ContainsFunc_S_impl_Expr_impl_Expr rfl ?_
  simp -implicitDefEqProofs (disch := first | omega | (simp only [List.length_set, List.length_replicate, List.length_append, List.length_map, List.length_take, List.length_cons, List.length_nil]; omega)) [wrap64]
  refine (c_IndexFunc_walk Ra hf H hn hp).go ?_
  rintro _ h1 ⟨n', j, rfl, H, hj, hn'⟩
  simp -implicitDefEqProofs (disch := first | omega | (simp only [List.length_set, List.length_replicate, List.length_append, List.length_map, List.length_take, List.length_cons, List.length_nil]; omega)) [wrap64]
  refine RetK.keep (hk _ _ ⟨n', decide (j < 0), ?_, H, by rw [decide_eq_true_iff]; exact hj, by rw [decide_eq_true_iff]; exact hn'⟩)
  congr 1
  by_cases e : j < 0
  · simp [e]
  · simp [e]; omega

theorem c_walk : ∀ (x : Exq) {g h : Heap} {Γ : List HP} {v : Value} {b n d : Nat} {dv : Int}, dv = d → Rep g v x → HS g (bx b [.int .i64 n] :: Γ) h → n ≤ 15 → 1 ≤ d → d ≤ 7 →
    CallE Try.prog fn_impl_Expr_walk [v, .int .i64 dv, .pointer (some ⟨b, 0, none⟩)] h (WalkQ g Γ b n (7 - d) x false) := by
  refine Exq.ind fun x ih g h Γ v b n d dv hdv R H hn hd1 hd7 => ?_
  obtain ⟨w, rfl, k1, k2, R1⟩ := Rep_Exq.1 R
  have hnod := x.nod_eq
  have hkl := R1.lt
  obtain ⟨ln, hln⟩ : ∃ ln : Int, ln = x.kids.length := ⟨_, rfl⟩
  have hlen := R1.len
  rw [← hln] at hlen
  refine CallE.gen fun k hk => EN_impl_Expr_walk rfl ?_
  simp -implicitDefEqProofs (disch := first | omega | (simp only [List.length_set, List.length_replicate, List.length_append, List.length_map, List.length_take, List.length_cons, List.length_nil]; omega)) [wrap64]
  refine H.alloc rfl fun b4 h1 H => ?_
  simp -implicitDefEqProofs (disch := first | omega | (simp only [List.length_set, List.length_replicate, List.length_append, List.length_map, List.length_take, List.length_cons, List.length_nil]; omega)) [wrap64]
  refine H.alloc rfl fun b5 h2 H => ?_
  simp only [cells_int, cells_pointer] at H
  simp -implicitDefEqProofs (disch := first | omega | (simp only [List.length_set, List.length_replicate, List.length_append, List.length_map, List.length_take, List.length_cons, List.length_nil]; omega)) [wrap64, H.bxld0, H.sw2.bxld0]
  refine HS.bxst (o := 0) (sz := 1) (u := .int .i64 ((n : Int) + 1)) H.sw2 rfl rfl rfl rfl (by simp) fun h3 H => ?_
  have H : HS g (bx b [.int .i64 ((n + 1 : Nat) : Int)] :: bx b5 [.pointer (some ⟨b, 0, none⟩)] :: bx b4 [.int .i64 dv] :: Γ) h3 := H
  -- what is wanted where it fails
  have hno : ¬ (x.Shp (7 - d) ∧ n + x.nod ≤ 15) → k (.bool false) h3 := fun hh => hk _ _ ⟨_, false, rfl, H.sw1.drop.sw1.drop, ⟨fun e => by simp at e, fun e => absurd e hh⟩, fun e => by simp at e⟩
  -- and where the operands were asked
  have hfin : x.Nd → d ≤ 6 → ∀ {h4 : Heap} {n' : Nat} {ok : Bool}, (ok = true ↔ (∀ y ∈ x.kids, y.Shp (6 - d)) ∧ n + 1 + Exq.nods x.kids ≤ 15) → (ok = true → n' = n + 1 + Exq.nods x.kids) →
      HS g (bx b [.int .i64 n'] :: bx b5 [.pointer (some ⟨b, 0, none⟩)] :: bx b4 [.int .i64 dv] :: Γ) h4 → k (.bool ok) h4 := by
    intro hnd hd6 h4 n' ok g1 g2 H4
    refine hk _ _ ⟨n', ok, by simp, H4.sw1.drop.sw1.drop, ?_, fun e => by have := g2 e; omega⟩
    rw [g1, show 7 - d = (6 - d) + 1 by omega]
    exact ⟨fun ⟨h5, h6⟩ => ⟨⟨hnd, h5⟩, by omega⟩, fun ⟨h5, h6⟩ => ⟨h5.2, by omega⟩⟩
  -- an operand
  have hkid : d ≤ 6 → ∀ (i : Nat) (hi : i < x.kids.length) (u : Value) (n : Nat) (h1 : Heap), Rep g u x.kids[i] → HS g (bx b [.int .i64 n] :: bx b5 [.pointer (some ⟨b, 0, none⟩)] :: bx b4 [.int .i64 dv] :: Γ) h1 → n ≤ 15 →
      CallE Try.prog fn_impl_Expr_walk_1 ([] ++ u :: [.pointer (some ⟨b4, 0, none⟩), .pointer (some ⟨b5, 0, none⟩)]) h1 (WalkQ g (bx b5 [.pointer (some ⟨b, 0, none⟩)] :: bx b4 [.int .i64 dv] :: Γ) b n (6 - d) x.kids[i] true) := by
    intro hd6 i hi u n h1 Ru H hn
    refine CallE.gen fun k hk => EN_impl_Expr_walk_1 rfl ?_
    have Fu := Ru.aExq
    simp -implicitDefEqProofs (disch := first | omega | (simp only [List.length_set, List.length_replicate, List.length_append, List.length_map, List.length_take, List.length_cons, List.length_nil]; omega)) [wrap64, Fu, H.sw2.bxld0, H.sw1.bxld0]
    refine (ih _ (List.getElem_mem hi) (d := d + 1) (dv := dv + 1) (by omega) Ru H hn (by omega) (by omega)).go ?_
    rintro _ h2 ⟨n', ok, rfl, H, g1, g2⟩
    rw [show 7 - (d + 1) = 6 - d by omega] at g1
    simp -implicitDefEqProofs (disch := first | omega | (simp only [List.length_set, List.length_replicate, List.length_append, List.length_map, List.length_take, List.length_cons, List.length_nil]; omega)) [wrap64]
    exact RetK.keep (hk _ _ ⟨n', ok, by simp, H, g1, g2⟩)
  by_cases c1 : x.kind = 1
  · revert hno hfin
    intro hno hfin
    by_cases e1 : (6 : Int) < dv
    · simp -implicitDefEqProofs (disch := first | omega | (simp only [List.length_set, List.length_replicate, List.length_append, List.length_map, List.length_take, List.length_cons, List.length_nil]; omega)) [wrap64, c1, H.bxld0, H.sw1.bxld0, H.sw2.bxld0, e1]
      exact RetK.keep (hno fun hh => by have := hh.1; rw [show 7 - d = 0 by omega] at this; exact this)
    by_cases e2 : (15 : Int) < (n : Int) + 1
    · simp -implicitDefEqProofs (disch := first | omega | (simp only [List.length_set, List.length_replicate, List.length_append, List.length_map, List.length_take, List.length_cons, List.length_nil]; omega)) [wrap64, c1, H.bxld0, H.sw1.bxld0, H.sw2.bxld0, e1, e2]
      exact RetK.keep (hno fun hh => by have := hh.2; omega)
    simp -implicitDefEqProofs (disch := first | omega | (simp only [List.length_set, List.length_replicate, List.length_append, List.length_map, List.length_take, List.length_cons, List.length_nil]; omega)) [wrap64, c1, H.bxld0, H.sw1.bxld0, H.sw2.bxld0, e1, e2]
    refine c_in.go ?_
    rintro _ _ ⟨rfl, rfl⟩
    have e3 : 1 ≤ x.kind ∧ x.kind ≤ 9 := by omega
    have e6 := e3
    simp -implicitDefEqProofs (disch := first | omega | (simp only [List.length_set, List.length_replicate, List.length_append, List.length_map, List.length_take, List.length_cons, List.length_nil]; omega)) [wrap64, c1, e3]
    refine c_in.go ?_
    rintro _ _ ⟨rfl, rfl⟩
    by_cases e4 : 0 ≤ x.val ∧ x.val ≤ 3
    case neg =>
      simp -implicitDefEqProofs (disch := first | omega | (simp only [List.length_set, List.length_replicate, List.length_append, List.length_map, List.length_take, List.length_cons, List.length_nil]; omega)) [wrap64, c1, e4]
      exact RetK.keep (hno fun hh => e4 ⟨hh.1.nd.lo, by have := hh.1.nd.hi; simpa [Exq.most, c1] using this⟩)
    simp -implicitDefEqProofs (disch := first | omega | (simp only [List.length_set, List.length_replicate, List.length_append, List.length_map, List.length_take, List.length_cons, List.length_nil]; omega)) [wrap64, c1, e4, hlen]
    by_cases e5 : ln = 0
    case neg =>
      simp -implicitDefEqProofs (disch := first | omega | (simp only [List.length_set, List.length_replicate, List.length_append, List.length_map, List.length_take, List.length_cons, List.length_nil]; omega)) [wrap64, c1, e5, hlen]
      exact RetK.keep (hno fun hh => e5 (by have := hh.1.nd.ar; rw [← hln] at this; simpa [Exq.arity, c1, e3, e6] using this))
    simp -implicitDefEqProofs (disch := first | omega | (simp only [List.length_set, List.length_replicate, List.length_append, List.length_map, List.length_take, List.length_cons, List.length_nil]; omega)) [wrap64, c1, e5, hlen]
    refine (c_ContainsFunc_walk (m := 6 - d) R1 (c1 := []) (c2 := [.pointer (some ⟨b4, 0, none⟩), .pointer (some ⟨b5, 0, none⟩)]) rfl H (by omega) (hkid (by omega))).go ?_
    rintro _ h4 ⟨n', ok, rfl, H4, g1, g2⟩
    simp -implicitDefEqProofs (disch := first | omega | (simp only [List.length_set, List.length_replicate, List.length_append, List.length_map, List.length_take, List.length_cons, List.length_nil]; omega)) [wrap64]
    exact RetK.keep (hfin ⟨by rw [← hln]; simp only [Exq.arity, c1]; simpa [e3, e6] using e5, e4.1, by simp only [Exq.most, c1]; simpa using e4.2⟩ (by omega) g1 g2 H4)
  by_cases c2 : x.kind = 2
  · revert hno hfin
    intro hno hfin
    by_cases e1 : (6 : Int) < dv
    · simp -implicitDefEqProofs (disch := first | omega | (simp only [List.length_set, List.length_replicate, List.length_append, List.length_map, List.length_take, List.length_cons, List.length_nil]; omega)) [wrap64, c1, c2, H.bxld0, H.sw1.bxld0, H.sw2.bxld0, e1]
      exact RetK.keep (hno fun hh => by have := hh.1; rw [show 7 - d = 0 by omega] at this; exact this)
    by_cases e2 : (15 : Int) < (n : Int) + 1
    · simp -implicitDefEqProofs (disch := first | omega | (simp only [List.length_set, List.length_replicate, List.length_append, List.length_map, List.length_take, List.length_cons, List.length_nil]; omega)) [wrap64, c1, c2, H.bxld0, H.sw1.bxld0, H.sw2.bxld0, e1, e2]
      exact RetK.keep (hno fun hh => by have := hh.2; omega)
    simp -implicitDefEqProofs (disch := first | omega | (simp only [List.length_set, List.length_replicate, List.length_append, List.length_map, List.length_take, List.length_cons, List.length_nil]; omega)) [wrap64, c1, c2, H.bxld0, H.sw1.bxld0, H.sw2.bxld0, e1, e2]
    refine c_in.go ?_
    rintro _ _ ⟨rfl, rfl⟩
    have e3 : 1 ≤ x.kind ∧ x.kind ≤ 9 := by omega
    have e6 := e3
    simp -implicitDefEqProofs (disch := first | omega | (simp only [List.length_set, List.length_replicate, List.length_append, List.length_map, List.length_take, List.length_cons, List.length_nil]; omega)) [wrap64, c1, c2, e3]
    refine c_in.go ?_
    rintro _ _ ⟨rfl, rfl⟩
    by_cases e4 : 0 ≤ x.val ∧ x.val ≤ 2
    case neg =>
      simp -implicitDefEqProofs (disch := first | omega | (simp only [List.length_set, List.length_replicate, List.length_append, List.length_map, List.length_take, List.length_cons, List.length_nil]; omega)) [wrap64, c1, c2, e4]
      exact RetK.keep (hno fun hh => e4 ⟨hh.1.nd.lo, by have := hh.1.nd.hi; simpa [Exq.most, c1, c2] using this⟩)
    simp -implicitDefEqProofs (disch := first | omega | (simp only [List.length_set, List.length_replicate, List.length_append, List.length_map, List.length_take, List.length_cons, List.length_nil]; omega)) [wrap64, c1, c2, e4, hlen]
    by_cases e5 : ln = 0
    case neg =>
      simp -implicitDefEqProofs (disch := first | omega | (simp only [List.length_set, List.length_replicate, List.length_append, List.length_map, List.length_take, List.length_cons, List.length_nil]; omega)) [wrap64, c1, c2, e5, hlen]
      exact RetK.keep (hno fun hh => e5 (by have := hh.1.nd.ar; rw [← hln] at this; simpa [Exq.arity, c1, c2, e3, e6] using this))
    simp -implicitDefEqProofs (disch := first | omega | (simp only [List.length_set, List.length_replicate, List.length_append, List.length_map, List.length_take, List.length_cons, List.length_nil]; omega)) [wrap64, c1, c2, e5, hlen]
    refine (c_ContainsFunc_walk (m := 6 - d) R1 (c1 := []) (c2 := [.pointer (some ⟨b4, 0, none⟩), .pointer (some ⟨b5, 0, none⟩)]) rfl H (by omega) (hkid (by omega))).go ?_
    rintro _ h4 ⟨n', ok, rfl, H4, g1, g2⟩
    simp -implicitDefEqProofs (disch := first | omega | (simp only [List.length_set, List.length_replicate, List.length_append, List.length_map, List.length_take, List.length_cons, List.length_nil]; omega)) [wrap64]
    exact RetK.keep (hfin ⟨by rw [← hln]; simp only [Exq.arity, c1, c2]; simpa [e3, e6] using e5, e4.1, by simp only [Exq.most, c1, c2]; simpa using e4.2⟩ (by omega) g1 g2 H4)
  by_cases c3 : x.kind = 3
  · revert hno hfin
    intro hno hfin
    by_cases e1 : (6 : Int) < dv
    · simp -implicitDefEqProofs (disch := first | omega | (simp only [List.length_set, List.length_replicate, List.length_append, List.length_map, List.length_take, List.length_cons, List.length_nil]; omega)) [wrap64, c1, c2, c3, H.bxld0, H.sw1.bxld0, H.sw2.bxld0, e1]
      exact RetK.keep (hno fun hh => by have := hh.1; rw [show 7 - d = 0 by omega] at this; exact this)
    by_cases e2 : (15 : Int) < (n : Int) + 1
    · simp -implicitDefEqProofs (disch := first | omega | (simp only [List.length_set, List.length_replicate, List.length_append, List.length_map, List.length_take, List.length_cons, List.length_nil]; omega)) [wrap64, c1, c2, c3, H.bxld0, H.sw1.bxld0, H.sw2.bxld0, e1, e2]
      exact RetK.keep (hno fun hh => by have := hh.2; omega)
    simp -implicitDefEqProofs (disch := first | omega | (simp only [List.length_set, List.length_replicate, List.length_append, List.length_map, List.length_take, List.length_cons, List.length_nil]; omega)) [wrap64, c1, c2, c3, H.bxld0, H.sw1.bxld0, H.sw2.bxld0, e1, e2]
    refine c_in.go ?_
    rintro _ _ ⟨rfl, rfl⟩
    have e3 : 1 ≤ x.kind ∧ x.kind ≤ 9 := by omega
    have e6 := e3
    simp -implicitDefEqProofs (disch := first | omega | (simp only [List.length_set, List.length_replicate, List.length_append, List.length_map, List.length_take, List.length_cons, List.length_nil]; omega)) [wrap64, c1, c2, c3, e3]
    refine c_in.go ?_
    rintro _ _ ⟨rfl, rfl⟩
    by_cases e4 : 0 ≤ x.val ∧ x.val ≤ 0
    case neg =>
      simp -implicitDefEqProofs (disch := first | omega | (simp only [List.length_set, List.length_replicate, List.length_append, List.length_map, List.length_take, List.length_cons, List.length_nil]; omega)) [wrap64, c1, c2, c3, e4]
      exact RetK.keep (hno fun hh => e4 ⟨hh.1.nd.lo, by have := hh.1.nd.hi; simpa [Exq.most, c1, c2, c3] using this⟩)
    simp -implicitDefEqProofs (disch := first | omega | (simp only [List.length_set, List.length_replicate, List.length_append, List.length_map, List.length_take, List.length_cons, List.length_nil]; omega)) [wrap64, c1, c2, c3, e4, hlen]
    by_cases e5 : ln = 1
    case neg =>
      simp -implicitDefEqProofs (disch := first | omega | (simp only [List.length_set, List.length_replicate, List.length_append, List.length_map, List.length_take, List.length_cons, List.length_nil]; omega)) [wrap64, c1, c2, c3, e5, hlen]
      exact RetK.keep (hno fun hh => e5 (by have := hh.1.nd.ar; rw [← hln] at this; simpa [Exq.arity, c1, c2, c3, e3, e6] using this))
    simp -implicitDefEqProofs (disch := first | omega | (simp only [List.length_set, List.length_replicate, List.length_append, List.length_map, List.length_take, List.length_cons, List.length_nil]; omega)) [wrap64, c1, c2, c3, e5, hlen]
    refine (c_ContainsFunc_walk (m := 6 - d) R1 (c1 := []) (c2 := [.pointer (some ⟨b4, 0, none⟩), .pointer (some ⟨b5, 0, none⟩)]) rfl H (by omega) (hkid (by omega))).go ?_
    rintro _ h4 ⟨n', ok, rfl, H4, g1, g2⟩
    simp -implicitDefEqProofs (disch := first | omega | (simp only [List.length_set, List.length_replicate, List.length_append, List.length_map, List.length_take, List.length_cons, List.length_nil]; omega)) [wrap64]
    exact RetK.keep (hfin ⟨by rw [← hln]; simp only [Exq.arity, c1, c2, c3]; simpa [e3, e6] using e5, e4.1, by simp only [Exq.most, c1, c2, c3]; simpa using e4.2⟩ (by omega) g1 g2 H4)
  by_cases e1 : (6 : Int) < dv
  · simp -implicitDefEqProofs (disch := first | omega | (simp only [List.length_set, List.length_replicate, List.length_append, List.length_map, List.length_take, List.length_cons, List.length_nil]; omega)) [wrap64, c1, c2, c3, H.bxld0, H.sw1.bxld0, H.sw2.bxld0, e1]
    exact RetK.keep (hno fun hh => by have := hh.1; rw [show 7 - d = 0 by omega] at this; exact this)
  by_cases e2 : (15 : Int) < (n : Int) + 1
  · simp -implicitDefEqProofs (disch := first | omega | (simp only [List.length_set, List.length_replicate, List.length_append, List.length_map, List.length_take, List.length_cons, List.length_nil]; omega)) [wrap64, c1, c2, c3, H.bxld0, H.sw1.bxld0, H.sw2.bxld0, e1, e2]
    exact RetK.keep (hno fun hh => by have := hh.2; omega)
  simp -implicitDefEqProofs (disch := first | omega | (simp only [List.length_set, List.length_replicate, List.length_append, List.length_map, List.length_take, List.length_cons, List.length_nil]; omega)) [wrap64, c1, c2, c3, H.bxld0, H.sw1.bxld0, H.sw2.bxld0, e1, e2]
  refine c_in.go ?_
  rintro _ _ ⟨rfl, rfl⟩
  by_cases e3 : 1 ≤ x.kind ∧ x.kind ≤ 9
  case neg =>
    simp -implicitDefEqProofs (disch := first | omega | (simp only [List.length_set, List.length_replicate, List.length_append, List.length_map, List.length_take, List.length_cons, List.length_nil]; omega)) [wrap64, c1, c2, c3, e3]
    exact RetK.keep (hno fun hh => e3 hh.1.nd.kind)
  have e6 : 4 ≤ x.kind := by omega
  simp -implicitDefEqProofs (disch := first | omega | (simp only [List.length_set, List.length_replicate, List.length_append, List.length_map, List.length_take, List.length_cons, List.length_nil]; omega)) [wrap64, c1, c2, c3, e3]
  refine c_in.go ?_
  rintro _ _ ⟨rfl, rfl⟩
  by_cases e4 : 0 ≤ x.val ∧ x.val ≤ 0
  case neg =>
    simp -implicitDefEqProofs (disch := first | omega | (simp only [List.length_set, List.length_replicate, List.length_append, List.length_map, List.length_take, List.length_cons, List.length_nil]; omega)) [wrap64, c1, c2, c3, e4]
    exact RetK.keep (hno fun hh => e4 ⟨hh.1.nd.lo, by have := hh.1.nd.hi; simpa [Exq.most, c1, c2, c3] using this⟩)
  simp -implicitDefEqProofs (disch := first | omega | (simp only [List.length_set, List.length_replicate, List.length_append, List.length_map, List.length_take, List.length_cons, List.length_nil]; omega)) [wrap64, c1, c2, c3, e4, hlen]
  by_cases e5 : ln = 2
  case neg =>
    simp -implicitDefEqProofs (disch := first | omega | (simp only [List.length_set, List.length_replicate, List.length_append, List.length_map, List.length_take, List.length_cons, List.length_nil]; omega)) [wrap64, c1, c2, c3, e5, hlen]
    exact RetK.keep (hno fun hh => e5 (by have := hh.1.nd.ar; rw [← hln] at this; simpa [Exq.arity, c1, c2, c3, e3, e6] using this))
  simp -implicitDefEqProofs (disch := first | omega | (simp only [List.length_set, List.length_replicate, List.length_append, List.length_map, List.length_take, List.length_cons, List.length_nil]; omega)) [wrap64, c1, c2, c3, e5, hlen]
  refine (c_ContainsFunc_walk (m := 6 - d) R1 (c1 := []) (c2 := [.pointer (some ⟨b4, 0, none⟩), .pointer (some ⟨b5, 0, none⟩)]) rfl H (by omega) (hkid (by omega))).go ?_
  rintro _ h4 ⟨n', ok, rfl, H4, g1, g2⟩
  simp -implicitDefEqProofs (disch := first | omega | (simp only [List.length_set, List.length_replicate, List.length_append, List.length_map, List.length_take, List.length_cons, List.length_nil]; omega)) [wrap64]
  exact RetK.keep (hfin ⟨by rw [← hln]; simp only [Exq.arity, c1, c2, c3]; simpa [e3, e6] using e5, e4.1, by simp only [Exq.most, c1, c2, c3]; simpa using e4.2⟩ (by omega) g1 g2 H4)
end Go.Proofs.Ytonjglbachhdcaa

/-
  Instances of functions over slices: copies, and whether some element meets a condition. Printed by a program.
-/
namespace Go.Proofs.Ytonjglbachhdcaa
open Go
set_option linter.all false
set_option linter.unusedVariables false
set_option linter.unusedSimpArgs false
set_option linter.defProp false
set_option maxRecDepth 1000000

theorem c_IndexFunc_impl_Edge {h : Heap} {a fv : Value} {x : List (Ed)} (Ra : Rep h a x) {f : FuncId} {c1 c2 : List Value} (hf : fnOf fv = some (f, c1, c2)) (p : (Ed) → Bool)
    (hp : ∀ h1, h.le h1 → ∀ (i : Nat) (hi : i < x.length) (u : Value), Rep h1 u x[i] → CallE Try.prog f (c1 ++ u :: c2) h1 (fun v h' => h1.le h' ∧ v = .bool (p x[i]))) :
    CallE Try.prog fn_slices_IndexFunc_S_impl_Edge_impl_Edge [a, fv] h (fun v h' => h.le h' ∧ v = .int .i64 (match x.findIdx? p with | some i => (i : Int) | none => -1)) := by
  refine CallE.gen fun k hk => EN_slices_IndexFunc_S_impl_Edge_impl_Edge rfl ?_
  have hL := Ra.lt
  simp -implicitDefEqProofs (disch := first | omega | (simp only [List.length_set, List.length_replicate, List.length_append, List.length_map, List.length_take, List.length_cons, List.length_nil]; omega)) [wrap64, Ra.len]
  refine wp_count x.length (fun i e h' => e = [some a, some fv, none, none, some (.int .i64 x.length), some (.int .i64 i)] ∧ h.le h' ∧ ∀ (j : Nat) (hj : j < x.length), j < i → p x[j] = false) ⟨rfl, Heap.le.refl h, fun j _ hj => absurd hj (Nat.not_lt_zero j)⟩ ?_
  rintro J i _ h1 hJ hi ⟨rfl, hl, hn⟩
  simp -implicitDefEqProofs (disch := first | omega | (simp only [List.length_set, List.length_replicate, List.length_append, List.length_map, List.length_take, List.length_cons, List.length_nil]; omega)) [wrap64]
  refine IteW.mk (fun hlt => ?_) (fun hge => ?_)
  · have hlx : i < x.length := by omega
    obtain ⟨u, hu, Ru⟩ := (Ra.le hl).ld hlx
    change hload _ (some (elp 10 a i)) (some 10) = some u at hu
    simp -implicitDefEqProofs (disch := first | omega | (simp only [List.length_set, List.length_replicate, List.length_append, List.length_map, List.length_take, List.length_cons, List.length_nil]; omega)) [wrap64, (Ra.le hl).X (n := 10) rfl, hu, hf]
    refine (hp h1 hl i hlx u Ru).go ?_
    rintro _ h2 ⟨hl2, rfl⟩
    simp -implicitDefEqProofs (disch := first | omega | (simp only [List.length_set, List.length_replicate, List.length_append, List.length_map, List.length_take, List.length_cons, List.length_nil]; omega)) [wrap64]
    refine IteW.mk (fun hq => ?_) (fun hq => ?_)
    · simp -implicitDefEqProofs (disch := first | omega | (simp only [List.length_set, List.length_replicate, List.length_append, List.length_map, List.length_take, List.length_cons, List.length_nil]; omega)) [wrap64]
      refine RetK.keep (hk _ _ ⟨hl.trans hl2, ?_⟩)
      have h3 : x.findIdx? p = some i := by
        rw [List.findIdx?_eq_some_iff_getElem]
        exact ⟨hlx, hq, fun j hj => by rw [hn j (by omega) hj]; simp⟩
      rw [h3]
    · simp -implicitDefEqProofs (disch := first | omega | (simp only [List.length_set, List.length_replicate, List.length_append, List.length_map, List.length_take, List.length_cons, List.length_nil]; omega)) [wrap64]
      refine hJ _ _ hlx ⟨rfl, hl.trans hl2, fun j hj hji => ?_⟩
      by_cases hji2 : j = i
      · subst hji2; simpa using hq
      · exact hn j hj (by omega)
  · simp -implicitDefEqProofs (disch := first | omega | (simp only [List.length_set, List.length_replicate, List.length_append, List.length_map, List.length_take, List.length_cons, List.length_nil]; omega)) [wrap64]
    refine RetK.keep (hk _ _ ⟨hl, ?_⟩)
    have h3 : x.findIdx? p = none := by
      rw [List.findIdx?_eq_none_iff]
      intro y hy
      obtain ⟨j, hj, rfl⟩ := List.mem_iff_getElem.1 hy
      exact hn j hj (by omega)
    rw [h3]

theorem c_ContainsFunc_impl_Edge {h : Heap} {a fv : Value} {x : List (Ed)} (Ra : Rep h a x) {f : FuncId} {c1 c2 : List Value} (hf : fnOf fv = some (f, c1, c2)) (p : (Ed) → Bool)
    (hp : ∀ h1, h.le h1 → ∀ (i : Nat) (hi : i < x.length) (u : Value), Rep h1 u x[i] → CallE Try.prog f (c1 ++ u :: c2) h1 (fun v h' => h1.le h' ∧ v = .bool (p x[i]))) :
    CallE Try.prog fn_slices_ContainsFunc_S_impl_Edge_impl_Edge [a, fv] h (fun v h' => h.le h' ∧ v = .bool (x.any p)) := by
  refine CallE.gen fun k hk => EN_slices_ContainsFunc_S_impl_Edge_impl_Edge rfl ?_
  simp -implicitDefEqProofs (disch := first | omega | (simp only [List.length_set, List.length_replicate, List.length_append, List.length_map, List.length_take, List.length_cons, List.length_nil]; omega)) [wrap64]
  refine (c_IndexFunc_impl_Edge Ra hf p hp).go ?_
  rintro _ h1 ⟨hl, rfl⟩
  simp -implicitDefEqProofs (disch := first | omega | (simp only [List.length_set, List.length_replicate, List.length_append, List.length_map, List.length_take, List.length_cons, List.length_nil]; omega)) [wrap64]
  refine RetK.keep (hk _ _ ⟨hl, ?_⟩)
  congr 1
  rw [← List.findIdx?_isSome]
  cases x.findIdx? p <;> simp

theorem c_IndexFunc_impl_Expr {h : Heap} {a fv : Value} {x : List (Exq)} (Ra : Rep h a x) {f : FuncId} {c1 c2 : List Value} (hf : fnOf fv = some (f, c1, c2)) (p : (Exq) → Bool)
    (hp : ∀ h1, h.le h1 → ∀ (i : Nat) (hi : i < x.length) (u : Value), Rep h1 u x[i] → CallE Try.prog f (c1 ++ u :: c2) h1 (fun v h' => h1.le h' ∧ v = .bool (p x[i]))) :
    CallE Try.prog fn_slices_IndexFunc_S_impl_Expr_impl_Expr [a, fv] h (fun v h' => h.le h' ∧ v = .int .i64 (match x.findIdx? p with | some i => (i : Int) | none => -1)) := by
  refine CallE.gen fun k hk => EN_slices_IndexFunc_S_impl_Expr_impl_Expr rfl ?_
  have hL := Ra.lt
  simp -implicitDefEqProofs (disch := first | omega | (simp only [List.length_set, List.length_replicate, List.length_append, List.length_map, List.length_take, List.length_cons, List.length_nil]; omega)) [wrap64, Ra.len]
  refine wp_count x.length (fun i e h' => e = [some a, some fv, none, none, some (.int .i64 x.length), some (.int .i64 i)] ∧ h.le h' ∧ ∀ (j : Nat) (hj : j < x.length), j < i → p x[j] = false) ⟨rfl, Heap.le.refl h, fun j _ hj => absurd hj (Nat.not_lt_zero j)⟩ ?_
  rintro J i _ h1 hJ hi ⟨rfl, hl, hn⟩
  simp -implicitDefEqProofs (disch := first | omega | (simp only [List.length_set, List.length_replicate, List.length_append, List.length_map, List.length_take, List.length_cons, List.length_nil]; omega)) [wrap64]
  refine IteW.mk (fun hlt => ?_) (fun hge => ?_)
  · have hlx : i < x.length := by omega
    obtain ⟨u, hu, Ru⟩ := (Ra.le hl).ld hlx
    change hload _ (some (elp 3 a i)) (some 3) = some u at hu
    simp -implicitDefEqProofs (disch := first | omega | (simp only [List.length_set, List.length_replicate, List.length_append, List.length_map, List.length_take, List.length_cons, List.length_nil]; omega)) [wrap64, (Ra.le hl).X (n := 3) rfl, hu, hf]
    refine (hp h1 hl i hlx u Ru).go ?_
    rintro _ h2 ⟨hl2, rfl⟩
    simp -implicitDefEqProofs (disch := first | omega | (simp only [List.length_set, List.length_replicate, List.length_append, List.length_map, List.length_take, List.length_cons, List.length_nil]; omega)) [wrap64]
    refine IteW.mk (fun hq => ?_) (fun hq => ?_)
    · simp -implicitDefEqProofs (disch := first | omega | (simp only [List.length_set, List.length_replicate, List.length_append, List.length_map, List.length_take, List.length_cons, List.length_nil]; omega)) [wrap64]
      refine RetK.keep (hk _ _ ⟨hl.trans hl2, ?_⟩)
      have h3 : x.findIdx? p = some i := by
        rw [List.findIdx?_eq_some_iff_getElem]
        exact ⟨hlx, hq, fun j hj => by rw [hn j (by omega) hj]; simp⟩
      rw [h3]
    · simp -implicitDefEqProofs (disch := first | omega | (simp only [List.length_set, List.length_replicate, List.length_append, List.length_map, List.length_take, List.length_cons, List.length_nil]; omega)) [wrap64]
      refine hJ _ _ hlx ⟨rfl, hl.trans hl2, fun j hj hji => ?_⟩
      by_cases hji2 : j = i
      · subst hji2; simpa using hq
      · exact hn j hj (by omega)
  · simp -implicitDefEqProofs (disch := first | omega | (simp only [List.length_set, List.length_replicate, List.length_append, List.length_map, List.length_take, List.length_cons, List.length_nil]; omega)) [wrap64]
    refine RetK.keep (hk _ _ ⟨hl, ?_⟩)
    have h3 : x.findIdx? p = none := by
      rw [List.findIdx?_eq_none_iff]
      intro y hy
      obtain ⟨j, hj, rfl⟩ := List.mem_iff_getElem.1 hy
      exact hn j hj (by omega)
    rw [h3]

theorem c_ContainsFunc_impl_Expr {h : Heap} {a fv : Value} {x : List (Exq)} (Ra : Rep h a x) {f : FuncId} {c1 c2 : List Value} (hf : fnOf fv = some (f, c1, c2)) (p : (Exq) → Bool)
    (hp : ∀ h1, h.le h1 → ∀ (i : Nat) (hi : i < x.length) (u : Value), Rep h1 u x[i] → CallE Try.prog f (c1 ++ u :: c2) h1 (fun v h' => h1.le h' ∧ v = .bool (p x[i]))) :
    CallE Try.prog fn_slices_ContainsFunc_S_impl_Expr_impl_Expr [a, fv] h (fun v h' => h.le h' ∧ v = .bool (x.any p)) := by
  refine CallE.gen fun k hk => EN_slices_ContainsFunc_S_impl_Expr_impl_Expr rfl ?_
  simp -implicitDefEqProofs (disch := first | omega | (simp only [List.length_set, List.length_replicate, List.length_append, List.length_map, List.length_take, List.length_cons, List.length_nil]; omega)) [wrap64]
  refine (c_IndexFunc_impl_Expr Ra hf p hp).go ?_
  rintro _ h1 ⟨hl, rfl⟩
  simp -implicitDefEqProofs (disch := first | omega | (simp only [List.length_set, List.length_replicate, List.length_append, List.length_map, List.length_take, List.length_cons, List.length_nil]; omega)) [wrap64]
  refine RetK.keep (hk _ _ ⟨hl, ?_⟩)
  congr 1
  rw [← List.findIdx?_isSome]
  cases x.findIdx? p <;> simp

end Go.Proofs.Ytonjglbachhdcaa

/-
  Valid expressions, edges, systems and labels, by the program.
-/
namespace Go.Proofs.Ytonjglbachhdcaa
open Go
set_option linter.all false
set_option linter.unusedVariables false
set_option linter.unusedSimpArgs false
set_option linter.defProp false
set_option maxRecDepth 1000000

theorem c_ExprNodes {h : Heap} {v : Value} {x : Exq} (R : Rep h v x) : CallE Try.prog fn_impl_ExprNodes [v] h (fun u h' => h.le h' ∧ u = .int .i64 (if x.Ok then (x.nod : Int) else 0)) := by
  have F := R.aExq
  refine CallE.gen fun k hk => EN_impl_ExprNodes rfl ?_
  simp -implicitDefEqProofs (disch := first | omega | (simp only [List.length_set, List.length_replicate, List.length_append, List.length_map, List.length_take, List.length_cons, List.length_nil]; omega)) [wrap64]
  refine HS.init.alloc rfl fun b h1 H => ?_
  simp only [cells_int] at H
  simp -implicitDefEqProofs (disch := first | omega | (simp only [List.length_set, List.length_replicate, List.length_append, List.length_map, List.length_take, List.length_cons, List.length_nil]; omega)) [wrap64]
  refine HS.bxst (o := 0) (sz := 1) (u := .int .i64 0) H rfl rfl rfl rfl (by simp) fun h2 H => ?_
  have H : HS h [bx b [.int .i64 ((0 : Nat) : Int)]] h2 := H
  simp -implicitDefEqProofs (disch := first | omega | (simp only [List.length_set, List.length_replicate, List.length_append, List.length_map, List.length_take, List.length_cons, List.length_nil]; omega)) [wrap64, F]
  refine (c_walk x (d := 1) rfl R H (by omega) (by omega) (by omega)).go ?_
  rintro _ h3 ⟨n', ok, rfl, H, g1, g2⟩
  have hok : ok = true ↔ x.Ok := by rw [g1]; simp [Exq.Ok]
  cases ok with
  | true =>
    have e := g2 rfl
    have ho := hok.1 rfl
    simp -implicitDefEqProofs (disch := first | omega | (simp only [List.length_set, List.length_replicate, List.length_append, List.length_map, List.length_take, List.length_cons, List.length_nil]; omega)) [wrap64, H.bxld0]
    refine RetK.keep (hk _ _ ⟨H.base, ?_⟩)
    rw [if_pos ho, e]; simp
  | false =>
    simp -implicitDefEqProofs (disch := first | omega | (simp only [List.length_set, List.length_replicate, List.length_append, List.length_map, List.length_take, List.length_cons, List.length_nil]; omega)) [wrap64]
    refine RetK.keep (hk _ _ ⟨H.base, ?_⟩)
    rw [if_neg (fun ho => by have := hok.2 ho; simp at this)]
theorem Exq.nod_pos (x : Exq) : 0 < x.nod := by rw [Exq.nod_eq]; omega
theorem c_ExprValid {h : Heap} {v : Value} {x : Exq} (R : Rep h v x) : CallE Try.prog fn_impl_ExprValid [v] h (fun u h' => h.le h' ∧ u = .bool (decide x.Ok)) := by
  have F := R.aExq
  have hp := x.nod_pos
  refine CallE.gen fun k hk => EN_impl_ExprValid rfl ?_
  simp -implicitDefEqProofs (disch := first | omega | (simp only [List.length_set, List.length_replicate, List.length_append, List.length_map, List.length_take, List.length_cons, List.length_nil]; omega)) [wrap64, F]
  refine (c_ExprNodes R).go ?_
  rintro _ h1 ⟨hl, rfl⟩
  simp -implicitDefEqProofs (disch := first | omega | (simp only [List.length_set, List.length_replicate, List.length_append, List.length_map, List.length_take, List.length_cons, List.length_nil]; omega)) [wrap64]
  refine RetK.keep (hk _ _ ⟨hl, ?_⟩)
  congr 1
  by_cases e : x.Ok
  · simp [e]; omega
  · simp [e]

theorem c_EqualFunc_Expr {h : Heap} {a b fv : Value} {x y : List Exq} (Ra : Rep h a x) (Rb : Rep h b y) {f : FuncId} (hf : fnOf fv = some (f, [], []))
    (hp : ∀ z ∈ x, ∀ {h : Heap} {a b : Value} {w : Exq}, Rep h a z → Rep h b w → CallE Try.prog f [a, b] h (fun u h' => h' = h ∧ u = .bool (decide (z = w)))) :
    CallE Try.prog fn_slices_EqualFunc_S_impl_Expr_S_impl_Expr_impl_Expr_impl_Expr [a, b, fv] h (fun u h' => h' = h ∧ u = .bool (decide (x = y))) := by
  refine CallE.gen fun k hk => EN_slices_EqualFunc_S_impl_Expr_S_impl_Expr_impl_Expr_impl_Expr rfl ?_
  have hL := Ra.lt
  simp -implicitDefEqProofs (disch := first | omega | (simp only [List.length_set, List.length_replicate, List.length_append, List.length_map, List.length_take, List.length_cons, List.length_nil]; omega)) [wrap64, Ra.len, Rb.len]
  refine IteW.mkr (fun hne => ?_) (fun heq => ?_)
  · simp -implicitDefEqProofs (disch := first | omega | (simp only [List.length_set, List.length_replicate, List.length_append, List.length_map, List.length_take, List.length_cons, List.length_nil]; omega)) [wrap64]
    exact RetK.keep (hk _ _ ⟨rfl, by simp; rintro rfl; exact hne rfl⟩)
  simp -implicitDefEqProofs (disch := first | omega | (simp only [List.length_set, List.length_replicate, List.length_append, List.length_map, List.length_take, List.length_cons, List.length_nil]; omega)) [wrap64, Ra.len]
  refine wp_count x.length (fun i e h' => h' = h ∧ e = [none, some b, some fv, none, none, none, none, some a, some (.int .i64 x.length), some (.int .i64 i)] ∧ x.take i = y.take i) ⟨rfl, by simp [heq], rfl⟩ ?_
  rintro J i _ _ hJ hi ⟨rfl, rfl, hxy⟩
  simp -implicitDefEqProofs (disch := first | omega | (simp only [List.length_set, List.length_replicate, List.length_append, List.length_map, List.length_take, List.length_cons, List.length_nil]; omega)) [wrap64]
  refine IteW.mk (fun hlt => ?_) (fun hge => ?_)
  · have hly : i < y.length := by omega
    have hlx : i < x.length := by omega
    obtain ⟨u, hu, Ru⟩ := Ra.ld hlx
    obtain ⟨w, hw, Rw⟩ := Rb.ld hly
    change hload _ (some (elp 3 a i)) (some 3) = some u at hu
    change hload _ (some (elp 3 b i)) (some 3) = some w at hw
    simp -implicitDefEqProofs (disch := first | omega | (simp only [List.length_set, List.length_replicate, List.length_append, List.length_map, List.length_take, List.length_cons, List.length_nil]; omega)) [wrap64, Ra.X (n := 3) rfl, Rb.X (n := 3) rfl, hu, hw, Ru.aExq, Rw.aExq, hf]
    refine (hp _ (List.getElem_mem hlx) Ru Rw).go ?_
    rintro _ _ ⟨rfl, rfl⟩
    simp -implicitDefEqProofs (disch := first | omega | (simp only [List.length_set, List.length_replicate, List.length_append, List.length_map, List.length_take, List.length_cons, List.length_nil]; omega)) [wrap64]
    refine IteW.mkr (fun hne => ?_) (fun heq => ?_)
    · simp -implicitDefEqProofs (disch := first | omega | (simp only [List.length_set, List.length_replicate, List.length_append, List.length_map, List.length_take, List.length_cons, List.length_nil]; omega)) [wrap64]
      exact RetK.keep (hk _ _ ⟨rfl, by simp; rintro rfl; exact hne rfl⟩)
    simp -implicitDefEqProofs (disch := first | omega | (simp only [List.length_set, List.length_replicate, List.length_append, List.length_map, List.length_take, List.length_cons, List.length_nil]; omega)) [wrap64]
    exact hJ _ _ hlx ⟨rfl, rfl, take_step hxy hlx hly heq⟩
  · simp -implicitDefEqProofs (disch := first | omega | (simp only [List.length_set, List.length_replicate, List.length_append, List.length_map, List.length_take, List.length_cons, List.length_nil]; omega)) [wrap64]
    refine RetK.keep (hk _ _ ⟨rfl, ?_⟩)
    simp
    rw [List.take_of_length_le (by omega), List.take_of_length_le (by omega)] at hxy
    exact hxy
theorem c_ExprSame' : ∀ (x : Exq) {h : Heap} {a b : Value} {y : Exq}, Rep h a x → Rep h b y → CallE Try.prog fn_impl_ExprSame [a, b] h (fun u h' => h' = h ∧ u = .bool (decide (x = y))) := by
  refine Exq.ind fun x ih h a b y Ra Rb => ?_
  obtain ⟨w, rfl, k1, k2, R1⟩ := Rep_Exq.1 Ra
  obtain ⟨w2, rfl, k3, k4, R2⟩ := Rep_Exq.1 Rb
  refine CallE.gen fun k hk => EN_impl_ExprSame rfl ?_
  by_cases h1 : x.kind = y.kind
  case neg =>
    simp -implicitDefEqProofs (disch := first | omega | (simp only [List.length_set, List.length_replicate, List.length_append, List.length_map, List.length_take, List.length_cons, List.length_nil]; omega)) [wrap64, h1]
    exact RetK.keep (hk _ _ ⟨rfl, by simp [Exq.ext_iff', h1]⟩)
  by_cases h2 : x.val = y.val
  case neg =>
    simp -implicitDefEqProofs (disch := first | omega | (simp only [List.length_set, List.length_replicate, List.length_append, List.length_map, List.length_take, List.length_cons, List.length_nil]; omega)) [wrap64, h1, h2]
    exact RetK.keep (hk _ _ ⟨rfl, by simp [Exq.ext_iff', h2]⟩)
  simp -implicitDefEqProofs (disch := first | omega | (simp only [List.length_set, List.length_replicate, List.length_append, List.length_map, List.length_take, List.length_cons, List.length_nil]; omega)) [wrap64, h1, h2]
  refine (c_EqualFunc_Expr R1 R2 (f := fn_impl_ExprSame) rfl ih).go ?_
  rintro _ _ ⟨rfl, rfl⟩
  simp -implicitDefEqProofs (disch := first | omega | (simp only [List.length_set, List.length_replicate, List.length_append, List.length_map, List.length_take, List.length_cons, List.length_nil]; omega)) [wrap64]
  exact RetK.keep (hk _ _ ⟨rfl, by simp [Exq.ext_iff', h1, h2]⟩)
theorem c_ExprSame {x : Exq} {h : Heap} {a b : Value} {y : Exq} (Ra : Rep h a x) (Rb : Rep h b y) : CallE Try.prog fn_impl_ExprSame [a, b] h (fun u h' => h' = h ∧ u = .bool (decide (x = y))) := c_ExprSame' x Ra Rb
theorem rep_zero {h : Heap} : Rep h (.agg #[.int .i64 0, .int .i64 0, .slice none 0 0]) Exq.zero := Rep_Exq.2 ⟨_, rfl, i64_0, i64_0, (Own_nils.rep.le fun _ _ h => by simp [Heap.nil] at h)⟩

theorem c_EdgeValid {h : Heap} {v : Value} {e : Ed} (R : Rep h v e) {n : Int} (hn : I64 n) : CallE Try.prog fn_impl_EdgeValid [v, .int .i64 n] h (fun u h' => h.le h' ∧ u = .bool (decide (e.Ok n))) := by
  obtain ⟨w1, w2, rfl, ok, R1, R2⟩ := Rep_Ed.1 R
  have G1 : Rep h (.agg #[.int .i64 e.guard.kind, .int .i64 e.guard.val, w1]) e.guard := Rep_Exq.2 ⟨w1, rfl, ok.gk, ok.gv, R1⟩
  have G2 : Rep h (.agg #[.int .i64 e.value.kind, .int .i64 e.value.val, w2]) e.value := Rep_Exq.2 ⟨w2, rfl, ok.vk, ok.vv, R2⟩
  refine CallE.gen fun k hk => EN_impl_EdgeValid rfl ?_
  have hno : ∀ {h'}, h.le h' → ¬ e.Ok n → k (.bool false) h' := fun hl hh => hk _ _ ⟨hl, by rw [decide_eq_false hh]⟩
  have hyes : ∀ {h'}, h.le h' → e.Ok n → k (.bool true) h' := fun hl hh => hk _ _ ⟨hl, by rw [decide_eq_true hh]⟩
  simp -implicitDefEqProofs (disch := first | omega | (simp only [List.length_set, List.length_replicate, List.length_append, List.length_map, List.length_take, List.length_cons, List.length_nil]; omega)) [wrap64]
  refine c_in.go ?_
  rintro _ _ ⟨rfl, rfl⟩
  by_cases q1 : 1 ≤ n ∧ n ≤ 4
  case neg => simp -implicitDefEqProofs (disch := first | omega | (simp only [List.length_set, List.length_replicate, List.length_append, List.length_map, List.length_take, List.length_cons, List.length_nil]; omega)) [wrap64, q1]; exact RetK.keep (hno (Heap.le.refl _) fun hh => q1 ⟨hh.n1, hh.n4⟩)
  simp -implicitDefEqProofs (disch := first | omega | (simp only [List.length_set, List.length_replicate, List.length_append, List.length_map, List.length_take, List.length_cons, List.length_nil]; omega)) [wrap64, q1, Ed.cs]
  refine c_in.go ?_
  rintro _ _ ⟨rfl, rfl⟩
  by_cases q2 : 0 ≤ e.frm ∧ e.frm ≤ n - 1
  case neg => simp -implicitDefEqProofs (disch := first | omega | (simp only [List.length_set, List.length_replicate, List.length_append, List.length_map, List.length_take, List.length_cons, List.length_nil]; omega)) [wrap64, q2]; exact RetK.keep (hno (Heap.le.refl _) fun hh => q2 ⟨hh.f0, by have := hh.f1; omega⟩)
  simp -implicitDefEqProofs (disch := first | omega | (simp only [List.length_set, List.length_replicate, List.length_append, List.length_map, List.length_take, List.length_cons, List.length_nil]; omega)) [wrap64, q2, Ed.cs]
  refine c_in.go ?_
  rintro _ _ ⟨rfl, rfl⟩
  by_cases q3 : 0 ≤ e.to ∧ e.to ≤ n - 1
  case neg => simp -implicitDefEqProofs (disch := first | omega | (simp only [List.length_set, List.length_replicate, List.length_append, List.length_map, List.length_take, List.length_cons, List.length_nil]; omega)) [wrap64, q3]; exact RetK.keep (hno (Heap.le.refl _) fun hh => q3 ⟨hh.t0, by have := hh.t1; omega⟩)
  simp -implicitDefEqProofs (disch := first | omega | (simp only [List.length_set, List.length_replicate, List.length_append, List.length_map, List.length_take, List.length_cons, List.length_nil]; omega)) [wrap64, q3, Ed.cs]
  refine (c_ExprValid G1).go ?_
  rintro _ h1 ⟨l1, rfl⟩
  by_cases q4 : e.guard.Ok
  case neg => simp -implicitDefEqProofs (disch := first | omega | (simp only [List.length_set, List.length_replicate, List.length_append, List.length_map, List.length_take, List.length_cons, List.length_nil]; omega)) [wrap64, q4]; exact RetK.keep (hno l1 fun hh => q4 hh.gd)
  simp -implicitDefEqProofs (disch := first | omega | (simp only [List.length_set, List.length_replicate, List.length_append, List.length_map, List.length_take, List.length_cons, List.length_nil]; omega)) [wrap64, q4, Ed.cs]
  refine c_in.go ?_
  rintro _ _ ⟨rfl, rfl⟩
  by_cases q5 : -1 ≤ e.var ∧ e.var ≤ 2
  case neg => simp -implicitDefEqProofs (disch := first | omega | (simp only [List.length_set, List.length_replicate, List.length_append, List.length_map, List.length_take, List.length_cons, List.length_nil]; omega)) [wrap64, q5]; exact RetK.keep (hno l1 fun hh => q5 ⟨hh.v0, hh.v1⟩)
  by_cases q6 : 0 ≤ e.var
  · simp -implicitDefEqProofs (disch := first | omega | (simp only [List.length_set, List.length_replicate, List.length_append, List.length_map, List.length_take, List.length_cons, List.length_nil]; omega)) [wrap64, q5, q6, Ed.cs]
    refine (c_ExprValid (G2.le l1)).go ?_
    rintro _ h2 ⟨l2, rfl⟩
    by_cases q7 : e.value.Ok
    case neg => simp -implicitDefEqProofs (disch := first | omega | (simp only [List.length_set, List.length_replicate, List.length_append, List.length_map, List.length_take, List.length_cons, List.length_nil]; omega)) [wrap64, q7, q6, Ed.cs, show ¬ e.var < 0 by omega]; exact RetK.keep (hno (l1.trans l2) fun hh => hh.vl.elim (fun h3 => q7 h3.2) (fun h3 => absurd h3.1 (by omega)))
    simp -implicitDefEqProofs (disch := first | omega | (simp only [List.length_set, List.length_replicate, List.length_append, List.length_map, List.length_take, List.length_cons, List.length_nil]; omega)) [wrap64, q7, Ed.cs]
    refine c_in.go ?_
    rintro _ _ ⟨rfl, rfl⟩
    by_cases q8 : -2 ≤ e.sync ∧ e.sync ≤ 2
    case neg => simp -implicitDefEqProofs (disch := first | omega | (simp only [List.length_set, List.length_replicate, List.length_append, List.length_map, List.length_take, List.length_cons, List.length_nil]; omega)) [wrap64, q8]; exact RetK.keep (hno (l1.trans l2) fun hh => q8 ⟨hh.s0, hh.s1⟩)
    simp -implicitDefEqProofs (disch := first | omega | (simp only [List.length_set, List.length_replicate, List.length_append, List.length_map, List.length_take, List.length_cons, List.length_nil]; omega)) [wrap64, q8]
    exact RetK.keep (hyes (l1.trans l2) ⟨q1.1, q1.2, q2.1, by omega, q3.1, by omega, q4, q5.1, q5.2, .inl ⟨q6, q7⟩, q8.1, q8.2⟩)
  · simp -implicitDefEqProofs (disch := first | omega | (simp only [List.length_set, List.length_replicate, List.length_append, List.length_map, List.length_take, List.length_cons, List.length_nil]; omega)) [wrap64, q5, q6, Ed.cs, show e.var < 0 by omega]
    refine (c_ExprSame (G2.le l1) rep_zero).go ?_
    rintro _ _ ⟨rfl, rfl⟩
    by_cases q7 : e.value = Exq.zero
    case neg => simp -implicitDefEqProofs (disch := first | omega | (simp only [List.length_set, List.length_replicate, List.length_append, List.length_map, List.length_take, List.length_cons, List.length_nil]; omega)) [wrap64, q7]; exact RetK.keep (hno l1 fun hh => hh.vl.elim (fun h3 => q6 h3.1) (fun h3 => q7 h3.2))
    simp -implicitDefEqProofs (disch := first | omega | (simp only [List.length_set, List.length_replicate, List.length_append, List.length_map, List.length_take, List.length_cons, List.length_nil]; omega)) [wrap64, q7, Ed.cs]
    refine c_in.go ?_
    rintro _ _ ⟨rfl, rfl⟩
    by_cases q8 : -2 ≤ e.sync ∧ e.sync ≤ 2
    case neg => simp -implicitDefEqProofs (disch := first | omega | (simp only [List.length_set, List.length_replicate, List.length_append, List.length_map, List.length_take, List.length_cons, List.length_nil]; omega)) [wrap64, q8]; exact RetK.keep (hno l1 fun hh => q8 ⟨hh.s0, hh.s1⟩)
    simp -implicitDefEqProofs (disch := first | omega | (simp only [List.length_set, List.length_replicate, List.length_append, List.length_map, List.length_take, List.length_cons, List.length_nil]; omega)) [wrap64, q8]
    exact RetK.keep (hyes l1 ⟨q1.1, q1.2, q2.1, by omega, q3.1, by omega, q4, q5.1, q5.2, .inr ⟨by omega, q7⟩, q8.1, q8.2⟩)

theorem c_valsOk_1 {h : Heap} {n : Int} : CallE Try.prog fn_impl_valsOk_1 [.int .i64 n] h (fun u h' => h' = h ∧ u = .bool (!decide (0 ≤ n ∧ n ≤ 3))) := by
  refine CallE.gen fun k hk => EN_impl_valsOk_1 rfl ?_
  simp -implicitDefEqProofs (disch := first | omega | (simp only [List.length_set, List.length_replicate, List.length_append, List.length_map, List.length_take, List.length_cons, List.length_nil]; omega)) [wrap64]
  refine c_in.go ?_
  rintro _ _ ⟨rfl, rfl⟩
  simp -implicitDefEqProofs (disch := first | omega | (simp only [List.length_set, List.length_replicate, List.length_append, List.length_map, List.length_take, List.length_cons, List.length_nil]; omega)) [wrap64]
  exact RetK.keep (hk _ _ ⟨rfl, by simp⟩)
theorem c_valsOk {h : Heap} {w : Value} {W : List Int} (Rw : Rep h w W) : CallE Try.prog fn_impl_valsOk [w] h (fun u h' => h.le h' ∧ u = .bool (decide (VOk W))) := by
  have hL := Rw.lt
  refine CallE.gen fun k hk => EN_impl_valsOk rfl ?_
  by_cases h1 : (W.length : Int) = 3
  case neg =>
    simp -implicitDefEqProofs (disch := first | omega | (simp only [List.length_set, List.length_replicate, List.length_append, List.length_map, List.length_take, List.length_cons, List.length_nil]; omega)) [wrap64, Rw.len, h1]
    exact RetK.keep (hk _ _ ⟨Heap.le.refl _, by rw [decide_eq_false (fun hh : VOk W => h1 (by rw [hh.len]; rfl))]⟩)
  simp -implicitDefEqProofs (disch := first | omega | (simp only [List.length_set, List.length_replicate, List.length_append, List.length_map, List.length_take, List.length_cons, List.length_nil]; omega)) [wrap64, Rw.len, h1]
  refine (c_ContainsFunc_int Rw (c1 := []) (c2 := []) (f := fn_impl_valsOk_1) rfl (fun n => !decide (0 ≤ n ∧ n ≤ 3)) ?_).go ?_
  · intro h3 hl j hj u Ru
    obtain ⟨rfl, _⟩ := Rep_int.1 Ru
    exact (c_valsOk_1 (n := W[j])).to fun _ _ ⟨h4, h5⟩ => ⟨h4 ▸ Heap.le.refl _, h5⟩
  · rintro _ h3 ⟨hl, rfl⟩
    simp -implicitDefEqProofs (disch := first | omega | (simp only [List.length_set, List.length_replicate, List.length_append, List.length_map, List.length_take, List.length_cons, List.length_nil]; omega)) [wrap64]
    refine RetK.keep (hk _ _ ⟨hl, ?_⟩)
    congr 1
    rw [Bool.eq_iff_iff]
    have : W.length = 3 := by omega
    simp [VOk, this]

theorem c_LabelsValid_1 {h : Heap} {v : Value} {x : Exq} (R : Rep h v x) : CallE Try.prog fn_impl_LabelsValid_1 [v] h (fun u h' => h.le h' ∧ u = .bool (!decide x.Ok)) := by
  have F := R.aExq
  refine CallE.gen fun k hk => EN_impl_LabelsValid_1 rfl ?_
  simp -implicitDefEqProofs (disch := first | omega | (simp only [List.length_set, List.length_replicate, List.length_append, List.length_map, List.length_take, List.length_cons, List.length_nil]; omega)) [wrap64, F]
  refine (c_ExprValid R).go ?_
  rintro _ h1 ⟨l1, rfl⟩
  simp -implicitDefEqProofs (disch := first | omega | (simp only [List.length_set, List.length_replicate, List.length_append, List.length_map, List.length_take, List.length_cons, List.length_nil]; omega)) [wrap64]
  exact RetK.keep (hk _ _ ⟨l1, rfl⟩)
theorem c_LabelsValid {h : Heap} {w : Value} {L : List Exq} (R : Rep h w L) : CallE Try.prog fn_impl_LabelsValid [w] h (fun u h' => h.le h' ∧ u = .bool (decide (LOk L))) := by
  have hL := R.lt
  refine CallE.gen fun k hk => EN_impl_LabelsValid rfl ?_
  by_cases h1 : (L.length : Int) = 3
  case neg =>
    simp -implicitDefEqProofs (disch := first | omega | (simp only [List.length_set, List.length_replicate, List.length_append, List.length_map, List.length_take, List.length_cons, List.length_nil]; omega)) [wrap64, R.len, h1]
    exact RetK.keep (hk _ _ ⟨Heap.le.refl _, by rw [decide_eq_false (fun hh : LOk L => h1 (by rw [hh.len]; rfl))]⟩)
  simp -implicitDefEqProofs (disch := first | omega | (simp only [List.length_set, List.length_replicate, List.length_append, List.length_map, List.length_take, List.length_cons, List.length_nil]; omega)) [wrap64, R.len, h1]
  refine (c_ContainsFunc_impl_Expr R (c1 := []) (c2 := []) (f := fn_impl_LabelsValid_1) rfl (fun x => !decide x.Ok) ?_).go ?_
  · intro h3 hl j hj u Ru
    exact c_LabelsValid_1 Ru
  · rintro _ h3 ⟨hl, rfl⟩
    simp -implicitDefEqProofs (disch := first | omega | (simp only [List.length_set, List.length_replicate, List.length_append, List.length_map, List.length_take, List.length_cons, List.length_nil]; omega)) [wrap64]
    refine RetK.keep (hk _ _ ⟨hl, ?_⟩)
    congr 1
    rw [Bool.eq_iff_iff]
    have h5 : L.length = 3 := by omega
    simp only [Bool.not_eq_true', List.any_eq_false, decide_eq_true_iff, Bool.not_eq_true, Bool.not_eq_false']
    exact ⟨fun hh => ⟨h5, fun x hx => by simpa using hh x hx⟩, fun hh x hx => by simpa using hh.ok x hx⟩

theorem c_SystemValid_1 {h : Heap} {v : Value} {e : Ed} {b : Nat} {n : Int} (R : Rep h v e) (hn : I64 n) (hb : hload h (some (.pointer (some ⟨b, 0, none⟩))) none = some (.int .i64 n)) :
    CallE Try.prog fn_impl_SystemValid_1 [v, .pointer (some ⟨b, 0, none⟩)] h (fun u h' => h.le h' ∧ u = .bool (!decide (e.Ok n))) := by
  have F := R.aEd
  refine CallE.gen fun k hk => EN_impl_SystemValid_1 rfl ?_
  simp -implicitDefEqProofs (disch := first | omega | (simp only [List.length_set, List.length_replicate, List.length_append, List.length_map, List.length_take, List.length_cons, List.length_nil]; omega)) [wrap64, F, hb]
  refine (c_EdgeValid R hn).go ?_
  rintro _ h1 ⟨l1, rfl⟩
  simp -implicitDefEqProofs (disch := first | omega | (simp only [List.length_set, List.length_replicate, List.length_append, List.length_map, List.length_take, List.length_cons, List.length_nil]; omega)) [wrap64]
  exact RetK.keep (hk _ _ ⟨l1, rfl⟩)
theorem c_SystemValid {h : Heap} {v : Value} {s : Sy} (R : Rep h v s) : CallE Try.prog fn_impl_SystemValid [v] h (fun u h' => h.le h' ∧ u = .bool (decide s.Ok)) := by
  obtain ⟨v1, v2, rfl, R1, R2⟩ := Rep_Sy.1 R
  have hL := R2.lt
  refine CallE.gen fun k hk => EN_impl_SystemValid rfl ?_
  have hno : ∀ {h'}, h.le h' → ¬ s.Ok → k (.bool false) h' := fun hl hh => hk _ _ ⟨hl, by rw [decide_eq_false hh]⟩
  simp -implicitDefEqProofs (disch := first | omega | (simp only [List.length_set, List.length_replicate, List.length_append, List.length_map, List.length_take, List.length_cons, List.length_nil]; omega)) [wrap64]
  refine (c_valsOk R1).go ?_
  rintro _ h1 ⟨l1, rfl⟩
  by_cases q1 : VOk s.init
  case neg => simp -implicitDefEqProofs (disch := first | omega | (simp only [List.length_set, List.length_replicate, List.length_append, List.length_map, List.length_take, List.length_cons, List.length_nil]; omega)) [wrap64, q1]; exact RetK.keep (hno l1 fun hh => q1 hh.vs)
  simp -implicitDefEqProofs (disch := first | omega | (simp only [List.length_set, List.length_replicate, List.length_append, List.length_map, List.length_take, List.length_cons, List.length_nil]; omega)) [wrap64, q1, R2.len]
  refine c_in.go ?_
  rintro _ _ ⟨rfl, rfl⟩
  by_cases q2 : (1 : Int) ≤ s.procs.length ∧ (s.procs.length : Int) ≤ 3
  case neg => simp -implicitDefEqProofs (disch := first | omega | (simp only [List.length_set, List.length_replicate, List.length_append, List.length_map, List.length_take, List.length_cons, List.length_nil]; omega)) [wrap64, q2]; exact RetK.keep (hno l1 fun hh => q2 ⟨by have := hh.p1; omega, by have := hh.p3; omega⟩)
  simp -implicitDefEqProofs (disch := first | omega | (simp only [List.length_set, List.length_replicate, List.length_append, List.length_map, List.length_take, List.length_cons, List.length_nil]; omega)) [wrap64, q2, R2.len]
  refine wp_count s.procs.length (fun i e h' => h.le h' ∧ e = [none, none, none, none, some v2, some (.int .i64 s.procs.length), some (.int .i64 i)] ∧ ∀ p ∈ s.procs.take i, p.Ok) ⟨l1, by simp, by simp⟩ ?_
  rintro J i _ h2 hJ hi ⟨l2, rfl, hall⟩
  simp -implicitDefEqProofs (disch := first | omega | (simp only [List.length_set, List.length_replicate, List.length_append, List.length_map, List.length_take, List.length_cons, List.length_nil]; omega)) [wrap64]
  refine IteW.mk (fun hlt => ?_) (fun hge => ?_)
  · have hlx : i < s.procs.length := by omega
    obtain ⟨u, hu, Ru⟩ := (R2.le l2).ld hlx
    change hload _ (some (elp 2 v2 i)) (some 2) = some u at hu
    obtain ⟨w, rfl, k1, R3⟩ := Rep_Pr.1 Ru
    have hw1 := R3.cells
    have hw2 := R3.one
    have hel := R3.lt
    simp -implicitDefEqProofs (disch := first | omega | (simp only [List.length_set, List.length_replicate, List.length_append, List.length_map, List.length_take, List.length_cons, List.length_nil]; omega)) [wrap64, R2.X (n := 2) rfl, hu]
    refine HS.init.alloc rfl fun b h3 H => ?_
    simp -implicitDefEqProofs (disch := first | omega | (simp only [List.length_set, List.length_replicate, List.length_append, List.length_map, List.length_take, List.length_cons, List.length_nil]; omega)) [wrap64]
    refine HS.bxst (o := 0) (sz := 2) H rfl rfl rfl (by simp [hw2]) (by simp) fun h4 H => ?_
    have H : HS h2 [bx b [.int .i64 s.procs[i].locs, w]] h4 := H
    have l4 := l2.trans H.base
    have hb0 := H.bxld (o := 0) (u := .int .i64 s.procs[i].locs) rfl
    have hb1 := H.bxld (o := 1) (u := w) rfl
    simp -implicitDefEqProofs (disch := first | omega | (simp only [List.length_set, List.length_replicate, List.length_append, List.length_map, List.length_take, List.length_cons, List.length_nil]; omega)) [wrap64, hb0]
    refine c_in.go ?_
    rintro _ _ ⟨rfl, rfl⟩
    by_cases q3 : 1 ≤ s.procs[i].locs ∧ s.procs[i].locs ≤ 4
    case neg => simp -implicitDefEqProofs (disch := first | omega | (simp only [List.length_set, List.length_replicate, List.length_append, List.length_map, List.length_take, List.length_cons, List.length_nil]; omega)) [wrap64, q3, hb1, (R3.on H).len]; exact RetK.keep (hno l4 fun hh => q3 ⟨(hh.at hlx).n1, (hh.at hlx).n4⟩)
    by_cases q4 : (6 : Int) < s.procs[i].edges.length
    · simp -implicitDefEqProofs (disch := first | omega | (simp only [List.length_set, List.length_replicate, List.length_append, List.length_map, List.length_take, List.length_cons, List.length_nil]; omega)) [wrap64, q3, q4, hb1, (R3.on H).len]; exact RetK.keep (hno l4 fun hh => by have := (hh.at hlx).el; omega)
    simp -implicitDefEqProofs (disch := first | omega | (simp only [List.length_set, List.length_replicate, List.length_append, List.length_map, List.length_take, List.length_cons, List.length_nil]; omega)) [wrap64, q3, q4, hb1, (R3.on H).len]
    refine (c_ContainsFunc_impl_Edge (R3.on H) (c1 := []) (c2 := [.pointer (some ⟨b, 0, none⟩)]) (f := fn_impl_SystemValid_1) rfl (fun e => !decide (e.Ok s.procs[i].locs)) ?_).go ?_
    · intro h5 hl5 j hj u Ru
      exact c_SystemValid_1 Ru k1 (hload_le hl5 hb0)
    · rintro _ h5 ⟨l5, rfl⟩
      have hex : s.procs[i].edges.any (fun e => !decide (e.Ok s.procs[i].locs)) = false ↔ s.procs[i].Ok := by
        simp only [List.any_eq_false, Bool.not_eq_true, Bool.not_eq_false', decide_eq_true_iff]
        exact ⟨fun hh => ⟨q3.1, q3.2, by omega, hh⟩, fun hh => hh.ed⟩
      by_cases q5 : s.procs[i].Ok
      · simp -implicitDefEqProofs (disch := first | omega | (simp only [List.length_set, List.length_replicate, List.length_append, List.length_map, List.length_take, List.length_cons, List.length_nil]; omega)) [wrap64, hex.2 q5]
        refine hJ _ _ hlx ⟨l4.trans l5, by simp, fun p hp => ?_⟩
        rw [List.take_add_one, List.getElem?_eq_getElem hlx] at hp
        rcases List.mem_append.1 hp with hp | hp
        · exact hall p hp
        · simp at hp; subst hp; exact q5
      · have hf : s.procs[i].edges.any (fun e => !decide (e.Ok s.procs[i].locs)) = true := by
          cases hh : s.procs[i].edges.any (fun e => !decide (e.Ok s.procs[i].locs)) with
          | true => rfl
          | false => exact absurd (hex.1 hh) q5
        simp -implicitDefEqProofs (disch := first | omega | (simp only [List.length_set, List.length_replicate, List.length_append, List.length_map, List.length_take, List.length_cons, List.length_nil]; omega)) [wrap64, hf]
        exact RetK.keep (hno (l4.trans l5) fun hh => q5 (hh.at hlx))
  · simp -implicitDefEqProofs (disch := first | omega | (simp only [List.length_set, List.length_replicate, List.length_append, List.length_map, List.length_take, List.length_cons, List.length_nil]; omega)) [wrap64]
    rw [List.take_of_length_le (by omega)] at hall
    exact RetK.keep (hk _ _ ⟨l2, by rw [decide_eq_true (show s.Ok from ⟨q1, by omega, by omega, hall⟩)]⟩)
end Go.Proofs.Ytonjglbachhdcaa

/-
  Valid expressions, edges, systems and labels, by the reference.
-/
namespace Go.Proofs.Ytonjglbachhdcaa
open Go
set_option linter.all false
set_option linter.unusedVariables false
set_option linter.unusedSimpArgs false
set_option linter.defProp false
set_option maxRecDepth 1000000

theorem c_l1Arity {h : Heap} {n : Int} : CallE Try.prog fn_spec_l1Arity [.int .i64 n] h (fun u h' => h' = h ∧ u = .int .i64 (Exq.arity n)) := by
  refine CallE.gen fun k hk => EN_spec_l1Arity rfl ?_
  by_cases c1 : n = 1
  · simp -implicitDefEqProofs (disch := first | omega | (simp only [List.length_set, List.length_replicate, List.length_append, List.length_map, List.length_take, List.length_cons, List.length_nil]; omega)) [wrap64, c1]
    exact RetK.keep (hk _ _ ⟨rfl, by simp [Exq.arity, c1]⟩)
  by_cases c2 : n = 2
  · simp -implicitDefEqProofs (disch := first | omega | (simp only [List.length_set, List.length_replicate, List.length_append, List.length_map, List.length_take, List.length_cons, List.length_nil]; omega)) [wrap64, c1, c2]
    exact RetK.keep (hk _ _ ⟨rfl, by simp [Exq.arity, c2]⟩)
  by_cases c3 : n = 3
  · simp -implicitDefEqProofs (disch := first | omega | (simp only [List.length_set, List.length_replicate, List.length_append, List.length_map, List.length_take, List.length_cons, List.length_nil]; omega)) [wrap64, c1, c2, c3]
    exact RetK.keep (hk _ _ ⟨rfl, by simp [Exq.arity, c3]⟩)
  by_cases c4 : 4 ≤ n
  case neg =>
    simp -implicitDefEqProofs (disch := first | omega | (simp only [List.length_set, List.length_replicate, List.length_append, List.length_map, List.length_take, List.length_cons, List.length_nil]; omega)) [wrap64, c1, c2, c3, c4]
    exact RetK.keep (hk _ _ ⟨rfl, by simp [Exq.arity, c1, c2, c3, c4]⟩)
  by_cases c5 : n ≤ 9
  case neg =>
    simp -implicitDefEqProofs (disch := first | omega | (simp only [List.length_set, List.length_replicate, List.length_append, List.length_map, List.length_take, List.length_cons, List.length_nil]; omega)) [wrap64, c1, c2, c3, c4, c5]
    exact RetK.keep (hk _ _ ⟨rfl, by simp [Exq.arity, c1, c2, c3, c4, c5]⟩)
  simp -implicitDefEqProofs (disch := first | omega | (simp only [List.length_set, List.length_replicate, List.length_append, List.length_map, List.length_take, List.length_cons, List.length_nil]; omega)) [wrap64, c1, c2, c3, c4, c5]
  exact RetK.keep (hk _ _ ⟨rfl, by simp [Exq.arity, c1, c2, c3, c4, c5]⟩)

noncomputable instance {n : Nat} {x : Exq} : Decidable (x.Shp n) := Classical.propDecidable _
theorem c_l1Shape : ∀ (n : Nat) {x : Exq} {h : Heap} {v : Value} {dv : Int}, dv = n → n ≤ 6 → Rep h v x → CallE Try.prog fn_spec_l1Shape [v, .int .i64 dv] h (fun u h' => h' = h ∧ u = .bool (decide (x.Shp n))) := by
  intro n
  induction n with
  | zero =>
    intro x h v dv hd _ R
    have hd : dv = 0 := hd
    obtain ⟨w, rfl, k1, k2, R1⟩ := Rep_Exq.1 R
    refine CallE.gen fun k hk => EN_spec_l1Shape rfl ?_
    simp -implicitDefEqProofs (disch := first | omega | (simp only [List.length_set, List.length_replicate, List.length_append, List.length_map, List.length_take, List.length_cons, List.length_nil]; omega)) [wrap64, hd]
    exact RetK.keep (hk _ _ ⟨rfl, by rw [decide_eq_false (fun hh : x.Shp 0 => hh)]⟩)
  | succ n ih =>
    intro x h v dv hd hd6 R
    obtain ⟨w, rfl, k1, k2, R1⟩ := Rep_Exq.1 R
    have hL := R1.lt
    obtain ⟨ln, hln⟩ : ∃ ln : Int, ln = x.kids.length := ⟨_, rfl⟩
    have hlen := R1.len
    rw [← hln] at hlen
    refine CallE.gen fun k hk => EN_spec_l1Shape rfl ?_
    have hno : ¬ x.Shp (n + 1) → k (.bool false) h := fun hh => hk _ _ ⟨rfl, by rw [decide_eq_false hh]⟩
    simp -implicitDefEqProofs (disch := first | omega | (simp only [List.length_set, List.length_replicate, List.length_append, List.length_map, List.length_take, List.length_cons, List.length_nil]; omega)) [wrap64, hlen, show ¬ dv < 1 by omega]
    refine c_l1Arity.go ?_
    rintro _ h ⟨rfl, rfl⟩
    by_cases q1 : ln = Exq.arity x.kind
    case neg => simp -implicitDefEqProofs (disch := first | omega | (simp only [List.length_set, List.length_replicate, List.length_append, List.length_map, List.length_take, List.length_cons, List.length_nil]; omega)) [wrap64, q1]; exact RetK.keep (hno fun hh => q1 (by rw [hln]; exact hh.1.ar))
    have hm : (x.kind = 1 ∧ Exq.most x.kind = 3) ∨ (x.kind = 2 ∧ Exq.most x.kind = 2) ∨ ((¬ x.kind = 1 ∧ ¬ x.kind = 2) ∧ Exq.most x.kind = 0) := by
      unfold Exq.most
      by_cases c1 : x.kind = 1
      · exact .inl ⟨c1, by simp [c1]⟩
      by_cases c2 : x.kind = 2
      · exact .inr (.inl ⟨c2, by simp [c2]⟩)
      · exact .inr (.inr ⟨⟨c1, c2⟩, by simp [c1, c2]⟩)
    rcases hm with ⟨c1, hmo⟩ | ⟨c1, hmo⟩ | ⟨c1, hmo⟩
    all_goals
      by_cases q2 : x.val < 0
      · simp -implicitDefEqProofs (disch := first | omega | (simp only [List.length_set, List.length_replicate, List.length_append, List.length_map, List.length_take, List.length_cons, List.length_nil]; omega)) [wrap64, q1, c1, q2]; exact RetK.keep (hno fun hh => by have := hh.1.lo; omega)
      by_cases q3 : Exq.most x.kind < x.val
      · rw [hmo] at q3
        simp -implicitDefEqProofs (disch := first | omega | (simp only [List.length_set, List.length_replicate, List.length_append, List.length_map, List.length_take, List.length_cons, List.length_nil]; omega)) [wrap64, q1, c1, q2, q3]; exact RetK.keep (hno fun hh => by have := hh.1.hi; omega)
      rw [hmo] at q3
      simp -implicitDefEqProofs (disch := first | omega | (simp only [List.length_set, List.length_replicate, List.length_append, List.length_map, List.length_take, List.length_cons, List.length_nil]; omega)) [wrap64, q1, c1, q2, q3]
      refine wp_count x.kids.length (fun i e h' => h' = h ∧ (∃ kd : Int, kd = x.kind ∧ e = [none, some (.int .i64 dv), some (.agg #[.int .i64 kd, .int .i64 x.val, w]), none, none, some (.int .i64 i), none]) ∧ ∀ y ∈ x.kids.take i, y.Shp n) ⟨rfl, ⟨_, rfl, by simp [c1]⟩, by simp⟩ ?_
      rintro J i _ _ hJ hi ⟨rfl, ⟨kd, hkd, rfl⟩, hall⟩
      simp -implicitDefEqProofs (disch := first | omega | (simp only [List.length_set, List.length_replicate, List.length_append, List.length_map, List.length_take, List.length_cons, List.length_nil]; omega)) [wrap64, R1.len]
      refine IteW.mk (fun hlt => ?_) (fun hge => ?_)
      · have hlx : i < x.kids.length := by omega
        obtain ⟨u, hu, Ru⟩ := R1.ld hlx
        change hload _ (some (elp 3 w i)) (some 3) = some u at hu
        simp -implicitDefEqProofs (disch := first | omega | (simp only [List.length_set, List.length_replicate, List.length_append, List.length_map, List.length_take, List.length_cons, List.length_nil]; omega)) [wrap64, R1.X (n := 3) rfl, hu]
        refine (ih (dv := dv - 1) (by omega) (by omega) Ru).go ?_
        rintro _ _ ⟨rfl, rfl⟩
        by_cases q4 : x.kids[i].Shp n
        case neg => simp -implicitDefEqProofs (disch := first | omega | (simp only [List.length_set, List.length_replicate, List.length_append, List.length_map, List.length_take, List.length_cons, List.length_nil]; omega)) [wrap64, q4]; exact RetK.keep (hno fun hh => q4 (hh.kid hlx))
        simp -implicitDefEqProofs (disch := first | omega | (simp only [List.length_set, List.length_replicate, List.length_append, List.length_map, List.length_take, List.length_cons, List.length_nil]; omega)) [wrap64, q4]
        refine hJ _ _ hlx ⟨rfl, ⟨kd, hkd, by simp⟩, fun y hy => ?_⟩
        rw [List.take_add_one, List.getElem?_eq_getElem hlx] at hy
        rcases List.mem_append.1 hy with hy | hy
        · exact hall y hy
        · simp at hy; subst hy; exact q4
      · simp -implicitDefEqProofs (disch := first | omega | (simp only [List.length_set, List.length_replicate, List.length_append, List.length_map, List.length_take, List.length_cons, List.length_nil]; omega)) [wrap64]
        rw [List.take_of_length_le (by omega)] at hall
        refine RetK.keep (hk _ _ ⟨rfl, ?_⟩)
        rw [decide_eq_true (show x.Shp (n + 1) from ⟨⟨by omega, by omega, by omega⟩, hall⟩)]

theorem c_l1Count : ∀ (n : Nat) {x : Exq} {h : Heap} {v : Value} {dv : Int}, dv = n → n ≤ 6 → x.Shp n → Rep h v x → CallE Try.prog fn_spec_l1Count [v, .int .i64 dv] h (fun u h' => h' = h ∧ u = .int .i64 x.nod) := by
  intro n
  induction n with
  | zero => intro x h v dv hd _ hs; exact hs.elim
  | succ n ih =>
    intro x h v dv hd hd6 hs R
    obtain ⟨w, rfl, k1, k2, R1⟩ := Rep_Exq.1 R
    have hL := R1.lt
    have hbnd := hs.bnd
    have hpow : 2 ^ (n + 1) ≤ 2 ^ 6 := Nat.pow_le_pow_right (by decide) hd6
    have hnod := x.nod_eq
    refine CallE.gen fun k hk => EN_spec_l1Count rfl ?_
    simp -implicitDefEqProofs (disch := first | omega | (simp only [List.length_set, List.length_replicate, List.length_append, List.length_map, List.length_take, List.length_cons, List.length_nil]; omega)) [wrap64]
    refine wp_count x.kids.length (fun i e h' => h' = h ∧ e = [none, some (.int .i64 dv), some (.agg #[.int .i64 x.kind, .int .i64 x.val, w]), none, some (.int .i64 ((1 + Exq.nods (x.kids.take i) : Nat) : Int)), some (.int .i64 i)]) ⟨rfl, by simp [Exq.nods]⟩ ?_
    rintro J i _ _ hJ hi ⟨rfl, rfl⟩
    by_cases hlt : i < x.kids.length
    · obtain ⟨u, hu, Ru⟩ := R1.ld hlt
      change hload _ (some (elp 3 w i)) (some 3) = some u at hu
      have hn1 := Exq.nods_take hlt
      have hn2 := Exq.nods_le x.kids (i + 1)
      simp -implicitDefEqProofs (disch := first | omega | (simp only [List.length_set, List.length_replicate, List.length_append, List.length_map, List.length_take, List.length_cons, List.length_nil]; omega)) [wrap64, hlt, R1.len, R1.X (n := 3) rfl, hu, show 0 < dv by omega]
      refine (ih (dv := dv - 1) (by omega) (by omega) (hs.kid hlt) Ru).go ?_
      rintro _ _ ⟨rfl, rfl⟩
      simp -implicitDefEqProofs (disch := first | omega | (simp only [List.length_set, List.length_replicate, List.length_append, List.length_map, List.length_take, List.length_cons, List.length_nil]; omega)) [wrap64]
      refine hJ _ _ hlt ⟨rfl, ?_⟩
      simp [hn1]; omega
    · simp -implicitDefEqProofs (disch := first | omega | (simp only [List.length_set, List.length_replicate, List.length_append, List.length_map, List.length_take, List.length_cons, List.length_nil]; omega)) [wrap64, hlt, R1.len]
      rw [List.take_of_length_le (by omega)]
      refine RetK.keep (hk _ _ ⟨rfl, ?_⟩)
      rw [hnod]; push_cast; rfl

theorem c_spec_ExprValid {h : Heap} {v : Value} {x : Exq} (R : Rep h v x) : CallE Try.prog fn_spec_ExprValid [v] h (fun u h' => h' = h ∧ u = .bool (decide x.Ok)) := by
  have F := R.aExq
  refine CallE.gen fun k hk => EN_spec_ExprValid rfl ?_
  simp -implicitDefEqProofs (disch := first | omega | (simp only [List.length_set, List.length_replicate, List.length_append, List.length_map, List.length_take, List.length_cons, List.length_nil]; omega)) [wrap64, F]
  refine (c_l1Shape 6 (dv := 6) rfl (by omega) R).go ?_
  rintro _ _ ⟨rfl, rfl⟩
  by_cases q1 : x.Shp 6
  case neg => simp -implicitDefEqProofs (disch := first | omega | (simp only [List.length_set, List.length_replicate, List.length_append, List.length_map, List.length_take, List.length_cons, List.length_nil]; omega)) [wrap64, q1]; exact RetK.keep (hk _ _ ⟨rfl, by rw [decide_eq_false (fun hh : x.Ok => q1 hh.1)]⟩)
  simp -implicitDefEqProofs (disch := first | omega | (simp only [List.length_set, List.length_replicate, List.length_append, List.length_map, List.length_take, List.length_cons, List.length_nil]; omega)) [wrap64, q1, F]
  refine (c_l1Count 6 (dv := 6) rfl (by omega) q1 R).go ?_
  rintro _ _ ⟨rfl, rfl⟩
  simp -implicitDefEqProofs (disch := first | omega | (simp only [List.length_set, List.length_replicate, List.length_append, List.length_map, List.length_take, List.length_cons, List.length_nil]; omega)) [wrap64]
  refine RetK.keep (hk _ _ ⟨rfl, ?_⟩)
  congr 1
  rw [Bool.eq_iff_iff]
  simp [Exq.Ok, q1]
  omega

theorem c_l2None {h : Heap} {v : Value} {x : Exq} (R : Rep h v x) : CallE Try.prog fn_spec_l2None [v] h (fun u h' => h' = h ∧ u = .bool (decide (x = Exq.zero))) := by
  obtain ⟨w, rfl, k1, k2, R1⟩ := Rep_Exq.1 R
  have hno : ∀ {P : Prop}, (P → x = Exq.zero → False) → P → x ≠ Exq.zero := fun hh hp he => hh hp he
  refine CallE.gen fun k hk => EN_spec_l2None rfl ?_
  by_cases q1 : x.kind = 0
  case neg => simp -implicitDefEqProofs (disch := first | omega | (simp only [List.length_set, List.length_replicate, List.length_append, List.length_map, List.length_take, List.length_cons, List.length_nil]; omega)) [wrap64, q1]; exact RetK.keep (hk _ _ ⟨rfl, by rw [decide_eq_false (fun hh : x = Exq.zero => q1 (by rw [hh]; rfl))]⟩)
  by_cases q2 : x.val = 0
  case neg => simp -implicitDefEqProofs (disch := first | omega | (simp only [List.length_set, List.length_replicate, List.length_append, List.length_map, List.length_take, List.length_cons, List.length_nil]; omega)) [wrap64, q1, q2]; exact RetK.keep (hk _ _ ⟨rfl, by rw [decide_eq_false (fun hh : x = Exq.zero => q2 (by rw [hh]; rfl))]⟩)
  simp -implicitDefEqProofs (disch := first | omega | (simp only [List.length_set, List.length_replicate, List.length_append, List.length_map, List.length_take, List.length_cons, List.length_nil]; omega)) [wrap64, q1, q2, R1.len]
  refine RetK.keep (hk _ _ ⟨rfl, ?_⟩)
  congr 1
  rw [Bool.eq_iff_iff]
  simp [Exq.ext_iff', q1, q2, Exq.zero]

theorem c_spec_EdgeValid {h : Heap} {v : Value} {e : Ed} (R : Rep h v e) {n : Int} : CallE Try.prog fn_spec_EdgeValid [v, .int .i64 n] h (fun u h' => h' = h ∧ u = .bool (decide (e.Ok n))) := by
  obtain ⟨w1, w2, rfl, ok, R1, R2⟩ := Rep_Ed.1 R
  have G1 : Rep h (.agg #[.int .i64 e.guard.kind, .int .i64 e.guard.val, w1]) e.guard := Rep_Exq.2 ⟨w1, rfl, ok.gk, ok.gv, R1⟩
  have G2 : Rep h (.agg #[.int .i64 e.value.kind, .int .i64 e.value.val, w2]) e.value := Rep_Exq.2 ⟨w2, rfl, ok.vk, ok.vv, R2⟩
  refine CallE.gen fun k hk => EN_spec_EdgeValid rfl ?_
  have hno : ¬ e.Ok n → k (.bool false) h := fun hh => hk _ _ ⟨rfl, by rw [decide_eq_false hh]⟩
  have hyes : e.Ok n → k (.bool true) h := fun hh => hk _ _ ⟨rfl, by rw [decide_eq_true hh]⟩
  by_cases a1 : e.frm < 0
  · simp -implicitDefEqProofs (disch := first | omega | (simp only [List.length_set, List.length_replicate, List.length_append, List.length_map, List.length_take, List.length_cons, List.length_nil]; omega)) [wrap64, a1, Ed.cs]; exact RetK.keep (hno fun hh => by have := hh.f0; omega)
  by_cases a2 : n ≤ e.frm
  · simp -implicitDefEqProofs (disch := first | omega | (simp only [List.length_set, List.length_replicate, List.length_append, List.length_map, List.length_take, List.length_cons, List.length_nil]; omega)) [wrap64, a1, a2, Ed.cs]; exact RetK.keep (hno fun hh => by have := hh.f1; omega)
  by_cases a3 : e.to < 0
  · simp -implicitDefEqProofs (disch := first | omega | (simp only [List.length_set, List.length_replicate, List.length_append, List.length_map, List.length_take, List.length_cons, List.length_nil]; omega)) [wrap64, a1, a2, a3, Ed.cs]; exact RetK.keep (hno fun hh => by have := hh.t0; omega)
  by_cases a4 : n ≤ e.to
  · simp -implicitDefEqProofs (disch := first | omega | (simp only [List.length_set, List.length_replicate, List.length_append, List.length_map, List.length_take, List.length_cons, List.length_nil]; omega)) [wrap64, a1, a2, a3, a4, Ed.cs]; exact RetK.keep (hno fun hh => by have := hh.t1; omega)
  by_cases a5 : 4 < n
  · simp -implicitDefEqProofs (disch := first | omega | (simp only [List.length_set, List.length_replicate, List.length_append, List.length_map, List.length_take, List.length_cons, List.length_nil]; omega)) [wrap64, a1, a2, a3, a4, a5, Ed.cs]; exact RetK.keep (hno fun hh => by have := hh.n4; omega)
  simp -implicitDefEqProofs (disch := first | omega | (simp only [List.length_set, List.length_replicate, List.length_append, List.length_map, List.length_take, List.length_cons, List.length_nil]; omega)) [wrap64, a1, a2, a3, a4, a5, Ed.cs]
  refine (c_spec_ExprValid G1).go ?_
  rintro _ _ ⟨rfl, rfl⟩
  by_cases q4 : e.guard.Ok
  case neg => simp -implicitDefEqProofs (disch := first | omega | (simp only [List.length_set, List.length_replicate, List.length_append, List.length_map, List.length_take, List.length_cons, List.length_nil]; omega)) [wrap64, q4]; exact RetK.keep (hno fun hh => q4 hh.gd)
  by_cases b1 : e.sync < -2
  · simp -implicitDefEqProofs (disch := first | omega | (simp only [List.length_set, List.length_replicate, List.length_append, List.length_map, List.length_take, List.length_cons, List.length_nil]; omega)) [wrap64, q4, b1, Ed.cs]; exact RetK.keep (hno fun hh => by have := hh.s0; omega)
  by_cases b2 : 2 < e.sync
  · simp -implicitDefEqProofs (disch := first | omega | (simp only [List.length_set, List.length_replicate, List.length_append, List.length_map, List.length_take, List.length_cons, List.length_nil]; omega)) [wrap64, q4, b1, b2, Ed.cs]; exact RetK.keep (hno fun hh => by have := hh.s1; omega)
  by_cases b3 : e.var < -1
  · simp -implicitDefEqProofs (disch := first | omega | (simp only [List.length_set, List.length_replicate, List.length_append, List.length_map, List.length_take, List.length_cons, List.length_nil]; omega)) [wrap64, q4, b1, b2, b3, Ed.cs]; exact RetK.keep (hno fun hh => by have := hh.v0; omega)
  by_cases b4 : 3 ≤ e.var
  · simp -implicitDefEqProofs (disch := first | omega | (simp only [List.length_set, List.length_replicate, List.length_append, List.length_map, List.length_take, List.length_cons, List.length_nil]; omega)) [wrap64, q4, b1, b2, b3, b4, Ed.cs]; exact RetK.keep (hno fun hh => by have := hh.v1; omega)
  by_cases q6 : e.var < 0
  · simp -implicitDefEqProofs (disch := first | omega | (simp only [List.length_set, List.length_replicate, List.length_append, List.length_map, List.length_take, List.length_cons, List.length_nil]; omega)) [wrap64, q4, b1, b2, b3, b4, q6, Ed.cs]
    refine (c_l2None G2).go ?_
    rintro _ _ ⟨rfl, rfl⟩
    by_cases q7 : e.value = Exq.zero
    case neg => simp -implicitDefEqProofs (disch := first | omega | (simp only [List.length_set, List.length_replicate, List.length_append, List.length_map, List.length_take, List.length_cons, List.length_nil]; omega)) [wrap64, q7, q6, Ed.cs, show ¬ 0 ≤ e.var by omega]; exact RetK.keep (hno fun hh => hh.vl.elim (fun h3 => by omega) (fun h3 => q7 h3.2))
    simp -implicitDefEqProofs (disch := first | omega | (simp only [List.length_set, List.length_replicate, List.length_append, List.length_map, List.length_take, List.length_cons, List.length_nil]; omega)) [wrap64, q7]
    exact RetK.keep (hyes ⟨by omega, by omega, by omega, by omega, by omega, by omega, q4, by omega, by omega, .inr ⟨q6, q7⟩, by omega, by omega⟩)
  · simp -implicitDefEqProofs (disch := first | omega | (simp only [List.length_set, List.length_replicate, List.length_append, List.length_map, List.length_take, List.length_cons, List.length_nil]; omega)) [wrap64, q4, b1, b2, b3, b4, q6, Ed.cs, show 0 ≤ e.var by omega]
    refine (c_spec_ExprValid G2).go ?_
    rintro _ _ ⟨rfl, rfl⟩
    by_cases q7 : e.value.Ok
    case neg => simp -implicitDefEqProofs (disch := first | omega | (simp only [List.length_set, List.length_replicate, List.length_append, List.length_map, List.length_take, List.length_cons, List.length_nil]; omega)) [wrap64, q7]; exact RetK.keep (hno fun hh => hh.vl.elim (fun h3 => q7 h3.2) (fun h3 => by omega))
    simp -implicitDefEqProofs (disch := first | omega | (simp only [List.length_set, List.length_replicate, List.length_append, List.length_map, List.length_take, List.length_cons, List.length_nil]; omega)) [wrap64, q7]
    exact RetK.keep (hyes ⟨by omega, by omega, by omega, by omega, by omega, by omega, q4, by omega, by omega, .inl ⟨by omega, q7⟩, by omega, by omega⟩)

theorem c_l1Vals {h : Heap} {w : Value} {W : List Int} (Rw : Rep h w W) : CallE Try.prog fn_spec_l1Vals [w] h (fun u h' => h' = h ∧ u = .bool (decide (VOk W))) := by
  have hL := Rw.lt
  refine CallE.gen fun k hk => EN_spec_l1Vals rfl ?_
  simp -implicitDefEqProofs (disch := first | omega | (simp only [List.length_set, List.length_replicate, List.length_append, List.length_map, List.length_take, List.length_cons, List.length_nil]; omega)) [wrap64]
  refine wp_count W.length (fun i e h' => e = [some w, none, some (.int .i64 i)] ∧ h' = h ∧ ∀ (j : Nat) (hj : j < W.length), j < i → 0 ≤ W[j] ∧ W[j] ≤ 3) ⟨rfl, rfl, fun j _ hj => absurd hj (Nat.not_lt_zero j)⟩ ?_
  rintro J i _ h1 hJ hi ⟨rfl, rfl, hn⟩
  simp -implicitDefEqProofs (disch := first | omega | (simp only [List.length_set, List.length_replicate, List.length_append, List.length_map, List.length_take, List.length_cons, List.length_nil]; omega)) [wrap64, Rw.len]
  refine IteW.mk (fun hlt => ?_) (fun hge => ?_)
  · have hlx : i < W.length := by omega
    have hno : ¬ (0 ≤ W[i] ∧ W[i] ≤ 3) → k (.bool false) h1 := fun hx => hk _ _ ⟨rfl, by rw [decide_eq_false (fun hh : VOk W => hx (hh.at hlx))]⟩
    by_cases h1 : W[i] < 0
    · simp -implicitDefEqProofs (disch := first | omega | (simp only [List.length_set, List.length_replicate, List.length_append, List.length_map, List.length_take, List.length_cons, List.length_nil]; omega)) [wrap64, Rw.I, h1]
      exact RetK.keep (hno (by omega))
    by_cases h2 : 3 < W[i]
    · simp -implicitDefEqProofs (disch := first | omega | (simp only [List.length_set, List.length_replicate, List.length_append, List.length_map, List.length_take, List.length_cons, List.length_nil]; omega)) [wrap64, Rw.I, h1, h2]
      exact RetK.keep (hno (by omega))
    simp -implicitDefEqProofs (disch := first | omega | (simp only [List.length_set, List.length_replicate, List.length_append, List.length_map, List.length_take, List.length_cons, List.length_nil]; omega)) [wrap64, Rw.I, h1, h2]
    refine hJ _ _ hlx ⟨rfl, rfl, fun j hj hji => ?_⟩
    by_cases hji2 : j = i
    · subst hji2; omega
    · exact hn j hj (by omega)
  · simp -implicitDefEqProofs (disch := first | omega | (simp only [List.length_set, List.length_replicate, List.length_append, List.length_map, List.length_take, List.length_cons, List.length_nil]; omega)) [wrap64, Rw.len]
    refine RetK.keep (hk _ _ ⟨rfl, ?_⟩)
    congr 1
    rw [Bool.eq_iff_iff, decide_eq_true_iff, decide_eq_true_iff]
    refine ⟨fun h3 => ⟨by omega, fun x hx => ?_⟩, fun h3 => by have := h3.len; omega⟩
    obtain ⟨j, hj, rfl⟩ := List.mem_iff_getElem.1 hx
    exact hn j hj (by omega)

theorem c_l2Process {h : Heap} {v : Value} {p : Pr} (R : Rep h v p) : CallE Try.prog fn_spec_l2Process [v] h (fun u h' => h' = h ∧ u = .bool (decide p.Ok)) := by
  obtain ⟨w, rfl, k1, R1⟩ := Rep_Pr.1 R
  have hL := R1.lt
  refine CallE.gen fun k hk => EN_spec_l2Process rfl ?_
  simp -implicitDefEqProofs (disch := first | omega | (simp only [List.length_set, List.length_replicate, List.length_append, List.length_map, List.length_take, List.length_cons, List.length_nil]; omega)) [wrap64]
  refine wp_count p.edges.length (fun i e h' => e = [none, some (.agg #[.int .i64 p.locs, w]), none, some (.int .i64 i)] ∧ h' = h ∧ ∀ x ∈ p.edges.take i, x.Ok p.locs) ⟨by simp, rfl, by simp⟩ ?_
  rintro J i _ h1 hJ hi ⟨rfl, rfl, hall⟩
  simp -implicitDefEqProofs (disch := first | omega | (simp only [List.length_set, List.length_replicate, List.length_append, List.length_map, List.length_take, List.length_cons, List.length_nil]; omega)) [wrap64, R1.len]
  refine IteW.mk (fun hlt => ?_) (fun hge => ?_)
  · have hlx : i < p.edges.length := by omega
    obtain ⟨u, hu, Ru⟩ := R1.ld hlx
    change hload _ (some (elp 10 w i)) (some 10) = some u at hu
    simp -implicitDefEqProofs (disch := first | omega | (simp only [List.length_set, List.length_replicate, List.length_append, List.length_map, List.length_take, List.length_cons, List.length_nil]; omega)) [wrap64, R1.X (n := 10) rfl, hu]
    refine (c_spec_EdgeValid Ru).go ?_
    rintro _ _ ⟨rfl, rfl⟩
    by_cases q : p.edges[i].Ok p.locs
    case neg => simp -implicitDefEqProofs (disch := first | omega | (simp only [List.length_set, List.length_replicate, List.length_append, List.length_map, List.length_take, List.length_cons, List.length_nil]; omega)) [wrap64, q]; exact RetK.keep (hk _ _ ⟨rfl, by rw [decide_eq_false (fun hh : p.Ok => q (hh.at hlx))]⟩)
    simp -implicitDefEqProofs (disch := first | omega | (simp only [List.length_set, List.length_replicate, List.length_append, List.length_map, List.length_take, List.length_cons, List.length_nil]; omega)) [wrap64, q]
    refine hJ _ _ hlx ⟨by simp, rfl, fun x hx => ?_⟩
    rw [List.take_add_one, List.getElem?_eq_getElem hlx] at hx
    rcases List.mem_append.1 hx with hx | hx
    · exact hall x hx
    · simp at hx; subst hx; exact q
  · simp -implicitDefEqProofs (disch := first | omega | (simp only [List.length_set, List.length_replicate, List.length_append, List.length_map, List.length_take, List.length_cons, List.length_nil]; omega)) [wrap64]
    rw [List.take_of_length_le (by omega)] at hall
    have hno : ¬ p.Ok → k (.bool false) h1 := fun hx => hk _ _ ⟨rfl, by rw [decide_eq_false hx]⟩
    by_cases a1 : 1 ≤ p.locs
    case neg => simp -implicitDefEqProofs (disch := first | omega | (simp only [List.length_set, List.length_replicate, List.length_append, List.length_map, List.length_take, List.length_cons, List.length_nil]; omega)) [wrap64, a1]; exact RetK.keep (hno fun hh => a1 hh.n1)
    by_cases a2 : p.locs ≤ 4
    case neg => simp -implicitDefEqProofs (disch := first | omega | (simp only [List.length_set, List.length_replicate, List.length_append, List.length_map, List.length_take, List.length_cons, List.length_nil]; omega)) [wrap64, a1, a2]; exact RetK.keep (hno fun hh => a2 hh.n4)
    simp -implicitDefEqProofs (disch := first | omega | (simp only [List.length_set, List.length_replicate, List.length_append, List.length_map, List.length_take, List.length_cons, List.length_nil]; omega)) [wrap64, a1, a2, R1.len]
    refine RetK.keep (hk _ _ ⟨rfl, ?_⟩)
    congr 1
    rw [Bool.eq_iff_iff, decide_eq_true_iff, decide_eq_true_iff]
    exact ⟨fun h3 => ⟨a1, a2, by omega, hall⟩, fun h3 => by have := h3.el; omega⟩

theorem c_spec_SystemValid {h : Heap} {v : Value} {s : Sy} (R : Rep h v s) : CallE Try.prog fn_spec_SystemValid [v] h (fun u h' => h' = h ∧ u = .bool (decide s.Ok)) := by
  obtain ⟨v1, v2, rfl, R0, R1⟩ := Rep_Sy.1 R
  have hL := R1.lt
  refine CallE.gen fun k hk => EN_spec_SystemValid rfl ?_
  simp -implicitDefEqProofs (disch := first | omega | (simp only [List.length_set, List.length_replicate, List.length_append, List.length_map, List.length_take, List.length_cons, List.length_nil]; omega)) [wrap64]
  refine wp_count s.procs.length (fun i e h' => e = [none, some (.agg #[v1, v2]), none, some (.int .i64 i)] ∧ h' = h ∧ ∀ x ∈ s.procs.take i, x.Ok) ⟨by simp, rfl, by simp⟩ ?_
  rintro J i _ h1 hJ hi ⟨rfl, rfl, hall⟩
  simp -implicitDefEqProofs (disch := first | omega | (simp only [List.length_set, List.length_replicate, List.length_append, List.length_map, List.length_take, List.length_cons, List.length_nil]; omega)) [wrap64, R1.len]
  refine IteW.mk (fun hlt => ?_) (fun hge => ?_)
  · have hlx : i < s.procs.length := by omega
    obtain ⟨u, hu, Ru⟩ := R1.ld hlx
    change hload _ (some (elp 2 v2 i)) (some 2) = some u at hu
    simp -implicitDefEqProofs (disch := first | omega | (simp only [List.length_set, List.length_replicate, List.length_append, List.length_map, List.length_take, List.length_cons, List.length_nil]; omega)) [wrap64, R1.X (n := 2) rfl, hu]
    refine (c_l2Process Ru).go ?_
    rintro _ _ ⟨rfl, rfl⟩
    by_cases q : s.procs[i].Ok
    case neg => simp -implicitDefEqProofs (disch := first | omega | (simp only [List.length_set, List.length_replicate, List.length_append, List.length_map, List.length_take, List.length_cons, List.length_nil]; omega)) [wrap64, q]; exact RetK.keep (hk _ _ ⟨rfl, by rw [decide_eq_false (fun hh : s.Ok => q (hh.at hlx))]⟩)
    simp -implicitDefEqProofs (disch := first | omega | (simp only [List.length_set, List.length_replicate, List.length_append, List.length_map, List.length_take, List.length_cons, List.length_nil]; omega)) [wrap64, q]
    refine hJ _ _ hlx ⟨by simp, rfl, fun x hx => ?_⟩
    rw [List.take_add_one, List.getElem?_eq_getElem hlx] at hx
    rcases List.mem_append.1 hx with hx | hx
    · exact hall x hx
    · simp at hx; subst hx; exact q
  · simp -implicitDefEqProofs (disch := first | omega | (simp only [List.length_set, List.length_replicate, List.length_append, List.length_map, List.length_take, List.length_cons, List.length_nil]; omega)) [wrap64]
    rw [List.take_of_length_le (by omega)] at hall
    have hno : ¬ s.Ok → k (.bool false) h1 := fun hx => hk _ _ ⟨rfl, by rw [decide_eq_false hx]⟩
    refine (c_l1Vals R0).go ?_
    rintro _ _ ⟨rfl, rfl⟩
    by_cases a0 : VOk s.init
    case neg => simp -implicitDefEqProofs (disch := first | omega | (simp only [List.length_set, List.length_replicate, List.length_append, List.length_map, List.length_take, List.length_cons, List.length_nil]; omega)) [wrap64, a0]; exact RetK.keep (hno fun hh => a0 hh.vs)
    by_cases a1 : (1 : Int) ≤ s.procs.length
    case neg => simp -implicitDefEqProofs (disch := first | omega | (simp only [List.length_set, List.length_replicate, List.length_append, List.length_map, List.length_take, List.length_cons, List.length_nil]; omega)) [wrap64, a0, a1, R1.len]; exact RetK.keep (hno fun hh => a1 (by have := hh.p1; omega))
    simp -implicitDefEqProofs (disch := first | omega | (simp only [List.length_set, List.length_replicate, List.length_append, List.length_map, List.length_take, List.length_cons, List.length_nil]; omega)) [wrap64, a0, a1, R1.len]
    refine RetK.keep (hk _ _ ⟨rfl, ?_⟩)
    congr 1
    rw [Bool.eq_iff_iff, decide_eq_true_iff, decide_eq_true_iff]
    exact ⟨fun h3 => ⟨a0, by omega, by omega, hall⟩, fun h3 => by have := h3.p3; omega⟩

theorem c_spec_LabelsValid {h : Heap} {w : Value} {L : List Exq} (R : Rep h w L) : CallE Try.prog fn_spec_LabelsValid [w] h (fun u h' => h' = h ∧ u = .bool (decide (LOk L))) := by
  have hL := R.lt
  refine CallE.gen fun k hk => EN_spec_LabelsValid rfl ?_
  simp -implicitDefEqProofs (disch := first | omega | (simp only [List.length_set, List.length_replicate, List.length_append, List.length_map, List.length_take, List.length_cons, List.length_nil]; omega)) [wrap64]
  refine wp_count L.length (fun i e h' => e = [some w, none, some (.int .i64 i)] ∧ h' = h ∧ ∀ x ∈ L.take i, x.Ok) ⟨rfl, rfl, by simp⟩ ?_
  rintro J i _ h1 hJ hi ⟨rfl, rfl, hall⟩
  simp -implicitDefEqProofs (disch := first | omega | (simp only [List.length_set, List.length_replicate, List.length_append, List.length_map, List.length_take, List.length_cons, List.length_nil]; omega)) [wrap64, R.len]
  refine IteW.mk (fun hlt => ?_) (fun hge => ?_)
  · have hlx : i < L.length := by omega
    obtain ⟨u, hu, Ru⟩ := R.ld hlx
    change hload _ (some (elp 3 w i)) (some 3) = some u at hu
    simp -implicitDefEqProofs (disch := first | omega | (simp only [List.length_set, List.length_replicate, List.length_append, List.length_map, List.length_take, List.length_cons, List.length_nil]; omega)) [wrap64, R.X (n := 3) rfl, hu]
    refine (c_spec_ExprValid Ru).go ?_
    rintro _ _ ⟨rfl, rfl⟩
    by_cases q : L[i].Ok
    case neg => simp -implicitDefEqProofs (disch := first | omega | (simp only [List.length_set, List.length_replicate, List.length_append, List.length_map, List.length_take, List.length_cons, List.length_nil]; omega)) [wrap64, q]; exact RetK.keep (hk _ _ ⟨rfl, by rw [decide_eq_false (fun hh : LOk L => q (hh.ok _ (List.getElem_mem hlx)))]⟩)
    simp -implicitDefEqProofs (disch := first | omega | (simp only [List.length_set, List.length_replicate, List.length_append, List.length_map, List.length_take, List.length_cons, List.length_nil]; omega)) [wrap64, q]
    refine hJ _ _ hlx ⟨by simp, rfl, fun x hx => ?_⟩
    rw [List.take_add_one, List.getElem?_eq_getElem hlx] at hx
    rcases List.mem_append.1 hx with hx | hx
    · exact hall x hx
    · simp at hx; subst hx; exact q
  · simp -implicitDefEqProofs (disch := first | omega | (simp only [List.length_set, List.length_replicate, List.length_append, List.length_map, List.length_take, List.length_cons, List.length_nil]; omega)) [wrap64, R.len]
    rw [List.take_of_length_le (by omega)] at hall
    refine RetK.keep (hk _ _ ⟨rfl, ?_⟩)
    congr 1
    rw [Bool.eq_iff_iff, decide_eq_true_iff, decide_eq_true_iff]
    exact ⟨fun h3 => ⟨by omega, hall⟩, fun h3 => by have := h3.len; omega⟩
end Go.Proofs.Ytonjglbachhdcaa

/-
  What expressions are worth, by the program and by the reference. Printed by a program.
-/
namespace Go.Proofs.Ytonjglbachhdcaa
open Go
set_option linter.all false
set_option linter.unusedVariables false
set_option linter.unusedSimpArgs false
set_option linter.defProp false
set_option maxRecDepth 1000000

theorem c_truth {h : Heap} {b : Bool} : CallE Try.prog fn_impl_truth [.bool b] h (fun u h' => h' = h ∧ u = .int .i64 (if b then 1 else 0)) := by
  refine CallE.gen fun k hk => EN_impl_truth rfl ?_
  cases b
  · simp -implicitDefEqProofs (disch := first | omega | (simp only [List.length_set, List.length_replicate, List.length_append, List.length_map, List.length_take, List.length_cons, List.length_nil]; omega)) [wrap64]
    exact RetK.keep (hk _ _ ⟨rfl, rfl⟩)
  · simp -implicitDefEqProofs (disch := first | omega | (simp only [List.length_set, List.length_replicate, List.length_append, List.length_map, List.length_take, List.length_cons, List.length_nil]; omega)) [wrap64]
    exact RetK.keep (hk _ _ ⟨rfl, rfl⟩)
theorem c_eval : ∀ (n : Nat) {x : Exq} {h : Heap} {v w : Value} {vs : List Int}, VOk vs → x.Shp n → Rep h v x → Rep h w vs → CallE Try.prog fn_impl_Expr_eval [v, w] h (fun u h' => h' = h ∧ u = .int .i64 (x.ev vs)) := by
  intro n
  induction n with
  | zero => intro x h v w vs _ hs; exact hs.elim
  | succ n ih0 =>
  intro x h v w vs hv hs R Rw
  have ih : ∀ {y : Exq} {h : Heap} {u : Value}, y.Shp n → Rep h u y → Rep h w vs → CallE Try.prog fn_impl_Expr_eval [u, w] h (fun u h' => h' = h ∧ u = .int .i64 (y.ev vs)) := fun a b c => ih0 hv a b c
  obtain ⟨wk, rfl, k1, k2, R1⟩ := Rep_Exq.1 R
  have hL := R1.lt
  have hev := x.ev_eq (vs := vs)
  have har := hs.1.ar
  have hlo := hs.1.lo
  have hhi := hs.1.hi
  have hkd := hs.1.kind
  have hvl := hv.len
  refine CallE.gen fun k hk => EN_impl_Expr_eval rfl ?_
  by_cases c1 : x.kind = 1
  · simp -implicitDefEqProofs (disch := first | omega | (simp only [List.length_set, List.length_replicate, List.length_append, List.length_map, List.length_take, List.length_cons, List.length_nil]; omega)) [wrap64, c1]
    exact RetK.keep (hk _ _ ⟨rfl, by rw [hev]; simp [Exq.evk, c1]⟩)
  by_cases c2 : x.kind = 2
  · rw [c2] at hhi
    simp [Exq.most] at hhi
    obtain ⟨q, hq⟩ : ∃ q : Nat, x.val = q := ⟨x.val.toNat, by omega⟩
    simp -implicitDefEqProofs (disch := first | omega | (simp only [List.length_set, List.length_replicate, List.length_append, List.length_map, List.length_take, List.length_cons, List.length_nil]; omega)) [wrap64, c2, hq, Rw.I]
    refine RetK.keep (hk _ _ ⟨rfl, ?_⟩)
    have hg : vs.getD q 0 = vs[q]'(by omega) := by rw [List.getD_eq_getElem?_getD, List.getElem?_eq_getElem (by omega)]; rfl
    rw [hev, ← hg]
    simp [Exq.evk, c2, hq]
  by_cases c3 : x.kind = 3
  · have hl : x.kids.length = 1 := by
      rw [c3] at har; simp [Exq.arity] at har; omega
    obtain ⟨u0, hu0, Ru0⟩ := R1.ld (i := 0) (by omega)
    change hload _ (some (elp 3 wk 0)) (some 3) = some u0 at hu0
    simp -implicitDefEqProofs (disch := first | omega | (simp only [List.length_set, List.length_replicate, List.length_append, List.length_map, List.length_take, List.length_cons, List.length_nil]; omega)) [wrap64, c1, c2, c3, R1.X (n := 3) rfl, hu0]
    refine (ih (hs.kid (i := 0) (by omega)) Ru0 Rw).go ?_
    rintro _ h ⟨rfl, rfl⟩
    simp -implicitDefEqProofs (disch := first | omega | (simp only [List.length_set, List.length_replicate, List.length_append, List.length_map, List.length_take, List.length_cons, List.length_nil]; omega)) [wrap64, c3]
    refine c_truth.go ?_
    rintro _ h ⟨rfl, rfl⟩
    simp -implicitDefEqProofs (disch := first | omega | (simp only [List.length_set, List.length_replicate, List.length_append, List.length_map, List.length_take, List.length_cons, List.length_nil]; omega)) [wrap64]
    refine RetK.keep (hk _ _ ⟨rfl, ?_⟩)
    rw [hev, Exq.kev_at (by omega)]
    simp [Exq.evk, c3, Exq.tr]
  have hl : x.kids.length = 2 := by
    unfold Exq.arity at har
    rw [if_neg (by omega), if_neg c3, if_pos (by omega)] at har; omega
  obtain ⟨u0, hu0, Ru0⟩ := R1.ld (i := 0) (by omega)
  change hload _ (some (elp 3 wk 0)) (some 3) = some u0 at hu0
  obtain ⟨u1, hu1, Ru1⟩ := R1.ld (i := 1) (by omega)
  change hload _ (some (elp 3 wk 1)) (some 3) = some u1 at hu1
  have b0 := Exq.ev_bnd hv (hs.kid (i := 0) (by omega))
  have b1 := Exq.ev_bnd hv (hs.kid (i := 1) (by omega))
  rw [Exq.kev_at (by omega), Exq.kev_at (by omega)] at hev
  simp -implicitDefEqProofs (disch := first | omega | (simp only [List.length_set, List.length_replicate, List.length_append, List.length_map, List.length_take, List.length_cons, List.length_nil]; omega)) [wrap64, c1, c2, c3, R1.X (n := 3) rfl, hu0]
  refine (ih (hs.kid (i := 0) (by omega)) Ru0 Rw).go ?_
  rintro _ h ⟨rfl, rfl⟩
  simp -implicitDefEqProofs (disch := first | omega | (simp only [List.length_set, List.length_replicate, List.length_append, List.length_map, List.length_take, List.length_cons, List.length_nil]; omega)) [wrap64, c3, R1.X (n := 3) rfl, hu1]
  refine (ih (hs.kid (i := 1) (by omega)) Ru1 Rw).go ?_
  rintro _ h ⟨rfl, rfl⟩
  obtain ⟨a, ha⟩ : ∃ a, a = x.kids[0].ev vs := ⟨_, rfl⟩
  obtain ⟨b, hb⟩ : ∃ b, b = x.kids[1].ev vs := ⟨_, rfl⟩
  rw [← ha] at b0 hev ⊢
  rw [← hb] at b1 hev ⊢
  by_cases c4 : x.kind = 4
  · by_cases d1 : a = 0
    all_goals
      simp -implicitDefEqProofs (disch := first | omega | (simp only [List.length_set, List.length_replicate, List.length_append, List.length_map, List.length_take, List.length_cons, List.length_nil]; omega)) [wrap64, c4, d1]
      refine c_truth.go ?_
      rintro _ h ⟨rfl, rfl⟩
      simp -implicitDefEqProofs (disch := first | omega | (simp only [List.length_set, List.length_replicate, List.length_append, List.length_map, List.length_take, List.length_cons, List.length_nil]; omega)) [wrap64]
      exact RetK.keep (hk _ _ ⟨rfl, by rw [hev]; simp [Exq.evk, c4, d1, Exq.tr]⟩)
  by_cases c5 : x.kind = 5
  · by_cases d1 : a = 0
    all_goals
      simp -implicitDefEqProofs (disch := first | omega | (simp only [List.length_set, List.length_replicate, List.length_append, List.length_map, List.length_take, List.length_cons, List.length_nil]; omega)) [wrap64, c5, d1]
      refine c_truth.go ?_
      rintro _ h ⟨rfl, rfl⟩
      simp -implicitDefEqProofs (disch := first | omega | (simp only [List.length_set, List.length_replicate, List.length_append, List.length_map, List.length_take, List.length_cons, List.length_nil]; omega)) [wrap64]
      exact RetK.keep (hk _ _ ⟨rfl, by rw [hev]; simp [Exq.evk, c5, d1, Exq.tr]⟩)
  by_cases c6 : x.kind = 6
  · simp -implicitDefEqProofs (disch := first | omega | (simp only [List.length_set, List.length_replicate, List.length_append, List.length_map, List.length_take, List.length_cons, List.length_nil]; omega)) [wrap64, c6]
    refine c_truth.go ?_
    rintro _ h ⟨rfl, rfl⟩
    simp -implicitDefEqProofs (disch := first | omega | (simp only [List.length_set, List.length_replicate, List.length_append, List.length_map, List.length_take, List.length_cons, List.length_nil]; omega)) [wrap64]
    exact RetK.keep (hk _ _ ⟨rfl, by rw [hev]; simp [Exq.evk, c6, Exq.tr]⟩)
  by_cases c7 : x.kind = 7
  · simp -implicitDefEqProofs (disch := first | omega | (simp only [List.length_set, List.length_replicate, List.length_append, List.length_map, List.length_take, List.length_cons, List.length_nil]; omega)) [wrap64, c7]
    refine c_truth.go ?_
    rintro _ h ⟨rfl, rfl⟩
    simp -implicitDefEqProofs (disch := first | omega | (simp only [List.length_set, List.length_replicate, List.length_append, List.length_map, List.length_take, List.length_cons, List.length_nil]; omega)) [wrap64]
    exact RetK.keep (hk _ _ ⟨rfl, by rw [hev]; simp [Exq.evk, c7, Exq.tr]⟩)
  by_cases c8 : x.kind = 8
  · simp -implicitDefEqProofs (disch := first | omega | (simp only [List.length_set, List.length_replicate, List.length_append, List.length_map, List.length_take, List.length_cons, List.length_nil]; omega)) [wrap64, c8]
    exact RetK.keep (hk _ _ ⟨rfl, by rw [hev]; simp [Exq.evk, c8]⟩)
  simp -implicitDefEqProofs (disch := first | omega | (simp only [List.length_set, List.length_replicate, List.length_append, List.length_map, List.length_take, List.length_cons, List.length_nil]; omega)) [wrap64, c4, c5, c6, c7, c8]
  refine RetK.keep (hk _ _ ⟨rfl, ?_⟩)
  rw [hev]
  simp only [Exq.evk, c1, c2, c3, c4, c5, c6, c7, c8, if_false]
  congr 2
  omega

end Go.Proofs.Ytonjglbachhdcaa

/-
  The program's data: how they lie in cells, how much they hold, how they are marked. Printed by a program.
-/
namespace Go.Proofs.Ytonjglbachhdcaa
open Go
set_option linter.all false
set_option linter.unusedVariables false
set_option linter.unusedSimpArgs false
set_option linter.defProp false
set_option maxRecDepth 1000000

structure Sta where
  locs : List Int
  vals : List Int
deriving DecidableEq

instance instTySta : Ty Sta := Ty.via fun (s : Sta) => (s.locs, s.vals)
theorem Sta.ext_iff' {a b : Sta} : a = b ↔ a.locs = b.locs ∧ a.vals = b.vals := by
  cases a; cases b; simp
theorem Rep_Sta {h : Heap} {v : Value} {a : Sta} : Rep h v a ↔ ∃ v1 v2, v = .agg #[v1, v2] ∧ Rep h v1 a.locs ∧ Rep h v2 a.vals := by
  constructor
  · rintro ⟨cs, rfl, c0, d0, rfl, h1, h2⟩
    obtain ⟨v1, rfl, g1⟩ := (rep1 rfl).1 h1
    obtain ⟨v2, rfl, g2⟩ := (rep1 rfl).1 h2
    exact ⟨v1, v2, rfl, g1, g2⟩
  · rintro ⟨v1, v2, rfl, h1, h2⟩
    exact ⟨[v1, v2], rfl, ⟨[v1], [v2], rfl, (rep1 rfl).2 ⟨_, rfl, h1⟩, (rep1 rfl).2 ⟨_, rfl, h2⟩⟩⟩
theorem HS.unSta {g h : Heap} {Γ : List HP} {v : Value} {a : Sta} (H : HS g (ow v a :: Γ) h) : ∃ v1 v2, v = .agg #[v1, v2] ∧ HS g (ow v1 a.locs :: ow v2 a.vals :: Γ) h := by
  obtain ⟨cs, rfl, H0⟩ := HS.unvia (fun (s : Sta) => (s.locs, s.vals)) H
  try dsimp only at H0
  obtain ⟨c0, e0, rfl, H1a⟩ := HS.unprod H0
  obtain ⟨v1, rfl, H1b⟩ := HS.unone rfl H1a
  have H1 := H1b.sw1
  obtain ⟨v2, rfl, HL⟩ := HS.unone rfl H1
  exact ⟨v1, v2, rfl, HL.sw1⟩
theorem HS.mkSta {g h : Heap} {Γ : List HP} {v1 v2 : Value} {a : Sta} (H : HS g (ow v1 a.locs :: ow v2 a.vals :: Γ) h) : HS g (ow (.agg #[v1, v2]) a :: Γ) h := by
  refine HS.via (fun (s : Sta) => (s.locs, s.vals)) ?_
  exact HS.prod rfl (H.under fun _ H => HS.one rfl H)
theorem Rep.aSta {h : Heap} {v : Value} {x : Sta} (hr : Rep h v x) : pgetV (some v) 0 (some 2) = some v ∧ v.cells.size = 2 ∧ allOne v.cells.toList = true ∧ Value.agg v.cells = v := hr.A rfl rfl
instance instSzSta : Sz Sta := ⟨fun a => Sz.sz a.locs + Sz.sz a.vals⟩
instance instMkSta : Mk Sta := ⟨fun a => Mk.cnt a.locs + Mk.cnt a.vals,
  fun k a => ⟨Mk.wr (k) a.locs, Mk.wr (k + Mk.cnt a.locs) a.vals⟩,
  fun k a => by simp [Mk.cnt_wr], fun k j a => by simp [Mk.cnt_wr, Mk.wr_wr]⟩

structure Gr where
  states : List Sta
  next : List (List Int)
deriving DecidableEq

instance instTyGr : Ty Gr := Ty.via fun (g : Gr) => (g.states, g.next)
theorem Gr.ext_iff' {a b : Gr} : a = b ↔ a.states = b.states ∧ a.next = b.next := by
  cases a; cases b; simp
theorem Rep_Gr {h : Heap} {v : Value} {a : Gr} : Rep h v a ↔ ∃ v1 v2, v = .agg #[v1, v2] ∧ Rep h v1 a.states ∧ Rep h v2 a.next := by
  constructor
  · rintro ⟨cs, rfl, c0, d0, rfl, h1, h2⟩
    obtain ⟨v1, rfl, g1⟩ := (rep1 rfl).1 h1
    obtain ⟨v2, rfl, g2⟩ := (rep1 rfl).1 h2
    exact ⟨v1, v2, rfl, g1, g2⟩
  · rintro ⟨v1, v2, rfl, h1, h2⟩
    exact ⟨[v1, v2], rfl, ⟨[v1], [v2], rfl, (rep1 rfl).2 ⟨_, rfl, h1⟩, (rep1 rfl).2 ⟨_, rfl, h2⟩⟩⟩
theorem HS.mkGr {g h : Heap} {Γ : List HP} {v1 v2 : Value} {a : Gr} (H : HS g (ow v1 a.states :: ow v2 a.next :: Γ) h) : HS g (ow (.agg #[v1, v2]) a :: Γ) h := by
  refine HS.via (fun (g : Gr) => (g.states, g.next)) ?_
  exact HS.prod rfl (H.under fun _ H => HS.one rfl H)
theorem Rep.aGr {h : Heap} {v : Value} {x : Gr} (hr : Rep h v x) : pgetV (some v) 0 (some 2) = some v ∧ v.cells.size = 2 ∧ allOne v.cells.toList = true ∧ Value.agg v.cells = v := hr.A rfl rfl
instance instSzGr : Sz Gr := ⟨fun a => Sz.sz a.states + Sz.sz a.next⟩
instance instMkGr : Mk Gr := ⟨fun a => Mk.cnt a.states + Mk.cnt a.next,
  fun k a => ⟨Mk.wr (k) a.states, Mk.wr (k + Mk.cnt a.states) a.next⟩,
  fun k a => by simp [Mk.cnt_wr], fun k j a => by simp [Mk.cnt_wr, Mk.wr_wr]⟩

structure Stp where
  proc : Int
  edge : Int
  partner : Int
  pedge : Int
deriving DecidableEq

instance instTyStp : Ty Stp := Ty.via fun (s : Stp) => (s.proc, s.edge, s.partner, s.pedge)
theorem Stp.ext_iff' {a b : Stp} : a = b ↔ a.proc = b.proc ∧ a.edge = b.edge ∧ a.partner = b.partner ∧ a.pedge = b.pedge := by
  cases a; cases b; simp
instance instFlatStp : Flat Stp := Flat.via fun (s : Stp) => (s.proc, s.edge, s.partner, s.pedge)
def Stp.v (s : Stp) : Value := .agg #[.int .i64 s.proc, .int .i64 s.edge, .int .i64 s.partner, .int .i64 s.pedge]
structure Stp.ok (s : Stp) : Prop where
  proc : -9223372036854775808 ≤ s.proc ∧ s.proc < 9223372036854775808
  edge : -9223372036854775808 ≤ s.edge ∧ s.edge < 9223372036854775808
  partner : -9223372036854775808 ≤ s.partner ∧ s.partner < 9223372036854775808
  pedge : -9223372036854775808 ≤ s.pedge ∧ s.pedge < 9223372036854775808
theorem Stp.ok_iff {s : Stp} : Flat.ok s ↔ s.ok := ⟨fun h => ⟨h.1, h.2.1, h.2.2.1, h.2.2.2⟩, fun h => ⟨h.proc, h.edge, h.partner, h.pedge⟩⟩
theorem Rep_Stp {h : Heap} {v : Value} {s : Stp} : Rep h v s ↔ v = s.v ∧ s.ok := by rw [Rep_flat, Stp.ok_iff]; rfl
theorem Rep.ldStp {h : Heap} {v : Value} {l : List Stp} (hr : Rep h v l) {i : Nat} (hi : i < l.length) : hload h (some (elp 4 v i)) (some 4) = some l[i].v := hr.ldF hi
theorem Rep.xStp {h : Heap} {v : Value} {l : List Stp} (hr : Rep h v l) : ((∀ (kd : IntKind) (i : Nat), i < l.length → iaV 4 v (.int kd i) = some (elp 4 v i)) ∧ (∀ (kd : IntKind) (i : Int), 0 ≤ i → i < l.length → iaV 4 v (.int kd i) = some (elp 4 v i.toNat)) ∧ lenVV v = some (.int .i64 l.length)) ∧
    ∀ (i : Nat) (hi : i < l.length), hload h (some (elp 4 v i)) (some 4) = some l[i].v := ⟨hr.X rfl, fun _ hi => hr.ldStp hi⟩
instance instSzStp : Sz Stp := ⟨fun a => Sz.sz a.proc + Sz.sz a.edge + Sz.sz a.partner + Sz.sz a.pedge⟩
instance instMkStp : Mk Stp := ⟨fun a => Mk.cnt a.proc + Mk.cnt a.edge + Mk.cnt a.partner + Mk.cnt a.pedge,
  fun k a => ⟨Mk.wr (k) a.proc, Mk.wr (k + Mk.cnt a.proc) a.edge, Mk.wr (k + Mk.cnt a.proc + Mk.cnt a.edge) a.partner, Mk.wr (k + Mk.cnt a.proc + Mk.cnt a.edge + Mk.cnt a.partner) a.pedge⟩,
  fun k a => by simp [Mk.cnt_wr], fun k j a => by simp [Mk.cnt_wr, Mk.wr_wr]⟩

end Go.Proofs.Ytonjglbachhdcaa

/-
  Whether the marks in lists of numbers are still held.
-/
namespace Go.Proofs.Ytonjglbachhdcaa
open Go
set_option linter.all false
set_option linter.unusedVariables false
set_option linter.unusedSimpArgs false
set_option linter.defProp false
set_option maxRecDepth 1000000

end Go.Proofs.Ytonjglbachhdcaa

/-
  What the helpers of the laws do: copying, counting, comparing, marking. Printed by a program.
-/
namespace Go.Proofs.Ytonjglbachhdcaa
open Go
set_option linter.all false
set_option linter.unusedVariables false
set_option linter.unusedSimpArgs false
set_option linter.defProp false
set_option maxRecDepth 1000000

def Sta.zero : Sta := ⟨[], []⟩
end Go.Proofs.Ytonjglbachhdcaa

/-
  Instances of functions over slices: copies, and whether some element meets a condition. Printed by a program.
-/
namespace Go.Proofs.Ytonjglbachhdcaa
open Go
set_option linter.all false
set_option linter.unusedVariables false
set_option linter.unusedSimpArgs false
set_option linter.defProp false
set_option maxRecDepth 1000000

theorem c_IndexFunc_impl_State {h : Heap} {a fv : Value} {x : List (Sta)} (Ra : Rep h a x) {f : FuncId} {c1 c2 : List Value} (hf : fnOf fv = some (f, c1, c2)) (p : (Sta) → Bool)
    (hp : ∀ h1, h.le h1 → ∀ (i : Nat) (hi : i < x.length) (u : Value), Rep h1 u x[i] → CallE Try.prog f (c1 ++ u :: c2) h1 (fun v h' => h1.le h' ∧ v = .bool (p x[i]))) :
    CallE Try.prog fn_slices_IndexFunc_S_impl_State_impl_State [a, fv] h (fun v h' => h.le h' ∧ v = .int .i64 (match x.findIdx? p with | some i => (i : Int) | none => -1)) := by
  refine CallE.gen fun k hk => EN_slices_IndexFunc_S_impl_State_impl_State rfl ?_
  have hL := Ra.lt
  simp -implicitDefEqProofs (disch := first | omega | (simp only [List.length_set, List.length_replicate, List.length_append, List.length_map, List.length_take, List.length_cons, List.length_nil]; omega)) [wrap64, Ra.len]
  refine wp_count x.length (fun i e h' => e = [some a, some fv, none, none, some (.int .i64 x.length), some (.int .i64 i)] ∧ h.le h' ∧ ∀ (j : Nat) (hj : j < x.length), j < i → p x[j] = false) ⟨rfl, Heap.le.refl h, fun j _ hj => absurd hj (Nat.not_lt_zero j)⟩ ?_
  rintro J i _ h1 hJ hi ⟨rfl, hl, hn⟩
  simp -implicitDefEqProofs (disch := first | omega | (simp only [List.length_set, List.length_replicate, List.length_append, List.length_map, List.length_take, List.length_cons, List.length_nil]; omega)) [wrap64]
  refine IteW.mk (fun hlt => ?_) (fun hge => ?_)
  · have hlx : i < x.length := by omega
    obtain ⟨u, hu, Ru⟩ := (Ra.le hl).ld hlx
    change hload _ (some (elp 2 a i)) (some 2) = some u at hu
    simp -implicitDefEqProofs (disch := first | omega | (simp only [List.length_set, List.length_replicate, List.length_append, List.length_map, List.length_take, List.length_cons, List.length_nil]; omega)) [wrap64, (Ra.le hl).X (n := 2) rfl, hu, hf]
    refine (hp h1 hl i hlx u Ru).go ?_
    rintro _ h2 ⟨hl2, rfl⟩
    simp -implicitDefEqProofs (disch := first | omega | (simp only [List.length_set, List.length_replicate, List.length_append, List.length_map, List.length_take, List.length_cons, List.length_nil]; omega)) [wrap64]
    refine IteW.mk (fun hq => ?_) (fun hq => ?_)
    · simp -implicitDefEqProofs (disch := first | omega | (simp only [List.length_set, List.length_replicate, List.length_append, List.length_map, List.length_take, List.length_cons, List.length_nil]; omega)) [wrap64]
      refine RetK.keep (hk _ _ ⟨hl.trans hl2, ?_⟩)
      have h3 : x.findIdx? p = some i := by
        rw [List.findIdx?_eq_some_iff_getElem]
        exact ⟨hlx, hq, fun j hj => by rw [hn j (by omega) hj]; simp⟩
      rw [h3]
    · simp -implicitDefEqProofs (disch := first | omega | (simp only [List.length_set, List.length_replicate, List.length_append, List.length_map, List.length_take, List.length_cons, List.length_nil]; omega)) [wrap64]
      refine hJ _ _ hlx ⟨rfl, hl.trans hl2, fun j hj hji => ?_⟩
      by_cases hji2 : j = i
      · subst hji2; simpa using hq
      · exact hn j hj (by omega)
  · simp -implicitDefEqProofs (disch := first | omega | (simp only [List.length_set, List.length_replicate, List.length_append, List.length_map, List.length_take, List.length_cons, List.length_nil]; omega)) [wrap64]
    refine RetK.keep (hk _ _ ⟨hl, ?_⟩)
    have h3 : x.findIdx? p = none := by
      rw [List.findIdx?_eq_none_iff]
      intro y hy
      obtain ⟨j, hj, rfl⟩ := List.mem_iff_getElem.1 hy
      exact hn j hj (by omega)
    rw [h3]

end Go.Proofs.Ytonjglbachhdcaa

/-
  Bodies of functions in the small language, as a program printed them, and that each is what the translation gives.
-/
namespace Go.Proofs.Ytonjglbachhdcaa
open Go
set_option linter.all false
set_option linter.defProp false
set_option maxRecDepth 1000000

def H_impl_Expr_vars : Hint := ⟨[(0, false), (1, false), (2, true), (5, true), (14, false), (15, false), (16, false)], [[0, 2, 3]]⟩
def K112_1 : C := .pl <| .st (.ext 7 1) <|
    .st (.act none (.px (some 7) (.bin .add (.v 6) (.c (.int .i64 1))))) <|
    .st (.act none (.px (some 6) (.mv (.v 7)))) .done
@[simp] def W112_1 := @C.wpe _ _ K112_1.eq_1
def K112_2 : C := .pl <| .st (.ext 7 3) <|
    .st (.act none (.pget (some 7) none 3 0 (some 3))) <|
    .st (.act none (.px (some 8) (.mv (.v 1)))) <|
    .st (.act none (.ex (some 9) (.call fn_impl_Expr_vars [.v 7, .v 8]))) .done
@[simp] def W112_2 := @C.wpe _ _ K112_2.eq_1
def K112_3 : C := .seq (.block 1 (.seq (.pl <| .st (.ext 7 2) <|
    .st (.act none (.px (some 7) (.ia 3 (.v 4) (.v 6)))) <|
    .st (.act none (.ld (some 8) (.v 7) (some 3))) <|
    .st (.act none (.pnew 3 (.c (.agg #[.int .i64 0, .int .i64 0, .slice none 0 0])) [])) <|
    .st (.act none (.pset none 3 0 3 (.v 8))) .done) K112_2)) K112_1
@[simp] def W112_3 := @C.wpe _ _ K112_3.eq_1
def K112_4 : C := .seq (.cond 7 (.v 7) (.skip) (.exit 0)) K112_3
@[simp] def W112_4 := @C.wpe _ _ K112_4.eq_1
def K112_5 : C := .seq (.pl <| .st (.ext 7 1) <|
    .st (.act none (.px (some 7) (.bin .lss (.v 6) (.v 5)))) .done) K112_4
@[simp] def W112_5 := @C.wpe _ _ K112_5.eq_1
def K112_6 : C := .block 0 (.loop 7 [0, 2, 3] K112_5)
@[simp] def W112_6 := @C.wpe _ _ K112_6.eq_1
def K112_7 : C := .seq (.pl <| .st (.ext 7 1) <|
    .st (.act none (.als 7 none 2)) <|
    .st (.act none (.pget (some 4) (some 7) 2 2 none)) <|
    .st (.act none (.px (some 5) (.lenV (.v 4)))) <|
    .st (.act none (.px (some 6) (.mv (.c (.int .i64 0))))) .done) K112_6
@[simp] def W112_7 := @C.wpe _ _ K112_7.eq_1
def K112_8 : C := .pl <| .st (.ext 7 4) <|
    .st (.act none (.px (some 7) (.mv (.v 1)))) <|
    .st (.act none (.als 8 none 2)) <|
    .st (.act none (.pget (some 9) (some 8) 2 1 none)) <|
    .st (.act none (.px (some 10) (.ia 1 (.v 7) (.v 9)))) <|
    .st (.act none (.ex none (.store 1 (.v 10) (.c (.bool true))))) .done
@[simp] def W112_8 := @C.wpe _ _ K112_8.eq_1
def K112_9 : C := .cond 7 (.v 9) K112_8 (.skip)
@[simp] def W112_9 := @C.wpe _ _ K112_9.eq_1
def K112_10 : C := .seq (.seq (.pl <| .st (.ext 7 3) <|
    .st (.act none (.als 7 none 2)) <|
    .st (.act none (.pget (some 8) (some 7) 2 0 none)) <|
    .st (.act none (.px (some 9) (.bin .eql (.v 8) (.c (.int .i64 2))))) .done) K112_9) K112_7
@[simp] def W112_10 := @C.wpe _ _ K112_10.eq_1
def B_impl_Expr_vars : C := .seq (.pl <| .st (.ext 7 0) <|
    .st (.act none (.pnew 2 (.v 0) [])) .done) K112_10
@[simp] def WB_impl_Expr_vars := @C.wpe _ _ B_impl_Expr_vars.eq_1
def R_impl_Expr_vars : FIR := ⟨B_impl_Expr_vars, 7, []⟩
theorem IR_impl_Expr_vars : cfun Try.prog H_impl_Expr_vars Try.f112 = some R_impl_Expr_vars := by kernel_rfl
theorem EN_impl_Expr_vars {args : List Value} {h : Heap} {k : Value → Heap → Prop} (hargs : args.length = 2) (hw : B_impl_Expr_vars.wp Try.prog (retQ [] k) (env0 args 7) h) : CallE Try.prog fn_impl_Expr_vars args h k := enter Try.func112 rfl IR_impl_Expr_vars hargs hw

def H_impl_System_has : Hint := ⟨[(0, false), (1, false), (2, true), (3, true), (4, false), (5, false), (6, false), (21, false), (22, false), (23, false)], [[0, 1, 3, 4, 5, 6]]⟩
def K54_1 : C := .seq (.pl <| .st (.ext 10 0) <|
    .st (.act none (.px (some 4) (.mv (.c (.bool true))))) .done) (.ret)
@[simp] def W54_1 := @C.wpe _ _ K54_1.eq_1
def K54_2 : C := .pl <| .st (.ext 10 1) <|
    .st (.act none (.px (some 10) (.bin .add (.v 9) (.c (.int .i64 1))))) <|
    .st (.act none (.px (some 9) (.mv (.v 10)))) .done
@[simp] def W54_2 := @C.wpe _ _ K54_2.eq_1
def K54_3 : C := .seq (.pl <| .st (.ext 10 0) <|
    .st (.act none (.px (some 4) (.mv (.c (.bool false))))) .done) (.ret)
@[simp] def W54_3 := @C.wpe _ _ K54_3.eq_1
def K54_4 : C := .cond 10 (.v 19) K54_3 (.skip)
@[simp] def W54_4 := @C.wpe _ _ K54_4.eq_1
def K54_5 : Pl := .st (.act none (.px (some 19) (.un .not (.v 18)))) .done
@[simp] def W54_5 := @Pl.wpe _ _ K54_5.eq_1
def K54_6 : C := .seq (.pl <| .st (.ext 10 10) <|
    .st (.act none (.px (some 10) (.mv (.v 6)))) <|
    .st (.act none (.als 11 none 2)) <|
    .st (.act none (.pget (some 12) (some 11) 2 1 none)) <|
    .st (.act none (.px (some 13) (.mv (.v 5)))) <|
    .st (.act none (.px (some 14) (.ia 2 (.v 12) (.v 13)))) <|
    .st (.act none (.px (some 15) (.fa 0 (.v 14)))) <|
    .st (.act none (.ld (some 16) (.v 15) none)) <|
    .st (.act none (.px (some 17) (.bin .sub (.v 16) (.c (.int .i64 1))))) <|
    .st (.act none (.ex (some 18) (.call fn_impl_in [.v 10, .c (.int .i64 0), .v 17]))) K54_5) K54_4
@[simp] def W54_6 := @C.wpe _ _ K54_6.eq_1
def K54_7 : C := .seq (.block 1 (.seq (.pl <| .st (.ext 10 3) <|
    .st (.act none (.px (some 10) (.mv (.v 9)))) <|
    .st (.act none (.px (some 11) (.ia 1 (.v 7) (.v 9)))) <|
    .st (.act none (.ld (some 12) (.v 11) none)) <|
    .st (.act none (.px (some 5) (.mv (.v 10)))) <|
    .st (.act none (.px (some 6) (.mv (.v 12)))) .done) K54_6)) K54_2
@[simp] def W54_7 := @C.wpe _ _ K54_7.eq_1
def K54_8 : C := .seq (.cond 10 (.v 10) (.skip) (.exit 0)) K54_7
@[simp] def W54_8 := @C.wpe _ _ K54_8.eq_1
def K54_9 : C := .seq (.pl <| .st (.ext 10 1) <|
    .st (.act none (.px (some 10) (.bin .lss (.v 9) (.v 8)))) .done) K54_8
@[simp] def W54_9 := @C.wpe _ _ K54_9.eq_1
def K54_10 : C := .block 0 (.loop 10 [0, 1, 3, 4, 5, 6] K54_9)
@[simp] def W54_10 := @C.wpe _ _ K54_10.eq_1
def K54_11 : C := .seq (.seq (.pl <| .st (.ext 10 1) <|
    .st (.act none (.als 10 none 3)) <|
    .st (.act none (.pget (some 7) (some 10) 3 0 none)) <|
    .st (.act none (.px (some 8) (.lenV (.v 7)))) <|
    .st (.act none (.px (some 9) (.mv (.c (.int .i64 0))))) .done) K54_10) K54_1
@[simp] def W54_11 := @C.wpe _ _ K54_11.eq_1
def K54_12 : C := .seq (.pl <| .st (.ext 10 0) <|
    .st (.act none (.px (some 4) (.mv (.c (.bool false))))) .done) (.ret)
@[simp] def W54_12 := @C.wpe _ _ K54_12.eq_1
def K54_13 : C := .cond 10 (.v 22) K54_12 (.skip)
@[simp] def W54_13 := @C.wpe _ _ K54_13.eq_1
def K54_14 : Pl := .st (.act (some (.v 17, false)) (.px (some 21) (.un .not (.v 20)))) <|
    .st (.act none (.px (some 22) (.pick (.v 17) (.c (.bool true)) (.v 21)))) .done
@[simp] def W54_14 := @Pl.wpe _ _ K54_14.eq_1
def K54_15 : C := .seq (.seq (.pl <| .st (.ext 10 13) <|
    .st (.act none (.als 10 none 3)) <|
    .st (.act none (.pget (some 11) (some 10) 3 0 none)) <|
    .st (.act none (.px (some 12) (.lenV (.v 11)))) <|
    .st (.act none (.als 13 none 2)) <|
    .st (.act none (.pget (some 14) (some 13) 2 1 none)) <|
    .st (.act none (.px (some 15) (.lenV (.v 14)))) <|
    .st (.act none (.px (some 16) (.bin .neq (.v 12) (.v 15)))) <|
    .st (.act none (.px (some 17) (.mv (.v 16)))) <|
    .st (.act (some (.v 17, false)) (.als 18 none 3)) <|
    .st (.act (some (.v 17, false)) (.pget (some 19) (some 18) 3 1 none)) <|
    .st (.act (some (.v 17, false)) (.ex (some 20) (.call fn_impl_valsOk [.v 19]))) K54_14) K54_13) K54_11
@[simp] def W54_15 := @C.wpe _ _ K54_15.eq_1
def B_impl_System_has : C := .seq (.pl <| .st (.ext 10 0) <|
    .st (.act none (.pnew 2 (.v 0) [])) <|
    .st (.act none (.pnew 3 (.v 1) [])) <|
    .st (.act none (.px (some 4) (.mv (.c (.bool false))))) .done) K54_15
@[simp] def WB_impl_System_has := @C.wpe _ _ B_impl_System_has.eq_1
def R_impl_System_has : FIR := ⟨B_impl_System_has, 10, [(4, none)]⟩
theorem IR_impl_System_has : cfun Try.prog H_impl_System_has Try.f54 = some R_impl_System_has := by kernel_rfl
theorem EN_impl_System_has {args : List Value} {h : Heap} {k : Value → Heap → Prop} (hargs : args.length = 2) (hw : B_impl_System_has.wp Try.prog (retQ [(4, none)] k) (env0 args 10) h) : CallE Try.prog fn_impl_System_has args h k := enter Try.func54 rfl IR_impl_System_has hargs hw


end Go.Proofs.Ytonjglbachhdcaa

/-
  Which variables matter, by the program and by the reference.
-/
namespace Go.Proofs.Ytonjglbachhdcaa
open Go
set_option linter.all false
set_option linter.unusedVariables false
set_option linter.unusedSimpArgs false
set_option linter.defProp false
set_option maxRecDepth 1000000

theorem c_vars : ∀ (x : Exq) {n : Nat} {g h : Heap} {Γ : List HP} {v m : Value} {M : List Bool}, x.Shp n → Rep g v x → HS g (ow m M :: Γ) h → M.length = 3 →
    CallE Try.prog fn_impl_Expr_vars [v, m] h (fun _ h' => HS g (ow m (x.mkv M) :: Γ) h') := by
  refine Exq.ind fun x ih n g h Γ v m M hs R H hM => ?_
  cases n with
  | zero => exact hs.elim
  | succ n =>
  obtain ⟨w, rfl, k1, k2, R1⟩ := Rep_Exq.1 R
  have hL := R1.lt
  obtain ⟨M0, hM0⟩ : ∃ M0, M0 = if x.kind = 2 then M.set x.val.toNat true else M := ⟨_, rfl⟩
  have hM0l : M0.length = 3 := by rw [hM0]; split <;> simp [hM]
  have hmk := x.mkv_eq M
  rw [← hM0] at hmk
  -- the operands
  have hkids : ∀ {k : Value → Heap → Prop} {h : Heap}, (∀ v h', HS g (ow m (x.mkv M) :: Γ) h' → k v h') → HS g (ow m M0 :: Γ) h → ∀ (J : Env → Heap → Prop), True := fun _ _ _ => trivial
  refine CallE.gen fun k hk => EN_impl_Expr_vars rfl ?_
  by_cases c1 : x.kind = 2
  · have hlo := hs.1.lo
    have hhi := hs.1.hi
    rw [c1] at hhi
    simp [Exq.most] at hhi
    obtain ⟨q, hq⟩ : ∃ q : Nat, x.val = q := ⟨x.val.toNat, by omega⟩
    simp -implicitDefEqProofs (disch := first | omega | (simp only [List.length_set, List.length_replicate, List.length_append, List.length_map, List.length_take, List.length_cons, List.length_nil]; omega)) [wrap64, c1, hq, H.rep.B]
    refine H.storeF true (i := q) (by omega) rfl rfl trivial rfl fun h1 H => ?_
    rw [if_pos c1, hq, Int.toNat_natCast] at hM0
    rw [← hM0] at H
    simp -implicitDefEqProofs (disch := first | omega | (simp only [List.length_set, List.length_replicate, List.length_append, List.length_map, List.length_take, List.length_cons, List.length_nil]; omega)) [wrap64, R1.len]
    refine wp_count x.kids.length (fun i e h' => e = [none, some m, none, none, some w, some (.int .i64 x.kids.length), some (.int .i64 i)] ∧ HS g (ow m ((x.kids.take i).foldl (fun M x => x.mkv M) M0) :: Γ) h') ⟨by simp, H⟩ ?_
    clear H
    rintro J i _ h2 hJ hi ⟨rfl, H⟩
    simp -implicitDefEqProofs (disch := first | omega | (simp only [List.length_set, List.length_replicate, List.length_append, List.length_map, List.length_take, List.length_cons, List.length_nil]; omega)) [wrap64]
    refine IteW.mk (fun hlt => ?_) (fun hge => ?_)
    · have hlx : i < x.kids.length := by omega
      obtain ⟨u, hu, Ru⟩ := R1.ld hlx
      have hu2 := hload_le H.base hu
      change hload _ (some (elp 3 w i)) (some 3) = some u at hu2
      simp -implicitDefEqProofs (disch := first | omega | (simp only [List.length_set, List.length_replicate, List.length_append, List.length_map, List.length_take, List.length_cons, List.length_nil]; omega)) [wrap64, R1.X (n := 3) rfl, hu2, Ru.aExq]
      refine (ih _ (List.getElem_mem hlx) (hs.kid hlx) Ru H (Exq.fold_len (fun y _ _ h => y.mkv_len h) hM0l)).go ?_
      intro _ h3 H
      simp -implicitDefEqProofs (disch := first | omega | (simp only [List.length_set, List.length_replicate, List.length_append, List.length_map, List.length_take, List.length_cons, List.length_nil]; omega)) [wrap64]
      exact hJ _ _ hlx ⟨by simp, by rw [foldl_tk hlx]; exact H⟩
    · simp -implicitDefEqProofs (disch := first | omega | (simp only [List.length_set, List.length_replicate, List.length_append, List.length_map, List.length_take, List.length_cons, List.length_nil]; omega)) [wrap64]
      rw [List.take_of_length_le (by omega), ← hmk] at H
      exact RetK.keep (hk _ _ H)
  · rw [if_neg c1] at hM0
    rw [← hM0] at H
    simp -implicitDefEqProofs (disch := first | omega | (simp only [List.length_set, List.length_replicate, List.length_append, List.length_map, List.length_take, List.length_cons, List.length_nil]; omega)) [wrap64, c1, R1.len]
    refine wp_count x.kids.length (fun i e h' => e = [none, some m, none, none, some w, some (.int .i64 x.kids.length), some (.int .i64 i)] ∧ HS g (ow m ((x.kids.take i).foldl (fun M x => x.mkv M) M0) :: Γ) h') ⟨by simp, H⟩ ?_
    clear H
    rintro J i _ h2 hJ hi ⟨rfl, H⟩
    simp -implicitDefEqProofs (disch := first | omega | (simp only [List.length_set, List.length_replicate, List.length_append, List.length_map, List.length_take, List.length_cons, List.length_nil]; omega)) [wrap64]
    refine IteW.mk (fun hlt => ?_) (fun hge => ?_)
    · have hlx : i < x.kids.length := by omega
      obtain ⟨u, hu, Ru⟩ := R1.ld hlx
      have hu2 := hload_le H.base hu
      change hload _ (some (elp 3 w i)) (some 3) = some u at hu2
      simp -implicitDefEqProofs (disch := first | omega | (simp only [List.length_set, List.length_replicate, List.length_append, List.length_map, List.length_take, List.length_cons, List.length_nil]; omega)) [wrap64, R1.X (n := 3) rfl, hu2, Ru.aExq]
      refine (ih _ (List.getElem_mem hlx) (hs.kid hlx) Ru H (Exq.fold_len (fun y _ _ h => y.mkv_len h) hM0l)).go ?_
      intro _ h3 H
      simp -implicitDefEqProofs (disch := first | omega | (simp only [List.length_set, List.length_replicate, List.length_append, List.length_map, List.length_take, List.length_cons, List.length_nil]; omega)) [wrap64]
      exact hJ _ _ hlx ⟨by simp, by rw [foldl_tk hlx]; exact H⟩
    · simp -implicitDefEqProofs (disch := first | omega | (simp only [List.length_set, List.length_replicate, List.length_append, List.length_map, List.length_take, List.length_cons, List.length_nil]; omega)) [wrap64]
      rw [List.take_of_length_le (by omega), ← hmk] at H
      exact RetK.keep (hk _ _ H)

theorem c_l1Mark : ∀ (x : Exq) {n : Nat} {g h : Heap} {Γ : List HP} {v m : Value} {M : List Bool}, x.Shp n → Rep g v x → HS g (ow m M :: Γ) h → M.length = 3 →
    CallE Try.prog fn_spec_l1Mark [m, v] h (fun u h' => u = m ∧ HS g (ow m (x.mkv M) :: Γ) h') := by
  refine Exq.ind fun x ih n g h Γ v m M hs R H hM => ?_
  cases n with
  | zero => exact hs.elim
  | succ n =>
  obtain ⟨w, rfl, k1, k2, R1⟩ := Rep_Exq.1 R
  have hL := R1.lt
  obtain ⟨M0, hM0⟩ : ∃ M0, M0 = if x.kind = 2 then M.set x.val.toNat true else M := ⟨_, rfl⟩
  have hM0l : M0.length = 3 := by rw [hM0]; split <;> simp [hM]
  have hmk := x.mkv_eq M
  rw [← hM0] at hmk
  refine CallE.gen fun k hk => EN_spec_l1Mark rfl ?_
  by_cases c1 : x.kind = 2
  · have hlo := hs.1.lo
    have hhi := hs.1.hi
    rw [c1] at hhi
    simp [Exq.most] at hhi
    obtain ⟨q, hq⟩ : ∃ q : Nat, x.val = q := ⟨x.val.toNat, by omega⟩
    simp -implicitDefEqProofs (disch := first | omega | (simp only [List.length_set, List.length_replicate, List.length_append, List.length_map, List.length_take, List.length_cons, List.length_nil]; omega)) [wrap64, c1, hq, H.rep.B]
    refine H.storeF true (i := q) (by omega) rfl rfl trivial rfl fun h1 H => ?_
    rw [if_pos c1, hq, Int.toNat_natCast] at hM0
    rw [← hM0] at H
    simp -implicitDefEqProofs (disch := first | omega | (simp only [List.length_set, List.length_replicate, List.length_append, List.length_map, List.length_take, List.length_cons, List.length_nil]; omega)) [wrap64, R1.len]
    refine wp_count x.kids.length (fun i e h' => (∃ a b : Int, e = [some m, none, some (.agg #[.int .i64 a, .int .i64 b, w]), none, some (.int .i64 i)]) ∧ HS g (ow m ((x.kids.take i).foldl (fun M x => x.mkv M) M0) :: Γ) h') ⟨⟨_, _, rfl⟩, H⟩ ?_
    clear H
    rintro J i _ h2 hJ hi ⟨⟨a, b, rfl⟩, H⟩
    simp -implicitDefEqProofs (disch := first | omega | (simp only [List.length_set, List.length_replicate, List.length_append, List.length_map, List.length_take, List.length_cons, List.length_nil]; omega)) [wrap64, R1.len]
    refine IteW.mk (fun hlt => ?_) (fun hge => ?_)
    · have hlx : i < x.kids.length := by omega
      obtain ⟨u, hu, Ru⟩ := R1.ld hlx
      have hu2 := hload_le H.base hu
      change hload _ (some (elp 3 w i)) (some 3) = some u at hu2
      simp -implicitDefEqProofs (disch := first | omega | (simp only [List.length_set, List.length_replicate, List.length_append, List.length_map, List.length_take, List.length_cons, List.length_nil]; omega)) [wrap64, R1.X (n := 3) rfl, hu2, Ru.aExq]
      refine (ih _ (List.getElem_mem hlx) (hs.kid hlx) Ru H (Exq.fold_len (fun y _ _ h => y.mkv_len h) hM0l)).go ?_
      rintro _ h3 ⟨rfl, H⟩
      simp -implicitDefEqProofs (disch := first | omega | (simp only [List.length_set, List.length_replicate, List.length_append, List.length_map, List.length_take, List.length_cons, List.length_nil]; omega)) [wrap64]
      exact hJ _ _ hlx ⟨⟨_, _, rfl⟩, by rw [foldl_tk hlx]; exact H⟩
    · simp -implicitDefEqProofs (disch := first | omega | (simp only [List.length_set, List.length_replicate, List.length_append, List.length_map, List.length_take, List.length_cons, List.length_nil]; omega)) [wrap64]
      rw [List.take_of_length_le (by omega), ← hmk] at H
      exact RetK.keep (hk _ _ ⟨rfl, H⟩)
  · rw [if_neg c1] at hM0
    rw [← hM0] at H
    simp -implicitDefEqProofs (disch := first | omega | (simp only [List.length_set, List.length_replicate, List.length_append, List.length_map, List.length_take, List.length_cons, List.length_nil]; omega)) [wrap64, c1, R1.len]
    refine wp_count x.kids.length (fun i e h' => (∃ a b : Int, e = [some m, none, some (.agg #[.int .i64 a, .int .i64 b, w]), none, some (.int .i64 i)]) ∧ HS g (ow m ((x.kids.take i).foldl (fun M x => x.mkv M) M0) :: Γ) h') ⟨⟨_, _, rfl⟩, H⟩ ?_
    clear H
    rintro J i _ h2 hJ hi ⟨⟨a, b, rfl⟩, H⟩
    simp -implicitDefEqProofs (disch := first | omega | (simp only [List.length_set, List.length_replicate, List.length_append, List.length_map, List.length_take, List.length_cons, List.length_nil]; omega)) [wrap64, R1.len]
    refine IteW.mk (fun hlt => ?_) (fun hge => ?_)
    · have hlx : i < x.kids.length := by omega
      obtain ⟨u, hu, Ru⟩ := R1.ld hlx
      have hu2 := hload_le H.base hu
      change hload _ (some (elp 3 w i)) (some 3) = some u at hu2
      simp -implicitDefEqProofs (disch := first | omega | (simp only [List.length_set, List.length_replicate, List.length_append, List.length_map, List.length_take, List.length_cons, List.length_nil]; omega)) [wrap64, R1.X (n := 3) rfl, hu2, Ru.aExq]
      refine (ih _ (List.getElem_mem hlx) (hs.kid hlx) Ru H (Exq.fold_len (fun y _ _ h => y.mkv_len h) hM0l)).go ?_
      rintro _ h3 ⟨rfl, H⟩
      simp -implicitDefEqProofs (disch := first | omega | (simp only [List.length_set, List.length_replicate, List.length_append, List.length_map, List.length_take, List.length_cons, List.length_nil]; omega)) [wrap64]
      exact hJ _ _ hlx ⟨⟨_, _, rfl⟩, by rw [foldl_tk hlx]; exact H⟩
    · simp -implicitDefEqProofs (disch := first | omega | (simp only [List.length_set, List.length_replicate, List.length_append, List.length_map, List.length_take, List.length_cons, List.length_nil]; omega)) [wrap64]
      rw [List.take_of_length_le (by omega), ← hmk] at H
      exact RetK.keep (hk _ _ ⟨rfl, H⟩)

/-- an edge's two expressions, as values -/
theorem Rep.gd {h : Heap} {e : Ed} {w1 w2 : Value} (ok : e.ok) (R1 : Rep h w1 e.guard.kids) : Rep h (.agg #[.int .i64 e.guard.kind, .int .i64 e.guard.val, w1]) e.guard := Rep_Exq.2 ⟨w1, rfl, ok.gk, ok.gv, R1⟩
theorem Rep.vl {h : Heap} {e : Ed} {w2 : Value} (ok : e.ok) (R1 : Rep h w2 e.value.kids) : Rep h (.agg #[.int .i64 e.value.kind, .int .i64 e.value.val, w2]) e.value := Rep_Exq.2 ⟨w2, rfl, ok.vk, ok.vv, R1⟩

theorem c_relevant {h : Heap} {v w : Value} {s : Sy} {L : List Exq} (R : Rep h v s) (RL : Rep h w L) (hs : s.Ok) (hL : LOk L) : CallE Try.prog fn_impl_System_relevant [v, w] h (fun u h' => HS h [ow u (s.rel L)] h') := by
  obtain ⟨v1, v2, rfl, R1, R2⟩ := Rep_Sy.1 R
  have hL1 := R2.lt
  have hL2 := RL.lt
  refine CallE.gen fun k hk => EN_impl_System_relevant rfl ?_
  simp -implicitDefEqProofs (disch := first | omega | (simp only [List.length_set, List.length_replicate, List.length_append, List.length_map, List.length_take, List.length_cons, List.length_nil]; omega)) [wrap64]
  refine HS.init.mks (α := Bool) (z := false) (n := 3) (c := 3) rfl rfl own_false (Nat.le_refl _) (by decide) (by decide) fun m h1 H => ?_
  have H : HS h [ow m [false, false, false]] h1 := H
  simp -implicitDefEqProofs (disch := first | omega | (simp only [List.length_set, List.length_replicate, List.length_append, List.length_map, List.length_take, List.length_cons, List.length_nil]; omega)) [wrap64, RL.len]
  refine wp_count L.length (fun i e h' => e = [none, none, some (.agg #[v1, v2]), none, some m, none, none, none, none, none, some w, some (.int .i64 L.length), some (.int .i64 i), none, none, none, none, none, none, none, none, none, none, none, none, none] ∧ HS h [ow m (relL (L.take i) [false, false, false])] h') ⟨by simp, by simpa [relL] using H⟩ ?_
  clear H
  rintro J0 i _ h2 hJ0 hi ⟨rfl, H⟩
  simp -implicitDefEqProofs (disch := first | omega | (simp only [List.length_set, List.length_replicate, List.length_append, List.length_map, List.length_take, List.length_cons, List.length_nil]; omega)) [wrap64]
  refine IteW.mk (fun hlt => ?_) (fun hge => ?_)
  · have hlx : i < L.length := by omega
    obtain ⟨u, hu, Ru⟩ := RL.ld hlx
    have hu2 := hload_le H.base hu
    change hload _ (some (elp 3 w i)) (some 3) = some u at hu2
    simp -implicitDefEqProofs (disch := first | omega | (simp only [List.length_set, List.length_replicate, List.length_append, List.length_map, List.length_take, List.length_cons, List.length_nil]; omega)) [wrap64, RL.X (n := 3) rfl, hu2, Ru.aExq]
    refine (c_vars _ (hL.ok _ (List.getElem_mem hlx)).1 Ru H (relL_len rfl)).go ?_
    intro _ h3 H
    simp -implicitDefEqProofs (disch := first | omega | (simp only [List.length_set, List.length_replicate, List.length_append, List.length_map, List.length_take, List.length_cons, List.length_nil]; omega)) [wrap64]
    exact hJ0 _ _ hlx ⟨by simp, by rw [relL, foldl_tk hlx]; exact H⟩
  simp -implicitDefEqProofs (disch := first | omega | (simp only [List.length_set, List.length_replicate, List.length_append, List.length_map, List.length_take, List.length_cons, List.length_nil]; omega)) [wrap64, R2.len]
  rw [List.take_of_length_le (by omega)] at H
  obtain ⟨MA, hMA⟩ : ∃ MA, MA = relL L [false, false, false] := ⟨_, rfl⟩
  have hMAl : MA.length = 3 := by rw [hMA]; exact relL_len rfl
  rw [← hMA] at H
  -- the guards
  refine wp_count s.procs.length (fun i e h' => e = [none, none, some (.agg #[v1, v2]), none, some m, none, none, none, none, none, none, none, none, some v2, some (.int .i64 s.procs.length), some (.int .i64 i), none, none, none, none, none, none, none, none, none, none] ∧ HS h [ow m ((s.procs.take i).foldl (fun M p => p.edges.foldl (fun M e => e.guard.mkv M) M) MA)] h') ⟨by simp, by simpa using H⟩ ?_
  clear H
  rintro J1 i _ h3 hJ1 hi ⟨rfl, H⟩
  simp -implicitDefEqProofs (disch := first | omega | (simp only [List.length_set, List.length_replicate, List.length_append, List.length_map, List.length_take, List.length_cons, List.length_nil]; omega)) [wrap64]
  refine IteW.mk (fun hlt => ?_) (fun hge => ?_)
  · have hlx : i < s.procs.length := by omega
    obtain ⟨u, hu, Ru⟩ := R2.ld hlx
    have hu2 := hload_le H.base hu
    change hload _ (some (elp 2 v2 i)) (some 2) = some u at hu2
    obtain ⟨we, rfl, k1, R3⟩ := Rep_Pr.1 Ru
    have hpo := hs.at hlx
    obtain ⟨MB, hMB⟩ : ∃ MB, MB = (s.procs.take i).foldl (fun M p => p.edges.foldl (fun M e => e.guard.mkv M) M) MA := ⟨_, rfl⟩
    have hMBl : MB.length = 3 := by rw [hMB]; exact Exq.fold_len (fun _ _ _ h => Exq.fold_len (fun _ _ _ h => Exq.mkv_len _ h) h) hMAl
    have hL3 := R3.lt
    rw [← hMB] at H
    simp -implicitDefEqProofs (disch := first | omega | (simp only [List.length_set, List.length_replicate, List.length_append, List.length_map, List.length_take, List.length_cons, List.length_nil]; omega)) [wrap64, R2.X (n := 2) rfl, hu2, R3.cells, R3.one, R3.len, setC]
    refine wp_count s.procs[i].edges.length (fun j e h' => e = [none, none, some (.agg #[v1, v2]), none, some m, none, none, none, none, none, none, none, none, some v2, some (.int .i64 s.procs.length), some (.int .i64 i), some we, some (.int .i64 s.procs[i].edges.length), some (.int .i64 j), none, none, none, none, none, none, none] ∧ HS h [ow m ((s.procs[i].edges.take j).foldl (fun M e => e.guard.mkv M) MB)] h') ⟨by simp, by simpa using H⟩ ?_
    clear H
    rintro J2 j _ h4 hJ2 hj ⟨rfl, H⟩
    simp -implicitDefEqProofs (disch := first | omega | (simp only [List.length_set, List.length_replicate, List.length_append, List.length_map, List.length_take, List.length_cons, List.length_nil]; omega)) [wrap64]
    refine IteW.mk (fun hlt2 => ?_) (fun hge2 => ?_)
    · have hjx : j < s.procs[i].edges.length := by omega
      obtain ⟨u, hu, Ru⟩ := R3.ld hjx
      have hu2 := hload_le H.base hu
      change hload _ (some (elp 10 we j)) (some 10) = some u at hu2
      obtain ⟨w1, w2, rfl, ok, G1, G2⟩ := Rep_Ed.1 Ru
      have hF := Ru.aEd
      have hF1 := G1.one
      have hF2 := G2.one
      simp -implicitDefEqProofs (disch := first | omega | (simp only [List.length_set, List.length_replicate, List.length_append, List.length_map, List.length_take, List.length_cons, List.length_nil]; omega)) [wrap64, R3.X (n := 10) rfl, hu2, Ed.cs, setC, hF1, hF2]
      refine (c_vars _ ((hpo.at hjx).gd).1 (Rep.gd (w2 := w2) ok G1) H (Exq.fold_len (fun _ _ _ h => Exq.mkv_len _ h) hMBl)).go ?_
      intro _ h5 H
      simp -implicitDefEqProofs (disch := first | omega | (simp only [List.length_set, List.length_replicate, List.length_append, List.length_map, List.length_take, List.length_cons, List.length_nil]; omega)) [wrap64]
      exact hJ2 _ _ hjx ⟨by simp, by rw [foldl_tk hjx]; exact H⟩
    simp -implicitDefEqProofs (disch := first | omega | (simp only [List.length_set, List.length_replicate, List.length_append, List.length_map, List.length_take, List.length_cons, List.length_nil]; omega)) [wrap64]
    rw [List.take_of_length_le (by omega)] at H
    exact hJ1 _ _ hlx ⟨by simp, by rw [foldl_tk hlx, ← hMB]; exact H⟩
  simp -implicitDefEqProofs (disch := first | omega | (simp only [List.length_set, List.length_replicate, List.length_append, List.length_map, List.length_take, List.length_cons, List.length_nil]; omega)) [wrap64]
  rw [List.take_of_length_le (by omega)] at H
  obtain ⟨MC, hMC⟩ : ∃ MC, MC = relG s MA := ⟨_, rfl⟩
  have hMCl : MC.length = 3 := by rw [hMC]; exact relG_len hMAl
  have H : HS h [ow m MC] h3 := by rw [hMC]; exact H
  -- three rounds
  refine wp_count 3 (fun r e h' => e = [none, none, some (.agg #[v1, v2]), none, some m, none, none, none, none, none, none, none, none, none, none, none, none, none, none, some (.int .i64 r), none, none, none, none, none, none] ∧ HS h [ow m (Nat.repeat (relV s) r MC)] h') ⟨by simp, H⟩ ?_
  clear H
  rintro J3 r _ h4 hJ3 hr ⟨rfl, H⟩
  have hrl : ∀ r, (Nat.repeat (relV s) r MC).length = 3 := by
    intro r
    induction r with
    | zero => exact hMCl
    | succ r ih => exact relV_len ih
  simp -implicitDefEqProofs (disch := first | omega | (simp only [List.length_set, List.length_replicate, List.length_append, List.length_map, List.length_take, List.length_cons, List.length_nil]; omega)) [wrap64]
  refine IteW.mk (fun hlt3 => ?_) (fun hge3 => ?_)
  · obtain ⟨MD, hMD⟩ : ∃ MD, MD = Nat.repeat (relV s) r MC := ⟨_, rfl⟩
    have hMDl : MD.length = 3 := by rw [hMD]; exact hrl r
    rw [← hMD] at H
    simp -implicitDefEqProofs (disch := first | omega | (simp only [List.length_set, List.length_replicate, List.length_append, List.length_map, List.length_take, List.length_cons, List.length_nil]; omega)) [wrap64, R2.len]
    refine wp_count s.procs.length (fun i e h' => e = [none, none, some (.agg #[v1, v2]), none, some m, none, none, none, none, none, none, none, none, none, none, none, none, none, none, some (.int .i64 r), some v2, some (.int .i64 s.procs.length), some (.int .i64 i), none, none, none] ∧ HS h [ow m ((s.procs.take i).foldl (fun M p => p.edges.foldl Ed.relv M) MD)] h') ⟨by simp, by simpa using H⟩ ?_
    clear H
    rintro J4 i _ h5 hJ4 hi ⟨rfl, H⟩
    simp -implicitDefEqProofs (disch := first | omega | (simp only [List.length_set, List.length_replicate, List.length_append, List.length_map, List.length_take, List.length_cons, List.length_nil]; omega)) [wrap64]
    refine IteW.mk (fun hlt => ?_) (fun hge => ?_)
    · have hlx : i < s.procs.length := by omega
      obtain ⟨u, hu, Ru⟩ := R2.ld hlx
      have hu2 := hload_le H.base hu
      change hload _ (some (elp 2 v2 i)) (some 2) = some u at hu2
      obtain ⟨we, rfl, k1, R3⟩ := Rep_Pr.1 Ru
      have hpo := hs.at hlx
      obtain ⟨MB, hMB⟩ : ∃ MB, MB = (s.procs.take i).foldl (fun M p => p.edges.foldl Ed.relv M) MD := ⟨_, rfl⟩
      have hMBl : MB.length = 3 := by rw [hMB]; exact Exq.fold_len (fun _ _ _ h => Exq.fold_len (fun e _ _ h => e.relv_len h) h) hMDl
      have hL3 := R3.lt
      rw [← hMB] at H
      simp -implicitDefEqProofs (disch := first | omega | (simp only [List.length_set, List.length_replicate, List.length_append, List.length_map, List.length_take, List.length_cons, List.length_nil]; omega)) [wrap64, R2.X (n := 2) rfl, hu2, R3.cells, R3.one, R3.len, setC]
      refine wp_count s.procs[i].edges.length (fun j e h' => e = [none, none, some (.agg #[v1, v2]), none, some m, none, none, none, none, none, none, none, none, none, none, none, none, none, none, some (.int .i64 r), some v2, some (.int .i64 s.procs.length), some (.int .i64 i), some we, some (.int .i64 s.procs[i].edges.length), some (.int .i64 j)] ∧ HS h [ow m ((s.procs[i].edges.take j).foldl Ed.relv MB)] h') ⟨by simp, by simpa using H⟩ ?_
      clear H
      rintro J5 j _ h6 hJ5 hj ⟨rfl, H⟩
      simp -implicitDefEqProofs (disch := first | omega | (simp only [List.length_set, List.length_replicate, List.length_append, List.length_map, List.length_take, List.length_cons, List.length_nil]; omega)) [wrap64]
      refine IteW.mk (fun hlt2 => ?_) (fun hge2 => ?_)
      · have hjx : j < s.procs[i].edges.length := by omega
        obtain ⟨u, hu, Ru⟩ := R3.ld hjx
        have hu2 := hload_le H.base hu
        change hload _ (some (elp 10 we j)) (some 10) = some u at hu2
        obtain ⟨w1, w2, rfl, ok, G1, G2⟩ := Rep_Ed.1 Ru
        have hF := Ru.aEd
        have hF1 := G1.one
        have hF2 := G2.one
        obtain ⟨ME, hME⟩ : ∃ ME, ME = (s.procs[i].edges.take j).foldl Ed.relv MB := ⟨_, rfl⟩
        have hMEl : ME.length = 3 := by rw [hME]; exact Exq.fold_len (fun e _ _ h => e.relv_len h) hMBl
        have heo := hpo.at hjx
        have hstep : (s.procs[i].edges.take (j + 1)).foldl Ed.relv MB = s.procs[i].edges[j].relv ME := by rw [foldl_tk hjx, ← hME]
        rw [← hME] at H
        by_cases e1 : 0 ≤ s.procs[i].edges[j].var
        case neg =>
          simp -implicitDefEqProofs (disch := first | omega | (simp only [List.length_set, List.length_replicate, List.length_append, List.length_map, List.length_take, List.length_cons, List.length_nil]; omega)) [wrap64, R3.X (n := 10) rfl, hu2, Ed.cs, setC, hF1, hF2, e1]
          exact hJ5 _ _ hjx ⟨by simp, by rw [hstep, Ed.relv, if_neg (fun hh => e1 hh.1)]; exact H⟩
        have hv1 := heo.v1
        obtain ⟨q, hq⟩ : ∃ q : Nat, s.procs[i].edges[j].var = q := ⟨_, (Int.toNat_of_nonneg e1).symm⟩
        have hgd : ME.getD s.procs[i].edges[j].var.toNat false = ME[q]'(by omega) := by
          rw [hq, Int.toNat_natCast, List.getD_eq_getElem?_getD, List.getElem?_eq_getElem (by omega)]; rfl
        by_cases e2 : ME[q]'(by omega) = true
        case neg =>
          simp -implicitDefEqProofs (disch := first | omega | (simp only [List.length_set, List.length_replicate, List.length_append, List.length_map, List.length_take, List.length_cons, List.length_nil]; omega)) [wrap64, R3.X (n := 10) rfl, hu2, Ed.cs, setC, hF1, hF2, hq, H.rep.B, e2]
          exact hJ5 _ _ hjx ⟨by simp, by rw [hstep, Ed.relv, if_neg (fun hh => e2 (by rw [← hgd]; exact hh.2))]; exact H⟩
        simp -implicitDefEqProofs (disch := first | omega | (simp only [List.length_set, List.length_replicate, List.length_append, List.length_map, List.length_take, List.length_cons, List.length_nil]; omega)) [wrap64, R3.X (n := 10) rfl, hu2, Ed.cs, setC, hF1, hF2, hq, H.rep.B, e2]
        have hvo : s.procs[i].edges[j].value.Ok := heo.vl.elim (fun hh => hh.2) (fun hh => absurd hh.1 (by omega))
        refine (c_vars _ hvo.1 (Rep.vl ok G2) H hMEl).go ?_
        intro _ h7 H
        simp -implicitDefEqProofs (disch := first | omega | (simp only [List.length_set, List.length_replicate, List.length_append, List.length_map, List.length_take, List.length_cons, List.length_nil]; omega)) [wrap64]
        exact hJ5 _ _ hjx ⟨by simp, by rw [hstep, Ed.relv, if_pos ⟨e1, by rw [hgd]; exact e2⟩]; exact H⟩
      simp -implicitDefEqProofs (disch := first | omega | (simp only [List.length_set, List.length_replicate, List.length_append, List.length_map, List.length_take, List.length_cons, List.length_nil]; omega)) [wrap64]
      rw [List.take_of_length_le (by omega)] at H
      exact hJ4 _ _ hlx ⟨by simp, by rw [foldl_tk hlx, ← hMB]; exact H⟩
    simp -implicitDefEqProofs (disch := first | omega | (simp only [List.length_set, List.length_replicate, List.length_append, List.length_map, List.length_take, List.length_cons, List.length_nil]; omega)) [wrap64]
    rw [List.take_of_length_le (by omega)] at H
    exact hJ3 _ _ (by omega) ⟨by simp, by show HS h [ow m (relV s (Nat.repeat (relV s) r MC))] h5; rw [← hMD]; exact H⟩
  simp -implicitDefEqProofs (disch := first | omega | (simp only [List.length_set, List.length_replicate, List.length_append, List.length_map, List.length_take, List.length_cons, List.length_nil]; omega)) [wrap64]
  have hr3 : r = 3 := by omega
  subst hr3
  refine RetK.keep (hk _ _ ?_)
  have : s.rel L = Nat.repeat (relV s) 3 MC := by rw [hMC, hMA]; rfl
  rw [this]; exact H
end Go.Proofs.Ytonjglbachhdcaa

/-
  Marks in expressions, edges, processes, systems.
-/
namespace Go.Proofs.Ytonjglbachhdcaa
open Go
set_option linter.all false
set_option linter.unusedVariables false
set_option linter.unusedSimpArgs false
set_option linter.defProp false
set_option maxRecDepth 1000000

end Go.Proofs.Ytonjglbachhdcaa

/-
  Which variables matter: the functions of the packages. How much systems and expressions hold.
-/
namespace Go.Proofs.Ytonjglbachhdcaa
open Go
set_option linter.all false
set_option linter.unusedVariables false
set_option linter.unusedSimpArgs false
set_option linter.defProp false
set_option maxRecDepth 1000000

theorem HS.only {g h : Heap} {Γ : List HP} {p : HP} (H : HS g (p :: Γ) h) : HS g [p] h := by
  obtain ⟨g', r, e, d, hp, H⟩ := H
  exact ⟨g', r, e, d, hp, H.base⟩
def R2 {α : Type} [Ty α] (b : Bool) (y : α) (h : Heap) (u : Value) (h' : Heap) : Prop := ∃ v, u = .tuple #[v, .bool b] ∧ HS h [ow v y] h'

theorem c_spec_RelevantVars' {h : Heap} {v w : Value} {s : Sy} {L : List Exq} (R : Rep h v s) (RL : Rep h w L) (hs : s.Ok) (hL : LOk L) : CallE Try.prog fn_spec_RelevantVars [v, w] h (R2 true (s.rel L) h) := by
  have F := R.aSy
  obtain ⟨v1, v2, rfl, R1, R2'⟩ := Rep_Sy.1 R
  have hL1 := R2'.lt
  have hL2 := RL.lt
  refine CallE.gen fun k hk => EN_spec_RelevantVars rfl ?_
  simp -implicitDefEqProofs (disch := first | omega | (simp only [List.length_set, List.length_replicate, List.length_append, List.length_map, List.length_take, List.length_cons, List.length_nil]; omega)) [wrap64, F]
  refine (c_spec_SystemValid R).go ?_
  rintro _ h ⟨rfl, rfl⟩
  simp -implicitDefEqProofs (disch := first | omega | (simp only [List.length_set, List.length_replicate, List.length_append, List.length_map, List.length_take, List.length_cons, List.length_nil]; omega)) [wrap64, hs]
  refine (c_spec_LabelsValid RL).go ?_
  rintro _ h ⟨rfl, rfl⟩
  simp -implicitDefEqProofs (disch := first | omega | (simp only [List.length_set, List.length_replicate, List.length_append, List.length_map, List.length_take, List.length_cons, List.length_nil]; omega)) [wrap64, hL]
  refine HS.init.mks (α := Bool) (z := false) (n := 3) (c := 3) rfl rfl own_false (Nat.le_refl _) (by decide) (by decide) fun m h1 H => ?_
  have H : HS h [ow m [false, false, false]] h1 := H
  simp -implicitDefEqProofs (disch := first | omega | (simp only [List.length_set, List.length_replicate, List.length_append, List.length_map, List.length_take, List.length_cons, List.length_nil]; omega)) [wrap64]
  refine wp_count L.length (fun i e h' => e = [none, some w, some (.agg #[v1, v2]), none, none, some m, some (.int .i64 i), none, none, none, none, none, none] ∧ HS h [ow m (relL (L.take i) [false, false, false])] h') ⟨by simp, by simpa [relL] using H⟩ ?_
  clear H
  rintro J0 i _ h2 hJ0 hi ⟨rfl, H⟩
  simp -implicitDefEqProofs (disch := first | omega | (simp only [List.length_set, List.length_replicate, List.length_append, List.length_map, List.length_take, List.length_cons, List.length_nil]; omega)) [wrap64, RL.len]
  refine IteW.mk (fun hlt => ?_) (fun hge => ?_)
  · have hlx : i < L.length := by omega
    obtain ⟨u, hu, Ru⟩ := RL.ld hlx
    have hu2 := hload_le H.base hu
    change hload _ (some (elp 3 w i)) (some 3) = some u at hu2
    simp -implicitDefEqProofs (disch := first | omega | (simp only [List.length_set, List.length_replicate, List.length_append, List.length_map, List.length_take, List.length_cons, List.length_nil]; omega)) [wrap64, RL.X (n := 3) rfl, hu2, Ru.aExq]
    refine (c_l1Mark _ (hL.ok _ (List.getElem_mem hlx)).1 Ru H (relL_len rfl)).go ?_
    rintro _ h3 ⟨rfl, H⟩
    simp -implicitDefEqProofs (disch := first | omega | (simp only [List.length_set, List.length_replicate, List.length_append, List.length_map, List.length_take, List.length_cons, List.length_nil]; omega)) [wrap64]
    exact hJ0 _ _ hlx ⟨by simp, by rw [relL, foldl_tk hlx]; exact H⟩
  simp -implicitDefEqProofs (disch := first | omega | (simp only [List.length_set, List.length_replicate, List.length_append, List.length_map, List.length_take, List.length_cons, List.length_nil]; omega)) [wrap64]
  rw [List.take_of_length_le (by omega)] at H
  obtain ⟨MA, hMA⟩ : ∃ MA, MA = relL L [false, false, false] := ⟨_, rfl⟩
  have hMAl : MA.length = 3 := by rw [hMA]; exact relL_len rfl
  rw [← hMA] at H
  -- the guards
  refine wp_count s.procs.length (fun i e h' => e = [none, none, some (.agg #[v1, v2]), none, none, some m, none, some (.int .i64 i), none, none, none, none, none] ∧ HS h [ow m ((s.procs.take i).foldl (fun M p => p.edges.foldl (fun M e => e.guard.mkv M) M) MA)] h') ⟨by simp, by simpa using H⟩ ?_
  clear H
  rintro J1 i _ h3 hJ1 hi ⟨rfl, H⟩
  simp -implicitDefEqProofs (disch := first | omega | (simp only [List.length_set, List.length_replicate, List.length_append, List.length_map, List.length_take, List.length_cons, List.length_nil]; omega)) [wrap64, R2'.len]
  refine IteW.mk (fun hlt => ?_) (fun hge => ?_)
  · have hlx : i < s.procs.length := by omega
    obtain ⟨u, hu, Ru⟩ := R2'.ld hlx
    change hload _ (some (elp 2 v2 i)) (some 2) = some u at hu
    obtain ⟨we, rfl, k1, R3⟩ := Rep_Pr.1 Ru
    have hP := hld_parts hu
    have hpo := hs.at hlx
    obtain ⟨MB, hMB⟩ : ∃ MB, MB = (s.procs.take i).foldl (fun M p => p.edges.foldl (fun M e => e.guard.mkv M) M) MA := ⟨_, rfl⟩
    have hMBl : MB.length = 3 := by rw [hMB]; exact Exq.fold_len (fun _ _ _ h => Exq.fold_len (fun _ _ _ h => Exq.mkv_len _ h) h) hMAl
    have hL3 := R3.lt
    have hfe : ∀ {h'}, h.le h' → hload h' (some (elpo 2 v2 i 1)) none = some we := fun hl => hload_le hl (by rw [hP.2.2.1 1 (by omega)]; rfl)
    rw [← hMB] at H
    simp -implicitDefEqProofs (disch := first | omega | (simp only [List.length_set, List.length_replicate, List.length_append, List.length_map, List.length_take, List.length_cons, List.length_nil]; omega)) [wrap64]
    refine wp_count s.procs[i].edges.length (fun j e h' => e = [none, none, some (.agg #[v1, v2]), none, none, some m, none, some (.int .i64 i), some (.int .i64 j), none, none, none, none] ∧ HS h [ow m ((s.procs[i].edges.take j).foldl (fun M e => e.guard.mkv M) MB)] h') ⟨by simp, by simpa using H⟩ ?_
    clear H
    rintro J2 j _ h4 hJ2 hj ⟨rfl, H⟩
    simp -implicitDefEqProofs (disch := first | omega | (simp only [List.length_set, List.length_replicate, List.length_append, List.length_map, List.length_take, List.length_cons, List.length_nil]; omega)) [wrap64, R2'.X (n := 2) rfl, hP.1, hfe H.base, R3.len]
    refine IteW.mk (fun hlt2 => ?_) (fun hge2 => ?_)
    · have hjx : j < s.procs[i].edges.length := by omega
      obtain ⟨u, hu, Ru⟩ := R3.ld hjx
      have hu2 := hload_le H.base hu
      change hload _ (some (elp 10 we j)) (some 10) = some u at hu2
      obtain ⟨w1, w2, rfl, ok, G1, G2⟩ := Rep_Ed.1 Ru
      have hQ := hld_parts hu2
      simp -implicitDefEqProofs (disch := first | omega | (simp only [List.length_set, List.length_replicate, List.length_append, List.length_map, List.length_take, List.length_cons, List.length_nil]; omega)) [wrap64, R2'.X (n := 2) rfl, hP.1, hfe H.base, R3.X (n := 10) rfl, hQ.1, hQ.2.2.2, Ed.cs]
      refine (c_l1Mark _ ((hpo.at hjx).gd).1 (Rep.gd (w2 := w2) ok G1) H (Exq.fold_len (fun _ _ _ h => Exq.mkv_len _ h) hMBl)).go ?_
      rintro _ h5 ⟨rfl, H⟩
      simp -implicitDefEqProofs (disch := first | omega | (simp only [List.length_set, List.length_replicate, List.length_append, List.length_map, List.length_take, List.length_cons, List.length_nil]; omega)) [wrap64]
      exact hJ2 _ _ hjx ⟨by simp, by rw [foldl_tk hjx]; exact H⟩
    simp -implicitDefEqProofs (disch := first | omega | (simp only [List.length_set, List.length_replicate, List.length_append, List.length_map, List.length_take, List.length_cons, List.length_nil]; omega)) [wrap64]
    rw [List.take_of_length_le (by omega)] at H
    exact hJ1 _ _ hlx ⟨by simp, by rw [foldl_tk hlx, ← hMB]; exact H⟩
  simp -implicitDefEqProofs (disch := first | omega | (simp only [List.length_set, List.length_replicate, List.length_append, List.length_map, List.length_take, List.length_cons, List.length_nil]; omega)) [wrap64]
  rw [List.take_of_length_le (by omega)] at H
  obtain ⟨MC, hMC⟩ : ∃ MC, MC = relG s MA := ⟨_, rfl⟩
  have hMCl : MC.length = 3 := by rw [hMC]; exact relG_len hMAl
  have H : HS h [ow m MC] h3 := by rw [hMC]; exact H
  -- three rounds
  refine wp_count 3 (fun r e h' => e = [none, none, some (.agg #[v1, v2]), none, none, some m, none, none, none, some (.int .i64 r), none, none, none] ∧ HS h [ow m (Nat.repeat (relV s) r MC)] h') ⟨by simp, H⟩ ?_
  clear H
  rintro J3 r _ h4 hJ3 hr ⟨rfl, H⟩
  have hrl : ∀ r, (Nat.repeat (relV s) r MC).length = 3 := by
    intro r
    induction r with
    | zero => exact hMCl
    | succ r ih => exact relV_len ih
  simp -implicitDefEqProofs (disch := first | omega | (simp only [List.length_set, List.length_replicate, List.length_append, List.length_map, List.length_take, List.length_cons, List.length_nil]; omega)) [wrap64]
  refine IteW.mk (fun hlt3 => ?_) (fun hge3 => ?_)
  · obtain ⟨MD, hMD⟩ : ∃ MD, MD = Nat.repeat (relV s) r MC := ⟨_, rfl⟩
    have hMDl : MD.length = 3 := by rw [hMD]; exact hrl r
    rw [← hMD] at H
    simp -implicitDefEqProofs (disch := first | omega | (simp only [List.length_set, List.length_replicate, List.length_append, List.length_map, List.length_take, List.length_cons, List.length_nil]; omega)) [wrap64]
    refine wp_count s.procs.length (fun i e h' => e = [none, none, some (.agg #[v1, v2]), none, none, some m, none, none, none, some (.int .i64 r), some (.int .i64 i), none, none] ∧ HS h [ow m ((s.procs.take i).foldl (fun M p => p.edges.foldl Ed.relv M) MD)] h') ⟨by simp, by simpa using H⟩ ?_
    clear H
    rintro J4 i _ h5 hJ4 hi ⟨rfl, H⟩
    simp -implicitDefEqProofs (disch := first | omega | (simp only [List.length_set, List.length_replicate, List.length_append, List.length_map, List.length_take, List.length_cons, List.length_nil]; omega)) [wrap64, R2'.len]
    refine IteW.mk (fun hlt => ?_) (fun hge => ?_)
    · have hlx : i < s.procs.length := by omega
      obtain ⟨u, hu, Ru⟩ := R2'.ld hlx
      change hload _ (some (elp 2 v2 i)) (some 2) = some u at hu
      obtain ⟨we, rfl, k1, R3⟩ := Rep_Pr.1 Ru
      have hP := hld_parts hu
      have hpo := hs.at hlx
      obtain ⟨MB, hMB⟩ : ∃ MB, MB = (s.procs.take i).foldl (fun M p => p.edges.foldl Ed.relv M) MD := ⟨_, rfl⟩
      have hMBl : MB.length = 3 := by rw [hMB]; exact Exq.fold_len (fun _ _ _ h => Exq.fold_len (fun e _ _ h => e.relv_len h) h) hMDl
      have hL3 := R3.lt
      have hfe : ∀ {h'}, h.le h' → hload h' (some (elpo 2 v2 i 1)) none = some we := fun hl => hload_le hl (by rw [hP.2.2.1 1 (by omega)]; rfl)
      rw [← hMB] at H
      simp -implicitDefEqProofs (disch := first | omega | (simp only [List.length_set, List.length_replicate, List.length_append, List.length_map, List.length_take, List.length_cons, List.length_nil]; omega)) [wrap64]
      refine wp_count s.procs[i].edges.length (fun j e h' => e = [none, none, some (.agg #[v1, v2]), none, none, some m, none, none, none, some (.int .i64 r), some (.int .i64 i), some (.int .i64 j), none] ∧ HS h [ow m ((s.procs[i].edges.take j).foldl Ed.relv MB)] h') ⟨by simp, by simpa using H⟩ ?_
      clear H
      rintro J5 j _ h6 hJ5 hj ⟨rfl, H⟩
      simp -implicitDefEqProofs (disch := first | omega | (simp only [List.length_set, List.length_replicate, List.length_append, List.length_map, List.length_take, List.length_cons, List.length_nil]; omega)) [wrap64, R2'.X (n := 2) rfl, hP.1, hfe H.base, R3.len]
      refine IteW.mk (fun hlt2 => ?_) (fun hge2 => ?_)
      · have hjx : j < s.procs[i].edges.length := by omega
        obtain ⟨u, hu, Ru⟩ := R3.ld hjx
        have hu2 := hload_le H.base hu
        change hload _ (some (elp 10 we j)) (some 10) = some u at hu2
        obtain ⟨w1, w2, rfl, ok, G1, G2⟩ := Rep_Ed.1 Ru
        have hF1 := G1.one
        have hF2 := G2.one
        obtain ⟨ME, hME⟩ : ∃ ME, ME = (s.procs[i].edges.take j).foldl Ed.relv MB := ⟨_, rfl⟩
        have hMEl : ME.length = 3 := by rw [hME]; exact Exq.fold_len (fun e _ _ h => e.relv_len h) hMBl
        have heo := hpo.at hjx
        have hstep : (s.procs[i].edges.take (j + 1)).foldl Ed.relv MB = s.procs[i].edges[j].relv ME := by rw [foldl_tk hjx, ← hME]
        rw [← hME] at H
        by_cases e1 : 0 ≤ s.procs[i].edges[j].var
        case neg =>
          simp -implicitDefEqProofs (disch := first | omega | (simp only [List.length_set, List.length_replicate, List.length_append, List.length_map, List.length_take, List.length_cons, List.length_nil]; omega)) [wrap64, R2'.X (n := 2) rfl, hP.1, hfe H.base, R3.X (n := 10) rfl, hu2, Ed.cs, setC, hF1, hF2, e1]
          exact hJ5 _ _ hjx ⟨by simp, by rw [hstep, Ed.relv, if_neg (fun hh => e1 hh.1)]; exact H⟩
        have hv1 := heo.v1
        obtain ⟨q, hq⟩ : ∃ q : Nat, s.procs[i].edges[j].var = q := ⟨_, (Int.toNat_of_nonneg e1).symm⟩
        have hgd : ME.getD s.procs[i].edges[j].var.toNat false = ME[q]'(by omega) := by
          rw [hq, Int.toNat_natCast, List.getD_eq_getElem?_getD, List.getElem?_eq_getElem (by omega)]; rfl
        by_cases e2 : ME[q]'(by omega) = true
        case neg =>
          simp -implicitDefEqProofs (disch := first | omega | (simp only [List.length_set, List.length_replicate, List.length_append, List.length_map, List.length_take, List.length_cons, List.length_nil]; omega)) [wrap64, R2'.X (n := 2) rfl, hP.1, hfe H.base, R3.X (n := 10) rfl, hu2, Ed.cs, setC, hF1, hF2, hq, H.rep.B, e2]
          exact hJ5 _ _ hjx ⟨by simp, by rw [hstep, Ed.relv, if_neg (fun hh => e2 (by rw [← hgd]; exact hh.2))]; exact H⟩
        simp -implicitDefEqProofs (disch := first | omega | (simp only [List.length_set, List.length_replicate, List.length_append, List.length_map, List.length_take, List.length_cons, List.length_nil]; omega)) [wrap64, R2'.X (n := 2) rfl, hP.1, hfe H.base, R3.X (n := 10) rfl, hu2, Ed.cs, setC, hF1, hF2, hq, H.rep.B, e2]
        have hvo : s.procs[i].edges[j].value.Ok := heo.vl.elim (fun hh => hh.2) (fun hh => absurd hh.1 (by omega))
        refine (c_l1Mark _ hvo.1 (Rep.vl ok G2) H hMEl).go ?_
        rintro _ h7 ⟨rfl, H⟩
        simp -implicitDefEqProofs (disch := first | omega | (simp only [List.length_set, List.length_replicate, List.length_append, List.length_map, List.length_take, List.length_cons, List.length_nil]; omega)) [wrap64]
        exact hJ5 _ _ hjx ⟨by simp, by rw [hstep, Ed.relv, if_pos ⟨e1, by rw [hgd]; exact e2⟩]; exact H⟩
      simp -implicitDefEqProofs (disch := first | omega | (simp only [List.length_set, List.length_replicate, List.length_append, List.length_map, List.length_take, List.length_cons, List.length_nil]; omega)) [wrap64]
      rw [List.take_of_length_le (by omega)] at H
      exact hJ4 _ _ hlx ⟨by simp, by rw [foldl_tk hlx, ← hMB]; exact H⟩
    simp -implicitDefEqProofs (disch := first | omega | (simp only [List.length_set, List.length_replicate, List.length_append, List.length_map, List.length_take, List.length_cons, List.length_nil]; omega)) [wrap64]
    rw [List.take_of_length_le (by omega)] at H
    exact hJ3 _ _ (by omega) ⟨by simp, by show HS h [ow m (relV s (Nat.repeat (relV s) r MC))] h5; rw [← hMD]; exact H⟩
  simp -implicitDefEqProofs (disch := first | omega | (simp only [List.length_set, List.length_replicate, List.length_append, List.length_map, List.length_take, List.length_cons, List.length_nil]; omega)) [wrap64]
  have hr3 : r = 3 := by omega
  subst hr3
  refine RetK.keep (hk _ _ ⟨_, rfl, ?_⟩)
  have : s.rel L = Nat.repeat (relV s) 3 MC := by rw [hMC, hMA]; rfl
  rw [this]; exact H

noncomputable def relR (s : Sy) (L : List Exq) : List Bool := if s.Ok ∧ LOk L then s.rel L else []
theorem c_spec_RelevantVars {h : Heap} {v w : Value} {s : Sy} {L : List Exq} (R : Rep h v s) (RL : Rep h w L) : CallE Try.prog fn_spec_RelevantVars [v, w] h (R2 (decide (s.Ok ∧ LOk L)) (relR s L) h) := by
  by_cases hs : s.Ok
  case neg =>
    have F := R.aSy
    have hn : ¬ (s.Ok ∧ LOk L) := fun hh => hs hh.1
    refine CallE.gen fun k hk => EN_spec_RelevantVars rfl ?_
    simp -implicitDefEqProofs (disch := first | omega | (simp only [List.length_set, List.length_replicate, List.length_append, List.length_map, List.length_take, List.length_cons, List.length_nil]; omega)) [wrap64, F]
    refine (c_spec_SystemValid R).go ?_
    rintro _ h ⟨rfl, rfl⟩
    simp -implicitDefEqProofs (disch := first | omega | (simp only [List.length_set, List.length_replicate, List.length_append, List.length_map, List.length_take, List.length_cons, List.length_nil]; omega)) [wrap64, hs]
    refine HS.init.bls0 Bool fun o h1 H => ?_
    simp -implicitDefEqProofs (disch := first | omega | (simp only [List.length_set, List.length_replicate, List.length_append, List.length_map, List.length_take, List.length_cons, List.length_nil]; omega)) [wrap64]
    exact RetK.keep (hk _ _ ⟨_, by rw [decide_eq_false hn], by rw [relR, if_neg hn]; exact H⟩)
  by_cases hL : LOk L
  case neg =>
    have F := R.aSy
    have hn : ¬ (s.Ok ∧ LOk L) := fun hh => hL hh.2
    refine CallE.gen fun k hk => EN_spec_RelevantVars rfl ?_
    simp -implicitDefEqProofs (disch := first | omega | (simp only [List.length_set, List.length_replicate, List.length_append, List.length_map, List.length_take, List.length_cons, List.length_nil]; omega)) [wrap64, F]
    refine (c_spec_SystemValid R).go ?_
    rintro _ h ⟨rfl, rfl⟩
    simp -implicitDefEqProofs (disch := first | omega | (simp only [List.length_set, List.length_replicate, List.length_append, List.length_map, List.length_take, List.length_cons, List.length_nil]; omega)) [wrap64, hs]
    refine (c_spec_LabelsValid RL).go ?_
    rintro _ h ⟨rfl, rfl⟩
    simp -implicitDefEqProofs (disch := first | omega | (simp only [List.length_set, List.length_replicate, List.length_append, List.length_map, List.length_take, List.length_cons, List.length_nil]; omega)) [wrap64, hL]
    refine HS.init.bls0 Bool fun o h1 H => ?_
    simp -implicitDefEqProofs (disch := first | omega | (simp only [List.length_set, List.length_replicate, List.length_append, List.length_map, List.length_take, List.length_cons, List.length_nil]; omega)) [wrap64]
    exact RetK.keep (hk _ _ ⟨_, by rw [decide_eq_false hn], by rw [relR, if_neg hn]; exact H⟩)
  rw [decide_eq_true ⟨hs, hL⟩, relR, if_pos ⟨hs, hL⟩]
  exact c_spec_RelevantVars' R RL hs hL
theorem c_RelevantVars {h : Heap} {v w : Value} {s : Sy} {L : List Exq} (R : Rep h v s) (RL : Rep h w L) : CallE Try.prog fn_impl_RelevantVars [v, w] h (R2 (decide (s.Ok ∧ LOk L)) (relR s L) h) := by
  have F := R.aSy
  refine CallE.gen fun k hk => EN_impl_RelevantVars rfl ?_
  have hno : ¬ (s.Ok ∧ LOk L) → ∀ h', h.le h' → k (.tuple #[.slice none 0 0, .bool false]) h' := fun hn h' hl => hk _ _ ⟨_, by rw [decide_eq_false hn], by rw [relR, if_neg hn]; exact HS.nil_ow (Γ := []) hl⟩
  simp -implicitDefEqProofs (disch := first | omega | (simp only [List.length_set, List.length_replicate, List.length_append, List.length_map, List.length_take, List.length_cons, List.length_nil]; omega)) [wrap64, F]
  refine (c_SystemValid R).go ?_
  rintro _ h1 ⟨l1, rfl⟩
  by_cases hs : s.Ok
  case neg =>
    simp -implicitDefEqProofs (disch := first | omega | (simp only [List.length_set, List.length_replicate, List.length_append, List.length_map, List.length_take, List.length_cons, List.length_nil]; omega)) [wrap64, hs]
    exact RetK.keep (hno (fun hh => hs hh.1) _ l1)
  simp -implicitDefEqProofs (disch := first | omega | (simp only [List.length_set, List.length_replicate, List.length_append, List.length_map, List.length_take, List.length_cons, List.length_nil]; omega)) [wrap64, hs]
  refine (c_LabelsValid (RL.le l1)).go ?_
  rintro _ h2 ⟨l2, rfl⟩
  have l2 := l1.trans l2
  by_cases hL : LOk L
  case neg =>
    simp -implicitDefEqProofs (disch := first | omega | (simp only [List.length_set, List.length_replicate, List.length_append, List.length_map, List.length_take, List.length_cons, List.length_nil]; omega)) [wrap64, hL]
    exact RetK.keep (hno (fun hh => hL hh.2) _ l2)
  simp -implicitDefEqProofs (disch := first | omega | (simp only [List.length_set, List.length_replicate, List.length_append, List.length_map, List.length_take, List.length_cons, List.length_nil]; omega)) [wrap64, hL, F]
  refine (c_relevant (R.le l2) (RL.le l2) hs hL).go ?_
  intro u h3 H
  simp -implicitDefEqProofs (disch := first | omega | (simp only [List.length_set, List.length_replicate, List.length_append, List.length_map, List.length_take, List.length_cons, List.length_nil]; omega)) [wrap64]
  exact RetK.keep (hk _ _ ⟨_, by rw [decide_eq_true ⟨hs, hL⟩], by rw [relR, if_pos ⟨hs, hL⟩]; exact HS.app (Γ := []) H l2⟩)

theorem sz_cons {α : Type} [Sz α] (x : α) (l : List α) : Sz.sz (x :: l) = 1 + Sz.sz x + Sz.sz l := by
  simp only [sz_list, szL, List.length_cons]; omega
end Go.Proofs.Ytonjglbachhdcaa

/-
  How much states and graphs hold.
-/
namespace Go.Proofs.Ytonjglbachhdcaa
open Go
set_option linter.all false
set_option linter.unusedVariables false
set_option linter.unusedSimpArgs false
set_option linter.defProp false
set_option maxRecDepth 1000000

end Go.Proofs.Ytonjglbachhdcaa

/-
  Valid graphs; the letters of states: by the program and by the reference.
-/
namespace Go.Proofs.Ytonjglbachhdcaa
open Go
set_option linter.all false
set_option linter.unusedVariables false
set_option linter.unusedSimpArgs false
set_option linter.defProp false
set_option maxRecDepth 1000000

/-- the front of a list that is only read -/
theorem Rep.cut {α : Type} [Ty α] {h : Heap} {v : Value} {l : List α} (R : Rep h v l) {n esz : Nat} {k : IntKind} (hn : n ≤ l.length) : ∃ v', sliceVV esz v none (some (some (.int k n))) none = some v' ∧ Rep h v' (l.take n) := by
  obtain ⟨p, cap, rfl, h1, h2, h3⟩ := Rep_list.1 R
  have hl : (l.take n).length = n := by simp; omega
  have hc : n ≤ cap := by omega
  cases n with
  | zero =>
    cases p with
    | none =>
      refine ⟨.slice none 0 cap, ?_, Rep_list.2 ⟨none, cap, by simp, by simp, trivial, fun i hi => by simp at hi⟩⟩
      simp [sliceVV, bndV]
    | some a =>
      by_cases hz : cap = 0
      · refine ⟨.slice (some a) 0 cap, ?_, Rep_list.2 ⟨some a, cap, by simp, by simp, trivial, fun i hi => by simp at hi⟩⟩
        simp [sliceVV, bndV, hz]
      · refine ⟨.slice (some (a.add 0)) 0 cap, ?_, Rep_list.2 ⟨some (a.add 0), cap, by simp, by simp, trivial, fun i hi => by simp at hi⟩⟩
        simp [sliceVV, bndV, hz]
  | succ n =>
    obtain ⟨b, off, vs, rfl, _⟩ := h3 0 (by omega)
    refine ⟨.slice (some ⟨b, off, none⟩) (n + 1) cap, ?_, Rep_list.2 ⟨_, cap, by rw [hl], by rw [hl]; omega, trivial, fun i hi => ?_⟩⟩
    · simp [sliceVV, bndV, add_none]
      rw [if_pos (by omega)]
    · rw [hl] at hi
      obtain ⟨b', off', vs, e1, e2, e3⟩ := h3 i (by omega)
      exact ⟨b', off', vs, e1, e2, by simpa using e3⟩

theorem c_Index_int {h : Heap} {a : Value} {x : List Int} (Ra : Rep h a x) {n : Int} : CallE Try.prog fn_slices_Index_S_int_int [a, .int .i64 n] h (fun v h' => h' = h ∧ ∃ r : Int, v = .int .i64 r ∧ (0 ≤ r ↔ n ∈ x)) := by
  refine CallE.gen fun k hk => EN_slices_Index_S_int_int rfl ?_
  have hL := Ra.lt
  simp -implicitDefEqProofs (disch := first | omega | (simp only [List.length_set, List.length_replicate, List.length_append, List.length_map, List.length_take, List.length_cons, List.length_nil]; omega)) [wrap64, Ra.len]
  refine wp_count x.length (fun i e h' => e = [some a, some (.int .i64 n), none, none, some (.int .i64 x.length), some (.int .i64 i)] ∧ h' = h ∧ ∀ (j : Nat) (hj : j < x.length), j < i → x[j] ≠ n) ⟨rfl, rfl, fun j _ hj => absurd hj (Nat.not_lt_zero j)⟩ ?_
  rintro J i _ h1 hJ hi ⟨rfl, rfl, hn⟩
  simp -implicitDefEqProofs (disch := first | omega | (simp only [List.length_set, List.length_replicate, List.length_append, List.length_map, List.length_take, List.length_cons, List.length_nil]; omega)) [wrap64]
  refine IteW.mk (fun hlt => ?_) (fun hge => ?_)
  · have hlx : i < x.length := by omega
    simp -implicitDefEqProofs (disch := first | omega | (simp only [List.length_set, List.length_replicate, List.length_append, List.length_map, List.length_take, List.length_cons, List.length_nil]; omega)) [wrap64, Ra.I]
    refine IteW.mk (fun hq => ?_) (fun hq => ?_)
    · simp -implicitDefEqProofs (disch := first | omega | (simp only [List.length_set, List.length_replicate, List.length_append, List.length_map, List.length_take, List.length_cons, List.length_nil]; omega)) [wrap64]
      exact RetK.keep (hk _ _ ⟨rfl, i, rfl, by simp only [Int.natCast_nonneg, true_iff]; rw [hq]; exact List.getElem_mem hlx⟩)
    · simp -implicitDefEqProofs (disch := first | omega | (simp only [List.length_set, List.length_replicate, List.length_append, List.length_map, List.length_take, List.length_cons, List.length_nil]; omega)) [wrap64]
      refine hJ _ _ hlx ⟨rfl, rfl, fun j hj hji => ?_⟩
      by_cases hji2 : j = i
      · subst hji2; exact fun e => hq e.symm
      · exact hn j hj (by omega)
  · simp -implicitDefEqProofs (disch := first | omega | (simp only [List.length_set, List.length_replicate, List.length_append, List.length_map, List.length_take, List.length_cons, List.length_nil]; omega)) [wrap64]
    refine RetK.keep (hk _ _ ⟨rfl, -1, rfl, ?_⟩)
    simp only [show ¬ (0 : Int) ≤ -1 by decide, false_iff]
    intro hm
    obtain ⟨j, hj, h1⟩ := List.mem_iff_getElem.1 hm
    exact hn j hj (by omega) h1

theorem c_Contains_int {h : Heap} {a : Value} {x : List Int} (Ra : Rep h a x) {n : Int} : CallE Try.prog fn_slices_Contains_S_int_int [a, .int .i64 n] h (fun v h' => h' = h ∧ v = .bool (decide (n ∈ x))) := by
  refine CallE.gen fun k hk => EN_slices_Contains_S_int_int rfl ?_
  simp -implicitDefEqProofs (disch := first | omega | (simp only [List.length_set, List.length_replicate, List.length_append, List.length_map, List.length_take, List.length_cons, List.length_nil]; omega)) [wrap64]
  refine (c_Index_int Ra).go ?_
  rintro _ h1 ⟨rfl, r, rfl, hr⟩
  simp -implicitDefEqProofs (disch := first | omega | (simp only [List.length_set, List.length_replicate, List.length_append, List.length_map, List.length_take, List.length_cons, List.length_nil]; omega)) [wrap64]
  exact RetK.keep (hk _ _ ⟨rfl, by congr 1; rw [Bool.eq_iff_iff]; simp [hr]⟩)

/-- indices, none twice -/
def Dst (l : List Int) (n : Nat) : Prop := ∀ (i : Nat) (hi : i < l.length), 0 ≤ l[i] ∧ l[i] < n ∧ l[i] ∉ l.take i
noncomputable instance instDecDst {l : List Int} {n : Nat} : Decidable (Dst l n) := Classical.propDecidable _
theorem Dst.le {l : List Int} {n : Nat} (h : Dst l n) : l.length ≤ n := by
  have h1 : (l.map Int.toNat).Nodup := by
    rw [List.nodup_iff_pairwise_ne, List.pairwise_iff_getElem]
    intro i j hi hj hij he
    simp only [List.length_map] at hi hj
    simp only [List.getElem_map] at he
    have a := h i hi
    have b := h j hj
    refine b.2.2 ?_
    have e2 : l[i] = l[j] := by omega
    rw [← e2]
    exact List.mem_iff_getElem.2 ⟨i, by simp; omega, by simp⟩
  have h2 : (l.map Int.toNat) ⊆ List.range n := by
    intro x hx
    obtain ⟨y, hy, rfl⟩ := List.mem_map.1 hx
    obtain ⟨i, hi, rfl⟩ := List.mem_iff_getElem.1 hy
    have := h i hi
    rw [List.mem_range]; omega
  simpa using List.Nodup.length_le_of_subset h1 h2
structure Gr.Ok (g : Gr) : Prop where
  n1 : 1 ≤ g.states.length
  n60 : g.states.length ≤ 60
  nl : g.next.length = g.states.length
  vs : ∀ st ∈ g.states, VOk st.vals
  nx : ∀ l ∈ g.next, l ≠ [] ∧ Dst l g.states.length
noncomputable instance instDecGrOk {g : Gr} : Decidable g.Ok := Classical.propDecidable _

/- LETTERS -/
def ltrN (vs : List Int) (L : List Exq) : Nat → Int
  | 0 => 0
  | i + 1 => if (L.getD i Exq.zero).ev vs ≠ 0 then orI .i64 (ltrN vs L i) (shlI .i64 1 i) else ltrN vs L i
def ltr (vs : List Int) (L : List Exq) : Int := ltrN vs L 3
def lbl (g : Gr) (L : List Exq) : List Int := g.states.map fun st => ltr st.vals L
noncomputable def lblR (g : Gr) (L : List Exq) : List Int := if g.Ok ∧ LOk L then lbl g L else []
end Go.Proofs.Ytonjglbachhdcaa

/-
  The random source of the laws' arguments: a number, an element of a list.
-/
namespace Go.Proofs.Ytonjglbachhdcaa
open Go
set_option linter.all false
set_option linter.unusedVariables false
set_option linter.unusedSimpArgs false
set_option linter.defProp false
set_option maxRecDepth 1000000

/-- bytes -/
instance instTyU8 : Ty (BitVec 8) where
  agg := false
  sz := 1
  rep := fun _ cs n => cs = [.int .u8 n.toNat]
  own := fun r cs n => r = Heap.nil ∧ cs = [.int .u8 n.toNat]
  one := fun _ => rfl
  len := by rintro h cs x rfl; rfl
  cell := by rintro h cs x rfl v hv; simp at hv; subst hv; rfl
  mono := fun _ hr => hr
  own_rep := fun ho => ho.2
instance instFlatU8 : Flat (BitVec 8) := ⟨fun n => [.int .u8 n.toNat], fun _ => True, by simp [Ty.rep], by simp [Ty.own]⟩
theorem Rep.Y {h : Heap} {v : Value} {l : List (BitVec 8)} (hr : Rep h v l) : ((∀ (kd : IntKind) (i : Nat), i < l.length → iaV 1 v (.int kd i) = some (elp 1 v i)) ∧ (∀ (kd : IntKind) (i : Int), 0 ≤ i → i < l.length → iaV 1 v (.int kd i) = some (elp 1 v i.toNat)) ∧ lenVV v = some (.int .i64 l.length)) ∧
    ∀ (i : Nat) (hi : i < l.length), hload h (some (elp 1 v i)) none = some (.int .u8 l[i].toNat) := ⟨hr.X rfl, fun _ hi => hr.ldF hi⟩

theorem xor_nn {a b : Int} (ha : 0 ≤ a) (ha2 : a < 9223372036854775808) (hb : 0 ≤ b) (hb2 : b < 9223372036854775808) : 0 ≤ xorI .i64 a b ∧ xorI .i64 a b < 9223372036854775808 := by
  have e1 : (BitVec.ofInt 64 a).toNat = a.toNat := by rw [BitVec.toNat_ofInt]; congr 1; exact Int.emod_eq_of_lt ha (by omega)
  have e2 : (BitVec.ofInt 64 b).toNat = b.toNat := by rw [BitVec.toNat_ofInt]; congr 1; exact Int.emod_eq_of_lt hb (by omega)
  have h : a.toNat ^^^ b.toNat < 2 ^ 63 := Nat.xor_lt_two_pow (by omega) (by omega)
  have e3 : xorI .i64 a b = ((a.toNat ^^^ b.toNat : Nat) : Int) := by
    unfold xorI
    rw [show IntKind.i64.bits = 64 from rfl, BitVec.toNat_xor, e1, e2]
    exact wrap64 (by omega) (by omega)
  rw [e3]
  omega

/-- the random source: a pointer to its bytes and to how many numbers were drawn -/
abbrev rb (b : Nat) (sl : Value) (p : Int) : HP := bx b [sl, .int .i64 p]
theorem tmod_rng {a b : Int} (ha : 0 ≤ a) (hb : 0 < b) : 0 ≤ a.tmod b ∧ a.tmod b < b := by
  rw [Int.tmod_eq_emod_of_nonneg ha]
  exact ⟨Int.emod_nonneg _ (by omega), Int.emod_lt_of_pos _ hb⟩
theorem tdiv_rng {a b : Int} (ha : 0 ≤ a) (hb : 0 < b) : 0 ≤ a.tdiv b ∧ a.tdiv b ≤ a := by
  rw [Int.tdiv_eq_ediv_of_nonneg ha]
  exact ⟨Int.ediv_nonneg ha (by omega), Int.ediv_le_self _ ha⟩

theorem c_pick {g h : Heap} {Γ : List HP} {b : Nat} {sl : Value} {l : List (BitVec 8)} {p n : Int} (R : Rep g sl l) (H : HS g (rb b sl p :: Γ) h) (hp : 0 ≤ p) (hp2 : p < 1099511627776) (hn : I64 n) :
    CallE Try.prog fn_spec_l16Rd_pick [.pointer (some ⟨b, 0, none⟩), .int .i64 n] h (fun u h' => ∃ r, u = .int .i64 r ∧ I64 r ∧ 0 ≤ r ∧ (1 ≤ n → r < n) ∧ HS g (rb b sl (p + 1) :: Γ) h') := by
  have hL := R.lt
  have hn1 := hn.1
  have hn2 := hn.2
  refine CallE.gen fun k hk => EN_spec_l16Rd_pick rfl ?_
  have hb0 : hload h (some (.pointer (some ⟨b, 0, none⟩))) none = some sl := H.bxld rfl
  have hb1 : hload h (some (.pointer (some ⟨b, 1, none⟩))) none = some (.int .i64 p) := H.bxld rfl
  simp -implicitDefEqProofs (disch := first | omega | (simp only [List.length_set, List.length_replicate, List.length_append, List.length_map, List.length_take, List.length_cons, List.length_nil]; omega)) [wrap64, hb0, hb1]
  refine HS.bxst (o := 1) (sz := 1) (u := .int .i64 (p + 1)) H rfl rfl rfl rfl (by simp) fun h2 H => ?_
  replace H : HS g (rb b sl (p + 1) :: Γ) h2 := H
  have hb0 : hload h2 (some (.pointer (some ⟨b, 0, none⟩))) none = some sl := H.bxld rfl
  have hb1 : hload h2 (some (.pointer (some ⟨b, 1, none⟩))) none = some (.int .i64 (p + 1)) := H.bxld rfl
  by_cases a1 : n < 1
  · simp -implicitDefEqProofs (disch := first | omega | (simp only [List.length_set, List.length_replicate, List.length_append, List.length_map, List.length_take, List.length_cons, List.length_nil]; omega)) [wrap64, hb0, hb1, a1]
    exact RetK.keep (hk _ _ ⟨0, rfl, ⟨by omega, by omega⟩, by omega, fun h => absurd h (by omega), H⟩)
  obtain ⟨ln, hln⟩ : ∃ ln : Int, ln = l.length := ⟨_, rfl⟩
  have hlen := (R.on H).len
  rw [← hln] at hlen
  by_cases a2 : ln = 0
  · simp -implicitDefEqProofs (disch := first | omega | (simp only [List.length_set, List.length_replicate, List.length_append, List.length_map, List.length_take, List.length_cons, List.length_nil]; omega)) [wrap64, hb0, hb1, a1, hlen, a2]
    exact RetK.keep (hk _ _ ⟨0, rfl, ⟨by omega, by omega⟩, by omega, fun h => by omega, H⟩)
  obtain ⟨m, rfl⟩ : ∃ m : Nat, p = m := ⟨p.toNat, (Int.toNat_of_nonneg hp).symm⟩
  have hn0 : ¬ n = 0 := by omega
  by_cases a3 : (m : Int) < ln
  · have hk3 : m < l.length := by omega
    obtain ⟨c, hc⟩ : ∃ c : Int, c = l[m].toNat := ⟨_, rfl⟩
    have hc2 : c < 256 := by have := l[m].isLt; omega
    have hc0 : 0 ≤ c := by omega
    have hld := (R.on H).Y.2 m hk3
    rw [← hc] at hld
    obtain ⟨r1, r2⟩ := tmod_rng hc0 (show 0 < n by omega)
    simp -implicitDefEqProofs (disch := first | omega | (simp only [List.length_set, List.length_replicate, List.length_append, List.length_map, List.length_take, List.length_cons, List.length_nil]; omega)) [wrap64, hb0, hb1, a1, hlen, a2, a3, (R.on H).Y.1.1, hld, hn0]
    exact RetK.keep (hk _ _ ⟨c.tmod n, rfl, ⟨by omega, by omega⟩, r1, fun _ => r2, H⟩)
  · obtain ⟨s1, s2⟩ := tmod_rng (a := (m : Int)) (b := ln) (by omega) (by omega)
    obtain ⟨i1, hi1⟩ : ∃ i1 : Nat, (m : Int).tmod ln = i1 := ⟨_, (Int.toNat_of_nonneg s1).symm⟩
    obtain ⟨t1, t2⟩ := tmod_rng (a := (m : Int) * 7 + 3) (b := ln) (by omega) (by omega)
    obtain ⟨i2, hi2⟩ : ∃ i2 : Nat, ((m : Int) * 7 + 3).tmod ln = i2 := ⟨_, (Int.toNat_of_nonneg t1).symm⟩
    obtain ⟨q1, q2⟩ := tdiv_rng (a := (m : Int)) (b := ln) (by omega) (by omega)
    obtain ⟨q, hq⟩ : ∃ q : Int, (m : Int).tdiv ln = q := ⟨_, rfl⟩
    rw [hi1] at s1 s2
    rw [hi2] at t1 t2
    rw [hq] at q1 q2
    have hl1 : i1 < l.length := by omega
    have hl2 : i2 < l.length := by omega
    obtain ⟨c, hc⟩ : ∃ c : Int, c = l[i1].toNat := ⟨_, rfl⟩
    have hc2 : c < 256 := by have := l[i1].isLt; omega
    have hc0 : 0 ≤ c := by omega
    have hld := (R.on H).Y.2 i1 hl1
    rw [← hc] at hld
    obtain ⟨d, hd⟩ : ∃ d : Int, d = l[i2].toNat := ⟨_, rfl⟩
    have hd2 : d < 256 := by have := l[i2].isLt; omega
    have hd0 : 0 ≤ d := by omega
    have hld2 := (R.on H).Y.2 i2 hl2
    rw [← hd] at hld2
    obtain ⟨x, hx⟩ : ∃ x : Int, x = c * 131 + d * 1117 + (m : Int) * 29 + q * 53 := ⟨_, rfl⟩
    have hx0 : 0 ≤ x := by omega
    have hx1 : x < 9223372036854775808 := by omega
    obtain ⟨y1, y2⟩ := tdiv_rng (a := x) (b := 64) hx0 (by omega)
    obtain ⟨z1, z2⟩ := xor_nn hx0 hx1 y1 (by omega)
    obtain ⟨w1, w2⟩ := tmod_rng z1 (show 0 < n by omega)
    simp -implicitDefEqProofs (disch := first | omega | (simp only [List.length_set, List.length_replicate, List.length_append, List.length_map, List.length_take, List.length_cons, List.length_nil]; omega)) [wrap64, hb0, hb1, a1, hlen, a2, a3, (R.on H).Y.1.1, hi1, hi2, hq, hld, hld2, hn0, ← hx]
    exact RetK.keep (hk _ _ ⟨_, rfl, ⟨by omega, by omega⟩, w1, fun _ => w2, H⟩)

/-- an element of a list that is written out -/
theorem c_num {g h : Heap} {Γ : List HP} {b : Nat} {sl v : Value} {l : List (BitVec 8)} {p : Int} {xs : List Int} (R : Rep g sl l) (H : HS g (ow v xs :: rb b sl p :: Γ) h) (hp : 0 ≤ p) (hp2 : p < 1099511627776) (hx : xs ≠ []) :
    CallE Try.prog fn_spec_l16Rd_num [.pointer (some ⟨b, 0, none⟩), v] h (fun u h' => ∃ r, u = .int .i64 r ∧ I64 r ∧ r ∈ xs ∧ HS g (rb b sl (p + 1) :: Γ) h') := by
  have hL := H.rep.lt
  have hpos : 0 < xs.length := List.length_pos_iff.2 hx
  refine CallE.gen fun k hk => EN_spec_l16Rd_num rfl ?_
  simp -implicitDefEqProofs (disch := first | omega | (simp only [List.length_set, List.length_replicate, List.length_append, List.length_map, List.length_take, List.length_cons, List.length_nil]; omega)) [wrap64, H.rep.len]
  refine (c_pick R H.sw1 hp hp2 ⟨by omega, by omega⟩).go ?_
  rintro _ h1 ⟨r, rfl, hr, hr0, hr1, H⟩
  obtain ⟨i, rfl⟩ : ∃ i : Nat, r = i := ⟨r.toNat, (Int.toNat_of_nonneg hr0).symm⟩
  have hi : i < xs.length := by have := hr1 (by omega); omega
  have hok := H.sw1.rep.okI hi
  simp -implicitDefEqProofs (disch := first | omega | (simp only [List.length_set, List.length_replicate, List.length_append, List.length_map, List.length_take, List.length_cons, List.length_nil]; omega)) [wrap64, H.sw1.rep.I]
  exact RetK.keep (hk _ _ ⟨xs[i], rfl, ⟨hok.1, hok.2⟩, List.getElem_mem hi, H.sw1.drop⟩)

theorem c_l16Open {h : Heap} {v : Value} {l : List (BitVec 8)} (R : Rep h v l) : CallE Try.prog fn_spec_l16Open [v] h (fun u h' => ∃ b sl, ∃ l' : List (BitVec 8), u = .pointer (some ⟨b, 0, none⟩) ∧ Rep h sl l' ∧ HS h [rb b sl 0] h') := by
  have hL := R.lt
  refine CallE.gen fun k hk => EN_spec_l16Open rfl ?_
  by_cases a1 : (2000 : Int) < l.length
  · obtain ⟨v', e1, R'⟩ := R.cut (n := 2000) (esz := 1) (k := .i64) (by omega)
    have hO := R'.one
    have e2 : sliceVV 1 v none (some (some (.int .i64 2000))) none = some v' := e1
    simp -implicitDefEqProofs (disch := first | omega | (simp only [List.length_set, List.length_replicate, List.length_append, List.length_map, List.length_take, List.length_cons, List.length_nil]; omega)) [wrap64, R.len, a1, e2, setC, hO, R'.cells]
    refine HS.init.alloc rfl fun b h1 H => ?_
    simp -implicitDefEqProofs (disch := first | omega | (simp only [List.length_set, List.length_replicate, List.length_append, List.length_map, List.length_take, List.length_cons, List.length_nil]; omega)) [wrap64]
    exact RetK.keep (hk _ _ ⟨b, v', _, rfl, R', H⟩)
  · have hO := R.one
    simp -implicitDefEqProofs (disch := first | omega | (simp only [List.length_set, List.length_replicate, List.length_append, List.length_map, List.length_take, List.length_cons, List.length_nil]; omega)) [wrap64, R.len, a1, setC, hO, R.cells]
    refine HS.init.alloc rfl fun b h1 H => ?_
    simp -implicitDefEqProofs (disch := first | omega | (simp only [List.length_set, List.length_replicate, List.length_append, List.length_map, List.length_take, List.length_cons, List.length_nil]; omega)) [wrap64]
    exact RetK.keep (hk _ _ ⟨b, v, _, rfl, R, H⟩)
end Go.Proofs.Ytonjglbachhdcaa

/-
  From a law as a call to the row's statement: what is read as data stands for a piece of plain data; what was there before stays.
-/
namespace Go.Proofs.Ytonjglbachhdcaa
open Go Go.RowKit
set_option linter.all false
set_option linter.unusedVariables false
set_option linter.unusedSimpArgs false
set_option linter.defProp false
set_option maxRecDepth 1000000

/-- the whole memory -/
def whole (w : World) : Heap := fun b => w.heap[b]?

theorem calls_law {P : Program} {f : FuncId} {fn : Func} {args : List Value} {W : World} (hf : P.funcs[f]? = some fn) (hname : (fn.name == "runtime.NumGoroutine") = false) (hb : fn.body.isSome = true)
    (h : CallE P f args (whole W) (fun u h' => (whole W).le h' ∧ u = .bool true)) : Calls P f args.toArray W fun e W' => e = .returned (.bool true) ∧ Below W.heap.size W W' := by
  have h1 := h W (fun b o hb => hb)
  obtain ⟨bd, hbd⟩ := Option.isSome_iff_exists.1 hb
  have hname' : ¬ fn.name = "runtime.NumGoroutine" := by simpa using hname
  have hcall : (callFunc f args.toArray).run P W = .ok (.enter f args.toArray) W := by
    simp [callFunc, hf, hname', hbd]
  rw [hcall] at h1
  refine Calls.mono h1 ?_
  rintro e W' ⟨v, h', rfl, ⟨hl, rfl⟩, hs, hF⟩
  refine ⟨rfl, hF.os, hF.tape, hF.output, hF.size, ?_⟩
  intro k hk
  have h2 : whole W k = some W.heap[k] := by simp [whole, hk]
  rw [hs _ _ (hl _ _ h2)]
  simp [hk]

section
variable {H : Type} {enc : TypeId × Value → H} {P : Program}
theorem trodAll_below (hl : laidOutB P = true) {W W' : World} : ∀ {ts : List TypeId} {vs : List Value} {ds : List (DataW H)} {ps : List MemPlace}, (∀ t ∈ ts, P.readableRec t = true ∧ t < P.types.size) →
    DataW.TrodAll enc P W 0 (fun _ => true) true ts vs ds ps → Below W.heap.size W W' → (∀ x ∈ ps, x.block < W.heap.size) → DataW.TrodAll enc P W' 0 (fun b => decide (b < W.heap.size)) true ts vs ds ps
  | [], [], [], _, _, h, _, _ => h
  | _ :: _, _ :: _, _ :: _, _, ht, ⟨p, q, h1, h2, e⟩, hb, hlt =>
    ⟨p, q, Below.trod hl (ht _ (by simp)).1 (ht _ (by simp)).2 h1 hb (fun x hx => hlt x (by rw [e]; exact List.mem_append_left _ hx)),
      trodAll_below hl (fun t h => ht t (by simp [h])) h2 hb (fun x hx => hlt x (by rw [e]; exact List.mem_append_right _ hx)), e⟩

theorem kept_below {W W' : World} (hb : Below W.heap.size W W') (may : MemPlace → Prop) : W.keptBut W' may := by
  refine ⟨hb.os, hb.output, fun i hi => ?_⟩
  rw [hb.block i hi]
  split
  · rename_i h1 h2; rw [h1] at h2; simp only [Option.some.injEq, Obj.cells.injEq] at h2; obtain ⟨rfl, rfl, rfl⟩ := h2; exact ⟨rfl, rfl, rfl, fun _ _ => rfl⟩
  · rename_i h1 h2; rw [h1] at h2; simp only [Option.some.injEq, Obj.map.injEq] at h2; obtain ⟨rfl, rfl⟩ := h2; exact .inr ⟨rfl, rfl⟩
  · rfl

/-- THE LAW's CONTRACT: true; the arguments as they were -/
theorem post_law {f : Func} {s : ChangeSpec} {W W' : World} {args : Array Value} {ds gs : List (DataW H)} {before : List MemPlace} (hl : laidOutB P = true) (hvars : s.vars = []) (ht : ∀ t ∈ f.params.toList, P.readableRec t = true ∧ t < P.types.size)
    (hr : ∃ t, f.resultTypes = #[t] ∧ P.underlying t = some .bool) (hspec : (s.fn H (ds ++ gs)).results = [.lit (.bool true)] ∧ (s.fn H (ds ++ gs)).args = ds ∧ (s.fn H (ds ++ gs)).vars = [])
    (hW : DataW.Whole enc P f.params.toList s.vars false W args.toList ds gs before) (hb : Below W.heap.size W W') : s.post enc P f false true false false W args (.bool true) W' := by
  obtain ⟨t, ht1, ht2⟩ := hr
  obtain ⟨h1, h2, h3⟩ := hspec
  have hW' := hW
  obtain ⟨p, q, hA, hV, rfl, hz, hn⟩ := hW
  rw [hvars] at hV
  obtain ⟨rfl, rfl⟩ := Go.ChangeShapes.trodVars_none hV
  have hlt : ∀ x ∈ p ++ [], x.block < W.heap.size := fun x hx => by simpa using hW'.lt x hx
  refine ⟨ds, [], p ++ [], [], p, [], hW', ?_, ?_, ?_, World.keptBut_mono (fun x hx => ⟨by simpa using hx, .inr (.inl (by simpa using hx))⟩) (kept_below hb (fun x => x ∈ p)), by simp⟩
  · rw [h1, ht1]
    exact trodAll_cons_mk (shut_bool ht2 _) Go.ChangeShapes.trodAll_mk0
  · rw [h2]
    exact trodAll_below hl ht hA hb (fun x hx => hlt x (by simpa using hx))
  · rw [h3, hvars]; rfl
end

/-- what a piece of data weighs is within the reach -/
def wOk {H : Type} (P : Program) (t : TypeId) (d : DataW H) : Prop := ∀ n ∈ d.weights P t, n ≤ reachBytes
theorem wOk_all {H : Type} {P : Program} {e : TypeId} : ∀ {l : List (DataW H)}, (∀ n ∈ DataW.weightsAll P e l, n ≤ reachBytes) → ∀ d ∈ l, wOk P e d
  | [], _, d, hd => by simp at hd
  | x :: l, h, d, hd => by
    simp only [DataW.weightsAll, List.mem_append] at h
    rcases List.mem_cons.1 hd with rfl | hd
    · exact fun n hn => h n (.inl hn)
    · exact wOk_all (fun n hn => h n (.inr hn)) d hd
theorem wOk_each {H : Type} {P : Program} : ∀ {ts : List TypeId} {l : List (DataW H)}, (∀ n ∈ DataW.weightsEach P ts l, n ≤ reachBytes) → ∀ (i : Nat) t d, ts[i]? = some t → l[i]? = some d → wOk P t d
  | [], _, _, i, t, d, h1, _ => by simp at h1
  | _ :: _, [], _, i, t, d, _, h2 => by simp at h2
  | t0 :: ts, x :: l, h, 0, t, d, h1, h2 => by
    simp at h1 h2; subst h1 h2
    exact fun n hn => h n (by simp only [DataW.weightsEach, List.mem_append]; exact .inl hn)
  | t0 :: ts, x :: l, h, i + 1, t, d, h1, h2 => wOk_each (ts := ts) (l := l) (fun n hn => h n (by simp only [DataW.weightsEach, List.mem_append]; exact .inr hn)) i t d (by simpa using h1) (by simpa using h2)

/- what is read stands for plain data -/
def RdT (P : Program) (t : TypeId) (α : Type) [Ty α] : Prop := ∀ {H : Type} (enc : TypeId × Value → H) (W : World) (sp : Nat → Bool) (fuel : Nat) (cs : List Value) (x : DataW H × List MemPlace),
  DataW.trod enc P W 0 sp true fuel t cs = some x → wOk P t x.1 → ∃ y : α, Ty.rep (whole W) cs y

section
variable {P : Program} {t : TypeId}
theorem cells_whole {W : World} {b off : Nat} : ∀ {n : Nat} {l : List Value}, W.cells? 0 ⟨b, off, none⟩ n = some l → hcells (whole W) b off n = some l := by
  have key : ∀ n o l, (List.range' o n).mapM (fun i => W.cell? ((⟨b, off, none⟩ : Addr).add i)) = some l → hcells (whole W) b (off + o) n = some l := by
    intro n
    induction n with
    | zero => intro o l h; simpa [hcells] using h
    | succ n ih =>
      intro o l h
      rw [List.range'_succ, List.mapM_cons] at h
      simp only [Option.bind_eq_bind, Option.bind_eq_some_iff, Option.pure_def, Option.some.injEq] at h
      obtain ⟨v, h1, r, h2, rfl⟩ := h
      have h3 := ih (o + 1) r h2
      have h4 : hcell (whole W) b (off + o) = some v := by
        rw [addr_add0] at h1
        simp only [World.cell?, Option.isSome_none, Bool.false_eq_true, if_false] at h1
        simp only [hcell, whole]
        split at h1
        · rename_i hb; rw [hb]; exact h1
        · simp at h1
      simp only [hcells, h4]
      rw [show off + o + 1 = off + (o + 1) by omega, h3]
  intro n l h
  simp only [World.cells?, Nat.zero_le, if_true] at h
  rw [List.range_eq_range'] at h
  exact key n 0 l h

theorem cells_spot {W : World} {b off s n : Nat} (hn : 0 < n) : W.cells? 0 ⟨b, off, some s⟩ n = none := by
  simp only [World.cells?, Nat.zero_le, if_true]
  cases n with
  | zero => omega
  | succ n =>
    rw [List.range_succ_eq_map, List.mapM_cons]
    have : W.cell? ((⟨b, off, some s⟩ : Addr).add 0) = none := by
      simp only [Addr.add, if_true, World.cell?]
      split <;> simp
    rw [this]; rfl

theorem rd_list {α : Type} [Ty α] {e : TypeId} (ht : P.underlying t = some (.slice e)) (hc : P.cellsOf e = Ty.sz α) (hpos : 0 < Ty.sz α) (hby : 0 < P.bytesOf e) (he : RdT P e α) : RdT P t (List α) := by
  intro H enc W sp fuel cs x h hwt
  rcases Go.Deep.open_slice ht h with ⟨rfl, _⟩ | ⟨a, len, cap, m, n, D, Pl, rfl, _, hlen, hcap, hm, rfl, hel⟩
  · exact ⟨[], none, 0, rfl, by simp, trivial, fun i hi => by simp at hi⟩
  · have hle : len ≤ m := by rw [hm]; split <;> omega
    simp only [wOk, DataW.weights, ht, List.mem_cons, List.mem_append] at hwt
    have hsz : len ≤ reachBytes := by
      have h1 := hwt _ (.inl rfl)
      simp only [List.length_map, List.length_range] at h1
      have h2 : len * 1 ≤ (len + (m - len)) * P.bytesOf e := Nat.mul_le_mul (by omega) hby
      omega
    have hwe := wOk_all (fun n hn => hwt n (.inr (.inl hn)))
    have hall : ∀ i, i < len → ∃ y : α, ∃ b off vs, some a = some (⟨b, off, none⟩ : Addr) ∧ hcells (whole W) b (off + i * Ty.sz α) (Ty.sz α) = some vs ∧ Ty.rep (whole W) vs y := by
      intro i hi
      obtain ⟨cs', h1, h2⟩ := hel i (by omega)
      obtain ⟨y, hy⟩ := he enc W sp n cs' _ h2 (hwe _ (List.mem_map.2 ⟨i, by simpa using hi, rfl⟩))
      obtain ⟨b, off, spot⟩ := a
      rw [hc] at h1
      -- the address is plain: its first element could be read
      have h0 : spot = none := by
        cases spot with
        | none => rfl
        | some s =>
          obtain ⟨cs0, g1, _⟩ := hel 0 (by omega)
          rw [hc] at g1
          simp only [Nat.zero_mul, Addr.add, if_true] at g1
          rw [cells_spot hpos] at g1
          simp at g1
      subst h0
      rw [addr_add0] at h1
      exact ⟨y, b, off, cs', rfl, cells_whole h1, hy⟩
    have hch : ∃ l : List α, l.length = len ∧ ∀ i (hi : i < l.length), ∃ b off vs, some a = some (⟨b, off, none⟩ : Addr) ∧ hcells (whole W) b (off + i * Ty.sz α) (Ty.sz α) = some vs ∧ Ty.rep (whole W) vs l[i] := by
      refine ⟨(List.finRange len).map fun i => Classical.choose (hall i.1 i.2), by simp, fun i hi => ?_⟩
      have hi' : i < len := by simpa using hi
      have := Classical.choose_spec (hall i hi')
      simpa using this
    obtain ⟨l, hl, hr⟩ := hch
    refine ⟨l, some a, cap, by rw [hl], ⟨by omega, ?_⟩, trivial, hr⟩
    have : reachBytes < 4611686018427387904 := by decide
    omega

end

section
variable {P : Program} {W : World} {r : Reach} {base : Nat} {t e : TypeId} {v : Value}
theorem okWide_slice (ht : P.underlying t = some (.slice e)) (h : Value.okWide P W r base t v) : ∃ a n c, v = .slice a n c := by
  unfold Value.okWide at h
  rw [ht] at h
  simp only [Cell.okWide, ht] at h
  cases v <;> simp [Cell.ok, ht] at h ⊢
end
end Go.Proofs.Ytonjglbachhdcaa

/-
  Bytes as arguments of laws.
-/
namespace Go.Proofs.Ytonjglbachhdcaa
open Go
set_option linter.all false
set_option linter.unusedVariables false
set_option linter.unusedSimpArgs false
set_option linter.defProp false
set_option maxRecDepth 1000000
theorem rd_u8 {P : Program} {t : TypeId} (ht : P.underlying t = some (.int .u8)) : RdT P t (BitVec 8) := by
  intro H enc W sp fuel cs x h hwt
  cases fuel with
  | zero => simp [DataW.trod] at h
  | succ n =>
    unfold DataW.trod at h
    rw [ht] at h
    split at h
    case h_2 k k' m h1 =>
      simp only [Option.some.injEq, TypeDesc.int.injEq] at h1
      subst h1
      split at h
      case isTrue hc =>
        obtain ⟨rfl, hw⟩ := hc
        have := bounds_u8 hw
        refine ⟨BitVec.ofNat 8 m.toNat, ?_⟩
        show _ = [Value.int .u8 ((BitVec.ofNat 8 m.toNat).toNat : Int)]
        have e : ((BitVec.ofNat 8 m.toNat).toNat : Int) = m := by
          rw [BitVec.toNat_ofNat, Nat.mod_eq_of_lt (by omega)]; omega
        rw [e]
      case isFalse => simp at h
    all_goals simp_all
end Go.Proofs.Ytonjglbachhdcaa
