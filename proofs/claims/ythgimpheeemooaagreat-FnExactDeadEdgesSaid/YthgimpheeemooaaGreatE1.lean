/-
  Valid expressions, by the program.
-/
import Derived.Test.YthgimpheeemooaaGreatI2
import Derived.Test.YthgimpheeemooaaGreatI3
import Derived.Test.YthgimpheeemooaaGreatI4
import Derived.Test.YthgimpheeemooaaGreatPE
import Derived.Test.YthgimpheeemooaaGreatPB
namespace Go.Proofs.YthgimpheeemooaaGreat
open Go
set_option linter.all false
set_option linter.unusedVariables false
set_option linter.unusedSimpArgs false
set_option linter.defProp false
set_option maxRecDepth 1000000

@[simp] theorem nilcV_ptr {a : Addr} : nilcV (.pointer (some a)) = some (.pointer (some a)) := rfl
theorem c_in {h : Heap} {n lo hi : Int} : CallE Tryz.prog fn_impl_in [.int .i64 n, .int .i64 lo, .int .i64 hi] h (fun u h' => h' = h ∧ u = .bool (decide (lo ≤ n ∧ n ≤ hi))) := by
  refine CallE.gen fun k hk => EN_impl_in rfl ?_
  by_cases h1 : lo ≤ n
  · simp -implicitDefEqProofs (disch := first | omega | (simp only [List.length_set, List.length_replicate, List.length_append, List.length_map, List.length_take, List.length_cons, List.length_nil]; omega)) [wrap64, h1]
    exact RetK.keep (hk _ _ ⟨rfl, by simp [h1]⟩)
  · simp -implicitDefEqProofs (disch := first | omega | (simp only [List.length_set, List.length_replicate, List.length_append, List.length_map, List.length_take, List.length_cons, List.length_nil]; omega)) [wrap64, h1]
    exact RetK.keep (hk _ _ ⟨rfl, by simp [h1]⟩)
/-- what counting the nodes does: the number goes on, as long as all is well -/
def WalkQ (g : Heap) (Γ : List HP) (b n m : Nat) (x : Exq) (neg : Bool) (v : Value) (h' : Heap) : Prop :=
  ∃ (n' : Nat) (ok : Bool), v = .bool (ok != neg) ∧ HS g (bx b [.int .i64 n'] :: Γ) h' ∧ (ok = true ↔ x.Shp m ∧ n + x.nod ≤ 15) ∧ (ok = true → n' = n + x.nod)

theorem c_IndexFunc_walk {g h : Heap} {Γ : List HP} {a fv : Value} {l : List Exq} {b n m : Nat} (Ra : Rep g a l) {f : FuncId} {c1 c2 : List Value} (hf : fnOf fv = some (f, c1, c2)) (H : HS g (bx b [.int .i64 n] :: Γ) h) (hn : n ≤ 15)
    (hp : ∀ (i : Nat) (hi : i < l.length) (u : Value) (n : Nat) (h1 : Heap), Rep g u l[i] → HS g (bx b [.int .i64 n] :: Γ) h1 → n ≤ 15 → CallE Tryz.prog f (c1 ++ u :: c2) h1 (WalkQ g Γ b n m l[i] true)) :
    CallE Tryz.prog fn_slices_IndexFunc_S_impl_Expr_impl_Expr [a, fv] h (fun v h' => ∃ (n' : Nat) (j : Int), v = .int .i64 j ∧ HS g (bx b [.int .i64 n'] :: Γ) h' ∧ (j < 0 ↔ (∀ y ∈ l, y.Shp m) ∧ n + Exq.nods l ≤ 15) ∧ (j < 0 → n' = n + Exq.nods l)) := by
  refine CallE.gen fun k hk => EN_slices_IndexFunc_S_impl_Expr_impl_Expr rfl ?_
  have hL := Ra.lt
  simp -implicitDefEqProofs (disch := first | omega | (simp only [List.length_set, List.length_replicate, List.length_append, List.length_map, List.length_take, List.length_cons, List.length_nil]; omega)) [wrap64, Ra.len]
  refine wp_count l.length (fun i e h' => e = [some a, some fv, none, none, some (.int .i64 l.length), some (.int .i64 i)] ∧ HS g (bx b [.int .i64 ((n + Exq.nods (l.take i) : Nat) : Int)] :: Γ) h' ∧ n + Exq.nods (l.take i) ≤ 15 ∧ ∀ (j : Nat) (hj : j < l.length), j < i → l[j].Shp m) ⟨rfl, by simpa [Exq.nods] using H, by simpa [Exq.nods] using hn, fun j _ hj => absurd hj (Nat.not_lt_zero j)⟩ ?_
  clear H
  rintro J i _ h1 hJ hi ⟨rfl, H, hle, hall⟩
  simp -implicitDefEqProofs (disch := first | omega | (simp only [List.length_set, List.length_replicate, List.length_append, List.length_map, List.length_take, List.length_cons, List.length_nil]; omega)) [wrap64]
  refine IteW.mk (fun hlt => ?_) (fun hge => ?_)
  · have hlx : i < l.length := by omega
    have hnt := Exq.nods_take hlx
    have hnl := Exq.nods_le l (i + 1)
    obtain ⟨u, hu, Ru⟩ := Ra.ld hlx
    have hu2 := hload_le H.base hu
    change hload _ (some (elp 3 a i)) (some 3) = some u at hu2
    simp -implicitDefEqProofs (disch := first | omega | (simp only [List.length_set, List.length_replicate, List.length_append, List.length_map, List.length_take, List.length_cons, List.length_nil]; omega)) [wrap64, Ra.X (n := 3) rfl, hu2, hf]
    refine (hp i hlx u _ h1 Ru H hle).go ?_
    rintro _ h2 ⟨n', ok, rfl, H, hok, hn'⟩
    simp -implicitDefEqProofs (disch := first | omega | (simp only [List.length_set, List.length_replicate, List.length_append, List.length_map, List.length_take, List.length_cons, List.length_nil]; omega)) [wrap64]
    refine IteW.mk (fun hq => ?_) (fun hq => ?_)
    · simp -implicitDefEqProofs (disch := first | omega | (simp only [List.length_set, List.length_replicate, List.length_append, List.length_map, List.length_take, List.length_cons, List.length_nil]; omega)) [wrap64]
      refine RetK.keep (hk _ _ ⟨n', _, rfl, H, ⟨fun hh => absurd hh (by omega), fun ⟨e1, e2⟩ => ?_⟩, fun hh => absurd hh (by omega)⟩)
      have : ok = true := hok.2 ⟨e1 _ (List.getElem_mem hlx), by omega⟩
      rw [this] at hq
      simp at hq
    · have hok1 : ok = true := by simpa using hq
      have e1 := hok.1 hok1
      have e2 := hn' hok1
      subst e2
      simp -implicitDefEqProofs (disch := first | omega | (simp only [List.length_set, List.length_replicate, List.length_append, List.length_map, List.length_take, List.length_cons, List.length_nil]; omega)) [wrap64]
      refine hJ _ _ hlx ⟨rfl, ?_, by omega, fun j hj hji => ?_⟩
      · rw [hnt, ← Nat.add_assoc]; exact H
      · by_cases hji2 : j = i
        · subst hji2; exact e1.1
        · exact hall j hj (by omega)
  · simp -implicitDefEqProofs (disch := first | omega | (simp only [List.length_set, List.length_replicate, List.length_append, List.length_map, List.length_take, List.length_cons, List.length_nil]; omega)) [wrap64]
    rw [List.take_of_length_le (by omega)] at H hle
    refine RetK.keep (hk _ _ ⟨_, _, rfl, H, ⟨fun _ => ⟨fun y hy => ?_, hle⟩, fun _ => by omega⟩, fun _ => rfl⟩)
    obtain ⟨j, hj, rfl⟩ := List.mem_iff_getElem.1 hy
    exact hall j hj (by omega)

theorem c_ContainsFunc_walk {g h : Heap} {Γ : List HP} {a fv : Value} {l : List Exq} {b n m : Nat} (Ra : Rep g a l) {f : FuncId} {c1 c2 : List Value} (hf : fnOf fv = some (f, c1, c2)) (H : HS g (bx b [.int .i64 n] :: Γ) h) (hn : n ≤ 15)
    (hp : ∀ (i : Nat) (hi : i < l.length) (u : Value) (n : Nat) (h1 : Heap), Rep g u l[i] → HS g (bx b [.int .i64 n] :: Γ) h1 → n ≤ 15 → CallE Tryz.prog f (c1 ++ u :: c2) h1 (WalkQ g Γ b n m l[i] true)) :
    CallE Tryz.prog fn_slices_ContainsFunc_S_impl_Expr_impl_Expr [a, fv] h (fun v h' => ∃ (n' : Nat) (ok : Bool), v = .bool (!ok) ∧ HS g (bx b [.int .i64 n'] :: Γ) h' ∧ (ok = true ↔ (∀ y ∈ l, y.Shp m) ∧ n + Exq.nods l ≤ 15) ∧ (ok = true → n' = n + Exq.nods l)) := by
  refine CallE.gen fun k hk => EN_slices_ContainsFunc_S_impl_Expr_impl_Expr rfl ?_
  simp -implicitDefEqProofs (disch := first | omega | (simp only [List.length_set, List.length_replicate, List.length_append, List.length_map, List.length_take, List.length_cons, List.length_nil]; omega)) [wrap64]
  refine (c_IndexFunc_walk Ra hf H hn hp).go ?_
  rintro _ h1 ⟨n', j, rfl, H, hj, hn'⟩
  simp -implicitDefEqProofs (disch := first | omega | (simp only [List.length_set, List.length_replicate, List.length_append, List.length_map, List.length_take, List.length_cons, List.length_nil]; omega)) [wrap64]
  refine RetK.keep (hk _ _ ⟨n', decide (j < 0), ?_, H, by rw [decide_eq_true_iff]; exact hj, by rw [decide_eq_true_iff]; exact hn'⟩)
  congr 1
  by_cases e : j < 0
  · simp [e]
  · simp [e]; omega

theorem c_walk : ∀ (x : Exq) {g h : Heap} {Γ : List HP} {v : Value} {b n d : Nat} {dv : Int}, dv = d → Rep g v x → HS g (bx b [.int .i64 n] :: Γ) h → n ≤ 15 → 1 ≤ d → d ≤ 7 →
    CallE Tryz.prog fn_impl_Expr_walk [v, .int .i64 dv, .pointer (some ⟨b, 0, none⟩)] h (WalkQ g Γ b n (7 - d) x false) := by
  refine Exq.ind fun x ih g h Γ v b n d dv hdv R H hn hd1 hd7 => ?_
  obtain ⟨w, rfl, k1, k2, R1⟩ := Rep_Exq.1 R
  have hnod := x.nod_eq
  have hkl := R1.lt
  obtain ⟨ln, hln⟩ : ∃ ln : Int, ln = x.kids.length := ⟨_, rfl⟩
  have hlen := R1.len
  rw [← hln] at hlen
  refine CallE.gen fun k hk => EN_impl_Expr_walk rfl ?_
  simp -implicitDefEqProofs (disch := first | omega | (simp only [List.length_set, List.length_replicate, List.length_append, List.length_map, List.length_take, List.length_cons, List.length_nil]; omega)) [wrap64]
  refine H.alloc rfl fun b4 h1 H => ?_
  simp -implicitDefEqProofs (disch := first | omega | (simp only [List.length_set, List.length_replicate, List.length_append, List.length_map, List.length_take, List.length_cons, List.length_nil]; omega)) [wrap64]
  refine H.alloc rfl fun b5 h2 H => ?_
  simp only [cells_int, cells_pointer] at H
  simp -implicitDefEqProofs (disch := first | omega | (simp only [List.length_set, List.length_replicate, List.length_append, List.length_map, List.length_take, List.length_cons, List.length_nil]; omega)) [wrap64, H.bxld0, H.sw2.bxld0]
  refine HS.bxst (o := 0) (sz := 1) (u := .int .i64 ((n : Int) + 1)) H.sw2 rfl rfl rfl rfl (by simp) fun h3 H => ?_
  have H : HS g (bx b [.int .i64 ((n + 1 : Nat) : Int)] :: bx b5 [.pointer (some ⟨b, 0, none⟩)] :: bx b4 [.int .i64 dv] :: Γ) h3 := H
  -- what is wanted where it fails
  have hno : ¬ (x.Shp (7 - d) ∧ n + x.nod ≤ 15) → k (.bool false) h3 := fun hh => hk _ _ ⟨_, false, rfl, H.sw1.drop.sw1.drop, ⟨fun e => by simp at e, fun e => absurd e hh⟩, fun e => by simp at e⟩
  -- and where the operands were asked
  have hfin : x.Nd → d ≤ 6 → ∀ {h4 : Heap} {n' : Nat} {ok : Bool}, (ok = true ↔ (∀ y ∈ x.kids, y.Shp (6 - d)) ∧ n + 1 + Exq.nods x.kids ≤ 15) → (ok = true → n' = n + 1 + Exq.nods x.kids) →
      HS g (bx b [.int .i64 n'] :: bx b5 [.pointer (some ⟨b, 0, none⟩)] :: bx b4 [.int .i64 dv] :: Γ) h4 → k (.bool ok) h4 := by
    intro hnd hd6 h4 n' ok g1 g2 H4
    refine hk _ _ ⟨n', ok, by simp, H4.sw1.drop.sw1.drop, ?_, fun e => by have := g2 e; omega⟩
    rw [g1, show 7 - d = (6 - d) + 1 by omega]
    exact ⟨fun ⟨h5, h6⟩ => ⟨⟨hnd, h5⟩, by omega⟩, fun ⟨h5, h6⟩ => ⟨h5.2, by omega⟩⟩
  -- an operand
  have hkid : d ≤ 6 → ∀ (i : Nat) (hi : i < x.kids.length) (u : Value) (n : Nat) (h1 : Heap), Rep g u x.kids[i] → HS g (bx b [.int .i64 n] :: bx b5 [.pointer (some ⟨b, 0, none⟩)] :: bx b4 [.int .i64 dv] :: Γ) h1 → n ≤ 15 →
      CallE Tryz.prog fn_impl_Expr_walk_1 ([] ++ u :: [.pointer (some ⟨b4, 0, none⟩), .pointer (some ⟨b5, 0, none⟩)]) h1 (WalkQ g (bx b5 [.pointer (some ⟨b, 0, none⟩)] :: bx b4 [.int .i64 dv] :: Γ) b n (6 - d) x.kids[i] true) := by
    intro hd6 i hi u n h1 Ru H hn
    refine CallE.gen fun k hk => EN_impl_Expr_walk_1 rfl ?_
    have Fu := Ru.aExq
    simp -implicitDefEqProofs (disch := first | omega | (simp only [List.length_set, List.length_replicate, List.length_append, List.length_map, List.length_take, List.length_cons, List.length_nil]; omega)) [wrap64, Fu, H.sw2.bxld0, H.sw1.bxld0]
    refine (ih _ (List.getElem_mem hi) (d := d + 1) (dv := dv + 1) (by omega) Ru H hn (by omega) (by omega)).go ?_
    rintro _ h2 ⟨n', ok, rfl, H, g1, g2⟩
    rw [show 7 - (d + 1) = 6 - d by omega] at g1
    simp -implicitDefEqProofs (disch := first | omega | (simp only [List.length_set, List.length_replicate, List.length_append, List.length_map, List.length_take, List.length_cons, List.length_nil]; omega)) [wrap64]
    exact RetK.keep (hk _ _ ⟨n', ok, by simp, H, g1, g2⟩)
  by_cases c1 : x.kind = 1
  · revert hno hfin
    intro hno hfin
    by_cases e1 : (6 : Int) < dv
    · simp -implicitDefEqProofs (disch := first | omega | (simp only [List.length_set, List.length_replicate, List.length_append, List.length_map, List.length_take, List.length_cons, List.length_nil]; omega)) [wrap64, c1, H.bxld0, H.sw1.bxld0, H.sw2.bxld0, e1]
      exact RetK.keep (hno fun hh => by have := hh.1; rw [show 7 - d = 0 by omega] at this; exact this)
    by_cases e2 : (15 : Int) < (n : Int) + 1
    · simp -implicitDefEqProofs (disch := first | omega | (simp only [List.length_set, List.length_replicate, List.length_append, List.length_map, List.length_take, List.length_cons, List.length_nil]; omega)) [wrap64, c1, H.bxld0, H.sw1.bxld0, H.sw2.bxld0, e1, e2]
      exact RetK.keep (hno fun hh => by have := hh.2; omega)
    simp -implicitDefEqProofs (disch := first | omega | (simp only [List.length_set, List.length_replicate, List.length_append, List.length_map, List.length_take, List.length_cons, List.length_nil]; omega)) [wrap64, c1, H.bxld0, H.sw1.bxld0, H.sw2.bxld0, e1, e2]
    refine c_in.go ?_
    rintro _ _ ⟨rfl, rfl⟩
    have e3 : 1 ≤ x.kind ∧ x.kind ≤ 9 := by omega
    have e6 := e3
    simp -implicitDefEqProofs (disch := first | omega | (simp only [List.length_set, List.length_replicate, List.length_append, List.length_map, List.length_take, List.length_cons, List.length_nil]; omega)) [wrap64, c1, e3]
    refine c_in.go ?_
    rintro _ _ ⟨rfl, rfl⟩
    by_cases e4 : 0 ≤ x.val ∧ x.val ≤ 3
    case neg =>
      simp -implicitDefEqProofs (disch := first | omega | (simp only [List.length_set, List.length_replicate, List.length_append, List.length_map, List.length_take, List.length_cons, List.length_nil]; omega)) [wrap64, c1, e4]
      exact RetK.keep (hno fun hh => e4 ⟨hh.1.nd.lo, by have := hh.1.nd.hi; simpa [Exq.most, c1] using this⟩)
    simp -implicitDefEqProofs (disch := first | omega | (simp only [List.length_set, List.length_replicate, List.length_append, List.length_map, List.length_take, List.length_cons, List.length_nil]; omega)) [wrap64, c1, e4, hlen]
    by_cases e5 : ln = 0
    case neg =>
      simp -implicitDefEqProofs (disch := first | omega | (simp only [List.length_set, List.length_replicate, List.length_append, List.length_map, List.length_take, List.length_cons, List.length_nil]; omega)) [wrap64, c1, e5, hlen]
      exact RetK.keep (hno fun hh => e5 (by have := hh.1.nd.ar; rw [← hln] at this; simpa [Exq.arity, c1, e3, e6] using this))
    simp -implicitDefEqProofs (disch := first | omega | (simp only [List.length_set, List.length_replicate, List.length_append, List.length_map, List.length_take, List.length_cons, List.length_nil]; omega)) [wrap64, c1, e5, hlen]
    refine (c_ContainsFunc_walk (m := 6 - d) R1 (c1 := []) (c2 := [.pointer (some ⟨b4, 0, none⟩), .pointer (some ⟨b5, 0, none⟩)]) rfl H (by omega) (hkid (by omega))).go ?_
    rintro _ h4 ⟨n', ok, rfl, H4, g1, g2⟩
    simp -implicitDefEqProofs (disch := first | omega | (simp only [List.length_set, List.length_replicate, List.length_append, List.length_map, List.length_take, List.length_cons, List.length_nil]; omega)) [wrap64]
    exact RetK.keep (hfin ⟨by rw [← hln]; simp only [Exq.arity, c1]; simpa [e3, e6] using e5, e4.1, by simp only [Exq.most, c1]; simpa using e4.2⟩ (by omega) g1 g2 H4)
  by_cases c2 : x.kind = 2
  · revert hno hfin
    intro hno hfin
    by_cases e1 : (6 : Int) < dv
    · simp -implicitDefEqProofs (disch := first | omega | (simp only [List.length_set, List.length_replicate, List.length_append, List.length_map, List.length_take, List.length_cons, List.length_nil]; omega)) [wrap64, c1, c2, H.bxld0, H.sw1.bxld0, H.sw2.bxld0, e1]
      exact RetK.keep (hno fun hh => by have := hh.1; rw [show 7 - d = 0 by omega] at this; exact this)
    by_cases e2 : (15 : Int) < (n : Int) + 1
    · simp -implicitDefEqProofs (disch := first | omega | (simp only [List.length_set, List.length_replicate, List.length_append, List.length_map, List.length_take, List.length_cons, List.length_nil]; omega)) [wrap64, c1, c2, H.bxld0, H.sw1.bxld0, H.sw2.bxld0, e1, e2]
      exact RetK.keep (hno fun hh => by have := hh.2; omega)
    simp -implicitDefEqProofs (disch := first | omega | (simp only [List.length_set, List.length_replicate, List.length_append, List.length_map, List.length_take, List.length_cons, List.length_nil]; omega)) [wrap64, c1, c2, H.bxld0, H.sw1.bxld0, H.sw2.bxld0, e1, e2]
    refine c_in.go ?_
    rintro _ _ ⟨rfl, rfl⟩
    have e3 : 1 ≤ x.kind ∧ x.kind ≤ 9 := by omega
    have e6 := e3
    simp -implicitDefEqProofs (disch := first | omega | (simp only [List.length_set, List.length_replicate, List.length_append, List.length_map, List.length_take, List.length_cons, List.length_nil]; omega)) [wrap64, c1, c2, e3]
    refine c_in.go ?_
    rintro _ _ ⟨rfl, rfl⟩
    by_cases e4 : 0 ≤ x.val ∧ x.val ≤ 2
    case neg =>
      simp -implicitDefEqProofs (disch := first | omega | (simp only [List.length_set, List.length_replicate, List.length_append, List.length_map, List.length_take, List.length_cons, List.length_nil]; omega)) [wrap64, c1, c2, e4]
      exact RetK.keep (hno fun hh => e4 ⟨hh.1.nd.lo, by have := hh.1.nd.hi; simpa [Exq.most, c1, c2] using this⟩)
    simp -implicitDefEqProofs (disch := first | omega | (simp only [List.length_set, List.length_replicate, List.length_append, List.length_map, List.length_take, List.length_cons, List.length_nil]; omega)) [wrap64, c1, c2, e4, hlen]
    by_cases e5 : ln = 0
    case neg =>
      simp -implicitDefEqProofs (disch := first | omega | (simp only [List.length_set, List.length_replicate, List.length_append, List.length_map, List.length_take, List.length_cons, List.length_nil]; omega)) [wrap64, c1, c2, e5, hlen]
      exact RetK.keep (hno fun hh => e5 (by have := hh.1.nd.ar; rw [← hln] at this; simpa [Exq.arity, c1, c2, e3, e6] using this))
    simp -implicitDefEqProofs (disch := first | omega | (simp only [List.length_set, List.length_replicate, List.length_append, List.length_map, List.length_take, List.length_cons, List.length_nil]; omega)) [wrap64, c1, c2, e5, hlen]
    refine (c_ContainsFunc_walk (m := 6 - d) R1 (c1 := []) (c2 := [.pointer (some ⟨b4, 0, none⟩), .pointer (some ⟨b5, 0, none⟩)]) rfl H (by omega) (hkid (by omega))).go ?_
    rintro _ h4 ⟨n', ok, rfl, H4, g1, g2⟩
    simp -implicitDefEqProofs (disch := first | omega | (simp only [List.length_set, List.length_replicate, List.length_append, List.length_map, List.length_take, List.length_cons, List.length_nil]; omega)) [wrap64]
    exact RetK.keep (hfin ⟨by rw [← hln]; simp only [Exq.arity, c1, c2]; simpa [e3, e6] using e5, e4.1, by simp only [Exq.most, c1, c2]; simpa using e4.2⟩ (by omega) g1 g2 H4)
  by_cases c3 : x.kind = 3
  · revert hno hfin
    intro hno hfin
    by_cases e1 : (6 : Int) < dv
    · simp -implicitDefEqProofs (disch := first | omega | (simp only [List.length_set, List.length_replicate, List.length_append, List.length_map, List.length_take, List.length_cons, List.length_nil]; omega)) [wrap64, c1, c2, c3, H.bxld0, H.sw1.bxld0, H.sw2.bxld0, e1]
      exact RetK.keep (hno fun hh => by have := hh.1; rw [show 7 - d = 0 by omega] at this; exact this)
    by_cases e2 : (15 : Int) < (n : Int) + 1
    · simp -implicitDefEqProofs (disch := first | omega | (simp only [List.length_set, List.length_replicate, List.length_append, List.length_map, List.length_take, List.length_cons, List.length_nil]; omega)) [wrap64, c1, c2, c3, H.bxld0, H.sw1.bxld0, H.sw2.bxld0, e1, e2]
      exact RetK.keep (hno fun hh => by have := hh.2; omega)
    simp -implicitDefEqProofs (disch := first | omega | (simp only [List.length_set, List.length_replicate, List.length_append, List.length_map, List.length_take, List.length_cons, List.length_nil]; omega)) [wrap64, c1, c2, c3, H.bxld0, H.sw1.bxld0, H.sw2.bxld0, e1, e2]
    refine c_in.go ?_
    rintro _ _ ⟨rfl, rfl⟩
    have e3 : 1 ≤ x.kind ∧ x.kind ≤ 9 := by omega
    have e6 := e3
    simp -implicitDefEqProofs (disch := first | omega | (simp only [List.length_set, List.length_replicate, List.length_append, List.length_map, List.length_take, List.length_cons, List.length_nil]; omega)) [wrap64, c1, c2, c3, e3]
    refine c_in.go ?_
    rintro _ _ ⟨rfl, rfl⟩
    by_cases e4 : 0 ≤ x.val ∧ x.val ≤ 0
    case neg =>
      simp -implicitDefEqProofs (disch := first | omega | (simp only [List.length_set, List.length_replicate, List.length_append, List.length_map, List.length_take, List.length_cons, List.length_nil]; omega)) [wrap64, c1, c2, c3, e4]
      exact RetK.keep (hno fun hh => e4 ⟨hh.1.nd.lo, by have := hh.1.nd.hi; simpa [Exq.most, c1, c2, c3] using this⟩)
    simp -implicitDefEqProofs (disch := first | omega | (simp only [List.length_set, List.length_replicate, List.length_append, List.length_map, List.length_take, List.length_cons, List.length_nil]; omega)) [wrap64, c1, c2, c3, e4, hlen]
    by_cases e5 : ln = 1
    case neg =>
      simp -implicitDefEqProofs (disch := first | omega | (simp only [List.length_set, List.length_replicate, List.length_append, List.length_map, List.length_take, List.length_cons, List.length_nil]; omega)) [wrap64, c1, c2, c3, e5, hlen]
      exact RetK.keep (hno fun hh => e5 (by have := hh.1.nd.ar; rw [← hln] at this; simpa [Exq.arity, c1, c2, c3, e3, e6] using this))
    simp -implicitDefEqProofs (disch := first | omega | (simp only [List.length_set, List.length_replicate, List.length_append, List.length_map, List.length_take, List.length_cons, List.length_nil]; omega)) [wrap64, c1, c2, c3, e5, hlen]
    refine (c_ContainsFunc_walk (m := 6 - d) R1 (c1 := []) (c2 := [.pointer (some ⟨b4, 0, none⟩), .pointer (some ⟨b5, 0, none⟩)]) rfl H (by omega) (hkid (by omega))).go ?_
    rintro _ h4 ⟨n', ok, rfl, H4, g1, g2⟩
    simp -implicitDefEqProofs (disch := first | omega | (simp only [List.length_set, List.length_replicate, List.length_append, List.length_map, List.length_take, List.length_cons, List.length_nil]; omega)) [wrap64]
    exact RetK.keep (hfin ⟨by rw [← hln]; simp only [Exq.arity, c1, c2, c3]; simpa [e3, e6] using e5, e4.1, by simp only [Exq.most, c1, c2, c3]; simpa using e4.2⟩ (by omega) g1 g2 H4)
  by_cases e1 : (6 : Int) < dv
  · simp -implicitDefEqProofs (disch := first | omega | (simp only [List.length_set, List.length_replicate, List.length_append, List.length_map, List.length_take, List.length_cons, List.length_nil]; omega)) [wrap64, c1, c2, c3, H.bxld0, H.sw1.bxld0, H.sw2.bxld0, e1]
    exact RetK.keep (hno fun hh => by have := hh.1; rw [show 7 - d = 0 by omega] at this; exact this)
  by_cases e2 : (15 : Int) < (n : Int) + 1
  · simp -implicitDefEqProofs (disch := first | omega | (simp only [List.length_set, List.length_replicate, List.length_append, List.length_map, List.length_take, List.length_cons, List.length_nil]; omega)) [wrap64, c1, c2, c3, H.bxld0, H.sw1.bxld0, H.sw2.bxld0, e1, e2]
    exact RetK.keep (hno fun hh => by have := hh.2; omega)
  simp -implicitDefEqProofs (disch := first | omega | (simp only [List.length_set, List.length_replicate, List.length_append, List.length_map, List.length_take, List.length_cons, List.length_nil]; omega)) [wrap64, c1, c2, c3, H.bxld0, H.sw1.bxld0, H.sw2.bxld0, e1, e2]
  refine c_in.go ?_
  rintro _ _ ⟨rfl, rfl⟩
  by_cases e3 : 1 ≤ x.kind ∧ x.kind ≤ 9
  case neg =>
    simp -implicitDefEqProofs (disch := first | omega | (simp only [List.length_set, List.length_replicate, List.length_append, List.length_map, List.length_take, List.length_cons, List.length_nil]; omega)) [wrap64, c1, c2, c3, e3]
    exact RetK.keep (hno fun hh => e3 hh.1.nd.kind)
  have e6 : 4 ≤ x.kind := by omega
  simp -implicitDefEqProofs (disch := first | omega | (simp only [List.length_set, List.length_replicate, List.length_append, List.length_map, List.length_take, List.length_cons, List.length_nil]; omega)) [wrap64, c1, c2, c3, e3]
  refine c_in.go ?_
  rintro _ _ ⟨rfl, rfl⟩
  by_cases e4 : 0 ≤ x.val ∧ x.val ≤ 0
  case neg =>
    simp -implicitDefEqProofs (disch := first | omega | (simp only [List.length_set, List.length_replicate, List.length_append, List.length_map, List.length_take, List.length_cons, List.length_nil]; omega)) [wrap64, c1, c2, c3, e4]
    exact RetK.keep (hno fun hh => e4 ⟨hh.1.nd.lo, by have := hh.1.nd.hi; simpa [Exq.most, c1, c2, c3] using this⟩)
  simp -implicitDefEqProofs (disch := first | omega | (simp only [List.length_set, List.length_replicate, List.length_append, List.length_map, List.length_take, List.length_cons, List.length_nil]; omega)) [wrap64, c1, c2, c3, e4, hlen]
  by_cases e5 : ln = 2
  case neg =>
    simp -implicitDefEqProofs (disch := first | omega | (simp only [List.length_set, List.length_replicate, List.length_append, List.length_map, List.length_take, List.length_cons, List.length_nil]; omega)) [wrap64, c1, c2, c3, e5, hlen]
    exact RetK.keep (hno fun hh => e5 (by have := hh.1.nd.ar; rw [← hln] at this; simpa [Exq.arity, c1, c2, c3, e3, e6] using this))
  simp -implicitDefEqProofs (disch := first | omega | (simp only [List.length_set, List.length_replicate, List.length_append, List.length_map, List.length_take, List.length_cons, List.length_nil]; omega)) [wrap64, c1, c2, c3, e5, hlen]
  refine (c_ContainsFunc_walk (m := 6 - d) R1 (c1 := []) (c2 := [.pointer (some ⟨b4, 0, none⟩), .pointer (some ⟨b5, 0, none⟩)]) rfl H (by omega) (hkid (by omega))).go ?_
  rintro _ h4 ⟨n', ok, rfl, H4, g1, g2⟩
  simp -implicitDefEqProofs (disch := first | omega | (simp only [List.length_set, List.length_replicate, List.length_append, List.length_map, List.length_take, List.length_cons, List.length_nil]; omega)) [wrap64]
  exact RetK.keep (hfin ⟨by rw [← hln]; simp only [Exq.arity, c1, c2, c3]; simpa [e3, e6] using e5, e4.1, by simp only [Exq.most, c1, c2, c3]; simpa using e4.2⟩ (by omega) g1 g2 H4)
end Go.Proofs.YthgimpheeemooaaGreat
