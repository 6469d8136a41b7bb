/-
  Maps as pieces of the memory; pieces that are only read become part of what is read.
-/
import Derived.Test.YthgimpheeemooaaGreatGD
namespace Go.Proofs.YthgimpheeemooaaGreat
open Go
set_option linter.all false
set_option linter.unusedVariables false
set_option linter.unusedSimpArgs false
set_option linter.defProp false
set_option maxRecDepth 1000000

section
variable {g h : Heap} {Γ : List HP}
theorem HS.bk5 {a b c d f f' : HP} (H : HS g (f' :: a :: b :: c :: d :: f :: Γ) h) : HS g (a :: b :: c :: d :: f :: f' :: Γ) h := H.sw5.sw5.sw5.sw5.sw5
theorem HS.bk6 {a b c d f f' f2 : HP} (H : HS g (f2 :: a :: b :: c :: d :: f :: f' :: Γ) h) : HS g (a :: b :: c :: d :: f :: f' :: f2 :: Γ) h := H.sw6.sw6.sw6.sw6.sw6.sw6
theorem HS.sw7 {a b c d f f' f2 f3 : HP} (H : HS g (a :: b :: c :: d :: f :: f' :: f2 :: f3 :: Γ) h) : HS g (f3 :: a :: b :: c :: d :: f :: f' :: f2 :: Γ) h := (H.under fun _ => HS.sw6).sw1
theorem HS.sw8 {a b c d f f' f2 f3 f4 : HP} (H : HS g (a :: b :: c :: d :: f :: f' :: f2 :: f3 :: f4 :: Γ) h) : HS g (f4 :: a :: b :: c :: d :: f :: f' :: f2 :: f3 :: Γ) h := (H.under fun _ => HS.sw7).sw1
theorem HS.sw9 {a b c d f f' f2 f3 f4 f5 : HP} (H : HS g (a :: b :: c :: d :: f :: f' :: f2 :: f3 :: f4 :: f5 :: Γ) h) : HS g (f5 :: a :: b :: c :: d :: f :: f' :: f2 :: f3 :: f4 :: Γ) h := (H.under fun _ => HS.sw8).sw1
theorem HS.sw10 {a b c d f f' f2 f3 f4 f5 f6 : HP} (H : HS g (a :: b :: c :: d :: f :: f' :: f2 :: f3 :: f4 :: f5 :: f6 :: Γ) h) : HS g (f6 :: a :: b :: c :: d :: f :: f' :: f2 :: f3 :: f4 :: f5 :: Γ) h := (H.under fun _ => HS.sw9).sw1
theorem HS.sw11 {a b c d f f' f2 f3 f4 f5 f6 f7 : HP} (H : HS g (a :: b :: c :: d :: f :: f' :: f2 :: f3 :: f4 :: f5 :: f6 :: f7 :: Γ) h) : HS g (f7 :: a :: b :: c :: d :: f :: f' :: f2 :: f3 :: f4 :: f5 :: f6 :: Γ) h := (H.under fun _ => HS.sw10).sw1

/-- the later pieces become part of what is only read -/
theorem HS.rebase : ∀ {Δ Γ : List HP} {h : Heap}, HS g (Δ ++ Γ) h → ∃ g1, HS g Γ g1 ∧ HS g1 Δ h
  | [], _, h, H => ⟨h, H, HS.init⟩
  | _ :: _, _, _, ⟨g', r, e, d, hp, H⟩ => by
    obtain ⟨g1, h1, h2⟩ := H.rebase
    exact ⟨g1, h1, g', r, e, d, hp, h2⟩
end

/- MAPS -/
/-- a map of its own: its entries as pairs, in the order in which they came -/
def mpo {κ ν : Type} (kf : κ → Value) (vf : ν → Value) (b : Nat) (l : List (κ × ν)) : HP := fun r => ∃ es clock, r = Heap.one b (.map es clock) ∧ es.toList.map (fun e => (e.key, e.val)) = l.map fun p => (kf p.1, vf p.2)
/-- what a key leads to -/
def mlk {κ ν : Type} [DecidableEq κ] (l : List (κ × ν)) (a : κ) : Option ν := (l.find? fun p => decide (p.1 = a)).map (·.2)
theorem mlk_nil {κ ν : Type} [DecidableEq κ] {a : κ} : mlk ([] : List (κ × ν)) a = none := rfl
theorem mlk_snoc {κ ν : Type} [DecidableEq κ] {l : List (κ × ν)} {a b : κ} {y : ν} (hn : mlk l a = none) : mlk (l ++ [(a, y)]) b = if a = b then some y else mlk l b := by
  unfold mlk at hn ⊢
  rw [List.find?_append]
  by_cases h : a = b
  · subst h
    simp at hn
    rw [if_pos rfl, List.find?_eq_none.2 (by simpa using hn)]
    simp
  · rw [if_neg h]
    simp [h]
theorem mlk_mem {κ ν : Type} [DecidableEq κ] {l : List (κ × ν)} {a : κ} {y : ν} (h : mlk l a = some y) : (a, y) ∈ l := by
  unfold mlk at h
  rw [Option.map_eq_some_iff] at h
  obtain ⟨p, h1, h2⟩ := h
  have h3 := List.mem_of_find?_eq_some h1
  have h4 := List.find?_some h1
  simp at h4
  rw [← h4, ← h2]; exact h3
theorem mfind_spec {κ ν : Type} [DecidableEq κ] {kf : κ → Value} {vf : ν → Value} {kt : KT} (hkt : ∀ a b, keyEq kt (kf a) (kf b) = some (decide (a = b))) {a : κ} : ∀ {es : List MapEntry} {l : List (κ × ν)} {i0 : Nat}, es.map (fun e => (e.key, e.val)) = l.map (fun p => (kf p.1, vf p.2)) →
    ∃ i, mfind kt (kf a) es i0 = some ((mlk l a).map fun y => (i, vf y))
  | [], [], _, _ => ⟨0, rfl⟩
  | [], _ :: _, _, h => by simp at h
  | _ :: _, [], _, h => by simp at h
  | x :: es, p :: l, i0, h => by
    simp only [List.map_cons, List.cons.injEq, Prod.mk.injEq] at h
    obtain ⟨⟨h1, h2⟩, h3⟩ := h
    obtain ⟨i, hi⟩ := mfind_spec hkt (a := a) (i0 := i0 + 1) h3
    unfold mfind
    rw [h1, hkt, h2]
    by_cases he : a = p.1
    · subst he
      refine ⟨i0, ?_⟩
      simp [mlk]
    · refine ⟨i, ?_⟩
      simp only [he, decide_false]
      rw [hi]
      simp [mlk, List.find?_cons, Ne.symm he, show ¬ p.1 = a from fun e => he e.symm]
section
variable {P : Program} {k : Env → Heap → Prop} {e : Env} {g h : Heap} {Γ : List HP} {κ ν : Type} [DecidableEq κ] {kf : κ → Value} {vf : ν → Value} {b : Nat} {l : List (κ × ν)} {kt : KT}
theorem HS.mkm (H : HS g Γ h) (kf : κ → Value) (vf : ν → Value) {dst : Nat} (K : ∀ b h', HS g (mpo kf vf b [] :: Γ) h' → k (eset e dst (some (.map (some b)))) h') : (A.ex (some dst) .mkm).wp P k e h := by
  intro b hb
  refine Fgt.keep ?_
  rw [set_new hb]
  exact K _ _ ⟨h, _, rfl, Dj_one.2 hb, ⟨_, _, rfl, rfl⟩, H⟩
theorem HS.mget (H : HS g (mpo kf vf b l :: Γ) h) {zero : Value} {ok : Bool} {m x : O} {a : κ} {dst : Nat} (hm : m.get e = some (.map (some b))) (hx : x.get e = some (kf a)) (hkt : ∀ a b, keyEq kt (kf a) (kf b) = some (decide (a = b)))
    (K : k (eset e dst (some (if ok then .tuple #[((mlk l a).map vf).getD zero, .bool (mlk l a).isSome] else ((mlk l a).map vf).getD zero))) h) : (A.ex (some dst) (.mget kt zero ok m x)).wp P k e h := by
  obtain ⟨g', r, rfl, d, ⟨es, clock, rfl, hes⟩, H⟩ := H
  obtain ⟨i, hi⟩ := mfind_spec hkt (a := a) (i0 := 0) hes
  refine ⟨b, es, clock, kf a, _, hm, le_add' d _ _ (by simp [Heap.one]), hx, by rw [hkt]; rfl, hi, Fgt.keep ?_⟩
  cases hl : mlk l a with
  | none => rw [hl] at K; cases ok <;> exact K
  | some y => rw [hl] at K; cases ok <;> exact K
theorem HS.mput (H : HS g (mpo kf vf b l :: Γ) h) {m x y : O} {a : κ} {v : ν} (hm : m.get e = some (.map (some b))) (hx : x.get e = some (kf a)) (hy : y.get e = some (vf v)) (hkt : ∀ a b, keyEq kt (kf a) (kf b) = some (decide (a = b))) (hn : mlk l a = none)
    (K : ∀ h', HS g (mpo kf vf b (l ++ [(a, v)]) :: Γ) h' → k e h') : (A.ex none (.mput kt m x y)).wp P k e h := by
  obtain ⟨g', r, rfl, d, ⟨es, clock, rfl, hes⟩, H⟩ := H
  obtain ⟨i, hi⟩ := mfind_spec hkt (a := a) (i0 := 0) hes
  rw [hn] at hi
  refine ⟨b, es, clock, kf a, vf v, none, hm, le_add' d _ _ (by simp [Heap.one]), hx, hy, by rw [hkt]; rfl, hi, Fgt.keep ?_⟩
  refine K _ ⟨g', Heap.one b (.map (es.push { key := kf a, val := vf v, born := clock }) (clock + 1)), ?_, ?_, ⟨_, _, rfl, ?_⟩, H⟩
  · have hb := Dj_one.1 d
    rw [← set_new hb]
    rw [← set_new hb]
    funext z
    simp only [Heap.set]
    split <;> rfl
  · exact Dj_one.2 (Dj_one.1 d)
  · simp [hes]
theorem HS.mlen (H : HS g (mpo kf vf b l :: Γ) h) {m : O} {dst : Nat} (hm : m.get e = some (.map (some b))) (K : k (eset e dst (some (.int .i64 l.length))) h) : (A.ex (some dst) (.mlen m)).wp P k e h := by
  obtain ⟨g', r, rfl, d, ⟨es, clock, rfl, hes⟩, H⟩ := H
  have hl : es.size = l.length := by
    have := congrArg List.length hes
    simpa using this
  refine ⟨b, es, clock, hm, le_add' d _ _ (by simp [Heap.one]), Fgt.keep ?_⟩
  rw [hl]
  exact K
end
theorem keyEq_int : ∀ a b : Int, keyEq (.one .i) (.int .i64 a) (.int .i64 b) = some (decide (a = b)) := by
  intro a b
  simp [keyEq, eqB]
end Go.Proofs.YthgimpheeemooaaGreat
