/-
  Parts of elements, written and read where they lie; copies of lists whose elements are replaced one by one; sizes and marks of expressions and systems.
-/
import Derived.Test.YthgimpheeemooaaGreatDE
namespace Go.Proofs.YthgimpheeemooaaGreat
open Go
set_option linter.all false
set_option linter.unusedVariables false
set_option linter.unusedSimpArgs false
set_option linter.defProp false
set_option maxRecDepth 1000000

theorem setC_get {cs c : List Value} {n j : Nat} (h : n + c.length ≤ cs.length) : (setC cs n c)[j]? = if j < n then cs[j]? else if j < n + c.length then c[j - n]? else cs[j]? := by
  unfold setC
  simp only [List.getElem?_append, List.getElem?_take, List.getElem?_drop, List.length_append, List.length_take]
  rw [Nat.min_eq_left (by omega : n ≤ cs.length)]
  by_cases h1 : j < n
  · rw [if_pos (by omega), if_pos h1, if_pos h1, if_pos h1]
  · by_cases h2 : j < n + c.length
    · rw [if_pos h2, if_neg h1, if_neg h1, if_pos h2]
    · rw [if_neg h2, if_neg h1, if_neg h2]
      congr 1; omega
theorem setC_over {cs d c : List Value} {n fo : Nat} (hd : fo + d.length ≤ c.length) (hl : n + c.length ≤ cs.length) : setC (setC cs (n + fo) d) n c = setC cs n c := by
  apply List.ext_getElem?
  intro j
  rw [setC_get (by rw [setC_length (by omega)]; exact hl), setC_get hl, setC_get (by omega)]
  by_cases h1 : j < n
  · rw [if_pos h1, if_pos h1, if_pos (by omega)]
  · by_cases h2 : j < n + c.length
    · rw [if_neg h1, if_neg h1, if_pos h2, if_pos h2]
    · rw [if_neg h1, if_neg h1, if_neg h2, if_neg h2, if_neg (by omega), if_neg (by omega)]
theorem setC_slot {cs d : List Value} {n fo m : Nat} (hd : fo + d.length ≤ m) (hl : n + m ≤ cs.length) : ((setC cs (n + fo) d).drop n).take m = setC ((cs.drop n).take m) fo d := by
  apply List.ext_getElem?
  intro j
  rw [setC_get (by simp; omega)]
  simp only [List.getElem?_take, List.getElem?_drop]
  by_cases h1 : j < m
  · rw [if_pos h1, if_pos h1, setC_get (by omega)]
    by_cases h2 : j < fo
    · rw [if_pos (by omega), if_pos h2]
    · by_cases h3 : j < fo + d.length
      · rw [if_neg (by omega), if_pos (by omega), if_neg h2, if_pos h3]
        congr 1; omega
      · rw [if_neg (by omega), if_neg (by omega), if_neg h2, if_neg h3]
  · rw [if_neg h1, if_neg h1, if_neg (by omega), if_neg (by omega)]

section
variable {α : Type} [Ty α] {P : Program} {k : Env → Heap → Prop} {e : Env} {g h : Heap} {Γ : List HP} {v w : Value} {l : List α} {i : Nat} {cs : List Value}
/-- writing a part of an element that was taken away -/
theorem HS.holest (H : HS g (hole v l i (.agg cs.toArray) :: Γ) h) (ha : Ty.agg α = true) {a x : O} {n fo m : Nat} (hn : n = Ty.sz α) (hp : a.get e = some (elpo n v i fo)) (hx : x.get e = some w) (hu : w.cells.size = m) (hu1 : allOne w.cells.toList = true) (hf : fo + m ≤ n)
    (K : ∀ h', HS g (hole v l i (.agg (setC cs fo w.cells.toList).toArray) :: Γ) h' → k e h') : (A.ex none (.store m a x)).wp P k e h := by
  subst hn
  obtain ⟨g', r, rfl, d, Ho, H⟩ := H
  obtain ⟨b, off, cap, cells, el, r', rfl, hi, ⟨h1, hM⟩, h2, rfl, h4, h5, h6⟩ := Ho
  have hs := slot_le (s := Ty.sz α) hi h1
  obtain ⟨d3, d4⟩ := Dj_add.1 d
  have hb : (g'.add ((Heap.one b (.cells cells.toArray el (0, 0))).add r')) b = some (.cells cells.toArray el (0, 0)) := by
    have := Dj_one.1 d3
    simp [Heap.add, Heap.one, this, h4]
  have hw : w.cells.toList.length = m := by simpa using hu
  have hcs : cs = ((cells.drop off).drop (i * Ty.sz α)).take (Ty.sz α) := by
    simpa [valC, ha] using h5
  have hdr : (setC cells (off + i * Ty.sz α + fo) w.cells.toList).drop off = setC (cells.drop off) (i * Ty.sz α + fo) w.cells.toList := by
    rw [Nat.add_assoc, drop_setC (by rw [hw]; omega)]
  refine ⟨b, off + i * Ty.sz α + fo, w, g'.add ((Heap.one b (.cells (setC cells (off + i * Ty.sz α + fo) w.cells.toList).toArray el (0, 0))).add r'), ?_, hx, hu, ?_,
    Fgt.keep (K _ ⟨g', _, rfl, Dj_add.2 ⟨Dj_one.2 (Dj_one.1 d3), d4⟩, ⟨b, off, cap, _, el, r', rfl, hi, ⟨h1, hM⟩, ?_, rfl, h4, ?_, ?_⟩, H⟩)⟩
  · rw [hp]; simp [elpo, add_none]
  · unfold hstore
    rw [hb]
    simp only
    rw [if_pos (by refine ⟨trivial, ?_, ?_⟩; · simp [hu]; omega
                   · rw [allOne_eq]; exact hu1), add_one_set (Dj_one.1 d3) h4]
  · rw [setC_length (by rw [hw]; omega)]; exact h2
  · rw [hdr, setC_slot (by rw [hw]; exact hf) (by simp; omega), ← hcs]
    simp [valC, ha]
  · intro r1' c' y dd o
    have hlen := Ty.len (Ty.own_rep o)
    rw [hdr, setC_over (by rw [hw, hlen]; exact hf) (by rw [hlen]; simp; omega)]
    exact h6 r1' c' y dd o

/-- an element's parts, where its cells are known -/
theorem hld_parts {n : Nat} (hv : hload h (some (elp n v i)) (some n) = some (.agg cs.toArray)) : (∀ fo, faV fo (elp n v i) = some (elpo n v i fo)) ∧ (∀ a b, faV b (elpo n v i a) = some (elpo n v i (a + b))) ∧
    (∀ fo, fo < n → hload h (some (elpo n v i fo)) none = cs[fo]?) ∧ (∀ fo m, fo + m ≤ n → hload h (some (elpo n v i fo)) (some m) = some (.agg ((cs.drop fo).take m).toArray)) := by
  unfold elp at hv
  split at hv
  case h_2 => simp [undef, hload] at hv
  case h_1 p c d =>
    have hz : ∃ b off, p.add (i * n) = ⟨b, off, none⟩ := by
      generalize hq : p.add (i * n) = q at hv
      obtain ⟨b, off, sp⟩ := q
      cases sp with
      | none => exact ⟨b, off, rfl⟩
      | some s => simp [hload] at hv
    obtain ⟨b, off, hz⟩ := hz
    rw [hz] at hv
    simp only [hload, Option.map_eq_some_iff] at hv
    obtain ⟨l, h1, h2⟩ := hv
    have h2 : l = cs := by simpa using h2
    subst h2
    have h3 := hcells_get h1
    have hsub : ∀ m fo, fo + m ≤ n → hcells h b (off + fo) m = some ((l.drop fo).take m) := by
      intro m
      induction m with
      | zero => intro fo _; simp [hcells]
      | succ m ih =>
        intro fo hf
        have h4 := ih (fo + 1) (by omega)
        have h5 := h3.2 fo (l[fo]'(by rw [h3.1]; omega)) (List.getElem?_eq_getElem _)
        simp only [hcells, h5]
        rw [show off + fo + 1 = off + (fo + 1) by omega, h4]
        simp only [Option.some.injEq]
        rw [List.drop_eq_getElem_cons (by rw [h3.1]; omega : fo < l.length), List.take_succ_cons]
    refine ⟨fun fo => ?_, fun a c => ?_, fun fo hf => ?_, fun fo m hf => ?_⟩
    · simp only [elp, elpo, hz, add_none, faV]
    · simp only [elpo, hz, add_none, faV]
      simp [Nat.add_assoc]
    · have h5 := h3.2 fo (l[fo]'(by rw [h3.1]; omega)) (List.getElem?_eq_getElem _)
      simp only [elpo, hz, add_none, hload, h5]
      exact (List.getElem?_eq_getElem _).symm
    · simp only [elpo, hz, add_none, hload, hsub m fo hf]
      rfl
theorem HS.holeP (H : HS g (hole v l i (.agg cs.toArray) :: Γ) h) (ha : Ty.agg α = true) {n : Nat} (hn : n = Ty.sz α) : hload h (some (elp n v i)) (some n) = some (.agg cs.toArray) := by
  have := H.holeld
  subst hn
  simpa [szo, ha] using this
end

/-- an element of a copy: as it was copied, or replaced -/
inductive Mix (α : Type) where
  | raw (cs : List Value)
  | new (x : α)
section
variable {α : Type} [Ty α]
def Mix.rep (h : Heap) (cs : List Value) : Mix α → Prop
  | .raw c => cs = c ∧ c.length = Ty.sz α ∧ ∀ v ∈ c, v.oneCell' = true
  | .new x => Ty.rep h cs x
def Mix.own (r : Heap) (cs : List Value) : Mix α → Prop
  | .raw c => r = Heap.nil ∧ cs = c ∧ c.length = Ty.sz α ∧ ∀ v ∈ c, v.oneCell' = true
  | .new x => Ty.own r cs x
instance instTyMix : Ty (Mix α) where
  agg := Ty.agg α
  sz := Ty.sz α
  rep := Mix.rep
  own := Mix.own
  one := Ty.one
  len := by
    intro h cs x hx
    cases x with
    | raw c => obtain ⟨rfl, h1, _⟩ := hx; exact h1
    | new x => exact Ty.len (x := x) hx
  cell := by
    intro h cs x hx
    cases x with
    | raw c => obtain ⟨rfl, _, h1⟩ := hx; exact h1
    | new x => exact Ty.cell (x := x) hx
  mono := by
    intro h h' cs x hl hx
    cases x with
    | raw c => exact hx
    | new x => exact Ty.mono (x := x) hl hx
  own_rep := by
    intro r cs x hx
    cases x with
    | raw c => exact hx.2
    | new x => exact Ty.own_rep (x := x) hx
theorem ownL_new : ∀ {l : List α} {cs : List Value} {r : Heap}, ownL (l.map Mix.new) cs r → ownL l cs r
  | [], _, _, H => H
  | x :: l, cs, r, ⟨r1, r2, h1, h2, h3, h4⟩ => ⟨r1, r2, h1, h2, h3, ownL_new h4⟩
theorem HS.mixed {g h : Heap} {Γ : List HP} {v : Value} {l : List α} (H : HS g (ow v (l.map Mix.new) :: Γ) h) : HS g (ow v l :: Γ) h := by
  refine H.imp fun r O => ?_
  have O : Own r v (l.map (Mix.new (α := α))) := O
  rcases Own_list.1 O with ⟨p, rfl, h1, h2, h3⟩ | ⟨b, off, cap, cells, el, r', rfl, h1, h2, h3, h4, h5⟩
  · exact Own_list.2 (.inl ⟨p, rfl, by simpa using h1, h2, h3⟩)
  · exact Own_list.2 (.inr ⟨b, off, cap, cells, el, r', by simp, by simpa using h1, h2, h3, h4, ownL_new h5⟩)
theorem HS.newO {g h : Heap} {Γ : List HP} {v : Value} {x : α} (H : HS g (ow v x :: Γ) h) : HS g (ow v (Mix.new x) :: Γ) h := H.imp fun _ O => O
theorem HS.unraw {g h : Heap} {Γ : List HP} {v : Value} {c : List Value} (H : HS g (ow v (Mix.raw (α := α) c) :: Γ) h) : v = valC (Ty.agg α) c ∧ HS g Γ h := by
  obtain ⟨g', r, rfl, d, ⟨cs, rfl, rfl, rfl, _⟩, H⟩ := H
  exact ⟨rfl, by simpa using H⟩

/-- a copy's elements, as they were copied -/
structure Raws (h : Heap) (l : List α) (M : List (Mix α)) : Prop where
  len : M.length = l.length
  at' : ∀ (i : Nat) (hi : i < l.length), ∃ c, M[i]? = some (.raw c) ∧ Ty.rep h c l[i]

theorem Rep.srcR {h : Heap} {v : Value} {l : List α} (hr : Rep h v l) : ∃ (M : List (Mix α)) (cs : List Value), Raws h l M ∧ srcV h (Ty.sz α) (some v) = some (l.length, cs) ∧ cs.length = l.length * Ty.sz α ∧ ownL M cs Heap.nil := by
  obtain ⟨p, cap, rfl, h1, h2, h3⟩ := Rep_list.1 hr
  cases hl : l with
  | nil => subst hl; exact ⟨[], [], ⟨rfl, fun i hi => absurd hi (Nat.not_lt_zero i)⟩, rfl, by simp, rfl⟩
  | cons y l' =>
    rw [← hl]
    obtain ⟨b, off, vs, rfl, _⟩ := h3 0 (by rw [hl]; simp)
    have key : ∀ n, n ≤ l.length → ∃ (M : List (Mix α)) (cs : List Value), M.length = n ∧ (∀ (i : Nat) (hi : i < l.length), i < n → ∃ c, M[i]? = some (.raw c) ∧ Ty.rep h c l[i]) ∧ hcells h b off (n * Ty.sz α) = some cs ∧ cs.length = n * Ty.sz α ∧ ownL M cs Heap.nil := by
      intro n
      induction n with
      | zero => intro _; exact ⟨[], [], rfl, fun i _ hi => absurd hi (Nat.not_lt_zero i), by simp [hcells], by simp, rfl⟩
      | succ n ih =>
        intro hn
        obtain ⟨M, cs, g1, g2, g3, g4, g5⟩ := ih (by omega)
        obtain ⟨b', off', vs, e1, e2, e3⟩ := h3 n (by omega)
        simp only [Option.some.injEq, Addr.mk.injEq] at e1
        obtain ⟨rfl, rfl, _⟩ := e1
        have hlen := Ty.len e3
        refine ⟨M ++ [.raw vs], cs ++ vs, by simp [g1], ?_, ?_, ?_, ?_⟩
        · intro i hi hin
          by_cases hh : i < n
          · obtain ⟨c, f1, f2⟩ := g2 i hi hh
            exact ⟨c, by rw [List.getElem?_append_left (by omega)]; exact f1, f2⟩
          · obtain rfl : i = n := by omega
            exact ⟨vs, by rw [← g1, List.getElem?_append_right (Nat.le_refl _)]; simp, e3⟩
        · rw [show (n + 1) * Ty.sz α = n * Ty.sz α + Ty.sz α by rw [Nat.add_mul]; omega]
          exact hcells_add g3 e2
        · rw [List.length_append, g4, hlen, Nat.add_mul]; omega
        · have := ownL_append (l2 := [Mix.raw vs]) (cs2 := vs) (r2 := Heap.nil) g5 (by rw [g4, g1]; rfl) ⟨Heap.nil, Heap.nil, by simp, by simp, ⟨rfl, ?_, hlen, Ty.cell e3⟩, rfl⟩ (by simp)
          · simpa using this
          · show List.take (Ty.sz α) vs = vs
            rw [List.take_of_length_le (by omega)]
    obtain ⟨M, cs, g1, g2, g3, g4, g5⟩ := key l.length (Nat.le_refl _)
    exact ⟨M, cs, ⟨g1, fun i hi => g2 i hi hi⟩, srcV_slice g3, g4, g5⟩

/-- a copy of a list that is only read: its elements' cells -/
theorem HS.appPLr {P : Program} {k : Env → Heap → Prop} {e : Env} {g h : Heap} {Γ : List HP} {u : Value} {l2 : List α} (H : HS g Γ h) {bytes esz : Nat} {zero : List Value} {j : Nat} {x : O} {dst : Nat} {c0 : Array Value} (hp : eget e j = some (.agg c0)) (hx : x.get e = some u) (hr : Rep h u l2) (hsz : esz = Ty.sz α) (hz : zero.length = Ty.sz α) (hb : l2.length * bytes ≤ 140737488355328)
    (K : ∀ v' h' (M : List (Mix α)), Raws h l2 M → HS g (ow v' M :: Γ) h' → k (eset e dst (some v')) h') : (A.ex (some dst) (.app bytes esz zero (.p 0 j) (.o x))).wp P k e h := by
  subst hsz
  obtain ⟨M, cs, hM, h1, h2, h3⟩ := hr.srcR
  have hl := hM.len
  refine a_appP (α := Mix α) (rs := Heap.nil) (l2 := M) hp ?_ (by rw [hl]; exact h2) h3 Dj_nil (by simp) hz (by rw [hl]; exact hb) (by have := hr.lt; omega) fun v' r' d' O' => K _ _ M hM ⟨h, r', rfl, d', O', H⟩
  simp only [AO.src, hx, hl]
  exact h1
end

/-- how far the replacing has come -/
structure Mixed {α : Type} [Ty α] (h : Heap) (l : List α) (f : α → α) (M : List (Mix α)) (i : Nat) : Prop where
  len : M.length = l.length
  done : M.take i = ((l.map f).take i).map Mix.new
  rest : ∀ (j : Nat) (hj : j < l.length), i ≤ j → ∃ c, M[j]? = some (.raw c) ∧ Ty.rep h c l[j]
section
variable {α : Type} [Ty α] {h : Heap} {l : List α} {f : α → α} {M : List (Mix α)} {i : Nat}
theorem Mixed.zero (R : Raws h l M) : Mixed h l f M 0 := ⟨R.len, rfl, fun j hj _ => R.at' j hj⟩
theorem Mixed.le {h' : Heap} (H : Mixed h l f M i) (hl : h.le h') : Mixed h' l f M i := ⟨H.len, H.done, fun j hj hij => by
  obtain ⟨c, h1, h2⟩ := H.rest j hj hij
  exact ⟨c, h1, Ty.mono hl h2⟩⟩
theorem Mixed.get (H : Mixed h l f M i) (hi : i < l.length) : ∃ c, M[i]'(by rw [H.len]; exact hi) = .raw c ∧ Ty.rep h c l[i] := by
  obtain ⟨c, h1, h2⟩ := H.rest i hi (Nat.le_refl i)
  refine ⟨c, ?_, h2⟩
  rw [List.getElem?_eq_getElem (by rw [H.len]; exact hi)] at h1
  exact Option.some.inj h1
theorem Mixed.step (H : Mixed h l f M i) (hi : i < l.length) : Mixed h l f (M.set i (.new (f l[i]))) (i + 1) := by
  refine ⟨by simp [H.len], ?_, fun j hj hij => ?_⟩
  · have h1 : M.take i = (l.map fun x => Mix.new (f x)).take i := by rw [H.done, List.map_take, List.map_map]; rfl
    have := take_set_succ (x := l.map fun x => Mix.new (f x)) h1 (by simpa using hi) (by simp [H.len])
    rw [List.getElem_map] at this
    rw [this, List.map_take, List.map_map]
    rfl
  · rw [List.getElem?_set_ne (by omega)]
    exact H.rest j hj (by omega)
theorem Mixed.all (H : Mixed h l f M i) (hi : l.length ≤ i) : M = (l.map f).map Mix.new := by
  have := H.done
  rw [List.take_of_length_le (by rw [H.len]; exact hi), List.take_of_length_le (by simpa using hi)] at this
  exact this
end

/- SIZES AND MARKS -/
mutual
def Exq.size : Exq → Nat
  | .mk _ _ l => Exq.sizes l
def Exq.sizes : List Exq → Nat
  | [] => 0
  | x :: l => 1 + x.size + Exq.sizes l
end
instance instSzExq : Sz Exq := ⟨Exq.size⟩
theorem Exq.sizes_eq : ∀ l, Exq.sizes l = Sz.sz l
  | [] => by simp [Exq.sizes, sz_list, szL]
  | x :: l => by
    have := Exq.sizes_eq l
    rw [sz_list] at this ⊢
    simp only [Exq.sizes, szL, List.length_cons, this]
    show 1 + Sz.sz x + _ = _
    omega
theorem sz_Exq (x : Exq) : Sz.sz x = Sz.sz x.kids := by
  cases x with
  | mk k v l => exact Exq.sizes_eq l
instance instSzEd : Sz Ed := ⟨fun e => Sz.sz e.guard + Sz.sz e.value⟩
instance instSzPr : Sz Pr := ⟨fun p => Sz.sz p.edges⟩
instance instSzSy : Sz Sy := ⟨fun s => Sz.sz s.init + Sz.sz s.procs⟩

mutual
def Exq.cnt : Exq → Nat
  | .mk _ _ l => 2 + Exq.cnts l
def Exq.cnts : List Exq → Nat
  | [] => 0
  | x :: l => x.cnt + Exq.cnts l
end
mutual
def Exq.wr : Int → Exq → Exq
  | k, .mk _ _ l => .mk k (k + 1) (Exq.wrs (k + 2) l)
def Exq.wrs : Int → List Exq → List Exq
  | _, [] => []
  | k, x :: l => x.wr k :: Exq.wrs (k + x.cnt) l
end
mutual
theorem Exq.cnt_wr : ∀ (k : Int) (x : Exq), (Exq.wr k x).cnt = x.cnt
  | k, .mk _ _ l => by simp only [Exq.wr, Exq.cnt, Exq.cnts_wrs (k + 2) l]
theorem Exq.cnts_wrs : ∀ (k : Int) (l : List Exq), Exq.cnts (Exq.wrs k l) = Exq.cnts l
  | _, [] => rfl
  | k, x :: l => by simp only [Exq.wrs, Exq.cnts, Exq.cnt_wr k x, Exq.cnts_wrs (k + x.cnt) l]
end
mutual
theorem Exq.wr_wr : ∀ (k j : Int) (x : Exq), Exq.wr k (Exq.wr j x) = Exq.wr k x
  | k, j, .mk _ _ l => by simp only [Exq.wr, Exq.wrs_wrs (k + 2) (j + 2) l]
theorem Exq.wrs_wrs : ∀ (k j : Int) (l : List Exq), Exq.wrs k (Exq.wrs j l) = Exq.wrs k l
  | _, _, [] => rfl
  | k, j, x :: l => by simp only [Exq.wrs, Exq.cnt_wr j x, Exq.wr_wr k j x, Exq.wrs_wrs (k + x.cnt) (j + x.cnt) l]
end
instance instMkExq : Mk Exq := ⟨Exq.cnt, Exq.wr, Exq.cnt_wr, Exq.wr_wr⟩
theorem Exq.cnts_eq : ∀ l, Exq.cnts l = Mk.cnt l
  | [] => rfl
  | x :: l => by
    have := Exq.cnts_eq l
    simp only [Exq.cnts, this]
    rfl
theorem Exq.wrs_eq : ∀ k l, Exq.wrs k l = Mk.wr k l
  | _, [] => rfl
  | k, x :: l => by
    have := Exq.wrs_eq (k + x.cnt) l
    simp only [Exq.wrs, this]
    rfl
theorem cnt_Exq (x : Exq) : Mk.cnt x = 2 + Mk.cnt x.kids := by
  cases x with
  | mk k v l => show 2 + Exq.cnts l = _; rw [Exq.cnts_eq]; rfl
theorem wr_Exq (k : Int) (x : Exq) : Mk.wr k x = Exq.mk k (k + 1) (Mk.wr (k + 2) x.kids) := by
  cases x with
  | mk kd v l => show Exq.mk k (k + 1) (Exq.wrs (k + 2) l) = _; rw [Exq.wrs_eq]; rfl
instance instMkEd : Mk Ed := ⟨fun e => Mk.cnt e.frm + Mk.cnt e.to + Mk.cnt e.guard + Mk.cnt e.var + Mk.cnt e.value + Mk.cnt e.sync,
  fun k e => ⟨Mk.wr k e.frm, Mk.wr (k + Mk.cnt e.frm) e.to, Mk.wr (k + Mk.cnt e.frm + Mk.cnt e.to) e.guard, Mk.wr (k + Mk.cnt e.frm + Mk.cnt e.to + Mk.cnt e.guard) e.var,
    Mk.wr (k + Mk.cnt e.frm + Mk.cnt e.to + Mk.cnt e.guard + Mk.cnt e.var) e.value, Mk.wr (k + Mk.cnt e.frm + Mk.cnt e.to + Mk.cnt e.guard + Mk.cnt e.var + Mk.cnt e.value) e.sync⟩,
  fun k a => by simp [Mk.cnt_wr], fun k j a => by simp [Mk.cnt_wr, Mk.wr_wr]⟩
instance instMkPr : Mk Pr := ⟨fun p => Mk.cnt p.locs + Mk.cnt p.edges, fun k p => ⟨Mk.wr k p.locs, Mk.wr (k + Mk.cnt p.locs) p.edges⟩, fun k a => by simp [Mk.cnt_wr], fun k j a => by simp [Mk.cnt_wr, Mk.wr_wr]⟩
instance instMkSy : Mk Sy := ⟨fun p => Mk.cnt p.init + Mk.cnt p.procs, fun k p => ⟨Mk.wr k p.init, Mk.wr (k + Mk.cnt p.init) p.procs⟩, fun k a => by simp [Mk.cnt_wr], fun k j a => by simp [Mk.cnt_wr, Mk.wr_wr]⟩
theorem cnt_Ed (e : Ed) : Mk.cnt e = 8 + Mk.cnt e.guard.kids + Mk.cnt e.value.kids := by
  show 1 + 1 + Mk.cnt e.guard + 1 + Mk.cnt e.value + 1 = _
  rw [cnt_Exq, cnt_Exq]; omega
theorem cnt_Pr (p : Pr) : Mk.cnt p = 1 + Mk.cnt p.edges := rfl
theorem cnt_Sy (p : Sy) : Mk.cnt p = Mk.cnt p.init + Mk.cnt p.procs := rfl

end Go.Proofs.YthgimpheeemooaaGreat
