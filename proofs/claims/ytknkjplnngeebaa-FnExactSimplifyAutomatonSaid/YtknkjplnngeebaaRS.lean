/-
  The library's sort of numbers, and the fall of equal neighbours, as contracts over a partial memory.
-/
import Derived.Test.YtknkjplnngeebaaSH
import Derived.Test.YtknkjplnngeebaaI1
import Derived.Test.YtknkjplnngeebaaGE
import Derived.Lib.SlicesCompact
import Derived.Sort.Grow
import Derived.Sort.Row
namespace Go.Proofs.Ytknkjplnngeebaa
open Go
set_option linter.all false
set_option linter.unusedVariables false
set_option linter.unusedSimpArgs false
set_option linter.defProp false
set_option maxRecDepth 1000000

theorem compactUpTo_succ {d : Array Int} {m : Nat} : Lib.compactUpTo d (m + 1) = Lib.compactUpTo d m ++ if Lib.keeps d m then [d[m]!] else [] := by
  simp only [Lib.compactUpTo, List.range_succ, List.filter_append, List.map_append, List.filter_cons, List.filter_nil]
  congr 1
  split <;> simp
theorem compact_spec {d : Array Int} (hs : ∀ i j, i ≤ j → j < d.size → d[i]! ≤ d[j]!) : ∀ m, m ≤ d.size → (Lib.compactUpTo d m).Pairwise (· < ·) ∧ (∀ x, x ∈ Lib.compactUpTo d m ↔ ∃ j, j < m ∧ x = d[j]!)
  | 0, _ => by simp [Lib.compactUpTo]
  | m + 1, h => by
    obtain ⟨h1, h2⟩ := compact_spec hs m (by omega)
    rw [compactUpTo_succ]
    by_cases hk : Lib.keeps d m = true
    · rw [if_pos hk]
      have hlt : ∀ x ∈ Lib.compactUpTo d m, x < d[m]! := by
        intro x hx
        obtain ⟨j, hj, rfl⟩ := (h2 x).1 hx
        have a1 := hs j (m - 1) (by omega) (by omega)
        have a2 := hs (m - 1) m (by omega) (by omega)
        simp only [Lib.keeps, decide_eq_true_eq] at hk
        have a3 : ¬ (m = 0) := by omega
        have a4 : ¬ d[m]! = d[m - 1]! := by
          rcases hk with hk | hk
          · exact absurd hk a3
          · exact hk
        omega
      refine ⟨List.pairwise_append.2 ⟨h1, List.pairwise_singleton _ _, fun x hx y hy => ?_⟩, fun x => ?_⟩
      · obtain rfl : y = d[m]! := by simpa using hy
        exact hlt x hx
      · rw [List.mem_append, h2]
        constructor
        · rintro (⟨j, h3, h4⟩ | h3)
          · exact ⟨j, by omega, h4⟩
          · exact ⟨m, by omega, by simpa using h3⟩
        · rintro ⟨j, h3, h4⟩
          by_cases e : j = m
          · subst e; exact .inr (by simpa using h4)
          · exact .inl ⟨j, by omega, h4⟩
    · rw [if_neg hk, List.append_nil]
      refine ⟨h1, fun x => ?_⟩
      rw [h2]
      have hk0 : Lib.keeps d m = false := by simpa using hk
      have hm : 0 < m := by
        cases m with
        | zero => simp [Lib.keeps] at hk0
        | succ m => omega
      have he : d[m]! = d[m - 1]! := by
        simp [Lib.keeps] at hk0
        exact hk0.2
      constructor
      · rintro ⟨j, h3, h4⟩; exact ⟨j, by omega, h4⟩
      · rintro ⟨j, h3, h4⟩
        by_cases e : j = m
        · subst e; exact ⟨j - 1, by omega, by rw [h4, he]⟩
        · exact ⟨j, by omega, h4⟩
theorem sort_compact (l : List Int) : (Lib.compact (l.mergeSort fun x y => decide (x ≤ y))).Pairwise (· < ·) ∧ ∀ x, x ∈ Lib.compact (l.mergeSort fun x y => decide (x ≤ y)) ↔ x ∈ l := by
  have hp : (l.mergeSort fun x y => decide (x ≤ y)).Pairwise (· ≤ ·) := by
    have := List.pairwise_mergeSort (le := fun x y : Int => decide (x ≤ y)) (by intro a b c; simp; omega) (by intro a b; simp; omega) l
    exact this.imp (by simp)
  have hm : ∀ x, x ∈ (l.mergeSort fun x y => decide (x ≤ y)) ↔ x ∈ l := fun x => List.mem_mergeSort
  generalize (l.mergeSort fun x y => decide (x ≤ y)) = s at hp hm
  have hsz : s.toArray.size = s.length := by simp
  have hg : ∀ i, i < s.length → s.toArray[i]! = s[i]! := fun i hi => by simp
  obtain ⟨h1, h2⟩ := compact_spec (d := s.toArray) (fun i j hij hj => by
    rw [hsz] at hj
    rw [hg i (by omega), hg j hj, getElem!_pos s i (by omega), getElem!_pos s j hj]
    rcases Nat.lt_or_ge i j with h | h
    · exact List.pairwise_iff_getElem.1 hp i j (by omega) hj h
    · have : i = j := by omega
      subst this; exact Int.le_refl _) s.length (by simp)
  refine ⟨h1, fun x => ?_⟩
  rw [← hm x]
  unfold Lib.compact
  rw [h2]
  constructor
  · rintro ⟨j, hj, rfl⟩
    rw [hg j hj, getElem!_pos s j hj]
    exact List.getElem_mem hj
  · intro hx
    obtain ⟨j, hj, rfl⟩ := List.mem_iff_getElem.1 hx
    exact ⟨j, hj, by rw [hg j hj, getElem!_pos s j hj]⟩

/-- a call of a function with a body, by what the model's walk says of it -/
theorem calle_of {P : Program} {f : FuncId} {fn : Func} {args : List Value} {h : Heap} {Q : Value → Heap → Prop} (hf : P.funcs[f]? = some fn) (hname : (fn.name == "runtime.NumGoroutine") = false) (hb : fn.body.isSome = true)
    (hc : ∀ w, h.sub w → Calls P f args.toArray w fun e w' => ∃ v h', e = .returned v ∧ Q v h' ∧ h'.sub w' ∧ Frm h w h' w') : CallE P f args h Q := by
  intro w hw
  obtain ⟨bd, hbd⟩ := Option.isSome_iff_exists.1 hb
  have hname' : ¬ fn.name = "runtime.NumGoroutine" := by simpa using hname
  have hcall : (callFunc f args.toArray).run P w = .ok (.enter f args.toArray) w := by
    simp [callFunc, hf, hname', hbd]
  rw [hcall]
  exact hc w hw

theorem flatI : ∀ {l : List Int} {cs : List Value} {r : Heap}, ownL l cs r → r = Heap.nil ∧ cs.take l.length = l.map (Value.int .i64) ∧ ∀ x ∈ l, Flat.ok x
  | [], cs, r, h => ⟨h, by simp, by simp⟩
  | x :: l, cs, r, ⟨r1, r2, e, _, h1, h2⟩ => by
    have h1 : r1 = Heap.nil ∧ cs.take 1 = [.int .i64 x] ∧ _ := h1
    obtain ⟨e1, h3, h4⟩ := h1
    obtain ⟨e2, h5, h6⟩ := flatI h2
    have h5 : (cs.drop 1).take l.length = l.map (Value.int .i64) := h5
    refine ⟨by rw [e, e1, e2]; funext b; rfl, ?_, ?_⟩
    · cases cs with
      | nil => simp at h3
      | cons c cs =>
        simp at h3 h5
        simp [h3, h5]
    · intro y hy
      rcases List.mem_cons.1 hy with rfl | hy
      · exact h4
      · exact h6 y hy
theorem encI (l : List Int) : encL l = l.map (Value.int .i64) := by
  induction l with
  | nil => rfl
  | cons x l ih => rw [encL_cons, ih]; rfl

open Go.Sort in
/-- where a row of a slice's own is written over -/
theorem row_put {g g' : Heap} {Γ : List HP} {b off cap : Nat} {cells : List Value} {el : TypeId} {l d : List Int} {m n : Nat} {os : Array Obj} {w : World} (d1 : g' b = none) (H : HS g Γ g') (h1 : l.length ≤ cap ∧ l.length < 4611686018427387904) (h2 : off + cap ≤ cells.length)
    (hw : (g'.add (Heap.one b (.cells cells.toArray el (0, 0)))).sub w) (hd : d.length = l.length) (hm : m ≤ d.length) (hok : ∀ x ∈ d.take m, Flat.ok x) :
    ∃ h', HS g (ow (.slice (some ⟨b, off, none⟩) m cap) (d.take m) :: Γ) h' ∧ h'.sub (grow (putRow (Value.int .i64) (Sort.ahead w n) b off d.toArray) os) ∧ Frm (g'.add (Heap.one b (.cells cells.toArray el (0, 0)))) w h' (grow (putRow (Value.int .i64) (Sort.ahead w n) b off d.toArray) os) := by
  have hb : w.heap[b]? = some (.cells cells.toArray el (0, 0)) := hw b _ (by simp [Heap.add, Heap.one, d1])
  have hbs : b < w.heap.size := (Array.getElem?_eq_some_iff.1 hb).1
  have hold : ∀ x, x < w.heap.size → (grow (putRow (Value.int .i64) (Sort.ahead w n) b off d.toArray) os).heap[x]? = if x = b then some (.cells (putCells (Value.int .i64) off d.toArray cells.toArray) el (0, 0)) else w.heap[x]? := by
    intro x hx
    rw [heap_grow_old _ _ (by simpa [putRow, mapBlock, Sort.ahead] using hx)]
    simp only [putRow, mapBlock, Sort.ahead, Array.getElem?_modify]
    by_cases e : b = x
    · subst e; simp [hb, onCells]
    · simp [e, Ne.symm e]
  have hpt : (putCells (Value.int .i64) off d.toArray cells.toArray).toList.length = cells.length := by simp [putCells]
  refine ⟨g'.add (Heap.one b (.cells (putCells (Value.int .i64) off d.toArray cells.toArray).toList.toArray el (0, 0))), ⟨g', _, rfl, Dj_one.2 d1, ?_, H⟩, ?_, ?_⟩
  · have hlm : (d.take m).length = m := by simp; omega
    refine Own_list.2 (.inr ⟨b, off, cap, _, el, Heap.nil, by rw [hlm], ⟨by omega, by omega⟩, by rw [hpt]; show off + cap * 1 ≤ _; omega, by simp, rfl, ?_⟩)
    refine ownL_congr (ownL_enc hok) ?_
    rw [encI, hlm]
    show List.take (m * 1) _ = List.take (m * 1) _
    rw [List.take_of_length_le (l := List.map (Value.int .i64) (d.take m)) (by simp; omega)]
    apply List.ext_getElem?
    intro j
    by_cases hj : j < m
    · have hjd : j < d.length := by omega
      have hjc : off + j < cells.length := by omega
      have key : (putCells (Value.int .i64) off d.toArray cells.toArray).toList[off + j]? = some (.int .i64 d[j]) := by
        rw [Array.getElem?_toList, putCells, Array.getElem?_mapIdx]
        simp [hjc, hjd]
      rw [Nat.mul_one, List.getElem?_take_of_lt hj, List.getElem?_drop, key, List.getElem?_map, List.getElem?_take_of_lt hj, List.getElem?_eq_getElem hjd]
      rfl
    · have e1 : (List.map (Value.int .i64) (List.take m d))[j]? = none := List.getElem?_eq_none (by simp; omega)
      have e2 : (List.take (m * 1) (List.drop off (putCells (Value.int .i64) off d.toArray cells.toArray).toList))[j]? = none := List.getElem?_eq_none (by simp; omega)
      rw [e1, e2]
  · intro x o hx
    by_cases e : x = b
    · subst e
      rw [hold x hbs, if_pos rfl]
      simp only [Heap.add, Heap.one, d1, if_true] at hx
      simpa using hx
    · have hx2 : g' x = some o := by
        simp only [Heap.add, Heap.one, if_neg e] at hx
        cases hg : g' x with
        | none => rw [hg] at hx; simp at hx
        | some o' => rw [hg] at hx; simpa using hx
      have hwx : w.heap[x]? = some o := hw x o (by simp [Heap.add, Heap.one, e, hx2])
      have hxs : x < w.heap.size := (Array.getElem?_eq_some_iff.1 hwx).1
      rw [hold x hxs, if_neg e]; exact hwx
  · refine ⟨rfl, rfl, rfl, by simp [grow, putRow, mapBlock, Sort.ahead], fun x hx hn => ?_, fun x hx hn => ?_⟩
    · have e : x ≠ b := by
        intro e
        subst e
        simp [Heap.add, Heap.one, d1] at hn
      rw [hold x hx, if_neg e]
    · have e : x ≠ b := by
        intro e
        subst e
        simp [Heap.add, Heap.one, d1] at hn
      simp only [Heap.add, Heap.one, if_neg e] at hn ⊢
      exact hn

open Go.Sort in
theorem row_holds {g' : Heap} {b off : Nat} {cells : List Value} {el : TypeId} {l : List Int} {w : World} (d1 : g' b = none) (hw : (g'.add (Heap.one b (.cells cells.toArray el (0, 0)))).sub w) (ht : (cells.drop off).take l.length = l.map (Value.int .i64)) : Holds (Value.int .i64) w b off l.toArray ∧ b < w.heap.size := by
  have hb : w.heap[b]? = some (.cells cells.toArray el (0, 0)) := hw b _ (by simp [Heap.add, Heap.one, d1])
  refine ⟨fun j hj => ?_, (Array.getElem?_eq_some_iff.1 hb).1⟩
  have hj' : j < l.length := by simpa using hj
  refine ⟨?_, by simp [World.frozen?, hb]⟩
  have h1 : ((cells.drop off).take l.length)[j]? = (l.map (Value.int .i64))[j]? := by rw [ht]
  rw [List.getElem?_take_of_lt hj', List.getElem?_drop] at h1
  simp only [World.cell?, hb]
  simp only [Option.isSome_none, Bool.false_eq_true, if_false]
  rw [List.getElem?_toArray, h1]
  simp [hj']

theorem c_Sort_int {g h : Heap} {Γ : List HP} {v : Value} {l : List Int} (H : HS g (ow v l :: Γ) h) : CallE Try.prog fn_slices_Sort_S_int_int [v] h (fun u h' => HS g (ow v (l.mergeSort fun x y => decide (x ≤ y)) :: Γ) h') := by
  obtain ⟨g', r, rfl, d, O, H⟩ := H
  rcases Own_list.1 O with ⟨p, rfl, rfl, rfl, hp⟩ | ⟨b, off, cap, cells, el, r', rfl, ⟨h1, hM⟩, h2, rfl, h4, h5⟩
  · refine calle_of Try.func86 (by kernel_rfl) (by kernel_rfl) fun w hw => (sh_slices_Sort_int_none p 0 w).mono ?_
    rintro e w' ⟨rfl, rfl⟩
    exact ⟨_, _, rfl, ⟨g', Heap.nil, rfl, d, Own_list.2 (.inl ⟨p, rfl, by simp, rfl, hp⟩), H⟩, hw, rfl, rfl, rfl, Nat.le_refl _, fun _ _ _ => rfl, fun _ _ h => h⟩
  · obtain ⟨rfl, ht, hok⟩ := flatI h5
    have h2 : off + cap ≤ cells.length := by have : Ty.sz Int = 1 := rfl; rw [this] at h2; omega
    have hn : (Heap.one b (.cells cells.toArray el (0, 0))).add Heap.nil = Heap.one b (.cells cells.toArray el (0, 0)) := by simp
    rw [hn] at d ⊢
    have d1 := Dj_one.1 d
    refine calle_of Try.func86 (by kernel_rfl) (by kernel_rfl) fun w hw => ?_
    obtain ⟨hH, hbs⟩ := row_holds d1 hw ht
    refine (sh_slices_Sort_int b off cap l w hH hbs hM).mono ?_
    rintro e w' ⟨rfl, n, os, rfl⟩
    have hl : (l.mergeSort fun x y => decide (x ≤ y)).length = l.length := List.length_mergeSort l
    obtain ⟨h', q1, q2, q3⟩ := row_put (n := n) (os := os) (d := l.mergeSort fun x y => decide (x ≤ y)) (m := l.length) d1 H ⟨h1, hM⟩ h2 hw hl (by omega) (fun x hx => hok x (List.mem_mergeSort.1 (List.mem_of_mem_take hx)))
    rw [List.take_of_length_le (by omega)] at q1
    exact ⟨_, h', rfl, q1, q2, q3⟩

theorem c_Compact_int {g h : Heap} {Γ : List HP} {v : Value} {l : List Int} (H : HS g (ow v l :: Γ) h) : CallE Try.prog fn_slices_Compact_S_int_int [v] h (fun u h' => HS g (ow u (Lib.compact l) :: Γ) h') := by
  obtain ⟨g', r, rfl, d, O, H⟩ := H
  rcases Own_list.1 O with ⟨p, rfl, rfl, rfl, hp⟩ | ⟨b, off, cap, cells, el, r', rfl, ⟨h1, hM⟩, h2, rfl, h4, h5⟩
  · refine calle_of Try.func87 (by kernel_rfl) (by kernel_rfl) fun w hw => (sh_slices_Compact_int_empty p 0 w).mono ?_
    rintro e w' ⟨rfl, rfl⟩
    exact ⟨_, _, rfl, ⟨g', Heap.nil, rfl, d, Own_list.2 (.inl ⟨p, rfl, rfl, rfl, hp⟩), H⟩, hw, rfl, rfl, rfl, Nat.le_refl _, fun _ _ _ => rfl, fun _ _ h => h⟩
  · obtain ⟨rfl, ht, hok⟩ := flatI h5
    have h2 : off + cap ≤ cells.length := by have : Ty.sz Int = 1 := rfl; rw [this] at h2; omega
    have hn : (Heap.one b (.cells cells.toArray el (0, 0))).add Heap.nil = Heap.one b (.cells cells.toArray el (0, 0)) := by simp
    rw [hn] at d ⊢
    have d1 := Dj_one.1 d
    refine calle_of Try.func87 (by kernel_rfl) (by kernel_rfl) fun w hw => ?_
    obtain ⟨hH, hbs⟩ := row_holds d1 hw ht
    refine (sh_slices_Compact_int b off cap l w hH (by omega) h1).mono ?_
    rintro e w' ⟨rfl, n, rfl⟩
    have hcl : (Lib.compact l).length ≤ l.length := by
      have := List.length_filter_le (Lib.keeps l.toArray) (List.range l.length)
      simpa [Lib.compact, Lib.compactUpTo] using this
    have hcm : ∀ x ∈ Lib.compact l, x ∈ l := by
      intro x hx
      simp only [Lib.compact, Lib.compactUpTo, List.mem_map, List.mem_filter, List.mem_range] at hx
      obtain ⟨j, ⟨hj, _⟩, rfl⟩ := hx
      rw [getElem!_pos l.toArray j (by simpa using hj)]
      simp
    have hl : (Lib.compact l ++ List.replicate (l.length - (Lib.compact l).length) 0).length = l.length := by simp; omega
    have htk : (Lib.compact l ++ List.replicate (l.length - (Lib.compact l).length) 0).take (Lib.compact l).length = Lib.compact l := List.take_left' rfl
    obtain ⟨h', q1, q2, q3⟩ := row_put (n := n) (os := #[]) (d := Lib.compact l ++ List.replicate (l.length - (Lib.compact l).length) 0) (m := (Lib.compact l).length) d1 H ⟨h1, hM⟩ h2 hw hl (by simp) (by rw [htk]; exact fun x hx => hok x (hcm x hx))
    rw [htk] at q1
    rw [Go.Sort.grow_empty] at q2 q3
    exact ⟨_, h', rfl, q1, q2, q3⟩
end Go.Proofs.Ytknkjplnngeebaa
