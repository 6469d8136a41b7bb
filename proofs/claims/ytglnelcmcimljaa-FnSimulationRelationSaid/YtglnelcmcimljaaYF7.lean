/-
  Texts of this proof, one behind the other.
-/
import Derived.Shelf.Sort.Plain
import Derived.Shelf.Slices.CompactI
import Derived.Shelf.Slices.In.SortNone
import Derived.Test.YtglnelcmcimljaaRows
import Derived.Lib.SlicesCompact
import Derived.Sort.Grow
import Derived.Sort.Row
import Derived.Test.YtglnelcmcimljaaYF6
/-
  The greatest simulation and inclusion, as functions of the package, by the reference.
-/
namespace Go.Proofs.Ytglnelcmcimljaa
open Go
set_option linter.all false
set_option linter.unusedVariables false
set_option linter.unusedSimpArgs false
set_option linter.defProp false
set_option maxRecDepth 1000000

theorem c_spec_SimulationRelation {h : Heap} {v : Value} {a : Aut} (Ra : Rep h v a) : CallE Try.prog fn_spec_SimulationRelation [v] h (fun u h' => ∃ (w : Value) (M : List (List Bool)), u = .tuple #[w, .bool (decide a.Ok)] ∧ HS h [ow w M] h' ∧
    ((¬ a.Ok ∧ M = []) ∨ (a.Ok ∧ M.length = a.acc.length ∧ (∀ r ∈ M, r.length = a.acc.length) ∧ Great a (matR M)))) := by
  obtain ⟨v1, v2, v3, rfl, R1, R2, R3⟩ := Rep_Aut.1 Ra
  refine CallE.gen fun k hk => EN_spec_SimulationRelation rfl ?_
  simp -implicitDefEqProofs (disch := first | omega | (simp only [List.length_set, List.length_replicate, List.length_append, List.length_map, List.length_take, List.length_cons, List.length_nil]; omega)) [wrap64]
  refine (c_spec_AutomatonValid Ra).go ?_
  rintro _ _ ⟨rfl, rfl⟩
  by_cases ha : a.Ok
  case neg =>
    simp -implicitDefEqProofs (disch := first | omega | (simp only [List.length_set, List.length_replicate, List.length_append, List.length_map, List.length_take, List.length_cons, List.length_nil]; omega)) [wrap64, ha]
    refine HS.init.bls0 (List Bool) fun vm h1 H => ?_
    simp -implicitDefEqProofs (disch := first | omega | (simp only [List.length_set, List.length_replicate, List.length_append, List.length_map, List.length_take, List.length_cons, List.length_nil]; omega)) [wrap64]
    exact RetK.keep (hk _ _ ⟨_, [], by simp [ha], H, .inl ⟨ha, rfl⟩⟩)
  simp -implicitDefEqProofs (disch := first | omega | (simp only [List.length_set, List.length_replicate, List.length_append, List.length_map, List.length_take, List.length_cons, List.length_nil]; omega)) [wrap64, ha]
  refine (c_l13Relation Ra ha).go ?_
  rintro vm h1 ⟨M, H, h2, h3, h4⟩
  simp -implicitDefEqProofs (disch := first | omega | (simp only [List.length_set, List.length_replicate, List.length_append, List.length_map, List.length_take, List.length_cons, List.length_nil]; omega)) [wrap64]
  exact RetK.keep (hk _ _ ⟨_, M, by simp [ha], H, .inr ⟨ha, h2, h3, h4⟩⟩)

end Go.Proofs.Ytglnelcmcimljaa

/-
  Bodies of functions in the small language, as a program printed them, and that each is what the translation gives.
-/
namespace Go.Proofs.Ytglnelcmcimljaa
open Go
set_option linter.all false
set_option linter.defProp false
set_option maxRecDepth 1000000

end Go.Proofs.Ytglnelcmcimljaa

/-
  Contracts of the library's own functions, laid at this program in plain words (printed by the shelf's tools).
-/
namespace Go.Proofs.Ytglnelcmcimljaa
open Go Go.Shelf
set_option linter.all false
set_option maxRecDepth 1000000
def sh_lays189_ren : Ren := ⟨fun | 189 => 118 | 125 => 156 | 257 => 155 | 128 => 187 | 129 => 188 | 294 => 178 | 295 => 179 | 296 => 180 | 297 => 181 | 298 => 182 | 299 => 183 | 216 => 184 | 300 => 185 | 301 => 186 | 328 => 200 | 329 => 201 | 330 => 202 | 331 => 203 | 332 => 204 | 215 => 205 | 343 => 206 | n => n, fun | 28 => 23 | 3 => 3 | 46 => 149 | 0 => 0 | 51 => 184 | 53 => 72 | 4 => 4 | 183 => 178 | 182 => 177 | 131 => 152 | 5 => 5 | 9 => 9 | 218 => 188 | 222 => 192 | 228 => 194 | 229 => 154 | n => n, fun | n => n⟩
def sh_laysNm220_ren : Ren := ⟨fun | 20 => 119 | n => n, fun | 22 => 23 | 3 => 3 | 4 => 4 | 0 => 0 | n => n, fun | n => n⟩
end Go.Proofs.Ytglnelcmcimljaa

/-
  The library's sort of numbers, and the fall of equal neighbours, as contracts over a partial memory.
-/
namespace Go.Proofs.Ytglnelcmcimljaa
open Go
set_option linter.all false
set_option linter.unusedVariables false
set_option linter.unusedSimpArgs false
set_option linter.defProp false
set_option maxRecDepth 1000000

theorem encI (l : List Int) : encL l = l.map (Value.int .i64) := by
  induction l with
  | nil => rfl
  | cons x l ih => rw [encL_cons, ih]; rfl

open Go.Sort in
/-- where a row of a slice's own is written over -/
theorem row_put {g g' : Heap} {Γ : List HP} {b off cap : Nat} {cells : List Value} {el : TypeId} {l d : List Int} {m n : Nat} {os : Array Obj} {w : World} (d1 : g' b = none) (H : HS g Γ g') (h1 : l.length ≤ cap ∧ l.length < 4611686018427387904) (h2 : off + cap ≤ cells.length)
    (hw : (g'.add (Heap.one b (.cells cells.toArray el (0, 0)))).sub w) (hd : d.length = l.length) (hm : m ≤ d.length) (hok : ∀ x ∈ d.take m, Flat.ok x) :
    ∃ h', HS g (ow (.slice (some ⟨b, off, none⟩) m cap) (d.take m) :: Γ) h' ∧ h'.sub (grow (putRow (Value.int .i64) (Sort.ahead w n) b off d.toArray) os) ∧ Frm (g'.add (Heap.one b (.cells cells.toArray el (0, 0)))) w h' (grow (putRow (Value.int .i64) (Sort.ahead w n) b off d.toArray) os) := by
  have hb : w.heap[b]? = some (.cells cells.toArray el (0, 0)) := hw b _ (by simp [Heap.add, Heap.one, d1])
  have hbs : b < w.heap.size := (Array.getElem?_eq_some_iff.1 hb).1
  have hold : ∀ x, x < w.heap.size → (grow (putRow (Value.int .i64) (Sort.ahead w n) b off d.toArray) os).heap[x]? = if x = b then some (.cells (putCells (Value.int .i64) off d.toArray cells.toArray) el (0, 0)) else w.heap[x]? := by
    intro x hx
    rw [heap_grow_old _ _ (by simpa [putRow, mapBlock, Sort.ahead] using hx)]
    simp only [putRow, mapBlock, Sort.ahead, Array.getElem?_modify]
    by_cases e : b = x
    · subst e; simp [hb, onCells]
    · simp [e, Ne.symm e]
  have hpt : (putCells (Value.int .i64) off d.toArray cells.toArray).toList.length = cells.length := by simp [putCells]
  refine ⟨g'.add (Heap.one b (.cells (putCells (Value.int .i64) off d.toArray cells.toArray).toList.toArray el (0, 0))), ⟨g', _, rfl, Dj_one.2 d1, ?_, H⟩, ?_, ?_⟩
  · have hlm : (d.take m).length = m := by simp; omega
    refine Own_list.2 (.inr ⟨b, off, cap, _, el, Heap.nil, by rw [hlm], ⟨by omega, by omega⟩, by rw [hpt]; show off + cap * 1 ≤ _; omega, by simp, rfl, ?_⟩)
    refine ownL_congr (ownL_enc hok) ?_
    rw [encI, hlm]
    show List.take (m * 1) _ = List.take (m * 1) _
    rw [List.take_of_length_le (l := List.map (Value.int .i64) (d.take m)) (by simp; omega)]
    apply List.ext_getElem?
    intro j
    by_cases hj : j < m
    · have hjd : j < d.length := by omega
      have hjc : off + j < cells.length := by omega
      have key : (putCells (Value.int .i64) off d.toArray cells.toArray).toList[off + j]? = some (.int .i64 d[j]) := by
        rw [Array.getElem?_toList, putCells, Array.getElem?_mapIdx]
        simp [hjc, hjd]
      rw [Nat.mul_one, List.getElem?_take_of_lt hj, List.getElem?_drop, key, List.getElem?_map, List.getElem?_take_of_lt hj, List.getElem?_eq_getElem hjd]
      rfl
    · have e1 : (List.map (Value.int .i64) (List.take m d))[j]? = none := List.getElem?_eq_none (by simp; omega)
      have e2 : (List.take (m * 1) (List.drop off (putCells (Value.int .i64) off d.toArray cells.toArray).toList))[j]? = none := List.getElem?_eq_none (by simp; omega)
      rw [e1, e2]
  · intro x o hx
    by_cases e : x = b
    · subst e
      rw [hold x hbs, if_pos rfl]
      simp only [Heap.add, Heap.one, d1, if_true] at hx
      simpa using hx
    · have hx2 : g' x = some o := by
        simp only [Heap.add, Heap.one, if_neg e] at hx
        cases hg : g' x with
        | none => rw [hg] at hx; simp at hx
        | some o' => rw [hg] at hx; simpa using hx
      have hwx : w.heap[x]? = some o := hw x o (by simp [Heap.add, Heap.one, e, hx2])
      have hxs : x < w.heap.size := (Array.getElem?_eq_some_iff.1 hwx).1
      rw [hold x hxs, if_neg e]; exact hwx
  · refine ⟨rfl, rfl, rfl, by simp [grow, putRow, mapBlock, Sort.ahead], fun x hx hn => ?_, fun x hx hn => ?_⟩
    · have e : x ≠ b := by
        intro e
        subst e
        simp [Heap.add, Heap.one, d1] at hn
      rw [hold x hx, if_neg e]
    · have e : x ≠ b := by
        intro e
        subst e
        simp [Heap.add, Heap.one, d1] at hn
      simp only [Heap.add, Heap.one, if_neg e] at hn ⊢
      exact hn

end Go.Proofs.Ytglnelcmcimljaa

/-
  Merging of states that simulate each other, by the program.
-/
namespace Go.Proofs.Ytglnelcmcimljaa
open Go
set_option linter.all false
set_option linter.unusedVariables false
set_option linter.unusedSimpArgs false
set_option linter.defProp false
set_option maxRecDepth 1000000

def zl (l : List Nat) : List Int := l.map fun (x : Nat) => (x : Int)
@[simp] theorem zl_len {l : List Nat} : (zl l).length = l.length := by simp [zl]
end Go.Proofs.Ytglnelcmcimljaa

/-
  Bodies of functions in the small language, as a program printed them, and that each is what the translation gives.
-/
namespace Go.Proofs.Ytglnelcmcimljaa
open Go
set_option linter.all false
set_option linter.defProp false
set_option maxRecDepth 1000000

end Go.Proofs.Ytglnelcmcimljaa

/-
  A number is put into an ascending list; what is given back as a pair.
-/
namespace Go.Proofs.Ytglnelcmcimljaa
open Go
set_option linter.all false
set_option linter.unusedVariables false
set_option linter.unusedSimpArgs false
set_option linter.defProp false
set_option maxRecDepth 1000000

/-- what is given back: a pair of a piece of data and a truth value -/
def R2 {α : Type} [Ty α] (b : Bool) (y : α) (h : Heap) (u : Value) (h' : Heap) : Prop := ∃ v, u = .tuple #[v, .bool b] ∧ HS h [ow v y] h'
end Go.Proofs.Ytglnelcmcimljaa

/-
  Merging, by the program and by the reference.
-/
namespace Go.Proofs.Ytglnelcmcimljaa
open Go
set_option linter.all false
set_option linter.unusedVariables false
set_option linter.unusedSimpArgs false
set_option linter.defProp false
set_option maxRecDepth 1000000

end Go.Proofs.Ytglnelcmcimljaa

/-
  Merging by the reference; both as functions of the package.
-/
namespace Go.Proofs.Ytglnelcmcimljaa
open Go
set_option linter.all false
set_option linter.unusedVariables false
set_option linter.unusedSimpArgs false
set_option linter.defProp false
set_option maxRecDepth 1000000

end Go.Proofs.Ytglnelcmcimljaa

/-
  Equality of automata; trimming and merging until nothing changes.
-/
namespace Go.Proofs.Ytglnelcmcimljaa
open Go
set_option linter.all false
set_option linter.unusedVariables false
set_option linter.unusedSimpArgs false
set_option linter.defProp false
set_option maxRecDepth 1000000

end Go.Proofs.Ytglnelcmcimljaa

/-
  What laws of automata share: relations returned by both, live states, words of lassos.
-/
namespace Go.Proofs.Ytglnelcmcimljaa
open Go
set_option linter.all false
set_option linter.unusedVariables false
set_option linter.unusedSimpArgs false
set_option linter.defProp false
set_option maxRecDepth 1000000

/-- what both programs answer -/
def SimR (a : Aut) (M : List (List Bool)) : Prop := (¬ a.Ok ∧ M = []) ∨ (a.Ok ∧ M.length = a.acc.length ∧ (∀ r ∈ M, r.length = a.acc.length) ∧ Great a (matR M))
theorem SimR.fn {a : Aut} {M M' : List (List Bool)} (h : SimR a M) (h' : SimR a M') : M = M' := by
  rcases h with ⟨h1, rfl⟩ | ⟨h1, h2, h3, h4⟩
  · rcases h' with ⟨_, rfl⟩ | ⟨h5, _⟩
    · rfl
    · exact absurd h5 h1
  · rcases h' with ⟨h5, _⟩ | ⟨h5, h6, h7, h8⟩
    · exact absurd h1 h5
    refine List.ext_getElem (by omega) fun i hi hi' => ?_
    have g1 := h3 _ (List.getElem_mem hi)
    have g2 := h7 _ (List.getElem_mem hi')
    refine List.ext_getElem (by omega) fun j hj hj' => ?_
    rw [← matR_get hi hj, ← matR_get hi' hj']
    exact h4.eq h8 (by omega) (by omega)
end Go.Proofs.Ytglnelcmcimljaa

/-
  The law: simulation is a preorder.
-/
namespace Go.Proofs.Ytglnelcmcimljaa
open Go
set_option linter.all false
set_option linter.unusedVariables false
set_option linter.unusedSimpArgs false
set_option linter.defProp false
set_option maxRecDepth 1000000

set_option maxHeartbeats 1000000 in
theorem c_FnSimulationRelation {h : Heap} {v : Value} {l : List (BitVec 8)} (R : Rep h v l) : CallE Try.prog fn_laws_FnSimulationRelation [v] h (fun u h' => h.le h' ∧ u = .bool true) := by
  refine CallE.gen fun k hk => EN_laws_FnSimulationRelation rfl ?_
  by_cases a1 : (1048576 : Int) < l.length
  · simp -implicitDefEqProofs (disch := first | omega | (simp only [List.length_set, List.length_replicate, List.length_append, List.length_map, List.length_take, List.length_cons, List.length_nil]; omega)) [wrap64, R.len, a1]
    exact RetK.keep (hk _ _ ⟨Heap.le.refl _, rfl⟩)
  simp -implicitDefEqProofs (disch := first | omega | (simp only [List.length_set, List.length_replicate, List.length_append, List.length_map, List.length_take, List.length_cons, List.length_nil]; omega)) [wrap64, R.len, a1]
  refine (c_DrawSimulationRelation R).go ?_
  rintro va h1 ⟨a, H, hz⟩
  have FA := H.rep.aAut
  simp -implicitDefEqProofs (disch := first | omega | (simp only [List.length_set, List.length_replicate, List.length_append, List.length_map, List.length_take, List.length_cons, List.length_nil]; omega)) [wrap64, FA, setC]
  refine (c_SimulationRelation H.rep).go ?_
  rintro _ h2 ⟨w1, M, rfl, H2, hM⟩
  have H := H2.app H
  simp -implicitDefEqProofs (disch := first | omega | (simp only [List.length_set, List.length_replicate, List.length_append, List.length_map, List.length_take, List.length_cons, List.length_nil]; omega)) [wrap64, FA]
  refine (c_spec_SimulationRelation H.sw1.rep).go ?_
  rintro _ h3 ⟨w2, M2, rfl, H3, hM2⟩
  have H := H3.app H
  obtain rfl := SimR.fn hM hM2
  have RW := H.rep
  have RM := H.sw1.rep
  have Ra := H.sw2.rep
  have lb := H.base
  clear H H2 H3 hM2
  have hml := RM.len
  by_cases ha : a.Ok
  case neg =>
    simp -implicitDefEqProofs (disch := first | omega | (simp only [List.length_set, List.length_replicate, List.length_append, List.length_map, List.length_take, List.length_cons, List.length_nil]; omega)) [wrap64, ha, RW.len, RM.len]
    exact RetK.keep (hk _ _ ⟨lb, rfl⟩)
  rcases hM with ⟨h4, _⟩ | ⟨_, h5, h6, hG⟩
  · exact absurd ha h4
  obtain ⟨v1, v2, v3, rfl, R1, R2, R3⟩ := Rep_Aut.1 Ra
  have hX := RM.X (n := 1) rfl
  have hY := RW.X (n := 1) rfl
  have row : ∀ {i : Nat} (hi : i < a.acc.length), ∃ u, hload h3 (some (elp 1 w1 i)) none = some u ∧ ∃ (hm : i < M.length), M[i].length = a.acc.length ∧ Rep h3 u M[i] := fun {i} hi => by
    obtain ⟨u, hu, Ru⟩ := RM.ldL (i := i) (by omega)
    exact ⟨u, hu, by omega, h6 _ (List.getElem_mem _), Ru⟩
  have row2 : ∀ {i : Nat} (hi : i < a.acc.length), ∃ u, hload h3 (some (elp 1 w2 i)) none = some u ∧ ∃ (hm : i < M.length), Rep h3 u M[i] := fun {i} hi => by
    obtain ⟨u, hu, Ru⟩ := RW.ldL (i := i) (by omega)
    exact ⟨u, hu, by omega, Ru⟩
  have at_ : ∀ {i j : Nat} (hi : i < a.acc.length) (hj : j < a.acc.length) (hm : i < M.length) (hn : j < M[i].length), M[i][j] = matR M i j := fun hi hj hm hn => (matR_get hm hn).symm
  simp -implicitDefEqProofs (disch := first | omega | (simp only [List.length_set, List.length_replicate, List.length_append, List.length_map, List.length_take, List.length_cons, List.length_nil]; omega)) [wrap64, ha, RW.len, RM.len]
  refine wp_count a.acc.length (fun i e h' => e = [none, none, some (.agg #[v1, v2, v3]), some w1, none, some w2, none, some (.int .i64 i), none, none] ∧ h' = h3) ⟨by simp, rfl⟩ ?_
  rintro J i _ h7 hJ hi ⟨rfl, rfl⟩
  simp -implicitDefEqProofs (disch := first | omega | (simp only [List.length_set, List.length_replicate, List.length_append, List.length_map, List.length_take, List.length_cons, List.length_nil]; omega)) [wrap64, RM.len, h5]
  refine IteW.mk (fun hlt => ?_) (fun hge => ?_)
  · have hin : i < a.acc.length := by omega
    obtain ⟨u, hu, hm, hul, Ru⟩ := row hin
    obtain ⟨u2, hu2, _, Ru2⟩ := row2 hin
    have hself : M[i]'hm = M[i]'hm := rfl
    have hii : (M[i]'hm)[i]'(by omega) = true := by rw [at_ hin hin hm (by omega)]; exact hG.refl hin
    simp -implicitDefEqProofs (disch := first | omega | (simp only [List.length_set, List.length_replicate, List.length_append, List.length_map, List.length_take, List.length_cons, List.length_nil]; omega)) [wrap64, hX, hY, hu, hu2, h5]
    refine (c_wpBools Ru Ru2).go ?_
    rintro _ h7 ⟨rfl, rfl⟩
    simp -implicitDefEqProofs (disch := first | omega | (simp only [List.length_set, List.length_replicate, List.length_append, List.length_map, List.length_take, List.length_cons, List.length_nil]; omega)) [wrap64, hX, hu, h5, Ru.B, hul, hii]
    refine wp_count a.acc.length (fun j e h' => e = [none, none, some (.agg #[v1, v2, v3]), some w1, none, some w2, none, some (.int .i64 i), some (.int .i64 j), none] ∧ h' = h7) ⟨by simp, rfl⟩ ?_
    rintro J2 j _ h8 hJ2 hj ⟨rfl, rfl⟩
    simp -implicitDefEqProofs (disch := first | omega | (simp only [List.length_set, List.length_replicate, List.length_append, List.length_map, List.length_take, List.length_cons, List.length_nil]; omega)) [wrap64, RM.len, h5]
    refine IteW.mk (fun hlt2 => ?_) (fun hge2 => ?_)
    · have hjn : j < a.acc.length := by omega
      obtain ⟨u3, hu3, hm3, hul3, Ru3⟩ := row hjn
      have hij := at_ hin hjn hm (by omega)
      have hR2B := R2.B
      have cs : (M[i]'hm)[j]'(by omega) = false ∨ ((M[i]'hm)[j]'(by omega) = true ∧ a.acc[i] = false) ∨ ((M[i]'hm)[j]'(by omega) = true ∧ a.acc[i] = true ∧ a.acc[j] = true) := by
        cases b1 : (M[i]'hm)[j]'(by omega) with
        | false => exact .inl rfl
        | true =>
          cases b2 : a.acc[i] with
          | false => exact .inr (.inl ⟨rfl, rfl⟩)
          | true =>
            refine .inr (.inr ⟨rfl, rfl, ?_⟩)
            have := hG.simu.1 i j hin hjn (by rw [← hij]; exact b1) (by simpa [hin] using b2)
            simpa [hjn] using this
      have tr : ∀ (k : Nat) (hk : k < a.acc.length), (M[i]'hm)[j]'(by omega) = true → (M[j]'hm3)[k]'(by omega) = true → (M[i]'hm)[k]'(by omega) = true := fun k hk b1 b2 => by
        rw [at_ hin hk hm (by omega)]
        exact hG.trans ha hin hjn hk (by rw [← hij]; exact b1) (by rw [← at_ hjn hk hm3 (by omega)]; exact b2)
      rcases cs with b1 | ⟨b1, b2⟩ | ⟨b1, b2, b3⟩
      all_goals
        first
          | simp -implicitDefEqProofs (disch := first | omega | (simp only [List.length_set, List.length_replicate, List.length_append, List.length_map, List.length_take, List.length_cons, List.length_nil]; omega)) [wrap64, hX, hu, h5, Ru.B, hul, b1, hR2B, b2, b3]
          | simp -implicitDefEqProofs (disch := first | omega | (simp only [List.length_set, List.length_replicate, List.length_append, List.length_map, List.length_take, List.length_cons, List.length_nil]; omega)) [wrap64, hX, hu, h5, Ru.B, hul, b1, hR2B, b2]
          | simp -implicitDefEqProofs (disch := first | omega | (simp only [List.length_set, List.length_replicate, List.length_append, List.length_map, List.length_take, List.length_cons, List.length_nil]; omega)) [wrap64, hX, hu, h5, Ru.B, hul, b1]
        refine wp_count a.acc.length (fun k e h' => e = [none, none, some (.agg #[v1, v2, v3]), some w1, none, some w2, none, some (.int .i64 i), some (.int .i64 j), some (.int .i64 k)] ∧ h' = h8) ⟨by simp, rfl⟩ ?_
        rintro J3 k _ h9 hJ3 hk3 ⟨rfl, rfl⟩
        simp -implicitDefEqProofs (disch := first | omega | (simp only [List.length_set, List.length_replicate, List.length_append, List.length_map, List.length_take, List.length_cons, List.length_nil]; omega)) [wrap64, RM.len, h5]
        refine IteW.mk (fun hlt3 => ?_) (fun hge3 => ?_)
        · have hkn : k < a.acc.length := by omega
          cases b4 : (M[j]'hm3)[k]'(by omega) with
          | false =>
            simp -implicitDefEqProofs (disch := first | omega | (simp only [List.length_set, List.length_replicate, List.length_append, List.length_map, List.length_take, List.length_cons, List.length_nil]; omega)) [wrap64, hX, hu, h5, Ru.B, hul, b1, hu3, Ru3.B, hul3, b4]
            exact hJ3 _ _ hkn ⟨by simp, rfl⟩
          | true =>
            first
              | (have b5 := tr k hkn b1 b4
                 simp -implicitDefEqProofs (disch := first | omega | (simp only [List.length_set, List.length_replicate, List.length_append, List.length_map, List.length_take, List.length_cons, List.length_nil]; omega)) [wrap64, hX, hu, h5, Ru.B, hul, b1, hu3, Ru3.B, hul3, b4, b5]
                 exact hJ3 _ _ hkn ⟨by simp, rfl⟩)
              | (simp -implicitDefEqProofs (disch := first | omega | (simp only [List.length_set, List.length_replicate, List.length_append, List.length_map, List.length_take, List.length_cons, List.length_nil]; omega)) [wrap64, hX, hu, h5, Ru.B, hul, b1, hu3, Ru3.B, hul3, b4]
                 exact hJ3 _ _ hkn ⟨by simp, rfl⟩)
        · simp -implicitDefEqProofs (disch := first | omega | (simp only [List.length_set, List.length_replicate, List.length_append, List.length_map, List.length_take, List.length_cons, List.length_nil]; omega)) [wrap64]
          exact hJ2 _ _ hjn ⟨by simp, rfl⟩
    · simp -implicitDefEqProofs (disch := first | omega | (simp only [List.length_set, List.length_replicate, List.length_append, List.length_map, List.length_take, List.length_cons, List.length_nil]; omega)) [wrap64]
      exact hJ _ _ hin ⟨by simp, rfl⟩
  · simp -implicitDefEqProofs (disch := first | omega | (simp only [List.length_set, List.length_replicate, List.length_append, List.length_map, List.length_take, List.length_cons, List.length_nil]; omega)) [wrap64]
    exact RetK.keep (hk _ _ ⟨lb, rfl⟩)
end Go.Proofs.Ytglnelcmcimljaa
