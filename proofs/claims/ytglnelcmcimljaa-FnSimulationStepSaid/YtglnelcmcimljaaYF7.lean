/-
  Texts of this proof, one behind the other.
-/
import Derived.Shelf.Sort.Plain
import Derived.Shelf.Slices.CompactI
import Derived.Shelf.Slices.In.SortNone
import Derived.Test.YtglnelcmcimljaaRows
import Derived.Lib.SlicesCompact
import Derived.Sort.Grow
import Derived.Sort.Row
import Derived.Test.YtglnelcmcimljaaYF6
/-
  The greatest simulation and inclusion, as functions of the package, by the reference.
-/
namespace Go.Proofs.Ytglnelcmcimljaa
open Go
set_option linter.all false
set_option linter.unusedVariables false
set_option linter.unusedSimpArgs false
set_option linter.defProp false
set_option maxRecDepth 1000000

theorem c_spec_SimulationRelation {h : Heap} {v : Value} {a : Aut} (Ra : Rep h v a) : CallE Try.prog fn_spec_SimulationRelation [v] h (fun u h' => ∃ (w : Value) (M : List (List Bool)), u = .tuple #[w, .bool (decide a.Ok)] ∧ HS h [ow w M] h' ∧
    ((¬ a.Ok ∧ M = []) ∨ (a.Ok ∧ M.length = a.acc.length ∧ (∀ r ∈ M, r.length = a.acc.length) ∧ Great a (matR M)))) := by
  obtain ⟨v1, v2, v3, rfl, R1, R2, R3⟩ := Rep_Aut.1 Ra
  refine CallE.gen fun k hk => EN_spec_SimulationRelation rfl ?_
  simp -implicitDefEqProofs (disch := first | omega | (simp only [List.length_set, List.length_replicate, List.length_append, List.length_map, List.length_take, List.length_cons, List.length_nil]; omega)) [wrap64]
  refine (c_spec_AutomatonValid Ra).go ?_
  rintro _ _ ⟨rfl, rfl⟩
  by_cases ha : a.Ok
  case neg =>
    simp -implicitDefEqProofs (disch := first | omega | (simp only [List.length_set, List.length_replicate, List.length_append, List.length_map, List.length_take, List.length_cons, List.length_nil]; omega)) [wrap64, ha]
    refine HS.init.bls0 (List Bool) fun vm h1 H => ?_
    simp -implicitDefEqProofs (disch := first | omega | (simp only [List.length_set, List.length_replicate, List.length_append, List.length_map, List.length_take, List.length_cons, List.length_nil]; omega)) [wrap64]
    exact RetK.keep (hk _ _ ⟨_, [], by simp [ha], H, .inl ⟨ha, rfl⟩⟩)
  simp -implicitDefEqProofs (disch := first | omega | (simp only [List.length_set, List.length_replicate, List.length_append, List.length_map, List.length_take, List.length_cons, List.length_nil]; omega)) [wrap64, ha]
  refine (c_l13Relation Ra ha).go ?_
  rintro vm h1 ⟨M, H, h2, h3, h4⟩
  simp -implicitDefEqProofs (disch := first | omega | (simp only [List.length_set, List.length_replicate, List.length_append, List.length_map, List.length_take, List.length_cons, List.length_nil]; omega)) [wrap64]
  exact RetK.keep (hk _ _ ⟨_, M, by simp [ha], H, .inr ⟨ha, h2, h3, h4⟩⟩)

end Go.Proofs.Ytglnelcmcimljaa

/-
  Bodies of functions in the small language, as a program printed them, and that each is what the translation gives.
-/
namespace Go.Proofs.Ytglnelcmcimljaa
open Go
set_option linter.all false
set_option linter.defProp false
set_option maxRecDepth 1000000

end Go.Proofs.Ytglnelcmcimljaa

/-
  Contracts of the library's own functions, laid at this program in plain words (printed by the shelf's tools).
-/
namespace Go.Proofs.Ytglnelcmcimljaa
open Go Go.Shelf
set_option linter.all false
set_option maxRecDepth 1000000
def sh_lays189_ren : Ren := ⟨fun | 189 => 118 | 125 => 156 | 257 => 155 | 128 => 187 | 129 => 188 | 294 => 178 | 295 => 179 | 296 => 180 | 297 => 181 | 298 => 182 | 299 => 183 | 216 => 184 | 300 => 185 | 301 => 186 | 328 => 200 | 329 => 201 | 330 => 202 | 331 => 203 | 332 => 204 | 215 => 205 | 343 => 206 | n => n, fun | 28 => 23 | 3 => 3 | 46 => 149 | 0 => 0 | 51 => 184 | 53 => 72 | 4 => 4 | 183 => 178 | 182 => 177 | 131 => 152 | 5 => 5 | 9 => 9 | 218 => 188 | 222 => 192 | 228 => 194 | 229 => 154 | n => n, fun | n => n⟩
def sh_laysNm220_ren : Ren := ⟨fun | 20 => 119 | n => n, fun | 22 => 23 | 3 => 3 | 4 => 4 | 0 => 0 | n => n, fun | n => n⟩
end Go.Proofs.Ytglnelcmcimljaa

/-
  The library's sort of numbers, and the fall of equal neighbours, as contracts over a partial memory.
-/
namespace Go.Proofs.Ytglnelcmcimljaa
open Go
set_option linter.all false
set_option linter.unusedVariables false
set_option linter.unusedSimpArgs false
set_option linter.defProp false
set_option maxRecDepth 1000000

theorem encI (l : List Int) : encL l = l.map (Value.int .i64) := by
  induction l with
  | nil => rfl
  | cons x l ih => rw [encL_cons, ih]; rfl

open Go.Sort in
/-- where a row of a slice's own is written over -/
theorem row_put {g g' : Heap} {Γ : List HP} {b off cap : Nat} {cells : List Value} {el : TypeId} {l d : List Int} {m n : Nat} {os : Array Obj} {w : World} (d1 : g' b = none) (H : HS g Γ g') (h1 : l.length ≤ cap ∧ l.length < 4611686018427387904) (h2 : off + cap ≤ cells.length)
    (hw : (g'.add (Heap.one b (.cells cells.toArray el (0, 0)))).sub w) (hd : d.length = l.length) (hm : m ≤ d.length) (hok : ∀ x ∈ d.take m, Flat.ok x) :
    ∃ h', HS g (ow (.slice (some ⟨b, off, none⟩) m cap) (d.take m) :: Γ) h' ∧ h'.sub (grow (putRow (Value.int .i64) (Sort.ahead w n) b off d.toArray) os) ∧ Frm (g'.add (Heap.one b (.cells cells.toArray el (0, 0)))) w h' (grow (putRow (Value.int .i64) (Sort.ahead w n) b off d.toArray) os) := by
  have hb : w.heap[b]? = some (.cells cells.toArray el (0, 0)) := hw b _ (by simp [Heap.add, Heap.one, d1])
  have hbs : b < w.heap.size := (Array.getElem?_eq_some_iff.1 hb).1
  have hold : ∀ x, x < w.heap.size → (grow (putRow (Value.int .i64) (Sort.ahead w n) b off d.toArray) os).heap[x]? = if x = b then some (.cells (putCells (Value.int .i64) off d.toArray cells.toArray) el (0, 0)) else w.heap[x]? := by
    intro x hx
    rw [heap_grow_old _ _ (by simpa [putRow, mapBlock, Sort.ahead] using hx)]
    simp only [putRow, mapBlock, Sort.ahead, Array.getElem?_modify]
    by_cases e : b = x
    · subst e; simp [hb, onCells]
    · simp [e, Ne.symm e]
  have hpt : (putCells (Value.int .i64) off d.toArray cells.toArray).toList.length = cells.length := by simp [putCells]
  refine ⟨g'.add (Heap.one b (.cells (putCells (Value.int .i64) off d.toArray cells.toArray).toList.toArray el (0, 0))), ⟨g', _, rfl, Dj_one.2 d1, ?_, H⟩, ?_, ?_⟩
  · have hlm : (d.take m).length = m := by simp; omega
    refine Own_list.2 (.inr ⟨b, off, cap, _, el, Heap.nil, by rw [hlm], ⟨by omega, by omega⟩, by rw [hpt]; show off + cap * 1 ≤ _; omega, by simp, rfl, ?_⟩)
    refine ownL_congr (ownL_enc hok) ?_
    rw [encI, hlm]
    show List.take (m * 1) _ = List.take (m * 1) _
    rw [List.take_of_length_le (l := List.map (Value.int .i64) (d.take m)) (by simp; omega)]
    apply List.ext_getElem?
    intro j
    by_cases hj : j < m
    · have hjd : j < d.length := by omega
      have hjc : off + j < cells.length := by omega
      have key : (putCells (Value.int .i64) off d.toArray cells.toArray).toList[off + j]? = some (.int .i64 d[j]) := by
        rw [Array.getElem?_toList, putCells, Array.getElem?_mapIdx]
        simp [hjc, hjd]
      rw [Nat.mul_one, List.getElem?_take_of_lt hj, List.getElem?_drop, key, List.getElem?_map, List.getElem?_take_of_lt hj, List.getElem?_eq_getElem hjd]
      rfl
    · have e1 : (List.map (Value.int .i64) (List.take m d))[j]? = none := List.getElem?_eq_none (by simp; omega)
      have e2 : (List.take (m * 1) (List.drop off (putCells (Value.int .i64) off d.toArray cells.toArray).toList))[j]? = none := List.getElem?_eq_none (by simp; omega)
      rw [e1, e2]
  · intro x o hx
    by_cases e : x = b
    · subst e
      rw [hold x hbs, if_pos rfl]
      simp only [Heap.add, Heap.one, d1, if_true] at hx
      simpa using hx
    · have hx2 : g' x = some o := by
        simp only [Heap.add, Heap.one, if_neg e] at hx
        cases hg : g' x with
        | none => rw [hg] at hx; simp at hx
        | some o' => rw [hg] at hx; simpa using hx
      have hwx : w.heap[x]? = some o := hw x o (by simp [Heap.add, Heap.one, e, hx2])
      have hxs : x < w.heap.size := (Array.getElem?_eq_some_iff.1 hwx).1
      rw [hold x hxs, if_neg e]; exact hwx
  · refine ⟨rfl, rfl, rfl, by simp [grow, putRow, mapBlock, Sort.ahead], fun x hx hn => ?_, fun x hx hn => ?_⟩
    · have e : x ≠ b := by
        intro e
        subst e
        simp [Heap.add, Heap.one, d1] at hn
      rw [hold x hx, if_neg e]
    · have e : x ≠ b := by
        intro e
        subst e
        simp [Heap.add, Heap.one, d1] at hn
      simp only [Heap.add, Heap.one, if_neg e] at hn ⊢
      exact hn

end Go.Proofs.Ytglnelcmcimljaa

/-
  Merging of states that simulate each other, by the program.
-/
namespace Go.Proofs.Ytglnelcmcimljaa
open Go
set_option linter.all false
set_option linter.unusedVariables false
set_option linter.unusedSimpArgs false
set_option linter.defProp false
set_option maxRecDepth 1000000

def zl (l : List Nat) : List Int := l.map fun (x : Nat) => (x : Int)
@[simp] theorem zl_len {l : List Nat} : (zl l).length = l.length := by simp [zl]
end Go.Proofs.Ytglnelcmcimljaa

/-
  Bodies of functions in the small language, as a program printed them, and that each is what the translation gives.
-/
namespace Go.Proofs.Ytglnelcmcimljaa
open Go
set_option linter.all false
set_option linter.defProp false
set_option maxRecDepth 1000000

end Go.Proofs.Ytglnelcmcimljaa

/-
  A number is put into an ascending list; what is given back as a pair.
-/
namespace Go.Proofs.Ytglnelcmcimljaa
open Go
set_option linter.all false
set_option linter.unusedVariables false
set_option linter.unusedSimpArgs false
set_option linter.defProp false
set_option maxRecDepth 1000000

/-- what is given back: a pair of a piece of data and a truth value -/
def R2 {α : Type} [Ty α] (b : Bool) (y : α) (h : Heap) (u : Value) (h' : Heap) : Prop := ∃ v, u = .tuple #[v, .bool b] ∧ HS h [ow v y] h'
end Go.Proofs.Ytglnelcmcimljaa

/-
  Merging, by the program and by the reference.
-/
namespace Go.Proofs.Ytglnelcmcimljaa
open Go
set_option linter.all false
set_option linter.unusedVariables false
set_option linter.unusedSimpArgs false
set_option linter.defProp false
set_option maxRecDepth 1000000

end Go.Proofs.Ytglnelcmcimljaa

/-
  Merging by the reference; both as functions of the package.
-/
namespace Go.Proofs.Ytglnelcmcimljaa
open Go
set_option linter.all false
set_option linter.unusedVariables false
set_option linter.unusedSimpArgs false
set_option linter.defProp false
set_option maxRecDepth 1000000

end Go.Proofs.Ytglnelcmcimljaa

/-
  Equality of automata; trimming and merging until nothing changes.
-/
namespace Go.Proofs.Ytglnelcmcimljaa
open Go
set_option linter.all false
set_option linter.unusedVariables false
set_option linter.unusedSimpArgs false
set_option linter.defProp false
set_option maxRecDepth 1000000

end Go.Proofs.Ytglnelcmcimljaa

/-
  What laws of automata share: relations returned by both, live states, words of lassos.
-/
namespace Go.Proofs.Ytglnelcmcimljaa
open Go
set_option linter.all false
set_option linter.unusedVariables false
set_option linter.unusedSimpArgs false
set_option linter.defProp false
set_option maxRecDepth 1000000

/-- what both programs answer -/
def SimR (a : Aut) (M : List (List Bool)) : Prop := (¬ a.Ok ∧ M = []) ∨ (a.Ok ∧ M.length = a.acc.length ∧ (∀ r ∈ M, r.length = a.acc.length) ∧ Great a (matR M))
theorem SimR.fn {a : Aut} {M M' : List (List Bool)} (h : SimR a M) (h' : SimR a M') : M = M' := by
  rcases h with ⟨h1, rfl⟩ | ⟨h1, h2, h3, h4⟩
  · rcases h' with ⟨_, rfl⟩ | ⟨h5, _⟩
    · rfl
    · exact absurd h5 h1
  · rcases h' with ⟨h5, _⟩ | ⟨h5, h6, h7, h8⟩
    · exact absurd h1 h5
    refine List.ext_getElem (by omega) fun i hi hi' => ?_
    have g1 := h3 _ (List.getElem_mem hi)
    have g2 := h7 _ (List.getElem_mem hi')
    refine List.ext_getElem (by omega) fun j hj hj' => ?_
    rw [← matR_get hi hj, ← matR_get hi' hj']
    exact h4.eq h8 (by omega) (by omega)
end Go.Proofs.Ytglnelcmcimljaa

/-
  The law: simulation answers steps.
-/
namespace Go.Proofs.Ytglnelcmcimljaa
open Go
set_option linter.all false
set_option linter.unusedVariables false
set_option linter.unusedSimpArgs false
set_option linter.defProp false
set_option maxRecDepth 1000000

theorem any_take {α : Type} {p : α → Bool} {l : List α} {i : Nat} (hi : i < l.length) : (l.take (i + 1)).any p = ((l.take i).any p || p l[i]) := by
  rw [List.take_add_one, List.getElem?_eq_getElem hi, List.any_append]
  simp
theorem let_ok : ∀ c < 8, ∀ k < 8, ∀ v < 8, v &&& k = v → ((c &&& (7 - k)) + v) &&& k = v ∧ (c &&& (7 - k)) + v < 8 := by decide
/-- an edge's letters, as small numbers -/
theorem Tr.Ok.nats {n : Int} {t : Tr} (h : t.Ok n) : ∃ c v : Nat, t.care = c ∧ t.value = v ∧ c < 8 ∧ v < 8 ∧ v &&& c = v ∧ ∀ L : Nat, L < 8 → t.on L = decide (((L &&& c : Nat) : Int) = t.value) := by
  unfold Tr.Ok at h
  obtain ⟨c, hc⟩ : ∃ c : Nat, t.care = c := ⟨t.care.toNat, by omega⟩
  have h7 := h.2.2.2.2.2.2.2
  have h6 := h.2.2.2.2.2.2.1
  obtain ⟨v, hv⟩ : ∃ v : Nat, t.value = v := ⟨t.value.toNat, by omega⟩
  have hb : t.value < 9223372036854775808 := by
    rw [← h7]
    unfold andI
    generalize (BitVec.ofInt IntKind.i64.bits t.value &&& BitVec.ofInt IntKind.i64.bits t.care).toNat = m
    have : IntKind.i64.wrap (m : Int) = if (m : Int) % 18446744073709551616 ≥ 9223372036854775808 then (m : Int) % 18446744073709551616 - 18446744073709551616 else (m : Int) % 18446744073709551616 := by
      simp [IntKind.wrap, IntKind.signed, IntKind.bits]
    rw [this]
    split <;> omega
  rw [hv, hc, i64_and (by omega) (by omega)] at h7
  have h8 : v &&& c = v := by omega
  have h9 := Nat.and_le_right (n := v) (m := c)
  refine ⟨c, v, hc, hv, by omega, by omega, h8, fun L hL => ?_⟩
  rw [Tr.on, hc, i64_and (by omega) (by omega)]
set_option maxHeartbeats 2000000 in
theorem c_FnSimulationStep {h : Heap} {v w : Value} {l m : List (BitVec 8)} (R : Rep h v l) (RM0 : Rep h w m) : CallE Try.prog fn_laws_FnSimulationStep [v, w] h (fun u h' => h.le h' ∧ u = .bool true) := by
  refine CallE.gen fun k hk => EN_laws_FnSimulationStep rfl ?_
  by_cases a1 : (1048576 : Int) < l.length
  · simp -implicitDefEqProofs (disch := first | omega | (simp only [List.length_set, List.length_replicate, List.length_append, List.length_map, List.length_take, List.length_cons, List.length_nil]; omega)) [wrap64, R.len, a1]
    exact RetK.keep (hk _ _ ⟨Heap.le.refl _, rfl⟩)
  by_cases a2 : (1048576 : Int) < m.length
  · simp -implicitDefEqProofs (disch := first | omega | (simp only [List.length_set, List.length_replicate, List.length_append, List.length_map, List.length_take, List.length_cons, List.length_nil]; omega)) [wrap64, R.len, RM0.len, a1, a2]
    exact RetK.keep (hk _ _ ⟨Heap.le.refl _, rfl⟩)
  simp -implicitDefEqProofs (disch := first | omega | (simp only [List.length_set, List.length_replicate, List.length_append, List.length_map, List.length_take, List.length_cons, List.length_nil]; omega)) [wrap64, R.len, RM0.len, a1, a2]
  refine (c_DrawSimulationRelation R).go ?_
  rintro va h1 ⟨a, H, hz⟩
  have FA := H.rep.aAut
  simp -implicitDefEqProofs (disch := first | omega | (simp only [List.length_set, List.length_replicate, List.length_append, List.length_map, List.length_take, List.length_cons, List.length_nil]; omega)) [wrap64, FA, setC]
  refine (c_SimulationRelation H.rep).go ?_
  rintro _ h2 ⟨w1, M, rfl, H2, hM⟩
  have H := H2.app H
  simp -implicitDefEqProofs (disch := first | omega | (simp only [List.length_set, List.length_replicate, List.length_append, List.length_map, List.length_take, List.length_cons, List.length_nil]; omega)) [wrap64, FA]
  refine (c_spec_SimulationRelation H.sw1.rep).go ?_
  rintro _ h3 ⟨w2, M2, rfl, H3, hM2⟩
  have H := H3.app H
  obtain rfl := SimR.fn hM hM2
  have RW := H.rep
  have RM := H.sw1.rep
  have Ra := H.sw2.rep
  have lb := H.base
  have RL := R.on H
  have RN := RM0.on H
  clear H H2 H3 hM2
  have hml := RM.len
  by_cases ha : a.Ok
  case neg =>
    simp -implicitDefEqProofs (disch := first | omega | (simp only [List.length_set, List.length_replicate, List.length_append, List.length_map, List.length_take, List.length_cons, List.length_nil]; omega)) [wrap64, ha, RW.len, RM.len]
    exact RetK.keep (hk _ _ ⟨lb, rfl⟩)
  rcases hM with ⟨h4, _⟩ | ⟨_, h5, h6, hG⟩
  · exact absurd ha h4
  obtain ⟨v1, v2, v3, rfl, R1, R2, R3⟩ := Rep_Aut.1 Ra
  have R1o := R1.one
  have R2o := R2.one
  have R3o := R3.one
  by_cases e0 : a.edges.length = 0
  · have e0' : a.edges = [] := List.length_eq_zero_iff.1 e0
    simp -implicitDefEqProofs (disch := first | omega | (simp only [List.length_set, List.length_replicate, List.length_append, List.length_map, List.length_take, List.length_cons, List.length_nil]; omega)) [wrap64, ha, RW.len, RM.len, R3.len, e0, e0']
    exact RetK.keep (hk _ _ ⟨lb, rfl⟩)
  have e0' : ¬ a.edges = [] := fun e => e0 (by rw [e]; rfl)
  have e0i : ¬ (a.edges.length : Int) = 0 := by omega
  obtain ⟨q, hq⟩ : ∃ q, q = m.length % a.edges.length := ⟨_, rfl⟩
  have hqe : q < a.edges.length := hq ▸ Nat.mod_lt _ (by omega)
  have hq1 : (m.length : Int).tmod a.edges.length = (q : Int) := by rw [hq]; first | exact (Int.ofNat_tmod _ _).symm | simp
  have hq2 : (m.length : Int) % a.edges.length = (q : Int) := by rw [hq]; simp
  obtain ⟨cl, hcl⟩ : ∃ cl, cl = l.length % 8 := ⟨_, rfl⟩
  have hcl1 : (l.length : Int).tmod 8 = (cl : Int) := by rw [hcl]; first | exact (Int.ofNat_tmod _ 8).symm | simp
  have hcl2 : (l.length : Int) % 8 = (cl : Int) := by rw [hcl]; simp
  have hcl8 : cl < 8 := by omega
  obtain ⟨c, vv, hc, hv, hc8, hv8, hvc, hon⟩ := (ha.t hqe).nats
  obtain ⟨f, t, hf, ht, hfn, htn⟩ := ha.tr (List.getElem_mem hqe)
  have hok := R3.okTr hqe
  have hX := RM.X (n := 1) rfl
  have row : ∀ {i : Nat} (hi : i < a.acc.length), ∃ u, hload h3 (some (elp 1 w1 i)) none = some u ∧ ∃ (hm : i < M.length), M[i].length = a.acc.length ∧ Rep h3 u M[i] := fun {i} hi => by
    obtain ⟨u, hu, Ru⟩ := RM.ldL (i := i) (by omega)
    exact ⟨u, hu, by omega, h6 _ (List.getElem_mem _), Ru⟩
  have at_ : ∀ {i j : Nat} (hi : i < a.acc.length) (hj : j < a.acc.length) (hm : i < M.length) (hn : j < M[i].length), M[i][j] = matR M i j := fun hi hj hm hn => (matR_get hm hn).symm
  simp -implicitDefEqProofs (disch := first | omega | (simp only [List.length_set, List.length_replicate, List.length_append, List.length_map, List.length_take, List.length_cons, List.length_nil]; omega)) [wrap64, ha, RW.len, RM.len, R3.len, e0, e0', e0i, RL.len, RN.len, hq1, hq2, R3.xTr, Tr.v, setC, hcl1, hcl2, hc, hv, hf, ht]
  have hsub : (7 : Int) - c = ((7 - c : Nat) : Int) := by omega
  rw [hsub]
  refine (c_wpAnd hcl8 (by omega)).go ?_
  rintro _ h4 ⟨rfl, rfl⟩
  obtain ⟨hL1, hL2⟩ := let_ok cl hcl8 c hc8 vv hv8 hvc
  have hadd : (((cl &&& (7 - c) : Nat) : Int) + vv) = (((cl &&& (7 - c)) + vv : Nat) : Int) := by simp
  obtain ⟨X, hX1⟩ : ∃ X, X = cl &&& (7 - c) := ⟨_, rfl⟩
  rw [← hX1] at hadd hL1 hL2 ⊢
  obtain ⟨L, hL⟩ : ∃ L, L = X + vv := ⟨_, rfl⟩
  have hadd : (X : Int) + vv = L := by omega
  rw [← hL] at hL1 hL2
  have hon' : a.edges[q].on (L : Int) = true := by rw [hon L hL2, hv, hL1]; simp
  simp -implicitDefEqProofs (disch := first | omega | (simp only [List.length_set, List.length_replicate, List.length_append, List.length_map, List.length_take, List.length_cons, List.length_nil]; omega)) [wrap64, hadd]
  refine wp_count a.acc.length (fun j e h' => e = [none, none, none, some (.agg #[v1, v2, v3]), some w1, none, none, none, some (.agg #[.int .i64 f, .int .i64 c, .int .i64 vv, .int .i64 t]), some (.int .i64 L), some (.int .i64 j), none, none, none] ∧ h' = h4) ⟨by simp, rfl⟩ ?_
  rintro J j _ h7 hJ hj ⟨rfl, rfl⟩
  simp -implicitDefEqProofs (disch := first | omega | (simp only [List.length_set, List.length_replicate, List.length_append, List.length_map, List.length_take, List.length_cons, List.length_nil]; omega)) [wrap64, RM.len, h5]
  refine IteW.mk (fun hlt => ?_) (fun hge => ?_)
  · have hjn : j < a.acc.length := by omega
    obtain ⟨u, hu, hm, hul, Ru⟩ := row hfn
    obtain ⟨u3, hu3, hm3, hul3, Ru3⟩ := row htn
    have hfj := at_ hfn hjn hm (by omega)
    cases b1 : (M[f]'hm)[j]'(by omega) with
    | false =>
      simp -implicitDefEqProofs (disch := first | omega | (simp only [List.length_set, List.length_replicate, List.length_append, List.length_map, List.length_take, List.length_cons, List.length_nil]; omega)) [wrap64, hX, hu, h5, Ru.B, hul, b1]
      exact hJ _ _ hjn ⟨by simp, rfl⟩
    | true =>
    simp -implicitDefEqProofs (disch := first | omega | (simp only [List.length_set, List.length_replicate, List.length_append, List.length_map, List.length_take, List.length_cons, List.length_nil]; omega)) [wrap64, hX, hu, h5, Ru.B, hul, b1]
    obtain ⟨P, hP⟩ : ∃ P : Tr → Bool, P = fun g => decide (g.frm = (j : Int)) && (g.on L && matR M t g.to.toNat) := ⟨_, rfl⟩
    refine wp_count a.edges.length (fun k e h' => e = [none, none, none, some (.agg #[v1, v2, v3]), some w1, none, none, none, some (.agg #[.int .i64 f, .int .i64 c, .int .i64 vv, .int .i64 t]), some (.int .i64 L), some (.int .i64 j), some (.bool ((a.edges.take k).any P)), some (.int .i64 k), none] ∧ h' = h7) ⟨by simp, rfl⟩ ?_
    rintro J2 k _ h8 hJ2 hk2 ⟨rfl, rfl⟩
    simp -implicitDefEqProofs (disch := first | omega | (simp only [List.length_set, List.length_replicate, List.length_append, List.length_map, List.length_take, List.length_cons, List.length_nil]; omega)) [wrap64, R3.len]
    refine IteW.mk (fun hlt2 => ?_) (fun hge2 => ?_)
    · have hkx : k < a.edges.length := by omega
      obtain ⟨c', v', hc', hv', hc8', hv8', _, hon2⟩ := (ha.t hkx).nats
      obtain ⟨f', t', hf', ht', hfn', htn'⟩ := ha.tr (List.getElem_mem hkx)
      have hst := any_take (p := P) hkx
      have hPk : P a.edges[k] = (decide (a.edges[k].frm = j) && (decide (((L &&& c' : Nat) : Int) = a.edges[k].value) && matR M t t')) := by
        rw [hP]; simp only; rw [hon2 L hL2, ht', Int.toNat_natCast]
      have htt := at_ htn htn' hm3 (by omega)
      cases b2 : (a.edges.take k).any P with
      | true =>
        rw [b2] at hst
        simp -implicitDefEqProofs (disch := first | omega | (simp only [List.length_set, List.length_replicate, List.length_append, List.length_map, List.length_take, List.length_cons, List.length_nil]; omega)) [wrap64, R3.xTr, Tr.v, setC, b2]
        exact hJ2 _ _ hkx ⟨by rw [hst]; simp, rfl⟩
      | false =>
      rw [b2, hPk] at hst
      by_cases c1 : f' = j
      case neg =>
        have c1i : ¬ (f' : Int) = j := by omega
        simp -implicitDefEqProofs (disch := first | omega | (simp only [List.length_set, List.length_replicate, List.length_append, List.length_map, List.length_take, List.length_cons, List.length_nil]; omega)) [wrap64, R3.xTr, Tr.v, setC, b2, hf', c1, c1i]
        exact hJ2 _ _ hkx ⟨by rw [hst, hf', decide_eq_false c1i]; simp, rfl⟩
      simp -implicitDefEqProofs (disch := first | omega | (simp only [List.length_set, List.length_replicate, List.length_append, List.length_map, List.length_take, List.length_cons, List.length_nil]; omega)) [wrap64, R3.xTr, Tr.v, setC, b2, hf', c1, hc', hv']
      refine (c_wpAnd hL2 hc8').go ?_
      rintro _ h9 ⟨rfl, rfl⟩
      by_cases c2 : L &&& c' = v'
      case neg =>
        have c2i : ¬ ((L &&& c' : Nat) : Int) = v' := by omega
        simp -implicitDefEqProofs (disch := first | omega | (simp only [List.length_set, List.length_replicate, List.length_append, List.length_map, List.length_take, List.length_cons, List.length_nil]; omega)) [wrap64, c2, c2i]
        exact hJ2 _ _ hkx ⟨by rw [hst, hf', hv', decide_eq_false c2i]; simp, rfl⟩
      simp -implicitDefEqProofs (disch := first | omega | (simp only [List.length_set, List.length_replicate, List.length_append, List.length_map, List.length_take, List.length_cons, List.length_nil]; omega)) [wrap64, c2, hX, hu3, h5, setC, ht', Ru3.B, hul3]
      exact hJ2 _ _ hkx ⟨by rw [hst, hf', hv', ← htt]; simp [c1, c2], rfl⟩
    · obtain rfl : k = a.edges.length := by omega
      have hall : (a.edges.take a.edges.length).any P = true := by
        rw [List.take_length, List.any_eq_true]
        obtain ⟨g, hg, g1, g2, g3⟩ := hG.simu.2 f j hfn hjn (by rw [← hfj]; exact b1) L hL2 a.edges[q] (List.getElem_mem hqe) hf hon'
        rw [ht, Int.toNat_natCast] at g3
        exact ⟨g, hg, by rw [hP]; simp [g1, g2, g3]⟩
      rw [hall]
      simp -implicitDefEqProofs (disch := first | omega | (simp only [List.length_set, List.length_replicate, List.length_append, List.length_map, List.length_take, List.length_cons, List.length_nil]; omega)) [wrap64]
      exact hJ _ _ hjn ⟨by simp, rfl⟩
  · simp -implicitDefEqProofs (disch := first | omega | (simp only [List.length_set, List.length_replicate, List.length_append, List.length_map, List.length_take, List.length_cons, List.length_nil]; omega)) [wrap64]
    exact RetK.keep (hk _ _ ⟨lb, rfl⟩)
end Go.Proofs.Ytglnelcmcimljaa
