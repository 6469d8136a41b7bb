/-
  Loads, stores, allocations, appends, copies: what the model does is what the small language says.
-/
import Derived.Test.YtfhjclhchbagnaaG4
import Derived.Laws.Append
import Derived.Laws.Tables
namespace Go.Proofs.Ytfhjclhchbagnaa
open Go
set_option linter.all false
set_option linter.unusedVariables false
set_option linter.unusedSimpArgs false
set_option linter.defProp false

/-- what an operation comes to -/
def UponE (P : Program) (r : Result Next) (R : Value → World → Prop) : Prop :=
  match r with
  | .ok (.value v) w => R v w
  | .ok .skip w => R undef w
  | .ok (.enter f as) w => Calls P f as w fun e w' => ∃ v, e = .returned v ∧ R v w'
  | _ => False

theorem UponE.mono {P : Program} {r : Result Next} {R R' : Value → World → Prop} (h : UponE P r R) (hr : ∀ v w, R v w → R' v w) : UponE P r R' := by
  unfold UponE at *
  split at h
  · exact hr _ _ h
  · exact hr _ _ h
  · exact Calls.mono h fun e w' ⟨v, he, hv⟩ => ⟨v, he, hr _ _ hv⟩
  · exact h.elim

theorem Landed.upon {P : Program} {r : Result Next} {R : Value → World → Prop} (h : Landed P r fun e w' => ∃ v, e = .returned v ∧ R v w') : UponE P r R := by
  unfold Landed at h
  split at h
  · exact h
  · obtain ⟨v, he, hv⟩ := h
    simp only [Ending.returned.injEq] at he
    subst he
    exact hv
  · exact h.elim

namespace Frm
theorem refl (h : Heap) (w : World) : Frm h w h w := ⟨rfl, rfl, rfl, Nat.le_refl _, fun _ _ _ => rfl, fun _ _ hb => hb⟩
theorem trans {h h1 h2 : Heap} {w w1 w2 : World} (a : Frm h w h1 w1) (b : Frm h1 w1 h2 w2) : Frm h w h2 w2 where
  tape := b.tape.trans a.tape
  os := b.os.trans a.os
  output := b.output.trans a.output
  size := Nat.le_trans a.size b.size
  keep x hx hn := (b.keep x (Nat.lt_of_lt_of_le hx a.size) (a.fresh x hx hn)).trans (a.keep x hx hn)
  fresh x hx hn := b.fresh x (Nat.lt_of_lt_of_le hx a.size) (a.fresh x hx hn)
end Frm

theorem sub_fresh {h : Heap} {w : World} (hs : h.sub w) : h w.heap.size = none := by
  cases hh : h w.heap.size with
  | none => rfl
  | some o => have := hs _ _ hh; simp at this

theorem alloc_last (w : World) (o : Obj) : (w.alloc o).heap[w.heap.size]? = some o := by
  show (w.heap.push o)[w.heap.size]? = some o
  simp
theorem alloc_old (w : World) (o : Obj) {b : Nat} (hb : b < w.heap.size) : (w.alloc o).heap[b]? = w.heap[b]? := by
  show (w.heap.push o)[b]? = w.heap[b]?
  rw [Array.getElem?_push_lt hb]; exact (Array.getElem?_eq_getElem hb).symm
theorem alloc_size (w : World) (o : Obj) : (w.alloc o).heap.size = w.heap.size + 1 := by
  show (w.heap.push o).size = w.heap.size + 1
  simp

theorem sub_new {h : Heap} {w : World} (hs : h.sub w) (o : Obj) : (h.set w.heap.size o).sub (w.alloc o) := by
  intro b o' hb
  unfold Heap.set at hb
  split at hb
  · rename_i hbb; subst hbb; simp only [Option.some.injEq] at hb; subst hb; exact alloc_last w o
  · rename_i hne
    have := hs _ _ hb
    have hlt : b < w.heap.size := (Array.getElem?_eq_some_iff.1 this).1
    rw [alloc_old w o hlt]
    exact this

theorem frm_new {h : Heap} {w : World} (o : Obj) : Frm h w (h.set w.heap.size o) (w.alloc o) where
  tape := rfl
  os := rfl
  output := rfl
  size := by rw [alloc_size]; omega
  keep b hb _ := alloc_old w o hb
  fresh b hb hn := by unfold Heap.set; rw [if_neg (by omega)]; exact hn

theorem hcell_sub {h : Heap} {w : World} (hs : h.sub w) {b off : Nat} {v : Value} (hc : hcell h b off = some v) : w.cell? ⟨b, off, none⟩ = some v := by
  unfold hcell at hc
  split at hc
  · rename_i c el fr hb
    simp [World.cell?, hs _ _ hb, hc]
  · simp at hc

theorem hcells_get : ∀ {n : Nat} {h : Heap} {b off : Nat} {l : List Value}, hcells h b off n = some l → l.length = n ∧ ∀ j v, l[j]? = some v → hcell h b (off + j) = some v
  | 0, h, b, off, l, hh => by simp [hcells] at hh; subst hh; simp
  | n + 1, h, b, off, l, hh => by
    simp only [hcells] at hh
    split at hh
    · rename_i v r hv hr
      simp only [Option.some.injEq] at hh
      subst hh
      obtain ⟨h1, h2⟩ := hcells_get hr
      refine ⟨by simp [h1], ?_⟩
      intro j u hj
      cases j with
      | zero => simp at hj; subst hj; simpa using hv
      | succ j =>
        simp at hj
        have := h2 j u hj
        rwa [show off + (j + 1) = off + 1 + j by omega]
    · simp at hh

section
variable {P : Program}

theorem addr_add0 (b off j : Nat) : (⟨b, off, none⟩ : Addr).add j = ⟨b, off + j, none⟩ := by
  unfold Addr.add
  split
  · rename_i h; subst h; rfl
  · rfl

theorem loadCells_run {h : Heap} {w : World} (hs : h.sub w) {b off n : Nat} {l : List Value} (hh : hcells h b off n = some l) : (loadCells ⟨b, off, none⟩ n).run P w = .ok l.toArray w := by
  obtain ⟨h1, h2⟩ := hcells_get hh
  subst h1
  exact run_loadCells_list w _ l fun j v hj => by rw [addr_add0]; exact hcell_sub hs (h2 j v hj)

theorem hload_run {h : Heap} {w : World} (hs : h.sub w) {t : TypeId} {s : Option Nat} (ht : szT P t = some s) {p v : Value} (hh : hload h (some p) s = some v) : (Instr.loadAt t p).run P w = .ok v w := by
  have hsz := szT_spec ht
  unfold hload at hh
  split at hh
  · rename_i b off hp
    simp only [Option.some.injEq] at hp
    subst hp
    cases s with
    | none =>
      simp only at hh hsz
      simp [Instr.loadAt, Instr.sureAddr, loadVar, hsz w, hcell_sub hs hh]
    | some n =>
      simp only [Option.map_eq_some_iff] at hh hsz
      obtain ⟨l, hl, rfl⟩ := hh
      simp [Instr.loadAt, Instr.sureAddr, loadVar, hsz.1 w, hsz.2 w, loadCells_run hs hl]
  · simp at hh

theorem hstore_run {h h' : Heap} {w : World} (hs : h.sub w) {b off : Nat} {vs : List Value} (hh : hstore h b off vs = some h') :
    ∃ w', (storeCells ⟨b, off, none⟩ vs).run P w = .ok () w' ∧ h'.sub w' ∧ Frm h w h' w' := by
  unfold hstore at hh
  split at hh
  · rename_i c el fr hb
    split at hh
    · rename_i hc
      obtain ⟨rfl, hle, hall⟩ := hc
      simp only [Option.some.injEq] at hh
      subst hh
      have hg := hs _ _ hb
      have hlt : b < w.heap.size := (Array.getElem?_eq_some_iff.1 hg).1
      refine ⟨_, run_storeCells_at (P := P) b off el vs 0 c w hg (by omega) (fun v hv => by simpa using List.all_eq_true.1 hall v hv), ?_, ?_⟩
      · intro b' o' hb'
        unfold Heap.set at hb'
        split at hb'
        · rename_i hbb; subst hbb
          simp only [Option.some.injEq] at hb'; subst hb'
          rw [setRow_heap w b' c _ el (0, 0) hg]
          simp [setC]
        · rename_i hne
          rw [setRow_other w b b' _ hne]
          exact hs _ _ hb'
      · refine ⟨rfl, rfl, rfl, by simp, ?_, ?_⟩
        · intro b' hb' hn
          have hne : b' ≠ b := fun he => by subst he; rw [hb] at hn; simp at hn
          exact setRow_other w b b' _ hne
        · intro b' hb' hn
          have hne : b' ≠ b := fun he => by subst he; rw [hb] at hn; simp at hn
          unfold Heap.set; rw [if_neg hne]; exact hn
    · simp at hh
  · simp at hh

/-- the source of an append or a copy -/
structure SrcW (P : Program) (w : World) (esz : Nat) (x : Value) (n : Nat) (cs : List Value) : Prop where
  len : ∀ w, (Builtin.lenOf x).run P w = .ok n w
  size : cs.length = n * esz
  cells : ∀ m ≤ n, ∀ w', w'.heap = w.heap → (Builtin.firstCells esz m x).run P w' = .ok (cs.take (m * esz)).toArray w'

theorem loadCells_heap {w : World} {b off : Nat} {l : List Value} (hl : ∀ j v, l[j]? = some v → w.cell? ⟨b, off + j, none⟩ = some v) {w' : World} (hw : w'.heap = w.heap) {n : Nat} (hn : n ≤ l.length) :
    (loadCells ⟨b, off, none⟩ n).run P w' = .ok (l.take n).toArray w' := by
  have hlen : (l.take n).length = n := by simp [Nat.min_eq_left hn]
  have := run_loadCells_list (P := P) w' ⟨b, off, none⟩ (l.take n) (fun j v hj => by
    rw [addr_add0]
    have : w'.cell? ⟨b, off + j, none⟩ = w.cell? ⟨b, off + j, none⟩ := by simp [World.cell?, hw]
    rw [this]
    refine hl j v ?_
    rw [List.getElem?_take] at hj
    split at hj
    · exact hj
    · simp at hj)
  rwa [hlen] at this

theorem SrcW.of_cells {w : World} {b off esz n cap : Nat} {l : List Value} (hsz : l.length = n * esz) (hl : ∀ j v, l[j]? = some v → w.cell? ⟨b, off + j, none⟩ = some v) :
    SrcW P w esz (.slice (some ⟨b, off, none⟩) n cap) n l where
  len w := by simp [Builtin.lenOf]
  size := hsz
  cells m hm w' hw := by
    simp only [Builtin.firstCells]
    exact loadCells_heap hl hw (by rw [hsz]; exact Nat.mul_le_mul_right _ hm)

theorem srcV_run {h : Heap} {w : World} (hs : h.sub w) {esz : Nat} {x : Value} {n : Nat} {cs : List Value} (hh : srcV h esz (some x) = some (n, cs)) :
    SrcW P w esz x n cs := by
  unfold srcV at hh
  split at hh
  · rename_i p c hx
    simp only [Option.some.injEq, Prod.mk.injEq] at hx hh
    obtain ⟨rfl, rfl⟩ := hh
    subst hx
    refine ⟨fun w => by simp [Builtin.lenOf], by simp, fun m hm w' _ => ?_⟩
    have hm0 : m = 0 := by omega
    subst hm0
    cases p with
    | none => simp [Builtin.firstCells]
    | some a =>
      have := run_loadCells_list (P := P) w' a [] (by simp)
      simpa [Builtin.firstCells] using this
  · rename_i b off m c hx
    simp only [Option.some.injEq, Option.map_eq_some_iff, Prod.mk.injEq] at hx hh
    obtain ⟨l, hl, rfl, rfl⟩ := hh
    subst hx
    obtain ⟨h1, h2⟩ := hcells_get hl
    exact SrcW.of_cells h1 fun j v hj => hcell_sub hs (h2 j v hj)
  · rename_i s hx
    split at hh
    case isFalse => simp at hh
    rename_i he
    subst he
    simp only [Option.some.injEq, Prod.mk.injEq] at hx hh
    obtain ⟨rfl, rfl⟩ := hh
    subst hx
    refine ⟨fun w => by simp [Builtin.lenOf], by simp, ?_⟩
    intro m hm w' _
    simp only [Builtin.firstCells, Sem.run_pure, Nat.mul_one]
    congr 1
    apply Array.ext'
    simp [ByteArray.extract, ByteArray.copySlice]
  · simp at hh

end
end Go.Proofs.Ytfhjclhchbagnaa
