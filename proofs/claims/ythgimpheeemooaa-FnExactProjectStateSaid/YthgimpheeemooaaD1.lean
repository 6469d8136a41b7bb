/-
  The program's data: how they lie in cells, how much they hold, how they are marked. Printed by a program.
-/
import Derived.Test.YthgimpheeemooaaGD
namespace Go.Proofs.Ythgimpheeemooaa
open Go
set_option linter.all false
set_option linter.unusedVariables false
set_option linter.unusedSimpArgs false
set_option linter.defProp false
set_option maxRecDepth 1000000

structure Tr where
  frm : Int
  care : Int
  value : Int
  to : Int
deriving DecidableEq

instance instTyTr : Ty Tr := Ty.via fun (t : Tr) => (t.frm, t.care, t.value, t.to)
theorem Tr.ext_iff' {a b : Tr} : a = b ↔ a.frm = b.frm ∧ a.care = b.care ∧ a.value = b.value ∧ a.to = b.to := by
  cases a; cases b; simp
instance instFlatTr : Flat Tr := Flat.via fun (t : Tr) => (t.frm, t.care, t.value, t.to)
def Tr.v (t : Tr) : Value := .agg #[.int .i64 t.frm, .int .i64 t.care, .int .i64 t.value, .int .i64 t.to]
structure Tr.ok (t : Tr) : Prop where
  frm : -9223372036854775808 ≤ t.frm ∧ t.frm < 9223372036854775808
  care : -9223372036854775808 ≤ t.care ∧ t.care < 9223372036854775808
  value : -9223372036854775808 ≤ t.value ∧ t.value < 9223372036854775808
  to : -9223372036854775808 ≤ t.to ∧ t.to < 9223372036854775808
theorem Tr.ok_iff {t : Tr} : Flat.ok t ↔ t.ok := ⟨fun h => ⟨h.1, h.2.1, h.2.2.1, h.2.2.2⟩, fun h => ⟨h.frm, h.care, h.value, h.to⟩⟩
theorem Rep_Tr {h : Heap} {v : Value} {t : Tr} : Rep h v t ↔ v = t.v ∧ t.ok := by rw [Rep_flat, Tr.ok_iff]; rfl
theorem Own_Tr {h : Heap} {v : Value} {t : Tr} : Own h v t ↔ h = Heap.nil ∧ v = t.v ∧ t.ok := by rw [Own_flat, Tr.ok_iff]; rfl
theorem Rep.ldTr {h : Heap} {v : Value} {l : List Tr} (hr : Rep h v l) {i : Nat} (hi : i < l.length) : hload h (some (elp 4 v i)) (some 4) = some l[i].v := hr.ldF hi
theorem Rep.okTr {h : Heap} {v : Value} {l : List Tr} (hr : Rep h v l) {i : Nat} (hi : i < l.length) : l[i].ok := Tr.ok_iff.1 (hr.okF hi)
theorem Rep.xTr {h : Heap} {v : Value} {l : List Tr} (hr : Rep h v l) : ((∀ (kd : IntKind) (i : Nat), i < l.length → iaV 4 v (.int kd i) = some (elp 4 v i)) ∧ (∀ (kd : IntKind) (i : Int), 0 ≤ i → i < l.length → iaV 4 v (.int kd i) = some (elp 4 v i.toNat)) ∧ lenVV v = some (.int .i64 l.length)) ∧
    ∀ (i : Nat) (hi : i < l.length), hload h (some (elp 4 v i)) (some 4) = some l[i].v := ⟨hr.X rfl, fun _ hi => hr.ldTr hi⟩
theorem Rep.fTr {h : Heap} {v : Value} {l : List Tr} (hr : Rep h v l) : (∀ (i fo : Nat), i < l.length → faV fo (elp 4 v i) = some (elpo 4 v i fo)) ∧ (∀ (i : Nat) (hi : i < l.length), hload h (some (elpo 4 v i 0)) none = some (.int .i64 l[i].frm)) ∧ (∀ (i : Nat) (hi : i < l.length), hload h (some (elpo 4 v i 1)) none = some (.int .i64 l[i].care)) ∧ (∀ (i : Nat) (hi : i < l.length), hload h (some (elpo 4 v i 2)) none = some (.int .i64 l[i].value)) ∧ (∀ (i : Nat) (hi : i < l.length), hload h (some (elpo 4 v i 3)) none = some (.int .i64 l[i].to)) := ⟨fun _ _ hi => hr.fa hi, fun _ hi => hr.fld hi rfl rfl, fun _ hi => hr.fld hi rfl rfl, fun _ hi => hr.fld hi rfl rfl, fun _ hi => hr.fld hi rfl rfl⟩
theorem Rep.aTr {h : Heap} {v : Value} {x : Tr} (hr : Rep h v x) : pgetV (some v) 0 (some 4) = some v ∧ v.cells.size = 4 ∧ allOne v.cells.toList = true ∧ Value.agg v.cells = v := hr.A rfl rfl
instance instSzTr : Sz Tr := ⟨fun a => Sz.sz a.frm + Sz.sz a.care + Sz.sz a.value + Sz.sz a.to⟩
instance instMkTr : Mk Tr := ⟨fun a => Mk.cnt a.frm + Mk.cnt a.care + Mk.cnt a.value + Mk.cnt a.to,
  fun k a => ⟨Mk.wr (k) a.frm, Mk.wr (k + Mk.cnt a.frm) a.care, Mk.wr (k + Mk.cnt a.frm + Mk.cnt a.care) a.value, Mk.wr (k + Mk.cnt a.frm + Mk.cnt a.care + Mk.cnt a.value) a.to⟩,
  fun k a => by simp [Mk.cnt_wr], fun k j a => by simp [Mk.cnt_wr, Mk.wr_wr]⟩

structure Aut where
  init : List Int
  acc : List Bool
  edges : List Tr
deriving DecidableEq

instance instTyAut : Ty Aut := Ty.via fun (a : Aut) => (a.init, a.acc, a.edges)
theorem Aut.ext_iff' {a b : Aut} : a = b ↔ a.init = b.init ∧ a.acc = b.acc ∧ a.edges = b.edges := by
  cases a; cases b; simp
theorem Rep_Aut {h : Heap} {v : Value} {a : Aut} : Rep h v a ↔ ∃ v1 v2 v3, v = .agg #[v1, v2, v3] ∧ Rep h v1 a.init ∧ Rep h v2 a.acc ∧ Rep h v3 a.edges := by
  constructor
  · rintro ⟨cs, rfl, c0, d0, rfl, h1, c1, d1, rfl, h2, h3⟩
    obtain ⟨v1, rfl, g1⟩ := (rep1 rfl).1 h1
    obtain ⟨v2, rfl, g2⟩ := (rep1 rfl).1 h2
    obtain ⟨v3, rfl, g3⟩ := (rep1 rfl).1 h3
    exact ⟨v1, v2, v3, rfl, g1, g2, g3⟩
  · rintro ⟨v1, v2, v3, rfl, h1, h2, h3⟩
    exact ⟨[v1, v2, v3], rfl, ⟨[v1], [v2, v3], rfl, (rep1 rfl).2 ⟨_, rfl, h1⟩, ⟨[v2], [v3], rfl, (rep1 rfl).2 ⟨_, rfl, h2⟩, (rep1 rfl).2 ⟨_, rfl, h3⟩⟩⟩⟩
theorem HS.unAut {g h : Heap} {Γ : List HP} {v : Value} {a : Aut} (H : HS g (ow v a :: Γ) h) : ∃ v1 v2 v3, v = .agg #[v1, v2, v3] ∧ HS g (ow v1 a.init :: ow v2 a.acc :: ow v3 a.edges :: Γ) h := by
  obtain ⟨cs, rfl, H0⟩ := HS.unvia (fun (a : Aut) => (a.init, a.acc, a.edges)) H
  try dsimp only at H0
  obtain ⟨c0, e0, rfl, H1a⟩ := HS.unprod H0
  obtain ⟨v1, rfl, H1b⟩ := HS.unone rfl H1a
  have H1 := H1b.sw1
  obtain ⟨c1, e1, rfl, H2a⟩ := HS.unprod H1
  obtain ⟨v2, rfl, H2b⟩ := HS.unone rfl H2a
  have H2 := H2b.sw1
  obtain ⟨v3, rfl, HL⟩ := HS.unone rfl H2
  exact ⟨v1, v2, v3, rfl, HL.sw1.sw2⟩
theorem HS.mkAut {g h : Heap} {Γ : List HP} {v1 v2 v3 : Value} {a : Aut} (H : HS g (ow v1 a.init :: ow v2 a.acc :: ow v3 a.edges :: Γ) h) : HS g (ow (.agg #[v1, v2, v3]) a :: Γ) h := by
  refine HS.via (fun (a : Aut) => (a.init, a.acc, a.edges)) ?_
  exact HS.prod rfl (H.under fun _ H => HS.prod rfl (H.under fun _ H => HS.one rfl H))
theorem Rep.aAut {h : Heap} {v : Value} {x : Aut} (hr : Rep h v x) : pgetV (some v) 0 (some 3) = some v ∧ v.cells.size = 3 ∧ allOne v.cells.toList = true ∧ Value.agg v.cells = v := hr.A rfl rfl
instance instSzAut : Sz Aut := ⟨fun a => Sz.sz a.init + Sz.sz a.acc + Sz.sz a.edges⟩
instance instMkAut : Mk Aut := ⟨fun a => Mk.cnt a.init + Mk.cnt a.acc + Mk.cnt a.edges,
  fun k a => ⟨Mk.wr (k) a.init, Mk.wr (k + Mk.cnt a.init) a.acc, Mk.wr (k + Mk.cnt a.init + Mk.cnt a.acc) a.edges⟩,
  fun k a => by simp [Mk.cnt_wr], fun k j a => by simp [Mk.cnt_wr, Mk.wr_wr]⟩

structure Las where
  stem : List Int
  loop : List Int
deriving DecidableEq

instance instTyLas : Ty Las := Ty.via fun (l : Las) => (l.stem, l.loop)
theorem Las.ext_iff' {a b : Las} : a = b ↔ a.stem = b.stem ∧ a.loop = b.loop := by
  cases a; cases b; simp
theorem Rep_Las {h : Heap} {v : Value} {a : Las} : Rep h v a ↔ ∃ v1 v2, v = .agg #[v1, v2] ∧ Rep h v1 a.stem ∧ Rep h v2 a.loop := by
  constructor
  · rintro ⟨cs, rfl, c0, d0, rfl, h1, h2⟩
    obtain ⟨v1, rfl, g1⟩ := (rep1 rfl).1 h1
    obtain ⟨v2, rfl, g2⟩ := (rep1 rfl).1 h2
    exact ⟨v1, v2, rfl, g1, g2⟩
  · rintro ⟨v1, v2, rfl, h1, h2⟩
    exact ⟨[v1, v2], rfl, ⟨[v1], [v2], rfl, (rep1 rfl).2 ⟨_, rfl, h1⟩, (rep1 rfl).2 ⟨_, rfl, h2⟩⟩⟩
theorem HS.unLas {g h : Heap} {Γ : List HP} {v : Value} {a : Las} (H : HS g (ow v a :: Γ) h) : ∃ v1 v2, v = .agg #[v1, v2] ∧ HS g (ow v1 a.stem :: ow v2 a.loop :: Γ) h := by
  obtain ⟨cs, rfl, H0⟩ := HS.unvia (fun (l : Las) => (l.stem, l.loop)) H
  try dsimp only at H0
  obtain ⟨c0, e0, rfl, H1a⟩ := HS.unprod H0
  obtain ⟨v1, rfl, H1b⟩ := HS.unone rfl H1a
  have H1 := H1b.sw1
  obtain ⟨v2, rfl, HL⟩ := HS.unone rfl H1
  exact ⟨v1, v2, rfl, HL.sw1⟩
theorem HS.mkLas {g h : Heap} {Γ : List HP} {v1 v2 : Value} {a : Las} (H : HS g (ow v1 a.stem :: ow v2 a.loop :: Γ) h) : HS g (ow (.agg #[v1, v2]) a :: Γ) h := by
  refine HS.via (fun (l : Las) => (l.stem, l.loop)) ?_
  exact HS.prod rfl (H.under fun _ H => HS.one rfl H)
theorem Rep.aLas {h : Heap} {v : Value} {x : Las} (hr : Rep h v x) : pgetV (some v) 0 (some 2) = some v ∧ v.cells.size = 2 ∧ allOne v.cells.toList = true ∧ Value.agg v.cells = v := hr.A rfl rfl
instance instSzLas : Sz Las := ⟨fun a => Sz.sz a.stem + Sz.sz a.loop⟩
instance instMkLas : Mk Las := ⟨fun a => Mk.cnt a.stem + Mk.cnt a.loop,
  fun k a => ⟨Mk.wr (k) a.stem, Mk.wr (k + Mk.cnt a.stem) a.loop⟩,
  fun k a => by simp [Mk.cnt_wr], fun k j a => by simp [Mk.cnt_wr, Mk.wr_wr]⟩

end Go.Proofs.Ythgimpheeemooaa
