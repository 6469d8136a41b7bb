/-
  The program's data: how they lie in cells, how much they hold, how they are marked. Printed by a program.
-/
import Derived.Test.YthgimpheeemooaaGreatGD
namespace Go.Proofs.YthgimpheeemooaaGreat
open Go
set_option linter.all false
set_option linter.unusedVariables false
set_option linter.unusedSimpArgs false
set_option linter.defProp false
set_option maxRecDepth 1000000

structure Sta where
  locs : List Int
  vals : List Int
deriving DecidableEq

instance instTySta : Ty Sta := Ty.via fun (s : Sta) => (s.locs, s.vals)
theorem Sta.ext_iff' {a b : Sta} : a = b ↔ a.locs = b.locs ∧ a.vals = b.vals := by
  cases a; cases b; simp
theorem Rep_Sta {h : Heap} {v : Value} {a : Sta} : Rep h v a ↔ ∃ v1 v2, v = .agg #[v1, v2] ∧ Rep h v1 a.locs ∧ Rep h v2 a.vals := by
  constructor
  · rintro ⟨cs, rfl, c0, d0, rfl, h1, h2⟩
    obtain ⟨v1, rfl, g1⟩ := (rep1 rfl).1 h1
    obtain ⟨v2, rfl, g2⟩ := (rep1 rfl).1 h2
    exact ⟨v1, v2, rfl, g1, g2⟩
  · rintro ⟨v1, v2, rfl, h1, h2⟩
    exact ⟨[v1, v2], rfl, ⟨[v1], [v2], rfl, (rep1 rfl).2 ⟨_, rfl, h1⟩, (rep1 rfl).2 ⟨_, rfl, h2⟩⟩⟩
theorem HS.unSta {g h : Heap} {Γ : List HP} {v : Value} {a : Sta} (H : HS g (ow v a :: Γ) h) : ∃ v1 v2, v = .agg #[v1, v2] ∧ HS g (ow v1 a.locs :: ow v2 a.vals :: Γ) h := by
  obtain ⟨cs, rfl, H0⟩ := HS.unvia (fun (s : Sta) => (s.locs, s.vals)) H
  try dsimp only at H0
  obtain ⟨c0, e0, rfl, H1a⟩ := HS.unprod H0
  obtain ⟨v1, rfl, H1b⟩ := HS.unone rfl H1a
  have H1 := H1b.sw1
  obtain ⟨v2, rfl, HL⟩ := HS.unone rfl H1
  exact ⟨v1, v2, rfl, HL.sw1⟩
theorem HS.mkSta {g h : Heap} {Γ : List HP} {v1 v2 : Value} {a : Sta} (H : HS g (ow v1 a.locs :: ow v2 a.vals :: Γ) h) : HS g (ow (.agg #[v1, v2]) a :: Γ) h := by
  refine HS.via (fun (s : Sta) => (s.locs, s.vals)) ?_
  exact HS.prod rfl (H.under fun _ H => HS.one rfl H)
theorem Rep.aSta {h : Heap} {v : Value} {x : Sta} (hr : Rep h v x) : pgetV (some v) 0 (some 2) = some v ∧ v.cells.size = 2 ∧ allOne v.cells.toList = true ∧ Value.agg v.cells = v := hr.A rfl rfl
instance instSzSta : Sz Sta := ⟨fun a => Sz.sz a.locs + Sz.sz a.vals⟩
instance instMkSta : Mk Sta := ⟨fun a => Mk.cnt a.locs + Mk.cnt a.vals,
  fun k a => ⟨Mk.wr (k) a.locs, Mk.wr (k + Mk.cnt a.locs) a.vals⟩,
  fun k a => by simp [Mk.cnt_wr], fun k j a => by simp [Mk.cnt_wr, Mk.wr_wr]⟩

structure Gr where
  states : List Sta
  next : List (List Int)
deriving DecidableEq

instance instTyGr : Ty Gr := Ty.via fun (g : Gr) => (g.states, g.next)
theorem Gr.ext_iff' {a b : Gr} : a = b ↔ a.states = b.states ∧ a.next = b.next := by
  cases a; cases b; simp
theorem Rep_Gr {h : Heap} {v : Value} {a : Gr} : Rep h v a ↔ ∃ v1 v2, v = .agg #[v1, v2] ∧ Rep h v1 a.states ∧ Rep h v2 a.next := by
  constructor
  · rintro ⟨cs, rfl, c0, d0, rfl, h1, h2⟩
    obtain ⟨v1, rfl, g1⟩ := (rep1 rfl).1 h1
    obtain ⟨v2, rfl, g2⟩ := (rep1 rfl).1 h2
    exact ⟨v1, v2, rfl, g1, g2⟩
  · rintro ⟨v1, v2, rfl, h1, h2⟩
    exact ⟨[v1, v2], rfl, ⟨[v1], [v2], rfl, (rep1 rfl).2 ⟨_, rfl, h1⟩, (rep1 rfl).2 ⟨_, rfl, h2⟩⟩⟩
theorem HS.unGr {g h : Heap} {Γ : List HP} {v : Value} {a : Gr} (H : HS g (ow v a :: Γ) h) : ∃ v1 v2, v = .agg #[v1, v2] ∧ HS g (ow v1 a.states :: ow v2 a.next :: Γ) h := by
  obtain ⟨cs, rfl, H0⟩ := HS.unvia (fun (g : Gr) => (g.states, g.next)) H
  try dsimp only at H0
  obtain ⟨c0, e0, rfl, H1a⟩ := HS.unprod H0
  obtain ⟨v1, rfl, H1b⟩ := HS.unone rfl H1a
  have H1 := H1b.sw1
  obtain ⟨v2, rfl, HL⟩ := HS.unone rfl H1
  exact ⟨v1, v2, rfl, HL.sw1⟩
theorem HS.mkGr {g h : Heap} {Γ : List HP} {v1 v2 : Value} {a : Gr} (H : HS g (ow v1 a.states :: ow v2 a.next :: Γ) h) : HS g (ow (.agg #[v1, v2]) a :: Γ) h := by
  refine HS.via (fun (g : Gr) => (g.states, g.next)) ?_
  exact HS.prod rfl (H.under fun _ H => HS.one rfl H)
theorem Rep.aGr {h : Heap} {v : Value} {x : Gr} (hr : Rep h v x) : pgetV (some v) 0 (some 2) = some v ∧ v.cells.size = 2 ∧ allOne v.cells.toList = true ∧ Value.agg v.cells = v := hr.A rfl rfl
instance instSzGr : Sz Gr := ⟨fun a => Sz.sz a.states + Sz.sz a.next⟩
instance instMkGr : Mk Gr := ⟨fun a => Mk.cnt a.states + Mk.cnt a.next,
  fun k a => ⟨Mk.wr (k) a.states, Mk.wr (k + Mk.cnt a.states) a.next⟩,
  fun k a => by simp [Mk.cnt_wr], fun k j a => by simp [Mk.cnt_wr, Mk.wr_wr]⟩

structure Stp where
  proc : Int
  edge : Int
  partner : Int
  pedge : Int
deriving DecidableEq

instance instTyStp : Ty Stp := Ty.via fun (s : Stp) => (s.proc, s.edge, s.partner, s.pedge)
theorem Stp.ext_iff' {a b : Stp} : a = b ↔ a.proc = b.proc ∧ a.edge = b.edge ∧ a.partner = b.partner ∧ a.pedge = b.pedge := by
  cases a; cases b; simp
instance instFlatStp : Flat Stp := Flat.via fun (s : Stp) => (s.proc, s.edge, s.partner, s.pedge)
def Stp.v (s : Stp) : Value := .agg #[.int .i64 s.proc, .int .i64 s.edge, .int .i64 s.partner, .int .i64 s.pedge]
structure Stp.ok (s : Stp) : Prop where
  proc : -9223372036854775808 ≤ s.proc ∧ s.proc < 9223372036854775808
  edge : -9223372036854775808 ≤ s.edge ∧ s.edge < 9223372036854775808
  partner : -9223372036854775808 ≤ s.partner ∧ s.partner < 9223372036854775808
  pedge : -9223372036854775808 ≤ s.pedge ∧ s.pedge < 9223372036854775808
theorem Stp.ok_iff {s : Stp} : Flat.ok s ↔ s.ok := ⟨fun h => ⟨h.1, h.2.1, h.2.2.1, h.2.2.2⟩, fun h => ⟨h.proc, h.edge, h.partner, h.pedge⟩⟩
theorem Rep_Stp {h : Heap} {v : Value} {s : Stp} : Rep h v s ↔ v = s.v ∧ s.ok := by rw [Rep_flat, Stp.ok_iff]; rfl
theorem Own_Stp {h : Heap} {v : Value} {s : Stp} : Own h v s ↔ h = Heap.nil ∧ v = s.v ∧ s.ok := by rw [Own_flat, Stp.ok_iff]; rfl
theorem Rep.ldStp {h : Heap} {v : Value} {l : List Stp} (hr : Rep h v l) {i : Nat} (hi : i < l.length) : hload h (some (elp 4 v i)) (some 4) = some l[i].v := hr.ldF hi
theorem Rep.okStp {h : Heap} {v : Value} {l : List Stp} (hr : Rep h v l) {i : Nat} (hi : i < l.length) : l[i].ok := Stp.ok_iff.1 (hr.okF hi)
theorem Rep.xStp {h : Heap} {v : Value} {l : List Stp} (hr : Rep h v l) : ((∀ (kd : IntKind) (i : Nat), i < l.length → iaV 4 v (.int kd i) = some (elp 4 v i)) ∧ (∀ (kd : IntKind) (i : Int), 0 ≤ i → i < l.length → iaV 4 v (.int kd i) = some (elp 4 v i.toNat)) ∧ lenVV v = some (.int .i64 l.length)) ∧
    ∀ (i : Nat) (hi : i < l.length), hload h (some (elp 4 v i)) (some 4) = some l[i].v := ⟨hr.X rfl, fun _ hi => hr.ldStp hi⟩
theorem Rep.fStp {h : Heap} {v : Value} {l : List Stp} (hr : Rep h v l) : (∀ (i fo : Nat), i < l.length → faV fo (elp 4 v i) = some (elpo 4 v i fo)) ∧ (∀ (i : Nat) (hi : i < l.length), hload h (some (elpo 4 v i 0)) none = some (.int .i64 l[i].proc)) ∧ (∀ (i : Nat) (hi : i < l.length), hload h (some (elpo 4 v i 1)) none = some (.int .i64 l[i].edge)) ∧ (∀ (i : Nat) (hi : i < l.length), hload h (some (elpo 4 v i 2)) none = some (.int .i64 l[i].partner)) ∧ (∀ (i : Nat) (hi : i < l.length), hload h (some (elpo 4 v i 3)) none = some (.int .i64 l[i].pedge)) := ⟨fun _ _ hi => hr.fa hi, fun _ hi => hr.fld hi rfl rfl, fun _ hi => hr.fld hi rfl rfl, fun _ hi => hr.fld hi rfl rfl, fun _ hi => hr.fld hi rfl rfl⟩
theorem Rep.aStp {h : Heap} {v : Value} {x : Stp} (hr : Rep h v x) : pgetV (some v) 0 (some 4) = some v ∧ v.cells.size = 4 ∧ allOne v.cells.toList = true ∧ Value.agg v.cells = v := hr.A rfl rfl
instance instSzStp : Sz Stp := ⟨fun a => Sz.sz a.proc + Sz.sz a.edge + Sz.sz a.partner + Sz.sz a.pedge⟩
instance instMkStp : Mk Stp := ⟨fun a => Mk.cnt a.proc + Mk.cnt a.edge + Mk.cnt a.partner + Mk.cnt a.pedge,
  fun k a => ⟨Mk.wr (k) a.proc, Mk.wr (k + Mk.cnt a.proc) a.edge, Mk.wr (k + Mk.cnt a.proc + Mk.cnt a.edge) a.partner, Mk.wr (k + Mk.cnt a.proc + Mk.cnt a.edge + Mk.cnt a.partner) a.pedge⟩,
  fun k a => by simp [Mk.cnt_wr], fun k j a => by simp [Mk.cnt_wr, Mk.wr_wr]⟩

end Go.Proofs.YthgimpheeemooaaGreat
