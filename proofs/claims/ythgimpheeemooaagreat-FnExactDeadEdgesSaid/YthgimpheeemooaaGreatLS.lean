/-
  Steps in plain Lean: which are enabled, and what they lead to.
-/
import Derived.Test.YthgimpheeemooaaGreatE8
namespace Go.Proofs.YthgimpheeemooaaGreat
open Go
set_option linter.all false
set_option linter.unusedVariables false
set_option linter.unusedSimpArgs false
set_option linter.defProp false
set_option maxRecDepth 1000000

theorem fm_tk {α β : Type} {f : α × Nat → List β} {l : List α} {i : Nat} (hi : i < l.length) : (l.zipIdx.take (i + 1)).flatMap f = (l.zipIdx.take i).flatMap f ++ f (l[i], i) := by
  rw [List.take_add_one, List.getElem?_eq_getElem (by simpa using hi), List.flatMap_append]
  simp
theorem fm_all {α β : Type} {f : α × Nat → List β} {l : List α} {i : Nat} (hi : l.length ≤ i) : (l.zipIdx.take i).flatMap f = l.zipIdx.flatMap f := by
  rw [List.take_of_length_le (by simpa using hi)]
theorem len_fm {α β : Type} {f : α → List β} {c : Nat} : ∀ {l : List α}, (∀ x ∈ l, (f x).length ≤ c) → (l.flatMap f).length ≤ l.length * c
  | [], _ => by simp
  | x :: l, h => by
    have h1 := len_fm (l := l) fun y hy => h y (by simp [hy])
    have h2 := h x (by simp)
    rw [List.flatMap_cons, List.length_append, List.length_cons, Nat.add_mul]
    omega
theorem len_fmz {α β : Type} {f : α × Nat → List β} {c : Nat} {l : List α} (h : ∀ (i : Nat) (hi : i < l.length), (f (l[i], i)).length ≤ c) (n : Nat) : ((l.zipIdx.take n).flatMap f).length ≤ l.length * c := by
  have h1 : ((l.zipIdx.take n).flatMap f).length ≤ (l.zipIdx.take n).length * c := len_fm fun x hx => by
    have h2 := List.mem_of_mem_take hx
    rw [List.mem_zipIdx_iff_getElem?, List.getElem?_eq_some_iff] at h2
    obtain ⟨h3, h4⟩ := h2
    have := h x.2 h3
    rw [h4] at this
    exact this
  have h2 : (l.zipIdx.take n).length * c ≤ l.length * c := Nat.mul_le_mul_right _ (by simp; omega)
  omega
theorem mem_fmz {α β : Type} {f : α × Nat → List β} {l : List α} {t : β} : t ∈ l.zipIdx.flatMap f ↔ ∃ (i : Nat) (hi : i < l.length), t ∈ f (l[i], i) := by
  rw [List.mem_flatMap]
  constructor
  · rintro ⟨x, hx, ht⟩
    rw [List.mem_zipIdx_iff_getElem?, List.getElem?_eq_some_iff] at hx
    obtain ⟨h3, h4⟩ := hx
    exact ⟨x.2, h3, by rw [h4]; exact ht⟩
  · rintro ⟨i, hi, ht⟩
    exact ⟨(l[i], i), by rw [List.mem_zipIdx_iff_getElem?]; simp [hi], ht⟩

/-- an edge is ready -/
def Ed.rdy (e : Ed) (st : Sta) (i : Nat) : Bool := decide (st.locs.getD i 0 = e.frm ∧ e.guard.ev st.vals ≠ 0)
def prt2 (st : Sta) (i k : Nat) (c : Int) (j : Nat) (x : Ed × Nat) : List Stp := if j ≠ i ∧ x.1.sync = -c ∧ x.1.rdy st j = true then [⟨i, k, j, x.2⟩] else []
def prt1 (st : Sta) (i k : Nat) (c : Int) (x : Pr × Nat) : List Stp := x.1.edges.zipIdx.flatMap (prt2 st i k c x.2)
/-- the steps with partners -/
def prt (s : Sy) (st : Sta) (i k : Nat) (c : Int) : List Stp := s.procs.zipIdx.flatMap (prt1 st i k c)
def enb2 (s : Sy) (st : Sta) (i : Nat) (x : Ed × Nat) : List Stp := if x.1.sync < 0 ∨ x.1.rdy st i = false then [] else if x.1.sync = 0 then [⟨i, x.2, -1, -1⟩] else prt s st i x.2 x.1.sync
def enb1 (s : Sy) (st : Sta) (x : Pr × Nat) : List Stp := x.1.edges.zipIdx.flatMap (enb2 s st x.2)
/-- the enabled steps -/
def enb (s : Sy) (st : Sta) : List Stp := s.procs.zipIdx.flatMap (enb1 s st)

theorem prt1_len {st : Sta} {i k : Nat} {c : Int} {p : Pr} {j n : Nat} (hp : p.Ok) : ((p.edges.zipIdx.take n).flatMap (prt2 st i k c j)).length ≤ 6 := by
  have h1 := len_fmz (f := prt2 st i k c j) (c := 1) (l := p.edges) (fun m hm => by unfold prt2; split <;> simp) n
  have := hp.el
  omega
theorem prt_len {s : Sy} {st : Sta} {i k n : Nat} {c : Int} (hs : s.Ok) : ((s.procs.zipIdx.take n).flatMap (prt1 st i k c)).length ≤ 18 := by
  have h1 := len_fmz (f := prt1 st i k c) (c := 6) (l := s.procs) (fun m hm => by
    have := prt1_len (st := st) (i := i) (k := k) (c := c) (j := m) (n := s.procs[m].edges.length) (hs.at hm)
    rw [fm_all (Nat.le_refl _)] at this
    exact this) n
  have := hs.p3
  omega
theorem prt_len' {s : Sy} {st : Sta} {i k : Nat} {c : Int} (hs : s.Ok) : (prt s st i k c).length ≤ 18 := by
  have := prt_len (st := st) (i := i) (k := k) (c := c) (n := s.procs.length) hs
  rwa [fm_all (Nat.le_refl _)] at this
theorem enb2_len {s : Sy} {st : Sta} {i : Nat} {x : Ed × Nat} (hs : s.Ok) : (enb2 s st i x).length ≤ 18 := by
  unfold enb2
  split
  · simp
  · split
    · simp
    · exact prt_len' hs
theorem enb1_len {s : Sy} {st : Sta} {i n : Nat} {p : Pr} (hs : s.Ok) (hp : p.Ok) : ((p.edges.zipIdx.take n).flatMap (enb2 s st i)).length ≤ 108 := by
  have h1 := len_fmz (f := enb2 s st i) (c := 18) (l := p.edges) (fun m hm => enb2_len hs) n
  have := hp.el
  omega
theorem enb_len {s : Sy} {st : Sta} {n : Nat} (hs : s.Ok) : ((s.procs.zipIdx.take n).flatMap (enb1 s st)).length ≤ 324 := by
  have h1 := len_fmz (f := enb1 s st) (c := 108) (l := s.procs) (fun m hm => by
    have := enb1_len (s := s) (st := st) (i := m) (n := s.procs[m].edges.length) hs (hs.at hm)
    rw [fm_all (Nat.le_refl _)] at this
    exact this) n
  have := hs.p3
  omega
theorem enb_len' {s : Sy} {st : Sta} (hs : s.Ok) : (enb s st).length ≤ 324 := by
  have := enb_len (st := st) (n := s.procs.length) hs
  rwa [fm_all (Nat.le_refl _)] at this

/-- where a step's edges lie -/
structure Stp.In (s : Sy) (t : Stp) : Prop where
  ex : ∃ (i k : Nat) (hi : i < s.procs.length) (_ : k < s.procs[i].edges.length), t.proc = i ∧ t.edge = k
  pt : t.partner = -1 ∨ ∃ (j m : Nat) (hj : j < s.procs.length) (_ : m < s.procs[j].edges.length), t.partner = j ∧ t.pedge = m
theorem enb_in {s : Sy} {st : Sta} {t : Stp} (h : t ∈ enb s st) : t.In s := by
  unfold enb at h
  obtain ⟨i, hi, h⟩ := mem_fmz.1 h
  unfold enb1 at h
  obtain ⟨k, hk, h⟩ := mem_fmz.1 h
  unfold enb2 at h
  split at h
  · simp at h
  · split at h
    · simp at h; subst h
      exact ⟨⟨i, k, hi, hk, rfl, rfl⟩, .inl rfl⟩
    · unfold prt at h
      obtain ⟨j, hj, h⟩ := mem_fmz.1 h
      unfold prt1 at h
      obtain ⟨m, hm, h⟩ := mem_fmz.1 h
      unfold prt2 at h
      split at h
      · simp at h; subst h
        exact ⟨⟨i, k, hi, hk, rfl, rfl⟩, .inr ⟨j, m, hj, hm, rfl, rfl⟩⟩
      · simp at h

/-- an edge is taken -/
def Sta.tk (st : Sta) (i : Nat) (e : Ed) : Sta := ⟨st.locs.set i e.to, if 0 ≤ e.var then st.vals.set e.var.toNat (e.value.ev st.vals) else st.vals⟩
def Sy.ed (s : Sy) (i k : Nat) : Ed := (s.procs.getD i ⟨0, []⟩).edges.getD k ⟨0, 0, Exq.zero, 0, Exq.zero, 0⟩
theorem Sy.ed_eq {s : Sy} {i k : Nat} (hi : i < s.procs.length) (hk : k < s.procs[i].edges.length) : s.ed i k = s.procs[i].edges[k] := by
  simp [Sy.ed, hi, hk]
/-- the state after a step -/
def Sta.aft (s : Sy) (st : Sta) (t : Stp) : Sta := if 0 ≤ t.partner then (st.tk t.proc.toNat (s.ed t.proc.toNat t.edge.toNat)).tk t.partner.toNat (s.ed t.partner.toNat t.pedge.toNat) else st.tk t.proc.toNat (s.ed t.proc.toNat t.edge.toNat)
theorem Sta.tk_ok {s : Sy} {st : Sta} {i : Nat} {e : Ed} (h : st.Ok s) (hi : i < s.procs.length) (he : e.Ok s.procs[i].locs) : (st.tk i e).Ok s := by
  have hv := h.vs
  refine ⟨by simp [Sta.tk, h.len], ?_, fun j h1 h2 => ?_⟩
  · unfold Sta.tk
    simp only
    split
    · rename_i h0
      have hvo : e.value.Ok := he.vl.elim (fun hh => hh.2) (fun hh => absurd hh.1 (by omega))
      have hb := Exq.ev_bnd hv hvo.1
      refine ⟨by simp [hv.len], fun x hx => ?_⟩
      rcases List.mem_or_eq_of_mem_set hx with h1 | h1
      · exact hv.2 x h1
      · rw [h1]; exact hb
    · exact hv
  · simp only [Sta.tk, List.getElem_set]
    split
    · rename_i e1
      subst e1
      exact ⟨he.t0, he.t1⟩
    · exact h.lc j (by simpa [Sta.tk] using h1) h2
theorem Sta.aft_ok {s : Sy} {st : Sta} {t : Stp} (hs : s.Ok) (h : st.Ok s) (ht : t.In s) : (st.aft s t).Ok s := by
  obtain ⟨⟨i, k, hi, hk, h1, h2⟩, h3⟩ := ht
  have g1 : (st.tk t.proc.toNat (s.ed t.proc.toNat t.edge.toNat)).Ok s := by
    rw [h1, h2, Int.toNat_natCast, Int.toNat_natCast, Sy.ed_eq hi hk]
    exact Sta.tk_ok h hi ((hs.at hi).at hk)
  unfold Sta.aft
  rcases h3 with h3 | ⟨j, m, hj, hm, h3, h4⟩
  · rw [if_neg (by omega)]; exact g1
  · rw [if_pos (by omega)]
    have : (st.tk t.proc.toNat (s.ed t.proc.toNat t.edge.toNat)).tk t.partner.toNat (s.ed t.partner.toNat t.pedge.toNat) = (st.tk t.proc.toNat (s.ed t.proc.toNat t.edge.toNat)).tk j (s.procs[j].edges[m]) := by
      rw [h3, h4, Int.toNat_natCast, Int.toNat_natCast, Sy.ed_eq hj hm]
    rw [this]
    exact Sta.tk_ok g1 hj ((hs.at hj).at hm)
noncomputable def ens (s : Sy) (st : Sta) : List Stp := if s.Ok ∧ st.Ok s then enb s st else []
end Go.Proofs.YthgimpheeemooaaGreat
