/-
  Edges that are never taken: by the program and by the reference.
-/
import Derived.Test.YthgimpheeemooaaGreatI10
import Derived.Test.YthgimpheeemooaaGreatF2
namespace Go.Proofs.YthgimpheeemooaaGreat
open Go
set_option linter.all false
set_option linter.unusedVariables false
set_option linter.unusedSimpArgs false
set_option linter.defProp false
set_option maxRecDepth 1000000

def ddS (p : Int) (l : List Bool) (t : Stp) : List Bool := if t.partner = p then (if t.proc = p then l.set t.edge.toNat false else l).set t.pedge.toNat false else if t.proc = p then l.set t.edge.toNat false else l
def ddF (s : Sy) (p : Int) (st : Sta) (n : Nat) (l : List Bool) : List Bool := ((enb s st).take n).foldl (ddS p) l
def ddG (s : Sy) (p : Int) (xs : List Sta) (n : Nat) (l : List Bool) : List Bool := (xs.take n).foldl (fun l st => ddF s p st (enb s st).length l) l
theorem ddS_len {p : Int} {l : List Bool} {t : Stp} : (ddS p l t).length = l.length := by
  unfold ddS; split <;> split <;> simp
theorem ddF_zero {s : Sy} {p : Int} {st : Sta} {l : List Bool} : ddF s p st 0 l = l := rfl
theorem ddF_succ {s : Sy} {p : Int} {st : Sta} {n : Nat} {l : List Bool} (hn : n < (enb s st).length) : ddF s p st (n + 1) l = ddS p (ddF s p st n l) (enb s st)[n] := by
  unfold ddF
  rw [List.take_add_one, List.getElem?_eq_getElem hn, List.foldl_append]
  rfl
theorem ddF_len {s : Sy} {p : Int} {st : Sta} {l : List Bool} : ∀ n, n ≤ (enb s st).length → (ddF s p st n l).length = l.length
  | 0, _ => rfl
  | n + 1, h => by rw [ddF_succ (by omega), ddS_len, ddF_len n (by omega)]
theorem ddG_zero {s : Sy} {p : Int} {xs : List Sta} {l : List Bool} : ddG s p xs 0 l = l := rfl
theorem ddG_succ {s : Sy} {p : Int} {xs : List Sta} {n : Nat} {l : List Bool} (hn : n < xs.length) : ddG s p xs (n + 1) l = ddF s p xs[n] (enb s xs[n]).length (ddG s p xs n l) := by
  unfold ddG
  rw [List.take_add_one, List.getElem?_eq_getElem hn, List.foldl_append]
  rfl
theorem ddG_len {s : Sy} {p : Int} {xs : List Sta} {l : List Bool} : ∀ n, n ≤ xs.length → (ddG s p xs n l).length = l.length
  | 0, _ => rfl
  | n + 1, h => by rw [ddG_succ (by omega), ddF_len _ (Nat.le_refl _), ddG_len n (by omega)]
def dOk (s : Sy) (p : Int) : Prop := bgOk s ∧ 0 ≤ p ∧ p < s.procs.length
noncomputable instance instDecDOk {s : Sy} {p : Int} : Decidable (dOk s p) := Classical.propDecidable _
def Sy.dead (s : Sy) (p : Int) (g : Gr) : List Bool := ddG s p g.states g.states.length (List.replicate (s.procs.getD p.toNat ⟨0, []⟩).edges.length true)
noncomputable def deadR (s : Sy) (p : Int) : List Bool := if dOk s p then s.dead p (bgR s) else []
theorem dd_rng {s : Sy} {t : Stp} (h : t.In s) {i : Nat} (hi : i < s.procs.length) : (t.proc = i → 0 ≤ t.edge ∧ t.edge < s.procs[i].edges.length) ∧ (t.partner = i → 0 ≤ t.pedge ∧ t.pedge < s.procs[i].edges.length) := by
  obtain ⟨⟨a, b, ha, hb, e1, e2⟩, hp⟩ := h
  constructor
  · intro e
    have : a = i := by omega
    subst this
    omega
  · intro e
    rcases hp with hp | ⟨c, d, hc, hd, e3, e4⟩
    · omega
    · have : c = i := by omega
      subst this
      omega

theorem c_DeadEdges {h : Heap} {v : Value} {s : Sy} {p : Int} (R : Rep h v s) (hp : I64 p) : CallE Tryz.prog fn_impl_DeadEdges [v, .int .i64 p] h (R2 (decide (dOk s p)) (deadR s p) h) := by
  have FS := R.aSy
  have R0 := R
  obtain ⟨v1, v2, rfl, R1, R2'⟩ := Rep_Sy.1 R
  have hL := R2'.lt
  refine CallE.gen fun k hk => EN_impl_DeadEdges rfl ?_
  have hno : ¬ dOk s p → ∀ {h'}, h.le h' → k (.tuple #[.slice none 0 0, .bool false]) h' := fun hn h' hl => hk _ _ ⟨_, by rw [decide_eq_false hn], by rw [deadR, if_neg hn]; exact HS.nil_ow (Γ := []) hl⟩
  simp -implicitDefEqProofs (disch := first | omega | (simp only [List.length_set, List.length_replicate, List.length_append, List.length_map, List.length_take, List.length_cons, List.length_nil]; omega)) [wrap64, FS]
  refine (c_BuildGraph R0).go ?_
  rintro _ h1 ⟨u, rfl, H⟩
  have hA := H.rep.aGr
  by_cases q1 : bgOk s
  case neg =>
    simp -implicitDefEqProofs (disch := first | omega | (simp only [List.length_set, List.length_replicate, List.length_append, List.length_map, List.length_take, List.length_cons, List.length_nil]; omega)) [wrap64, q1, hA, setC]
    exact RetK.keep (hno (fun hh => q1 hh.1) H.base)
  simp -implicitDefEqProofs (disch := first | omega | (simp only [List.length_set, List.length_replicate, List.length_append, List.length_map, List.length_take, List.length_cons, List.length_nil]; omega)) [wrap64, q1, hA, setC, (R2'.on H).len]
  refine c_in.go ?_
  rintro _ h1 ⟨rfl, rfl⟩
  by_cases q2 : 0 ≤ p ∧ p ≤ (s.procs.length : Int) - 1
  case neg =>
    simp -implicitDefEqProofs (disch := first | omega | (simp only [List.length_set, List.length_replicate, List.length_append, List.length_map, List.length_take, List.length_cons, List.length_nil]; omega)) [wrap64, q2]
    exact RetK.keep (hno (fun hh => q2 ⟨hh.2.1, by have := hh.2.2; omega⟩) H.base)
  obtain ⟨i, rfl⟩ : ∃ i : Nat, p = i := ⟨p.toNat, (Int.toNat_of_nonneg q2.1).symm⟩
  have hi : i < s.procs.length := by omega
  have dok : dOk s i := ⟨q1, by omega, by omega⟩
  have hfin := bgR_fin q1
  have hs := q1.1
  have hpl := (hs.at hi).el
  obtain ⟨w, hw, Rw⟩ := (R2'.on H).ld hi
  change hload _ (some (elp 2 v2 i)) (some 2) = some w at hw
  obtain ⟨we, rfl, k1, R3⟩ := Rep_Pr.1 Rw
  have hP := hld_parts hw
  have hdead : s.dead i (bgR s) = ddG s i (bgR s).states (bgR s).states.length (List.replicate s.procs[i].edges.length true) := by simp [Sy.dead, hi]
  obtain ⟨E, hE⟩ : ∃ E, E = List.replicate s.procs[i].edges.length true := ⟨_, rfl⟩
  simp -implicitDefEqProofs (disch := first | omega | (simp only [List.length_set, List.length_replicate, List.length_append, List.length_map, List.length_take, List.length_cons, List.length_nil]; omega)) [wrap64, q2, R2'.X (n := 2) rfl, hP.1, hP.2.2.1, R3.len]
  refine H.mks (α := Bool) (z := false) rfl rfl own_false (Nat.le_refl _) (by omega) (by omega) fun o h2 H => ?_
  obtain ⟨xs, nx, rfl, H'⟩ := H.sw1.unGr
  simp -implicitDefEqProofs (disch := first | omega | (simp only [List.length_set, List.length_replicate, List.length_append, List.length_map, List.length_take, List.length_cons, List.length_nil]; omega)) [wrap64, H.rep.len]
  refine wp_count s.procs[i].edges.length (fun m e h' => e = [none, some (.int .i64 i), some (.agg #[v1, v2]), none, none, some (.agg #[xs, nx]), none, some o, none, none, none, some (.int .i64 s.procs[i].edges.length), some (.int .i64 m), none, none, none, none, none, none] ∧ ∃ y, HS h [ow o y, ow xs (bgR s).states] h' ∧ y.length = E.length ∧ y.take m = E.take m) ⟨by simp, _, (H'.sw2.bk1.sw2.drop).sw1, by simp [hE], by simp⟩ ?_
  clear H H' hw hP
  rintro J m _ h3 hJ hm ⟨rfl, y, H, hyl, hy⟩
  have hEl : E.length = s.procs[i].edges.length := by rw [hE]; simp
  simp -implicitDefEqProofs (disch := first | omega | (simp only [List.length_set, List.length_replicate, List.length_append, List.length_map, List.length_take, List.length_cons, List.length_nil]; omega)) [wrap64]
  refine IteW.mk (fun hlt => ?_) (fun hge => ?_)
  · have hm : m < s.procs[i].edges.length := by omega
    simp -implicitDefEqProofs (disch := first | omega | (simp only [List.length_set, List.length_replicate, List.length_append, List.length_map, List.length_take, List.length_cons, List.length_nil]; omega)) [wrap64, H.rep.B]
    refine H.storeF true (i := m) (by omega) rfl rfl trivial rfl fun h4 H => ?_
    simp -implicitDefEqProofs (disch := first | omega | (simp only [List.length_set, List.length_replicate, List.length_append, List.length_map, List.length_take, List.length_cons, List.length_nil]; omega)) [wrap64]
    refine hJ _ _ hm ⟨by simp, _, H, by simp [hyl], ?_⟩
    have := take_set_succ (x := E) hy (by omega) hyl
    simpa [hE] using this
  have he : y = E := eq_of_take hy (by omega) hyl
  subst he
  simp -implicitDefEqProofs (disch := first | omega | (simp only [List.length_set, List.length_replicate, List.length_append, List.length_map, List.length_take, List.length_cons, List.length_nil]; omega)) [wrap64, H.sw1.rep.len]
  generalize hg : (bgR s).states = gs at *
  have hgok : ∀ st ∈ gs, st.Ok s := hg ▸ hfin.ok
  have hg60 : gs.length ≤ 60 := hg ▸ hfin.n60
  refine wp_count gs.length (fun n e h' => e = [none, some (.int .i64 i), some (.agg #[v1, v2]), none, none, none, none, some o, none, none, none, none, none, some xs, some (.int .i64 gs.length), some (.int .i64 n), none, none, none] ∧ HS h [ow o (ddG s i gs n y), ow xs gs] h') ⟨by simp, by rw [ddG_zero]; exact H⟩ ?_
  clear H
  rintro J1 n _ h3 hJ1 hn ⟨rfl, H⟩
  simp -implicitDefEqProofs (disch := first | omega | (simp only [List.length_set, List.length_replicate, List.length_append, List.length_map, List.length_take, List.length_cons, List.length_nil]; omega)) [wrap64]
  refine IteW.mk (fun hlt1 => ?_) (fun hge1 => ?_)
  · have hn : n < gs.length := by omega
    have hgl := ddG_len (s := s) (p := i) (l := y) n (show n ≤ gs.length by omega)
    have hgs := ddG_succ (s := s) (p := i) (l := y) hn
    have hxo := hgok _ (List.getElem_mem hn)
    generalize ddG s i gs n y = D at *
    obtain ⟨x, hx⟩ : ∃ x, x = gs[n] := ⟨_, rfl⟩
    rw [← hx] at hxo hgs
    obtain ⟨u, hu, Ru⟩ := H.sw1.rep.ld hn
    change hload _ (some (elp 2 xs n)) (some 2) = some u at hu
    rw [← hx] at Ru
    have hel := enb_len' (st := x) hs
    simp -implicitDefEqProofs (disch := first | omega | (simp only [List.length_set, List.length_replicate, List.length_append, List.length_map, List.length_take, List.length_cons, List.length_nil]; omega)) [wrap64, H.sw1.rep.X (n := 2) rfl, hu, Ru.aSta, FS, setC]
    refine (c_enabled hs hxo (R0.on H) Ru).go ?_
    intro el h4 G
    have H := G.app H
    simp -implicitDefEqProofs (disch := first | omega | (simp only [List.length_set, List.length_replicate, List.length_append, List.length_map, List.length_take, List.length_cons, List.length_nil]; omega)) [wrap64, H.rep.len]
    refine wp_count (enb s x).length (fun m e h' => e = [none, some (.int .i64 i), some (.agg #[v1, v2]), none, none, none, none, some o, none, none, none, none, none, some xs, some (.int .i64 gs.length), some (.int .i64 n), some el, some (.int .i64 (enb s x).length), some (.int .i64 m)] ∧ HS h [ow el (enb s x), ow o (ddF s i x m D), ow xs gs] h') ⟨by simp, by rw [ddF_zero]; exact H⟩ ?_
    clear H G Ru hu
    rintro J2 m _ h5 hJ2 hm ⟨rfl, H⟩
    simp -implicitDefEqProofs (disch := first | omega | (simp only [List.length_set, List.length_replicate, List.length_append, List.length_map, List.length_take, List.length_cons, List.length_nil]; omega)) [wrap64]
    refine IteW.mk (fun hlt2 => ?_) (fun hge2 => ?_)
    · have hm : m < (enb s x).length := by omega
      have hfl := ddF_len (s := s) (p := i) (st := x) (l := D) m (by omega)
      have hfs := ddF_succ (p := i) (l := D) hm
      have hin := enb_in (List.getElem_mem hm)
      obtain ⟨t, ht⟩ : ∃ t, t = (enb s x)[m] := ⟨_, rfl⟩
      rw [← ht] at hfs hin
      generalize ddF s i x m D = F at *
      obtain ⟨r1, r2⟩ := dd_rng hin hi
      have hFl : F.length = s.procs[i].edges.length := by omega
      by_cases a1 : t.proc = i
      · obtain ⟨e, he⟩ : ∃ e : Nat, t.edge = e := ⟨t.edge.toNat, (Int.toNat_of_nonneg (r1 a1).1).symm⟩
        have hel := (r1 a1).2
        simp -implicitDefEqProofs (disch := first | omega | (simp only [List.length_set, List.length_replicate, List.length_append, List.length_map, List.length_take, List.length_cons, List.length_nil]; omega)) [wrap64, H.rep.xStp, ← ht, Stp.v, setC, a1, he, H.sw1.rep.B]
        refine H.sw1.storeF false (i := e) (by omega) rfl rfl trivial rfl fun h6 H => ?_
        simp -implicitDefEqProofs (disch := first | omega | (simp only [List.length_set, List.length_replicate, List.length_append, List.length_map, List.length_take, List.length_cons, List.length_nil]; omega)) [wrap64]
        by_cases a2 : t.partner = i
        · obtain ⟨e', he'⟩ : ∃ e' : Nat, t.pedge = e' := ⟨t.pedge.toNat, (Int.toNat_of_nonneg (r2 a2).1).symm⟩
          have hel' := (r2 a2).2
          simp -implicitDefEqProofs (disch := first | omega | (simp only [List.length_set, List.length_replicate, List.length_append, List.length_map, List.length_take, List.length_cons, List.length_nil]; omega)) [wrap64, a2, he', H.rep.B]
          refine HS.storeF H false (i := e') (by first | omega | (simp; omega)) rfl rfl trivial rfl fun h7 H => ?_
          simp -implicitDefEqProofs (disch := first | omega | (simp only [List.length_set, List.length_replicate, List.length_append, List.length_map, List.length_take, List.length_cons, List.length_nil]; omega)) [wrap64]
          exact hJ2 _ _ hm ⟨by simp, by rw [hfs, ddS, if_pos a2, if_pos a1, he, Int.toNat_natCast, he', Int.toNat_natCast]; exact H.sw1⟩
        · simp -implicitDefEqProofs (disch := first | omega | (simp only [List.length_set, List.length_replicate, List.length_append, List.length_map, List.length_take, List.length_cons, List.length_nil]; omega)) [wrap64, a2]
          exact hJ2 _ _ hm ⟨by simp, by rw [hfs, ddS, if_neg a2, if_pos a1, he, Int.toNat_natCast]; exact H.sw1⟩
      · simp -implicitDefEqProofs (disch := first | omega | (simp only [List.length_set, List.length_replicate, List.length_append, List.length_map, List.length_take, List.length_cons, List.length_nil]; omega)) [wrap64, H.rep.xStp, ← ht, Stp.v, setC, a1]
        by_cases a2 : t.partner = i
        · obtain ⟨e', he'⟩ : ∃ e' : Nat, t.pedge = e' := ⟨t.pedge.toNat, (Int.toNat_of_nonneg (r2 a2).1).symm⟩
          have hel' := (r2 a2).2
          simp -implicitDefEqProofs (disch := first | omega | (simp only [List.length_set, List.length_replicate, List.length_append, List.length_map, List.length_take, List.length_cons, List.length_nil]; omega)) [wrap64, a2, he', H.sw1.rep.B]
          refine HS.storeF H.sw1 false (i := e') (by first | omega | (simp; omega)) rfl rfl trivial rfl fun h7 H => ?_
          simp -implicitDefEqProofs (disch := first | omega | (simp only [List.length_set, List.length_replicate, List.length_append, List.length_map, List.length_take, List.length_cons, List.length_nil]; omega)) [wrap64]
          exact hJ2 _ _ hm ⟨by simp, by rw [hfs, ddS, if_pos a2, if_neg a1, he', Int.toNat_natCast]; exact H.sw1⟩
        · simp -implicitDefEqProofs (disch := first | omega | (simp only [List.length_set, List.length_replicate, List.length_append, List.length_map, List.length_take, List.length_cons, List.length_nil]; omega)) [wrap64, a2]
          exact hJ2 _ _ hm ⟨by simp, by rw [hfs, ddS, if_neg a2, if_neg a1]; exact H⟩
    obtain rfl : m = (enb s x).length := by omega
    simp -implicitDefEqProofs (disch := first | omega | (simp only [List.length_set, List.length_replicate, List.length_append, List.length_map, List.length_take, List.length_cons, List.length_nil]; omega)) [wrap64]
    exact hJ1 _ _ hn ⟨by simp, by rw [hgs]; exact H.drop⟩
  obtain rfl : n = gs.length := by omega
  simp -implicitDefEqProofs (disch := first | omega | (simp only [List.length_set, List.length_replicate, List.length_append, List.length_map, List.length_take, List.length_cons, List.length_nil]; omega)) [wrap64]
  exact RetK.keep (hk _ _ ⟨_, by rw [decide_eq_true dok], by rw [deadR, if_pos dok, hdead, ← hE]; exact H.only⟩)
theorem c_spec_DeadEdges {h : Heap} {v : Value} {s : Sy} {p : Int} (R : Rep h v s) (hp : I64 p) : CallE Tryz.prog fn_spec_DeadEdges [v, .int .i64 p] h (R2 (decide (dOk s p)) (deadR s p) h) := by
  have FS := R.aSy
  have R0 := R
  obtain ⟨v1, v2, rfl, R1, R2'⟩ := Rep_Sy.1 R
  have hL := R2'.lt
  refine CallE.gen fun k hk => EN_spec_DeadEdges rfl ?_
  have hno : ¬ dOk s p → ∀ {h'}, h.le h' → ∀ {u}, HS h [ow u ([] : List Bool)] h' → k (.tuple #[u, .bool false]) h' := fun hn h' hl u H => hk _ _ ⟨_, by rw [decide_eq_false hn], by rw [deadR, if_neg hn]; exact H⟩
  simp -implicitDefEqProofs (disch := first | omega | (simp only [List.length_set, List.length_replicate, List.length_append, List.length_map, List.length_take, List.length_cons, List.length_nil]; omega)) [wrap64, FS]
  refine (c_spec_BuildGraph R0).go ?_
  rintro _ h1 ⟨u, rfl, H⟩
  have hA := H.rep.aGr
  by_cases q1 : bgOk s
  case neg =>
    simp -implicitDefEqProofs (disch := first | omega | (simp only [List.length_set, List.length_replicate, List.length_append, List.length_map, List.length_take, List.length_cons, List.length_nil]; omega)) [wrap64, q1, hA, setC]
    refine H.bls0 Bool fun o h2 H => ?_
    simp -implicitDefEqProofs (disch := first | omega | (simp only [List.length_set, List.length_replicate, List.length_append, List.length_map, List.length_take, List.length_cons, List.length_nil]; omega)) [wrap64]
    exact RetK.keep (hno (fun hh => q1 hh.1) H.base H.only)
  by_cases q2 : p < 0
  · simp -implicitDefEqProofs (disch := first | omega | (simp only [List.length_set, List.length_replicate, List.length_append, List.length_map, List.length_take, List.length_cons, List.length_nil]; omega)) [wrap64, q1, hA, setC, q2]
    refine H.bls0 Bool fun o h2 H => ?_
    simp -implicitDefEqProofs (disch := first | omega | (simp only [List.length_set, List.length_replicate, List.length_append, List.length_map, List.length_take, List.length_cons, List.length_nil]; omega)) [wrap64]
    exact RetK.keep (hno (fun hh => by have := hh.2.1; omega) H.base H.only)
  by_cases q3 : (s.procs.length : Int) ≤ p
  · simp -implicitDefEqProofs (disch := first | omega | (simp only [List.length_set, List.length_replicate, List.length_append, List.length_map, List.length_take, List.length_cons, List.length_nil]; omega)) [wrap64, q1, hA, setC, q2, q3, (R2'.on H).len]
    refine H.bls0 Bool fun o h2 H => ?_
    simp -implicitDefEqProofs (disch := first | omega | (simp only [List.length_set, List.length_replicate, List.length_append, List.length_map, List.length_take, List.length_cons, List.length_nil]; omega)) [wrap64]
    exact RetK.keep (hno (fun hh => by have := hh.2.2; omega) H.base H.only)
  obtain ⟨i, rfl⟩ : ∃ i : Nat, p = i := ⟨p.toNat, (Int.toNat_of_nonneg (by omega)).symm⟩
  have hi : i < s.procs.length := by omega
  have dok : dOk s i := ⟨q1, by omega, by omega⟩
  have hfin := bgR_fin q1
  have hs := q1.1
  have hpl := (hs.at hi).el
  obtain ⟨w, hw0, Rw⟩ := R2'.ld hi
  change hload _ (some (elp 2 v2 i)) (some 2) = some w at hw0
  obtain ⟨we, rfl, k1, R3⟩ := Rep_Pr.1 Rw
  have hdead : s.dead i (bgR s) = ddG s i (bgR s).states (bgR s).states.length (List.replicate s.procs[i].edges.length true) := by simp [Sy.dead, hi]
  simp -implicitDefEqProofs (disch := first | omega | (simp only [List.length_set, List.length_replicate, List.length_append, List.length_map, List.length_take, List.length_cons, List.length_nil]; omega)) [wrap64, q1, hA, setC, q2, q3, (R2'.on H).len]
  refine H.bls0 Bool fun o h2 H => ?_
  obtain ⟨xs, nx, rfl, H'⟩ := H.sw1.unGr
  simp -implicitDefEqProofs (disch := first | omega | (simp only [List.length_set, List.length_replicate, List.length_append, List.length_map, List.length_take, List.length_cons, List.length_nil]; omega)) [wrap64]
  refine wp_count s.procs[i].edges.length (fun m e h' => ∃ o, e = [none, some (.int .i64 i), some (.agg #[v1, v2]), none, none, some (.agg #[xs, nx]), none, some o, some (.int .i64 m), none, none, none] ∧ HS h [ow o (List.replicate m true), ow xs (bgR s).states] h') ⟨o, by simp, (H'.sw2.bk1.sw2.drop).sw1⟩ ?_
  have l1 := H'.base
  clear H H'
  rintro J m _ h3 hJ hm ⟨o, rfl, H⟩
  have hw := hload_le H.base hw0
  have hP := hld_parts hw
  simp -implicitDefEqProofs (disch := first | omega | (simp only [List.length_set, List.length_replicate, List.length_append, List.length_map, List.length_take, List.length_cons, List.length_nil]; omega)) [wrap64, R2'.X (n := 2) rfl, hP.1, hP.2.2.1, R3.len]
  refine IteW.mk (fun hlt => ?_) (fun hge => ?_)
  · have hm : m < s.procs[i].edges.length := by omega
    simp -implicitDefEqProofs (disch := first | omega | (simp only [List.length_set, List.length_replicate, List.length_append, List.length_map, List.length_take, List.length_cons, List.length_nil]; omega)) [wrap64, setC]
    refine HS.app1 (bytes := 1) H true rfl rfl rfl trivial rfl rfl (by simp; omega) (by simp; omega) fun o' h4 H => ?_
    simp -implicitDefEqProofs (disch := first | omega | (simp only [List.length_set, List.length_replicate, List.length_append, List.length_map, List.length_take, List.length_cons, List.length_nil]; omega)) [wrap64]
    exact hJ _ _ hm ⟨o', by simp, by rw [List.replicate_succ']; exact H⟩
  obtain rfl : m = s.procs[i].edges.length := by omega
  have hyl : (List.replicate s.procs[i].edges.length true).length = s.procs[i].edges.length := by simp
  generalize hE : List.replicate s.procs[i].edges.length true = y at *
  generalize hg : (bgR s).states = gs at *
  have hgok : ∀ st ∈ gs, st.Ok s := hg ▸ hfin.ok
  have hg60 : gs.length ≤ 60 := hg ▸ hfin.n60
  simp -implicitDefEqProofs (disch := first | omega | (simp only [List.length_set, List.length_replicate, List.length_append, List.length_map, List.length_take, List.length_cons, List.length_nil]; omega)) [wrap64]
  refine wp_count gs.length (fun n e h' => e = [none, some (.int .i64 i), some (.agg #[v1, v2]), none, none, some (.agg #[xs, nx]), none, some o, none, some (.int .i64 n), none, none] ∧ HS h [ow o (ddG s i gs n y), ow xs gs] h') ⟨by simp, by rw [ddG_zero]; exact H⟩ ?_
  clear H
  rintro J1 n _ h3 hJ1 hn ⟨rfl, H⟩
  simp -implicitDefEqProofs (disch := first | omega | (simp only [List.length_set, List.length_replicate, List.length_append, List.length_map, List.length_take, List.length_cons, List.length_nil]; omega)) [wrap64, H.sw1.rep.len]
  refine IteW.mk (fun hlt1 => ?_) (fun hge1 => ?_)
  · have hn : n < gs.length := by omega
    have hgl := ddG_len (s := s) (p := i) (l := y) n (show n ≤ gs.length by omega)
    have hgs := ddG_succ (s := s) (p := i) (l := y) hn
    have hxo := hgok _ (List.getElem_mem hn)
    generalize ddG s i gs n y = D at *
    obtain ⟨x, hx⟩ : ∃ x, x = gs[n] := ⟨_, rfl⟩
    rw [← hx] at hxo hgs
    obtain ⟨u, hu, Ru⟩ := H.sw1.rep.ld hn
    change hload _ (some (elp 2 xs n)) (some 2) = some u at hu
    rw [← hx] at Ru
    have hel := enb_len' (st := x) hs
    simp -implicitDefEqProofs (disch := first | omega | (simp only [List.length_set, List.length_replicate, List.length_append, List.length_map, List.length_take, List.length_cons, List.length_nil]; omega)) [wrap64, H.sw1.rep.X (n := 2) rfl, hu, Ru.aSta, FS, setC]
    refine (c_l3Steps hs hxo (R0.on H) Ru).go ?_
    intro el h4 G
    have H := G.app H
    simp -implicitDefEqProofs (disch := first | omega | (simp only [List.length_set, List.length_replicate, List.length_append, List.length_map, List.length_take, List.length_cons, List.length_nil]; omega)) [wrap64]
    refine wp_count (enb s x).length (fun m e h' => e = [none, some (.int .i64 i), some (.agg #[v1, v2]), none, none, some (.agg #[xs, nx]), none, some o, none, some (.int .i64 n), some el, some (.int .i64 m)] ∧ HS h [ow el (enb s x), ow o (ddF s i x m D), ow xs gs] h') ⟨by simp, by rw [ddF_zero]; exact H⟩ ?_
    clear H G Ru hu
    rintro J2 m _ h5 hJ2 hm ⟨rfl, H⟩
    simp -implicitDefEqProofs (disch := first | omega | (simp only [List.length_set, List.length_replicate, List.length_append, List.length_map, List.length_take, List.length_cons, List.length_nil]; omega)) [wrap64, H.rep.len]
    refine IteW.mk (fun hlt2 => ?_) (fun hge2 => ?_)
    · have hm : m < (enb s x).length := by omega
      have hfl := ddF_len (s := s) (p := i) (st := x) (l := D) m (by omega)
      have hfs := ddF_succ (p := i) (l := D) hm
      have hin := enb_in (List.getElem_mem hm)
      obtain ⟨t, ht⟩ : ∃ t, t = (enb s x)[m] := ⟨_, rfl⟩
      rw [← ht] at hfs hin
      generalize ddF s i x m D = F at *
      obtain ⟨r1, r2⟩ := dd_rng hin hi
      have hFl : F.length = s.procs[i].edges.length := by omega
      by_cases a1 : t.proc = i
      · obtain ⟨e, he⟩ : ∃ e : Nat, t.edge = e := ⟨t.edge.toNat, (Int.toNat_of_nonneg (r1 a1).1).symm⟩
        have hel := (r1 a1).2
        simp -implicitDefEqProofs (disch := first | omega | (simp only [List.length_set, List.length_replicate, List.length_append, List.length_map, List.length_take, List.length_cons, List.length_nil]; omega)) [wrap64, H.rep.xStp, H.rep.fStp, ← ht, Stp.v, setC, a1, he, H.sw1.rep.B]
        refine H.sw1.storeF false (i := e) (by omega) rfl rfl trivial rfl fun h6 H => ?_
        simp -implicitDefEqProofs (disch := first | omega | (simp only [List.length_set, List.length_replicate, List.length_append, List.length_map, List.length_take, List.length_cons, List.length_nil]; omega)) [wrap64]
        by_cases a2 : t.partner = i
        · obtain ⟨e', he'⟩ : ∃ e' : Nat, t.pedge = e' := ⟨t.pedge.toNat, (Int.toNat_of_nonneg (r2 a2).1).symm⟩
          have hel' := (r2 a2).2
          simp -implicitDefEqProofs (disch := first | omega | (simp only [List.length_set, List.length_replicate, List.length_append, List.length_map, List.length_take, List.length_cons, List.length_nil]; omega)) [wrap64, H.sw1.rep.xStp, H.sw1.rep.fStp, ← ht, a2, he', H.rep.B]
          refine HS.storeF H false (i := e') (by first | omega | (simp; omega)) rfl rfl trivial rfl fun h7 H => ?_
          simp -implicitDefEqProofs (disch := first | omega | (simp only [List.length_set, List.length_replicate, List.length_append, List.length_map, List.length_take, List.length_cons, List.length_nil]; omega)) [wrap64]
          exact hJ2 _ _ hm ⟨by simp, by rw [hfs, ddS, if_pos a2, if_pos a1, he, Int.toNat_natCast, he', Int.toNat_natCast]; exact H.sw1⟩
        · simp -implicitDefEqProofs (disch := first | omega | (simp only [List.length_set, List.length_replicate, List.length_append, List.length_map, List.length_take, List.length_cons, List.length_nil]; omega)) [wrap64, H.sw1.rep.xStp, H.sw1.rep.fStp, ← ht, a2]
          exact hJ2 _ _ hm ⟨by simp, by rw [hfs, ddS, if_neg a2, if_pos a1, he, Int.toNat_natCast]; exact H.sw1⟩
      · simp -implicitDefEqProofs (disch := first | omega | (simp only [List.length_set, List.length_replicate, List.length_append, List.length_map, List.length_take, List.length_cons, List.length_nil]; omega)) [wrap64, H.rep.xStp, H.rep.fStp, ← ht, Stp.v, setC, a1]
        by_cases a2 : t.partner = i
        · obtain ⟨e', he'⟩ : ∃ e' : Nat, t.pedge = e' := ⟨t.pedge.toNat, (Int.toNat_of_nonneg (r2 a2).1).symm⟩
          have hel' := (r2 a2).2
          simp -implicitDefEqProofs (disch := first | omega | (simp only [List.length_set, List.length_replicate, List.length_append, List.length_map, List.length_take, List.length_cons, List.length_nil]; omega)) [wrap64, H.rep.xStp, H.rep.fStp, ← ht, a2, he', H.sw1.rep.B]
          refine HS.storeF H.sw1 false (i := e') (by first | omega | (simp; omega)) rfl rfl trivial rfl fun h7 H => ?_
          simp -implicitDefEqProofs (disch := first | omega | (simp only [List.length_set, List.length_replicate, List.length_append, List.length_map, List.length_take, List.length_cons, List.length_nil]; omega)) [wrap64]
          exact hJ2 _ _ hm ⟨by simp, by rw [hfs, ddS, if_pos a2, if_neg a1, he', Int.toNat_natCast]; exact H.sw1⟩
        · simp -implicitDefEqProofs (disch := first | omega | (simp only [List.length_set, List.length_replicate, List.length_append, List.length_map, List.length_take, List.length_cons, List.length_nil]; omega)) [wrap64, H.rep.xStp, H.rep.fStp, ← ht, a2]
          exact hJ2 _ _ hm ⟨by simp, by rw [hfs, ddS, if_neg a2, if_neg a1]; exact H⟩
    obtain rfl : m = (enb s x).length := by omega
    simp -implicitDefEqProofs (disch := first | omega | (simp only [List.length_set, List.length_replicate, List.length_append, List.length_map, List.length_take, List.length_cons, List.length_nil]; omega)) [wrap64]
    exact hJ1 _ _ hn ⟨by simp, by rw [hgs]; exact H.drop⟩
  obtain rfl : n = gs.length := by omega
  simp -implicitDefEqProofs (disch := first | omega | (simp only [List.length_set, List.length_replicate, List.length_append, List.length_map, List.length_take, List.length_cons, List.length_nil]; omega)) [wrap64]
  exact RetK.keep (hk _ _ ⟨_, by rw [decide_eq_true dok], by rw [deadR, if_pos dok, hdead]; exact H.only⟩)
end Go.Proofs.YthgimpheeemooaaGreat
