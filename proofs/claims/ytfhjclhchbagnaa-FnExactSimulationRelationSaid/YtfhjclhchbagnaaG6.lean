/-
  Append, make, slice literals, calls, maps: 'ex_run'.
-/
import Derived.Test.YtfhjclhchbagnaaG5
namespace Go.Proofs.Ytfhjclhchbagnaa
open Go
set_option linter.all false
set_option linter.unusedVariables false
set_option linter.unusedSimpArgs false
set_option linter.defProp false

theorem reps_range (zero : List Value) : ∀ n, (List.range (n * zero.length)).map (fun i => zero.toArray[i % zero.toArray.size]!) = reps n zero
  | 0 => by simp [reps]
  | n + 1 => by
    have ih := reps_range zero n
    rw [Nat.succ_mul, List.range_add, List.map_append, ih]
    unfold reps
    rw [List.replicate_succ', List.flatten_append]
    congr 1
    simp only [List.flatten_cons, List.flatten_nil, List.append_nil, List.map_map]
    apply List.ext_getElem
    · simp
    · intro j h1 h2
      simp at h1 h2
      simp [Nat.mod_eq_of_lt h2, h2]

theorem reps_cells {z : Array Value} {s : Nat} (hs : z.size = s) (n : Nat) : (Array.range (n * s)).map (fun i => z[i % z.size]!) = (reps n z.toList).toArray := by
  subst hs
  apply Array.ext'
  have := reps_range z.toList n
  simpa using this

theorem zeroCells_reps (z : Array Value) (n : Nat) : Builtin.zeroCells z n = (reps n z.toList).toArray := by
  unfold Builtin.zeroCells
  exact reps_cells rfl n

theorem reps_length (n : Nat) (z : List Value) : (reps n z).length = n * z.length := by simp [reps]

section
variable {P : Program}

theorem elemOf_spec {t : TypeId} {by_ sz : Nat} {z : List Value} (h : elemOf P t = some (by_, sz, z)) :
    ∃ el i zv, P.underlying t = some (.slice el) ∧ P.info? el = some i ∧ i.zero = some zv ∧ by_ = i.bytes ∧ sz = i.size ∧ z = zv.cells.toList ∧ zv.cells.size = i.size ∧ 0 < i.size := by
  unfold elemOf at h
  split at h
  · rename_i el hu
    split at h
    · rename_i i hi
      split at h
      · rename_i zv hz
        split at h
        · rename_i hc
          simp only [Option.some.injEq, Prod.mk.injEq] at h
          obtain ⟨rfl, rfl, rfl⟩ := h
          exact ⟨el, i, zv, hu, hi, hz, rfl, rfl, rfl, hc.1, hc.2⟩
        · simp at h
      · simp at h
    · simp at h
  · simp at h

theorem run_zero_of {t : TypeId} {i : TypeInfo} {z : Value} (hi : P.info? t = some i) (hz : i.zero = some z) (w : World) : (zeroValue t).run P w = .ok z w := by
  simp [zeroValue, run_typeInfo hi, hz]

theorem srcOk_cases {u : TypeId} {sz : Nat} (h : srcOk P u sz = true) : (∃ el, P.underlying u = some (.slice el)) ∨ (P.underlying u = some .string ∧ sz = 1) := by
  unfold srcOk at h
  cases hu : P.underlying u with
  | none => simp [hu] at h
  | some d => cases d <;> simp [hu] at h <;> simp [h]

theorem append_room {t u ty el : TypeId} {i : TypeInfo} (hu : P.underlying t = some (.slice el)) (hi : P.info? el = some i) (hs : srcOk P u i.size = true)
    {w : World} {p : Option Addr} {len cap n : Nat} {x : Value} {cs : List Value} (hx : SrcW P w i.size x n cs) (hle : len + n ≤ cap) :
    (Builtin.append_ #[t, u] ty #[.slice p len cap, x]).run P w = match p with
      | none => .ok (.slice none (len + n) cap) w
      | some a => ((storeCells (a.add (len * i.size)) cs).run P w).andThen fun _ w' => .ok (.slice p (len + n) cap) w' := by
  have hc := hx.cells n (Nat.le_refl _) w rfl
  rw [List.take_of_length_le (by rw [hx.size]; exact Nat.le_refl _)] at hc
  rcases srcOk_cases hs with ⟨d, hd⟩ | ⟨hd, _⟩
  all_goals
    cases p with
    | none => simp [Builtin.append_, run_underlying hu, run_sizeOf hi, run_underlying hd, hx.len, hle, hc]
    | some a => simp [Builtin.append_, run_underlying hu, run_sizeOf hi, run_underlying hd, hx.len, hle, hc]

theorem append_grow {t u ty el : TypeId} {i : TypeInfo} {z : Value} (hu : P.underlying t = some (.slice el)) (hi : P.info? el = some i) (hz : i.zero = some z) (hs : srcOk P u i.size = true)
    {w : World} {p : Option Addr} {len cap n : Nat} {x : Value} {cs old : List Value} (hx : SrcW P w i.size x n cs) (ho : SrcW P w i.size (.slice p len cap) len old) (hlt : cap < len + n)
    (hb : Builtin.nextslicecap (len + n) cap * i.bytes ≤ 2 ^ 48) (hn : len + n < 2 ^ 62) :
    ∃ c, len + n ≤ c ∧ (Builtin.append_ #[t, u] ty #[.slice p len cap, x]).run P w =
      .ok (.slice (some ⟨w.heap.size, 0, none⟩) (len + n) c) (w.drew.alloc (.cells (old ++ cs ++ reps (c - (len + n)) z.cells.toList).toArray el (0, 0))) := by
  refine ⟨(Question.appendCap (len + n) cap el).cut (w.tape w.drawn (.appendCap (len + n) cap el)), by simp [Question.cut], ?_⟩
  have hc := hx.cells n (Nat.le_refl _) w.drew rfl
  rw [List.take_of_length_le (by rw [hx.size]; exact Nat.le_refl _)] at hc
  have hco := ho.cells len (Nat.le_refl _) w.drew rfl
  rw [List.take_of_length_le (by rw [ho.size]; exact Nat.le_refl _)] at hco
  have h63 : ¬ ((len + n : Nat) : Int) > IntKind.i64.max := by
    have : IntKind.i64.max = 9223372036854775807 := by decide
    rw [this]
    omega
  have hnot : ¬ len + n ≤ cap := by omega
  have hb' : ¬ Builtin.nextslicecap (len + n) cap * i.bytes > 2 ^ 48 := by omega
  have e0 : ({ heap := w.heap, tape := w.tape, drawn := w.drawn + 1, os := w.os, output := w.output } : World) = w.drew := rfl
  rcases srcOk_cases hs with ⟨d, hd⟩ | ⟨hd, _⟩
  all_goals
    simp only [Builtin.append_, List.getElem?_toArray, List.getElem?_cons_zero, List.getElem?_cons_succ, Sem.run_bind, run_underlying hu, Result.andThen_ok, run_sizeOf hi, run_underlying hd, Sem.run_pure, Bool.false_eq_true, if_false, hx.len,
      if_neg hnot, run_typeInfo hi, if_neg hb', run_choose, Question.forced, run_askRoom, Sem.run_ite, h63, false_and]
    rw [e0]
    simp only [hco, Result.andThen_ok, Bool.not_false, if_true, hc, run_zero_of hi hz, zeroCells_reps, newRow, Sem.run_bind, run_newObj, Sem.run_pure]
    simp only [List.append_toArray]
    rfl

/-- the private slices of a region -/
def PrivS (lay : Lay) (e : Env) (h : Heap) (w : World) (ρ : Operand → Value) (xs : Array Operand) : Prop :=
  ∀ t i n c, Operand.tmp t ∈ xs → lfind lay t = some (i, .ps n) → eget e i = some (.agg c) → ∃ b el, ρ (.tmp t) = .slice (some ⟨b, 0, none⟩) n n ∧ w.heap[b]? = some (.cells c el (0, 0)) ∧ h b = none

variable {lay : Lay} {e : Env} {ρ : Operand → Value} {h : Heap} {w : World}

theorem src_of_block {b : Nat} {c : Array Value} {el : TypeId} {fr : Nat × Nat} {n m esz : Nat} (hb : w.heap[b]? = some (.cells c el fr)) (hsz : c.size = n * esz) : SrcW P w esz (.slice (some ⟨b, 0, none⟩) n m) n c.toList :=
  SrcW.of_cells (by simpa using hsz) fun j v hj => by
    have : c[j]? = some v := by simpa using hj
    simp [World.cell?, hb, this]

theorem appO_src {xs : Array Operand} {x : Operand} {a : AO} (hxm : x ∈ xs) (ha : appO lay x = some a) (hag : Ag lay e ρ x) (hps : PrivS lay e h w ρ xs) (hs : h.sub w) {esz n : Nat} {cs : List Value} (hsrc : a.src h e esz = some (n, cs)) :
    SrcW P w esz (ρ x) n cs := by
  have viaO : ∀ o, opr lay x = some o → a = .o o → SrcW P w esz (ρ x) n cs := by
    intro o ho hao
    subst hao
    simp only [AO.src] at hsrc
    cases hg : o.get e with
    | none => rw [hg] at hsrc; simp [srcV] at hsrc
    | some v =>
      rw [hg] at hsrc
      rw [ag_get hag ho hg]
      exact srcV_run hs hsrc
  cases x with
  | tmp t =>
    simp only [appO] at ha
    split at ha
    · rename_i i hi
      simp only [Option.some.injEq] at ha
      exact viaO (.v i) (by simp [opr, plainAt, hi]) ha.symm
    · rename_i i m hi
      simp only [Option.some.injEq] at ha
      subst ha
      simp only [AO.src] at hsrc
      split at hsrc
      · rename_i c hc
        split at hsrc
        · rename_i hsz
          simp only [Option.some.injEq, Prod.mk.injEq] at hsrc
          obtain ⟨rfl, rfl⟩ := hsrc
          obtain ⟨b, el, h1, h2, h3⟩ := hps t i m c hxm hi hc
          rw [h1]
          exact src_of_block h2 hsz
        · simp at hsrc
      · simp at hsrc
    · simp at ha
  | const v => simp only [appO, Option.map_eq_some_iff] at ha; obtain ⟨o, ho, rfl⟩ := ha; exact viaO o ho rfl
  | global g => simp only [appO, Option.map_eq_some_iff] at ha; obtain ⟨o, ho, rfl⟩ := ha; exact viaO o ho rfl
  | func f => simp only [appO, Option.map_eq_some_iff] at ha; obtain ⟨o, ho, rfl⟩ := ha; exact viaO o ho rfl

theorem sub_drew {h : Heap} {w : World} (hs : h.sub w) : h.sub w.drew := hs
theorem frm_drew {h h' : Heap} {w w' : World} (hf : Frm h w.drew h' w') : Frm h w h' w' := ⟨hf.tape, hf.os, hf.output, hf.size, hf.keep, hf.fresh⟩

/-- the operation's outcome: a value, and a heap that the small language allows -/
def Good (P : Program) (k : Value → Heap → Prop) (h : Heap) (w : World) (r : Result Next) : Prop :=
  UponE P r fun v w' => ∃ h', k v h' ∧ h'.sub w' ∧ Frm h w h' w'

theorem good_value {k : Value → Heap → Prop} {v : Value} {h' : Heap} {w' : World} (hk : k v h') (hs : h'.sub w') (hf : Frm h w h' w') : Good P k h w (.ok (.value v) w') := ⟨h', hk, hs, hf⟩

theorem fresh_new {k : Value → Heap → Prop} {f : Nat → Value} {cs : Array Value} {el : TypeId} (hs : h.sub w) (hk : ∀ b el, h b = none → k (f b) (h.set b (.cells cs el (0, 0)))) :
    Good P k h w (.ok (.value (f w.heap.size)) (w.alloc (.cells cs el (0, 0)))) :=
  good_value (hk _ el (sub_fresh hs)) (sub_new hs _) (frm_new _)

theorem ex_app {xs : Array Operand} {t u ty : TypeId} {x y : Operand} (hxm : x ∈ xs) (hym : y ∈ xs) {by_ sz : Nat} {z : List Value} {a b : AO} {k : Value → Heap → Prop} (he : elemOf P t = some (by_, sz, z)) (hx : appO lay x = some a) (hy : appO lay y = some b) (hu : srcOk P u sz = true)
    (hagx : Ag lay e ρ x) (hagy : Ag lay e ρ y) (hps : PrivS lay e h w ρ xs) (hs : h.sub w) (hwp : (EX.app by_ sz z a b).wp P e h k) :
    ∃ v w', (Builtin.append_ #[t, u] ty #[ρ x, ρ y]).run P w = .ok v w' ∧ ∃ h', k v h' ∧ h'.sub w' ∧ Frm h w h' w' := by
  obtain ⟨el, i, zv, hut, hi, hz, rfl, rfl, rfl, hzs, hpos⟩ := elemOf_spec he
  simp only [EX.wp] at hwp
  obtain ⟨n, cs, hsrc, hwp⟩ := hwp
  have hS := appO_src (P := P) hym hy hagy hps hs hsrc
  cases a with
  | o xo =>
    simp only at hwp
    obtain ⟨p, len, cap, hp, hroom, hgrow⟩ := hwp
    have hxo : opr lay x = some xo := by
      cases x with
      | tmp t' =>
        simp only [appO] at hx
        split at hx
        · rename_i i' hi'; simp only [Option.some.injEq, AO.o.injEq] at hx; subst hx; simp [opr, plainAt, hi']
        · simp at hx
        · simp at hx
      | const v => simp only [appO, Option.map_eq_some_iff, AO.o.injEq] at hx; obtain ⟨_, h1, rfl⟩ := hx; exact h1
      | global g => simp only [appO, Option.map_eq_some_iff, AO.o.injEq] at hx; obtain ⟨_, h1, rfl⟩ := hx; exact h1
      | func f => simp only [appO, Option.map_eq_some_iff, AO.o.injEq] at hx; obtain ⟨_, h1, rfl⟩ := hx; exact h1
    rw [ag_get hagx hxo hp]
    by_cases hle : len + n ≤ cap
    · have hk := hroom hle
      rw [append_room hut hi hu hS hle]
      clear hroom hgrow
      clear hp
      revert hk
      match p with
      | none => intro hk; exact ⟨_, _, rfl, h, hk.2, hs, Frm.refl _ _⟩
      | some ⟨b', off, some _⟩ => intro hk; exact hk.elim
      | some ⟨b', off, none⟩ =>
        intro hk
        simp only at hk ⊢
        rw [addr_add0]
        rcases hk with ⟨rfl, hk⟩ | ⟨h', hst, hk⟩
        · exact ⟨_, w, by simp [storeCells], h, hk, hs, Frm.refl _ _⟩
        · obtain ⟨w', hr, hs', hf⟩ := hstore_run (P := P) hs hst
          exact ⟨_, w', by rw [hr]; rfl, h', hk, hs', hf⟩
    · obtain ⟨m, old, ho, hb, hn, hk⟩ := hgrow (by omega)
      have hO := srcV_run (P := P) hs ho
      have hm : m = len := by
        have := hO.len w
        simp [Builtin.lenOf] at this
        exact this.symm
      subst hm
      obtain ⟨c, hc, hr⟩ := append_grow (ty := ty) hut hi hz hu hS hO (by omega) hb hn
      exact ⟨_, _, hr, _, hk _ el c (sub_fresh hs) hc, sub_new (w := w.drew) (sub_drew hs) _, frm_drew (frm_new (w := w.drew) _)⟩
  | p m j =>
    simp only at hwp
    obtain ⟨rfl, ⟨c0, hc0⟩, h0, hpos'⟩ := hwp
    -- the base is a private slice without elements
    cases x with
    | tmp t' =>
      simp only [appO] at hx
      split at hx
      · simp at hx
      · rename_i i' m' hi'
        simp only [Option.some.injEq, AO.p.injEq] at hx
        obtain ⟨rfl, rfl⟩ := hx
        obtain ⟨bb, el', h1, h2, h3⟩ := hps t' i' 0 c0 hxm hi' hc0
        rw [h1]
        by_cases hn0 : n = 0
        · subst hn0
          have hcs : cs = [] := by
            have := hS.size
            simpa using this
          subst hcs
          rw [append_room hut hi hu hS (by omega)]
          exact ⟨.slice (some ⟨bb, 0, none⟩) 0 0, w, by simp [storeCells], h, h0 rfl _, hs, Frm.refl _ _⟩
        · obtain ⟨hb, hn, hk⟩ := hpos' (by omega)
          have hO : SrcW P w i.size (.slice (some ⟨bb, 0, none⟩) 0 0) 0 [] :=
            ⟨fun w => by simp [Builtin.lenOf], by simp, fun m hm w' _ => by
              obtain rfl : m = 0 := by omega
              simp [Builtin.firstCells, loadCells, loadCellsFrom]⟩
          obtain ⟨c, hc, hr⟩ := append_grow (ty := ty) hut hi hz hu hS hO (by omega) (by simpa using hb) (by simpa using hn)
          refine ⟨_, _, hr, _, ?_, sub_new (w := w.drew) (sub_drew hs) _, frm_drew (frm_new (w := w.drew) _)⟩
          have := hk _ el c (sub_fresh hs) (by simpa using hc)
          simpa using this
      · simp at hx
    | const v => simp [appO, Option.map_eq_some_iff] at hx
    | global g => simp [appO, Option.map_eq_some_iff] at hx
    | func f => simp [appO, Option.map_eq_some_iff] at hx

end
end Go.Proofs.Ytfhjclhchbagnaa
