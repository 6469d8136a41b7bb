/-
  One operation, whatever it is, takes a shared state to a shared state: 'act_step'.
-/
import Derived.Test.YtfhjclhchbagnaaG8
namespace Go.Proofs.Ytfhjclhchbagnaa
open Go
set_option linter.all false
set_option linter.unusedVariables false
set_option linter.unusedSimpArgs false
set_option linter.defProp false

section
variable {P : Program} {base : Nat} {lay : Lay} {L : Nat → Prop} {e : Env} {h : Heap} {w : World} {a : Act}

/-- where an operation's result stands -/
def Wr (lay : Lay) (o : Oper) (i : Nat) : Prop := ∃ t k, o.dst = some t ∧ lfind lay t = some (i, k)

theorem St.weaken (S : St base lay L e h w a) {L' : Nat → Prop} (hL : ∀ i, L' i → L i) : St base lay L' e h w a := by
  obtain ⟨blk, h1, h2⟩ := S.cov
  exact ⟨⟨blk, fun i t k hi hl => h1 i t k hi (hL i hl), fun i j hi hj => h2 i j (hL i hi) (hL j hj)⟩, S.sub, S.sz, S.low, S.len⟩

theorem wr_cdst {o : Oper} {d : Option Nat} (hd : cdst lay o.dst = some d) {i : Nat} (hi : Wr lay o i) : d = some i := by
  obtain ⟨t, k, h1, h2⟩ := hi
  rw [h1] at hd
  simp only [cdst, Option.map_eq_some_iff] at hd
  obtain ⟨p, hp, rfl⟩ := hd
  have := plainAt_spec hp
  rw [h2] at this
  simp at this
  simp [this.1]

theorem St.value2 (hd : Dist lay) (S : St base lay L e h w a) {h' : Heap} {w' : World} (hs : h'.sub w') (f : Frm h w h' w') {o : Oper} {d : Option Nat} (hdst : cdst lay o.dst = some d) (v : Value) :
    St base lay (fun i => L i ∨ Wr lay o i) (dput d (some v) e) h' w' (a.put o.dst v) :=
  (S.value hd hs f hdst v).weaken fun i hi => hi.imp id (wr_cdst hdst)

/-- what 'priv' says of an operand's value -/
theorem priv_val {blk : Nat → Nat} (hcov : ∀ (i t : Nat) (k : Knd), lay[i]? = some (t, k) → L i → Cov base e h w a.eval blk i t k) {o : Oper} (hL : OpL lay L o) {x : Operand} (hx : x ∈ o.op.operands) {c : Option Nat} {i off : Nat}
    (hp : priv lay x = some (c, i, off)) (hc : aok e c = true) {v : Value} (hv : eget e i = some v) :
    ∃ t, a.eval x = .pointer (some ⟨blk i, off, none⟩) ∧ Blk w h base (blk i) v.cells ∧ lay[i]? = some (t, .bx) ∧ L i := by
  cases x with
  | tmp t =>
    simp only [priv] at hp
    split at hp
    · rename_i j hj
      simp only [Option.some.injEq, Prod.mk.injEq] at hp
      obtain ⟨rfl, rfl, rfl⟩ := hp
      have hl := (hL t hx j .bx hj).1
      have := hcov j t .bx (lfind_spec hj) hl v hv
      exact ⟨t, this.1, this.2, lfind_spec hj, hl⟩
    · rename_i p j off' hj
      split at hp
      · rename_i t' ht'
        simp only [Option.some.injEq, Prod.mk.injEq] at hp
        obtain ⟨rfl, rfl, rfl⟩ := hp
        obtain ⟨hl, hl2⟩ := hL t hx p _ hj
        have hl2 := hl2 j off' rfl
        have h1 := hcov p t _ (lfind_spec hj) hl
        have h2 := hcov j t' .bx ht' hl2 v hv
        refine ⟨t', h1 ?_, h2.2, ht', hl2⟩
        simp only [aok] at hc
        split at hc
        · rename_i b hb; subst hc; exact hb
        · simp at hc
      · simp at hp
    · simp at hp
  | const v => simp [priv] at hp
  | global g => simp [priv] at hp
  | func f => simp [priv] at hp

theorem pgetV_run {b off : Nat} {v r : Value} {t : TypeId} {s : Option Nat} (ht : szT P t = some s) (hb : ∃ el, w.heap[b]? = some (.cells v.cells el (0, 0))) (hv : pgetV (some v) off s = some r) :
    (Instr.loadAt t (.pointer (some ⟨b, off, none⟩))).run P w = .ok r w := by
  obtain ⟨el, hb⟩ := hb
  have hcell : ∀ j u, v.cells.toList[j]? = some u → w.cell? ⟨b, j, none⟩ = some u := by
    intro j u hj
    have : v.cells[j]? = some u := by simpa using hj
    simp [World.cell?, hb, this]
  have hsz := szT_spec ht
  cases s with
  | none =>
    simp only [pgetV] at hv
    simp only [Instr.loadAt, Instr.sureAddr, loadVar, Sem.run_bind, Sem.run_pure, Result.andThen_ok, hsz w, Bool.false_eq_true, if_false, run_load, hcell _ _ hv]
  | some n =>
    simp only at hsz
    have key : ∀ l : List Value, l = (v.cells.toList.drop off).take n → l.length = n → (Instr.loadAt t (.pointer (some ⟨b, off, none⟩))).run P w = .ok (.agg l.toArray) w := by
      intro l hl hn
      have hload := run_loadCells_list (P := P) w ⟨b, off, none⟩ l (fun j u hj => by
        rw [addr_add0]
        apply hcell
        subst hl
        rw [List.getElem?_take] at hj
        split at hj
        · rw [List.getElem?_drop] at hj; exact hj
        · simp at hj)
      rw [hn] at hload
      simp only [Instr.loadAt, Instr.sureAddr, loadVar, Sem.run_bind, Sem.run_pure, Result.andThen_ok, hsz.1 w, hsz.2 w, if_true, hload]
    simp only [pgetV] at hv
    split at hv
    · rename_i hc
      obtain ⟨rfl, hc⟩ := hc
      simp only [Option.some.injEq] at hv
      subst hv
      have := key v.cells.toList (by rw [List.drop_zero, List.take_of_length_le (by simp [hc])]) (by simpa using hc)
      simpa using this
    · simp only [partV] at hv
      split at hv
      · rename_i hle
        simp only [Option.some.injEq] at hv
        subst hv
        exact key _ rfl (by simp at hle ⊢; omega)
      · simp at hv

theorem psetV_spec {v x r : Value} {off sz : Nat} (hv : psetV (some v) off sz (some x) = some r) :
    x.cells.size = sz ∧ off + sz ≤ v.cells.size ∧ (∀ u ∈ x.cells.toList, u.oneCell' = true) ∧ r.cells = (setC v.cells.toList off x.cells.toList).toArray := by
  simp only [psetV] at hv
  split at hv
  · rename_i hc
    obtain ⟨h1, h2, h3⟩ := hc
    refine ⟨h1, h2, fun u hu => List.all_eq_true.1 h3 u hu, ?_⟩
    split at hv
    · rename_i c
      simp only [Option.some.injEq] at hv
      subst hv
      split
      · rename_i hh
        obtain ⟨rfl, rfl⟩ := hh
        simp only [Value.cells] at *
        apply Array.ext'
        simp [setC, h1]
      · simp [Value.cells]
    · rename_i hna
      split at hv
      · rename_i hs1
        subst hs1
        have hvc : v.cells = #[v] := by
          cases v <;> first | rfl | exact absurd rfl (hna _)
        rw [hvc] at h2 ⊢
        simp at h2
        subst h2
        have hx1 : ∃ u, x.cells = #[u] := by
          cases hx : x.cells with
          | mk l =>
            cases l with
            | nil => simp [hx] at h1
            | cons u l =>
              cases l with
              | nil => exact ⟨u, rfl⟩
              | cons _ _ => simp [hx] at h1
        obtain ⟨u, hu⟩ := hx1
        rw [hu] at hv h3 ⊢
        simp at hv
        subst hv
        have hu1 : u.oneCell' = true := by simpa using h3
        have : u.cells = #[u] := by cases u <;> first | rfl | simp [Value.oneCell'] at hu1
        rw [this]
        simp [setC]
      · simp at hv
  · simp at hv

theorem setRow_sub {b : Nat} {cs : Array Value} (hs : h.sub w) (hb : h b = none) : h.sub (w.setRow b cs) := by
  intro b' o hb'
  have hne : b' ≠ b := fun he => by subst he; rw [hb] at hb'; simp at hb'
  rw [setRow_other w b b' _ hne]
  exact hs _ _ hb'

/-- a box's content is written -/
theorem St.pset (S : St base lay L e h w a) {blk : Nat → Nat} (hcov : ∀ (i t : Nat) (k : Knd), lay[i]? = some (t, k) → L i → Cov base e h w a.eval blk i t k)
    (hinj : ∀ i j, L i → L j → Act' lay e i → Act' lay e j → i ≠ j → blk i ≠ blk j) {i t0 : Nat} (hi : lay[i]? = some (t0, .bx)) (hL : L i) {v r : Value} (hv : eget e i = some v) :
    St base lay L (eset e i (some r)) h (w.setRow (blk i) r.cells) a ∧ FrB base h w h (w.setRow (blk i) r.cells) := by
  obtain ⟨h1, ⟨el, h2⟩, h3, h4⟩ := hcov i t0 .bx hi hL v hv
  have hown : ∀ x, Act' lay (eset e i (some r)) x → Act' lay e x := by
    rintro x ⟨t, k, u, g1, g2, g3⟩
    by_cases hx : i = x
    · subst hx; exact ⟨t, k, v, g1, g2, hv⟩
    · exact ⟨t, k, u, g1, g2, by rwa [eget_eset_ne _ _ _ _ hx] at g3⟩
  refine ⟨⟨⟨blk, ?_, ?_⟩, setRow_sub S.sub h3, S.sz, by simpa using S.low, by simpa [eset_length] using S.len⟩, ⟨rfl, rfl, rfl, by simp, ?_, fun _ _ hb => hb⟩⟩
  · intro j t k hj hl
    by_cases hij : i = j
    · subst hij
      rw [hi] at hj
      simp only [Option.some.injEq, Prod.mk.injEq] at hj
      obtain ⟨rfl, rfl⟩ := hj
      intro u hu
      refine ⟨h1, ?_⟩
      rcases eget_eset_same e i (some r) with g | g
      · rw [g] at hu
        simp only [Option.some.injEq] at hu
        subst hu
        exact ⟨⟨el, setRow_heap w (blk i) v.cells r.cells el (0, 0) h2⟩, h3, h4⟩
      · rw [g] at hu; simp at hu
    · refine (hcov j t k hj hl).keep (.inl (eget_eset_ne _ _ _ _ hij)) rfl rfl (fun _ _ _ => .inr rfl) ?_
      intro c hk hex hb
      obtain ⟨⟨el', g1⟩, g2, g3⟩ := hb
      have hne : blk j ≠ blk i := by
        obtain ⟨u, hu⟩ := hex
        exact fun he => hinj i j hL hl ⟨t0, .bx, v, hi, rfl, hv⟩ ⟨t, k, u, hj, hk, hu⟩ hij he.symm
      exact ⟨⟨el', by rw [setRow_other w (blk i) _ _ hne]; exact g1⟩, g2, g3⟩
  · intro x y hx hy ax ay hxy
    exact hinj x y hx hy (hown x ax) (hown y ay) hxy
  · intro b hb hn
    exact setRow_other w (blk i) b _ (by omega)

/-- a new private block -/
theorem St.fresh (hd : Dist lay) (S : St base lay L e h w a) {i t0 : Nat} {k0 : Knd} (hi : lfind lay t0 = some (i, k0)) (hk0 : isOwn k0 = true) {v : Value} {c : Array Value} {el : TypeId} {cl : List Nat} {u : Value}
    (hal : ∀ (p t off : Nat), lay[p]? = some (t, .al i off) → p ∈ cl) (hcl : ∀ p ∈ cl, p ≠ i)
    (hval : match k0 with | .bx => u = .pointer (some ⟨w.heap.size, 0, none⟩) ∧ c = v.cells | .ps n => u = .slice (some ⟨w.heap.size, 0, none⟩) n n ∧ v = .agg c | _ => False) {o : Oper} (ho : o.dst = some t0) :
    St base lay (fun j => L j ∨ Wr lay o j) (efgt (eset e i (some v)) cl) h (w.alloc (.cells c el (0, 0))) (a.put o.dst u) ∧ FrB base h w h (w.alloc (.cells c el (0, 0))) := by
  obtain ⟨blk, hcov, hinj⟩ := S.cov
  have hi' := lfind_spec hi
  have hsub : h.sub (w.alloc (.cells c el (0, 0))) := by
    intro b o' hb
    have := S.sub _ _ hb
    rw [alloc_old w _ (Array.getElem?_eq_some_iff.1 this).1]
    exact this
  have hold : ∀ b c', Blk w h base b c' → Blk (w.alloc (.cells c el (0, 0))) h base b c' ∧ b ≠ w.heap.size := by
    rintro b c' ⟨⟨el', g1⟩, g2, g3⟩
    have hlt := (Array.getElem?_eq_some_iff.1 g1).1
    exact ⟨⟨⟨el', by rw [alloc_old w _ hlt]; exact g1⟩, g2, g3⟩, by omega⟩
  have hLw : ∀ j, (L j ∨ Wr lay o j) → i ≠ j → L j := by
    rintro j (hj | ⟨t, k, g1, g2⟩) hij
    · exact hj
    · rw [ho] at g1; simp only [Option.some.injEq] at g1; subst g1; rw [hi] at g2; simp at g2; exact absurd g2.1 hij
  have hblkne : ∀ j, L j → Act' lay e j → blk j ≠ w.heap.size := by
    rintro j hl ⟨t, k, x, g1, g2, g3⟩
    cases k with
    | bx => exact (hold _ _ (hcov j t _ g1 hl x g3).2).2
    | ps n => obtain ⟨c', _, _, hb⟩ := hcov j t _ g1 hl x g3; exact (hold _ _ hb).2
    | pl => simp [isOwn] at g2
    | al _ _ => simp [isOwn] at g2
  refine ⟨⟨⟨fun j => if j = i then w.heap.size else blk j, ?_, ?_⟩, hsub, ?_, by rw [alloc_size]; have := S.low; omega, by simpa [efgt_length, eset_length] using S.len⟩, ⟨rfl, rfl, rfl, by rw [alloc_size]; omega, fun b hb _ => alloc_old w _ (Nat.lt_of_lt_of_le hb S.low), fun _ _ hb => hb⟩⟩
  · intro j t k hj hl
    by_cases hij : i = j
    · subst hij
      rw [hi'] at hj
      simp only [Option.some.injEq, Prod.mk.injEq] at hj
      obtain ⟨rfl, rfl⟩ := hj
      have hget : ∀ x, eget (efgt (eset e i (some v)) cl) i = some x → x = v := by
        intro x hx
        rcases eget_efgt cl (eset e i (some v)) i with g | g
        · rw [g] at hx
          rcases eget_eset_same e i (some v) with g' | g' <;> rw [g'] at hx <;> simp at hx
          exact hx.symm
        · rw [g] at hx; simp at hx
      have hput : (a.put o.dst u).eval (.tmp t0) = u := by rw [ho]; exact put_eval (S.sz _ _ _ hi')
      have hnew : Blk (w.alloc (.cells c el (0, 0))) h base w.heap.size c := ⟨⟨el, alloc_last w _⟩, sub_fresh S.sub, S.low⟩
      cases k0 with
      | bx =>
        obtain ⟨rfl, rfl⟩ := hval
        intro x hx
        obtain rfl := hget x hx
        rw [hput]
        simpa using hnew
      | ps n =>
        obtain ⟨rfl, rfl⟩ := hval
        intro x hx
        obtain rfl := hget x hx
        refine ⟨c, rfl, ?_⟩
        rw [hput]
        simpa using hnew
      | pl => exact hval.elim
      | al _ _ => exact hval.elim
    · have hlj := hLw j hl hij
      have hne : o.dst ≠ some t := by
        rw [ho]; intro he; simp only [Option.some.injEq] at he; subst he; exact hij (hd _ _ _ _ _ hi' hj)
      refine (hcov j t k hj hlj).keep ?_ (put_eval_ne hne) (by simp [Ne.symm hij]) ?_ (fun c' _ _ hb => (hold _ _ hb).1)
      · rcases eget_efgt cl (eset e i (some v)) j with g | g
        · rw [g, eget_eset_ne _ _ _ _ hij]; exact .inl rfl
        · exact .inr g
      · intro j' off hk
        by_cases hj' : j' = i
        · subst hj'; subst hk
          exact .inl (eget_efgt_mem _ _ _ (hal j t off hj))
        · exact .inr (by simp [hj'])
  · intro x y hx hy ax ay hxy
    have hact : ∀ z, z ≠ i → Act' lay (efgt (eset e i (some v)) cl) z → Act' lay e z := by
      rintro z hz ⟨t, k, q, g1, g2, g3⟩
      refine ⟨t, k, q, g1, g2, ?_⟩
      rcases eget_efgt cl (eset e i (some v)) z with g | g
      · rwa [g, eget_eset_ne _ _ _ _ (Ne.symm hz)] at g3
      · rw [g] at g3; simp at g3
    by_cases hxi : x = i
    · subst hxi
      have hyi : y ≠ x := Ne.symm hxy
      simp only [if_true, if_neg hyi]
      exact (hblkne y (hLw y hy (Ne.symm hyi)) (hact y hyi ay)).symm
    · by_cases hyi : y = i
      · subst hyi
        simp only [if_true, if_neg hxi]
        exact hblkne x (hLw x hx (Ne.symm hxi)) (hact x hxi ax)
      · simp only [if_neg hxi, if_neg hyi]
        exact hinj x y (hLw x hx (Ne.symm hxi)) (hLw y hy (Ne.symm hyi)) (hact x hxi ax) (hact y hyi ay) hxy
  · intro j t k hj; rw [put_size]; exact S.sz j t k hj

/-- the address of a box, or of a part of it, is taken -/
theorem St.alias (hd : Dist lay) (S : St base lay L e h w a) {blk : Nat → Nat} (hcov : ∀ (i t : Nat) (k : Knd), lay[i]? = some (t, k) → L i → Cov base e h w a.eval blk i t k)
    (hinj : ∀ i j, L i → L j → Act' lay e i → Act' lay e j → i ≠ j → blk i ≠ blk j) {t0 p i off : Nat} (hp : lfind lay t0 = some (p, .al i off)) {o : Oper} (ho : o.dst = some t0) :
    St base lay (fun j => L j ∨ Wr lay o j) (eset e p (some (.bool true))) h w (a.put o.dst (.pointer (some ⟨blk i, off, none⟩))) := by
  have hp' := lfind_spec hp
  refine ⟨⟨blk, ?_, ?_⟩, S.sub, ?_, S.low, by simpa [eset_length] using S.len⟩
  · intro j t k hj hl
    by_cases hpj : p = j
    · subst hpj
      rw [hp'] at hj
      simp only [Option.some.injEq, Prod.mk.injEq] at hj
      obtain ⟨rfl, rfl⟩ := hj
      intro _
      rw [ho]
      exact put_eval (S.sz _ _ _ hp')
    · have hlj : L j := by
        rcases hl with hl | ⟨t', k', g1, g2⟩
        · exact hl
        · rw [ho] at g1; simp only [Option.some.injEq] at g1; subst g1; rw [hp] at g2; simp at g2; exact absurd g2.1 hpj
      have hne : o.dst ≠ some t := by
        rw [ho]; intro he; simp only [Option.some.injEq] at he; subst he; exact hpj (hd _ _ _ _ _ hp' hj)
      exact (hcov j t k hj hlj).keep (.inl (eget_eset_ne _ _ _ _ hpj)) (put_eval_ne hne) rfl (fun _ _ _ => .inr rfl) (fun _ _ _ hb => hb)
  · have back : ∀ x, (L x ∨ Wr lay o x) → Act' lay (eset e p (some (.bool true))) x → L x ∧ Act' lay e x := by
      rintro x hx ax
      have ax' : Act' lay e x := Act'.of_set ax (fun t k htk => by rw [hp'] at htk; simp at htk; rw [← htk.2]; rfl)
      refine ⟨?_, ax'⟩
      rcases hx with hx | ⟨t', k', g1, g2⟩
      · exact hx
      · rw [ho] at g1; simp only [Option.some.injEq] at g1; subst g1; rw [hp] at g2; simp at g2
        obtain ⟨rfl, rfl⟩ := g2
        obtain ⟨t, k, _, q1, q2, _⟩ := ax'
        rw [hp'] at q1; simp at q1; rw [← q1.2] at q2; simp [isOwn] at q2
    intro x y hx hy ax ay hxy
    obtain ⟨h1, h2⟩ := back x hx ax
    obtain ⟨h3, h4⟩ := back y hy ay
    exact hinj x y h1 h3 h2 h4 hxy
  · intro j t k hj; rw [put_size]; exact S.sz j t k hj

theorem aliasesOf_mem {i : Nat} : ∀ {lay : Lay} {n p t off : Nat}, lay[p]? = some (t, .al i off) → n + p ∈ aliasesOf lay i n
  | [], n, p, t, off, h => by simp at h
  | (t', k) :: r, n, 0, t, off, h => by
    simp at h
    obtain ⟨rfl, rfl⟩ := h
    simp [aliasesOf]
  | (t', k) :: r, n, p + 1, t, off, h => by
    have ih := aliasesOf_mem (lay := r) (n := n + 1) (p := p) (by simpa using h)
    rw [show n + 1 + p = n + (p + 1) by omega] at ih
    cases k with
    | al j off' => simp only [aliasesOf]; split <;> simp [ih]
    | pl => simpa [aliasesOf] using ih
    | bx => simpa [aliasesOf] using ih
    | ps m => simpa [aliasesOf] using ih

theorem aliasesOf_inv {i : Nat} : ∀ {lay : Lay} {n p : Nat}, p ∈ aliasesOf lay i n → ∃ q t off, p = n + q ∧ lay[q]? = some (t, .al i off)
  | [], n, p, h => by simp [aliasesOf] at h
  | (t', k) :: r, n, p, h => by
    have step : p ∈ aliasesOf r i (n + 1) → ∃ q t off, p = n + q ∧ ((t', k) :: r)[q]? = some (t, .al i off) := by
      intro h
      obtain ⟨q, t, off, rfl, hq⟩ := aliasesOf_inv h
      exact ⟨q + 1, t, off, by omega, by simpa using hq⟩
    cases k with
    | al j off' =>
      simp only [aliasesOf] at h
      split at h
      · rename_i hj
        rcases List.mem_cons.1 h with rfl | h
        · exact ⟨0, t', off', rfl, by simp [hj]⟩
        · exact step h
      · exact step h
    | pl => exact step h
    | bx => exact step h
    | ps m => exact step h

theorem alloc_run {t : TypeId} {z : Value} (hz : zeroT P t = some z) : (Instr.alloc t true (.tuple #[])).run P w = .ok (.pointer (some ⟨w.heap.size, 0, none⟩)) (w.alloc (.cells z.cells t (0, 0))) := by
  simp only [Instr.alloc, Sem.run_bind, run_zeroValue hz, Result.andThen_ok, newVar, newRow, run_newObj, Sem.run_pure]
  rfl
theorem box_run {t : TypeId} {v : Value} : (Instr.box t v).run P w = .ok (.pointer (some ⟨w.heap.size, 0, none⟩)) (w.alloc (.cells v.cells t (0, 0))) := by
  simp only [Instr.box, newVar, newRow, Sem.run_bind, run_newObj, Result.andThen_ok, Sem.run_pure]
  rfl

/-- ONE OPERATION, where its guard says yes -/
theorem act_step (hd : Dist lay) (S : St base lay L e h w a) {o : Oper} {g : Guard} (hL : OpL lay L o) {k : Env → Heap → Prop} {x : A} (hx : cact P lay g o = some x) (hw : x.wp P k e h) :
    UponE P ((execOp a.eval o).run P w) fun v w' => ∃ e' h', k e' h' ∧ St base lay (fun i => L i ∨ Wr lay o i) e' h' w' (a.put o.dst v) ∧ FrB base h w h' w' := by
  have hag := S.ag hL
  unfold cact at hx
  split at hx
  · -- private boxes
    rename_i s hs
    simp only [Option.some.injEq] at hx
    subst hx
    obtain ⟨blk, hcov, hinj⟩ := S.cov
    unfold cprv at hs
    split at hs
    · -- alloc
      rename_i t hop
      split at hs
      · rename_i _ i z hb hz
        simp only [Option.some.injEq] at hs; subst hs
        simp only [Option.bind_eq_some_iff] at hb
        obtain ⟨t0, ho, hi⟩ := hb
        simp only [A.wp, O.get] at hw
        obtain ⟨v, hv, hk⟩ := hw
        simp only [Option.some.injEq] at hv; subst hv
        have := S.fresh hd hi rfl (v := z) (c := z.cells) (el := t) (cl := aliasesOf lay i 0) (u := .pointer (some ⟨w.heap.size, 0, none⟩))
          (fun p t off hp => by simpa using aliasesOf_mem (n := 0) hp) (fun p hp => by
            obtain ⟨q, t, off, rfl, hq⟩ := aliasesOf_inv hp
            intro he
            rw [Nat.zero_add] at he; subst he
            rw [lfind_spec hi] at hq; simp at hq) ⟨rfl, rfl⟩ ho
        simp only [execOp, hop, Sem.run_bind, alloc_run hz, Result.andThen_ok, Sem.run_pure]
        exact ⟨_, _, hk, this.1, this.2⟩
      · simp at hs
    · -- box
      rename_i t x hop
      split at hs
      · rename_i _ i ov hb hx
        simp only [Option.some.injEq] at hs; subst hs
        simp only [Option.bind_eq_some_iff] at hb
        obtain ⟨t0, ho, hi⟩ := hb
        simp only [A.wp] at hw
        obtain ⟨v, hv, hk⟩ := hw
        have hx' : a.eval x = v := ag_get (hag x (by simp [Op.operands, hop])) hx hv
        have := S.fresh hd hi rfl (v := v) (c := v.cells) (el := t) (cl := aliasesOf lay i 0) (u := .pointer (some ⟨w.heap.size, 0, none⟩))
          (fun p t off hp => by simpa using aliasesOf_mem (n := 0) hp) (fun p hp => by
            obtain ⟨q, t, off, rfl, hq⟩ := aliasesOf_inv hp
            intro he
            rw [Nat.zero_add] at he; subst he
            rw [lfind_spec hi] at hq; simp at hq) ⟨rfl, rfl⟩ ho
        simp only [execOp, hop, hx', Sem.run_bind, box_run, Result.andThen_ok, Sem.run_pure]
        exact ⟨_, _, hk, this.1, this.2⟩
      · simp at hs
    · -- move
      rename_i x hop
      split at hs
      · rename_i c i off d i' off' hp hb
        split at hs
        · rename_i hc
          obtain ⟨rfl, rfl⟩ := hc
          simp only [Option.some.injEq] at hs; subst hs
          simp only [Option.bind_eq_some_iff] at hb
          obtain ⟨t0, ho, hi⟩ := hb
          simp only [A.wp] at hw
          obtain ⟨h1, h2, hk⟩ := hw
          obtain ⟨v, hv⟩ := Option.isSome_iff_exists.1 h2
          obtain ⟨t, hx, hB, _, _⟩ := priv_val hcov hL (x := x) (by simp [Op.operands, hop]) hp h1 hv
          simp only [execOp, hop, hx, Sem.run_pure]
          exact ⟨_, _, hk, S.alias hd hcov hinj hi ho, FrB.refl _ _ _⟩
        · simp at hs
      · simp at hs
    · -- nilCheck
      rename_i x hop
      split at hs
      · rename_i c i off d i' off' hp hb
        split at hs
        · rename_i hc
          obtain ⟨rfl, rfl⟩ := hc
          simp only [Option.some.injEq] at hs; subst hs
          simp only [Option.bind_eq_some_iff] at hb
          obtain ⟨t0, ho, hi⟩ := hb
          simp only [A.wp] at hw
          obtain ⟨h1, h2, hk⟩ := hw
          obtain ⟨v, hv⟩ := Option.isSome_iff_exists.1 h2
          obtain ⟨t, hx, hB, _, _⟩ := priv_val hcov hL (x := x) (by simp [Op.operands, hop]) hp h1 hv
          simp only [execOp, hop, hx, Sem.run_pure]
          exact ⟨_, _, hk, S.alias hd hcov hinj hi ho, FrB.refl _ _ _⟩
        · simp at hs
      · simp at hs
    · -- fieldAddr
      rename_i t x f hop
      split at hs
      · rename_i c i off fo d i' off' hp hf hb
        split at hs
        · rename_i hc
          obtain ⟨rfl, rfl⟩ := hc
          simp only [Option.some.injEq] at hs; subst hs
          simp only [Option.bind_eq_some_iff] at hb
          obtain ⟨t0, ho, hi⟩ := hb
          simp only [A.wp] at hw
          obtain ⟨h1, h2, hk⟩ := hw
          obtain ⟨v, hv⟩ := Option.isSome_iff_exists.1 h2
          obtain ⟨t', hx, hB, _, _⟩ := priv_val hcov hL (x := x) (by simp [Op.operands, hop]) hp h1 hv
          unfold fieldOff at hf
          split at hf
          · rename_i fs hu
            split at hf
            · rename_i fd hfd
              split at hf
              · rename_i inf hinf
                split at hf
                · simp at hf
                · rename_i hne
                  simp only [Option.some.injEq] at hf
                  subst hf
                  have hr : (Instr.fieldAt t (.pointer (some ⟨blk i, off, none⟩)) f).run P w = .ok (.pointer (some ⟨blk i, off + fd.offset, none⟩)) w := by
                    simp [Instr.fieldAt, run_underlying hu, hfd, Instr.sureAddr, fieldPlace, run_sizeOf hinf, hne, addr_add0]
                  simp only [execOp, hop, hx, Sem.run_bind, hr, Result.andThen_ok, Sem.run_pure]
                  exact ⟨_, _, hk, S.alias hd hcov hinj hi ho, FrB.refl _ _ _⟩
              · simp at hf
            · simp at hf
          · simp at hf
        · simp at hs
      · simp at hs
    · -- load
      rename_i t x hop
      split at hs
      · rename_i c i off s d hp hsz hdst
        simp only [Option.some.injEq] at hs; subst hs
        simp only [A.wp] at hw
        obtain ⟨r, hr, hk⟩ := hw
        unfold pgetC at hr
        split at hr
        · rename_i hc
          cases hv : eget e i with
          | none => rw [hv] at hr; simp [pgetV] at hr
          | some v =>
            rw [hv] at hr
            obtain ⟨t', hx, hB, _, _⟩ := priv_val hcov hL (x := x) (by simp [Op.operands, hop]) hp hc hv
            have := pgetV_run (P := P) hsz hB.1 hr
            simp only [execOp, hop, hx, Sem.run_bind, this, Result.andThen_ok, Sem.run_pure]
            exact ⟨_, _, hk, S.value2 hd S.sub (Frm.refl _ _) hdst r, FrB.refl _ _ _⟩
        · simp at hr
      · simp at hs
    · -- store
      rename_i t x y hop
      split at hs
      · rename_i c i off yo inf hp hy hi hdn
        simp only [Option.some.injEq] at hs; subst hs
        simp only [A.wp] at hw
        obtain ⟨hc, r, hr, hk⟩ := hw
        cases hv : eget e i with
        | none => rw [hv] at hr; simp [psetV] at hr
        | some v =>
          cases hyv : yo.get e with
          | none => rw [hv, hyv] at hr; simp [psetV] at hr
          | some yv =>
            rw [hv, hyv] at hr
            obtain ⟨t', hx, hB, hbx, hLi⟩ := priv_val hcov hL (x := x) (by simp [Op.operands, hop]) hp hc hv
            have hy' : a.eval y = yv := ag_get (hag y (by simp [Op.operands, hop])) hy hyv
            obtain ⟨g1, g2, g3, g4⟩ := psetV_spec hr
            obtain ⟨⟨el, hb⟩, _, _⟩ := hB
            have hst := run_storeCells_at (P := P) (blk i) off el yv.cells.toList 0 v.cells w hb (by simp [g1]; omega) g3
            have hrow : (v.cells.toList.take (off + 0) ++ yv.cells.toList ++ v.cells.toList.drop (off + 0 + yv.cells.toList.length)).toArray = r.cells := by
              rw [g4]; simp [setC]
            rw [hrow] at hst
            have hSt := S.pset hcov hinj hbx hLi hv (r := r)
            have hrun : (Instr.storeAt t (.pointer (some ⟨blk i, off, none⟩)) yv).run P w = .ok () (w.setRow (blk i) r.cells) := by
              simp only [Instr.storeAt, Instr.sureAddr, storeVar, Sem.run_bind, Sem.run_pure, Result.andThen_ok, run_sizeOf hi, g1, ne_eq, not_true_eq_false, if_false, hst]
            simp only [execOp, hop, hx, hy', Sem.run_bind, hrun, Result.andThen_ok, Sem.run_pure]
            refine ⟨_, _, hk, ?_, hSt.2⟩
            rw [hdn]
            refine hSt.1.weaken ?_
            rintro j (hj | ⟨t, k, q1, _⟩)
            · exact hj
            · rw [hdn] at q1; simp at q1
      · simp at hs
    · -- a private slice
      rename_i t len ps hop
      split at hs
      · rename_i _ i n sz z l hb hbl
        split at hs
        · rename_i hn
          obtain ⟨rfl, hal⟩ := hn
          simp only [Option.some.injEq] at hs; subst hs
          simp only [Option.bind_eq_some_iff] at hb
          obtain ⟨t0, ho, hi⟩ := hb
          simp only [A.wp] at hw
          obtain ⟨cs, hcs, hk⟩ := hw
          obtain ⟨el, _, hr⟩ := partsBls (w := w) hbl hcs (fun y hy => hag y.2 (by simp [Op.operands, hop]; exact ⟨y.1, by simpa using hy⟩))
          have := S.fresh hd hi rfl (v := .agg cs.toArray) (c := cs.toArray) (el := el) (cl := []) (u := .slice (some ⟨w.heap.size, 0, none⟩) n n)
            (fun p t off hp => by
              have := aliasesOf_mem (n := 0) hp
              rw [hal] at this
              simp at this) (fun p hp => by simp at hp) ⟨rfl, rfl⟩ ho
          simp only [execOp, hop, Sem.run_bind, hr, Result.andThen_ok, Sem.run_pure]
          exact ⟨_, _, hk, this.1, this.2⟩
        · simp at hs
      · simp at hs
    · simp at hs
  · split at hx
    · simp at hx
    · rename_i d hdst
      split at hx
      · -- a load from the heap
        rename_i t y hop
        split at hx
        · rename_i xo s hy hs
          simp only [Option.some.injEq] at hx
          subst hx
          simp only [A.wp] at hw
          obtain ⟨v, hv, hk⟩ := hw
          cases hg : xo.get e with
          | none => rw [hg] at hv; simp [hload] at hv
          | some p =>
            rw [hg] at hv
            have hx' : a.eval y = p := ag_get (hag y (by simp [Op.operands, hop])) hy hg
            have := hload_run (P := P) S.sub hs hv
            simp only [execOp, hop, hx', Sem.run_bind, this, Result.andThen_ok, Sem.run_pure]
            exact ⟨_, _, hk, S.value2 hd S.sub (Frm.refl _ _) hdst v, FrB.refl _ _ _⟩
        · simp at hx
      · rename_i op hnl
        split at hx
        · rename_i y hy
          simp only [Option.some.injEq] at hx
          subst hx
          simp only [A.wp] at hw
          obtain ⟨v, hv, hk⟩ := hw
          rw [px_run hy hag hv]
          exact ⟨_, _, hk, S.value2 hd S.sub (Frm.refl _ _) hdst v, FrB.refl _ _ _⟩
        · split at hx
          · rename_i y hy
            simp only [Option.some.injEq] at hx
            subst hx
            simp only [A.wp] at hw
            have := ex_run hy hag (S.psv hL) S.sub hw
            refine UponE.mono this ?_
            rintro v w' ⟨h', ⟨h2, hle, hk⟩, hs', hf⟩
            have hf2 : Frm h w h2 w' := ⟨hf.tape, hf.os, hf.output, hf.size, hf.keep, fun b hb hn => by
              cases hh : h2 b with
              | none => rfl
              | some o => have := hle b o hh; rw [hf.fresh b hb hn] at this; simp at this⟩
            have hs2 : h2.sub w' := fun b o hb => hs' b o (hle b o hb)
            exact ⟨_, _, hk, S.value2 hd hs2 hf2 hdst v, FrB.of_frm S.low hf2⟩
          · simp at hx

end
end Go.Proofs.Ytfhjclhchbagnaa
