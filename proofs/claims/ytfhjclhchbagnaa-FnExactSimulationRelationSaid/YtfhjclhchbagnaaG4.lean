/-
  All pure operations at once: 'px_run'.
-/
import Derived.Test.YtfhjclhchbagnaaG3
namespace Go.Proofs.Ytfhjclhchbagnaa
open Go
set_option linter.all false
set_option linter.unusedVariables false
set_option linter.unusedSimpArgs false
set_option linter.defProp false

section
variable {P : Program} {lay : Lay} {e : Env} {ρ : Operand → Value}

theorem px_slice {t : TypeId} {x : Operand} {lo hi mx : Option Operand} {z : PX} {v : Value} (hx : cpx P lay (.slice t x lo hi mx) = some z)
    (hax : Ag lay e ρ x) (hlo : ∀ y, lo = some y → Ag lay e ρ y) (hhi : ∀ y, hi = some y → Ag lay e ρ y) (hmx : ∀ y, mx = some y → Ag lay e ρ y) (hv : z.ev e = some v) (w : World) :
    (Instr.sliceAt t (ρ x) (lo.map ρ) (hi.map ρ) (mx.map ρ)).run P w = .ok v w := by
  simp only [cpx] at hx
  split at hx
  · rename_i a l h hu ha hl hh hm
    simp only [Option.some.injEq] at hx
    subst hx
    simp only [PX.ev] at hv
    split at hv
    case h_2 => simp at hv
    rename_i vx hs
    unfold sliceSV at hv
    split at hv
    · rename_i s
      split at hv
      · rename_i nh hnh
        split at hv
        · rename_i nl hnl
          simp only [Option.some.injEq] at hv
          subst hv
          obtain ⟨zl, hzl, bl⟩ := oprO_spec hl hlo hnl
          obtain ⟨zh, hzh, bh⟩ := oprO_spec hh hhi hnh
          have hmx0 : mx = none := by cases mx <;> simp [oprO] at hm ⊢
          subst hmx0
          rw [ag_get hax ha hs, hzl, hzh]
          have bl' := bndV_run bl
          have bh' := bndV_run bh
          cases zl <;> cases zh <;> simp only at bl' bh'
          · subst bl' bh'; simp [Instr.sliceAt, Instr.slice, run_underlying hu, Instr.sliceBounds]
          · obtain ⟨k, i, rfl, h1, h2, rfl⟩ := bh'; subst bl'
            simp [Instr.sliceAt, Instr.slice, run_underlying hu, Instr.sliceBounds, sliceBound_run h1 h2]
          · obtain ⟨k, i, rfl, h1, h2, rfl⟩ := bl'; subst bh'
            simp [Instr.sliceAt, Instr.slice, run_underlying hu, Instr.sliceBounds, sliceBound_run h1 h2]
          · obtain ⟨k, i, rfl, h1, h2, rfl⟩ := bl'; obtain ⟨k', i', rfl, h1', h2', rfl⟩ := bh'
            simp [Instr.sliceAt, Instr.slice, run_underlying hu, Instr.sliceBounds, sliceBound_run h1' h2', sliceBound_run h1 h2]
        · simp at hv
      · simp at hv
    · simp at hv
  · rename_i el a l h m hu ha hl hh hm
    simp only [Option.map_eq_some_iff] at hx
    obtain ⟨inf, hi', rfl⟩ := hx
    simp only [PX.ev] at hv
    split at hv
    case h_2 => simp at hv
    rename_i vx hs
    unfold sliceVV at hv
    split at hv
    · rename_i p len cap
      split at hv
      · rename_i nm hnm
        split at hv
        · rename_i nh hnh
          split at hv
          · rename_i nl hnl
            split at hv
            · simp at hv
            · rename_i hmh
              simp only [Option.isSome_map, Option.isNone_map] at hmh
              simp only [Option.some.injEq] at hv
              subst hv
              obtain ⟨zl, hzl, bl⟩ := oprO_spec hl hlo hnl
              obtain ⟨zh, hzh, bh⟩ := oprO_spec hh hhi hnh
              obtain ⟨zm, hzm, bm⟩ := oprO_spec hm hmx hnm
              have hmh' : zm.isSome = true → zh.isSome = true := by
                intro hz
                have e1 : m.isSome = true := by
                  cases mx with
                  | none => simp at hzm; subst hzm; simp at hz
                  | some y =>
                    simp only [oprO, Option.map_eq_some_iff] at hm
                    obtain ⟨_, _, rfl⟩ := hm; rfl
                cases hi with
                | none =>
                  simp [oprO] at hh; subst hh
                  simp [e1] at hmh
                | some y => simp at hzh; simp [← hzh]
              rw [ag_get hax ha hs, hzl, hzh, hzm]
              have bl' := bndV_run bl
              have bh' := bndV_run bh
              have bm' := bndV_run bm
              have hb : (Instr.sliceBounds true len cap zl zh zm).run P w = .ok (nl, nh, nm) w := by
                cases zm <;> cases zh <;> cases zl <;> simp only at bl' bh' bm' <;> simp at hmh'
                · subst bl' bh' bm'; simp [Instr.sliceBounds]
                · obtain ⟨k, i, rfl, h1, h2, rfl⟩ := bl'; subst bh' bm'
                  simp [Instr.sliceBounds, sliceBound_run h1 h2]
                · obtain ⟨k, i, rfl, h1, h2, rfl⟩ := bh'; subst bl' bm'
                  simp [Instr.sliceBounds, sliceBound_run h1 h2]
                · obtain ⟨k, i, rfl, h1, h2, rfl⟩ := bl'; obtain ⟨k', i', rfl, h1', h2', rfl⟩ := bh'; subst bm'
                  simp [Instr.sliceBounds, sliceBound_run h1' h2', sliceBound_run h1 h2]
                · obtain ⟨k, i, rfl, h1, h2, rfl⟩ := bm'; obtain ⟨k', i', rfl, h1', h2', rfl⟩ := bh'; subst bl'
                  simp [Instr.sliceBounds, sliceBound_run h1' h2', sliceBound_run h1 h2]
                · obtain ⟨k, i, rfl, h1, h2, rfl⟩ := bm'; obtain ⟨k', i', rfl, h1', h2', rfl⟩ := bh'; obtain ⟨k2, i2, rfl, h12, h22, rfl⟩ := bl'
                  simp [Instr.sliceBounds, sliceBound_run h1' h2', sliceBound_run h1 h2, sliceBound_run h12 h22]
              simp only [Instr.sliceAt, Instr.slice, Sem.run_bind, run_underlying hu, Result.andThen_ok, hb, run_sizeOf hi', Sem.run_pure]
          · simp at hv
        · simp at hv
      · simp at hv
    · simp at hv
  · simp at hx

theorem px_call {c : Call} {ty : TypeId} {z : PX} {v : Value} (hx : cpx P lay (.call c) = some z) (hag : ∀ y ∈ c.args.toList, Ag lay e ρ y) (hv : z.ev e = some v) (w : World) :
    (do let d ← resolve ρ c ty; invoke d.target d.args : Sem Next).run P w = .ok (.value v) w := by
  simp only [cpx] at hx
  split at hx
  · rename_i hc
    split at hx
    · rename_i t x ht hax
      have h1 : c.argTypes = #[t] := by rw [← Array.toList_inj, ht]
      have h2 : c.args = #[x] := by rw [← Array.toList_inj, hax]
      have hA := hag x (by simp [hax])
      split at hx
      · rename_i a hu ha
        simp only [Option.some.injEq] at hx; subst hx
        simp only [PX.ev] at hv
        split at hv
        case h_2 => simp at hv
        rename_i vx hs
        unfold lenSV at hv
        split at hv
        · rename_i s
          simp only [Option.some.injEq] at hv; subst hv
          have hs' := ag_get hA ha hs
          simp [resolve, hc, h1, h2, hs', invoke, builtin, Builtin.len_, run_underlying hu, goInt]
        · simp at hv
      · rename_i el a hu ha
        simp only [Option.some.injEq] at hx; subst hx
        simp only [PX.ev] at hv
        split at hv
        case h_2 => simp at hv
        rename_i vx hs
        unfold lenVV at hv
        split at hv
        · rename_i p n m
          simp only [Option.some.injEq] at hv; subst hv
          have hs' := ag_get hA ha hs
          simp [resolve, hc, h1, h2, hs', invoke, builtin, Builtin.len_, run_underlying hu, goInt]
        · simp at hv
      · simp at hx
    · simp at hx
  · rename_i hc
    split at hx
    · rename_i t x ht hax
      have h1 : c.argTypes = #[t] := by rw [← Array.toList_inj, ht]
      have h2 : c.args = #[x] := by rw [← Array.toList_inj, hax]
      have hA := hag x (by simp [hax])
      split at hx
      · rename_i el a hu ha
        simp only [Option.some.injEq] at hx; subst hx
        simp only [PX.ev] at hv
        split at hv
        case h_2 => simp at hv
        rename_i vx hs
        unfold capVV at hv
        split at hv
        · rename_i p n m
          simp only [Option.some.injEq] at hv; subst hv
          have hs' := ag_get hA ha hs
          simp [resolve, hc, h1, h2, hs', invoke, builtin, Builtin.cap_, run_underlying hu, goInt]
        · simp at hv
      · simp at hx
    · simp at hx
  · rename_i hc
    split at hx
    · rename_i x y hax
      have h2 : c.args = #[x, y] := by rw [← Array.toList_inj, hax]
      have hA := hag x (by simp [hax])
      have hB := hag y (by simp [hax])
      split at hx
      · rename_i a b ha hb
        simp only [Option.some.injEq] at hx; subst hx
        simp only [PX.ev] at hv
        split at hv
        · rename_i k n k' m hn hm
          split at hv
          · rename_i hk
            subst hk
            simp only [Option.some.injEq] at hv; subst hv
            have hs' := ag_get hA ha hn
            have hs2 := ag_get hB hb hm
            simp [resolve, hc, h2, hs', hs2, invoke, builtin, Builtin.min_, Builtin.min2]
          · simp at hv
        · simp at hv
      · simp at hx
    · simp at hx
  · simp at hx

/-- EVERY PURE OPERATION -/
theorem px_run {o : Oper} {x : PX} {v : Value} (hx : cpx P lay o.op = some x) (hag : ∀ y ∈ o.op.operands, Ag lay e ρ y) (hv : x.ev e = some v) (w : World) :
    (execOp ρ o).run P w = .ok (.value v) w := by
  obtain ⟨dst, op, type, pos, after, guard⟩ := o
  cases op
  case move y =>
    obtain ⟨a, ha, rfl⟩ := map_opr hx
    simp [execOp, ag_get (hag y (by simp [Op.operands])) ha hv]
  case assign y =>
    obtain ⟨a, ha, rfl⟩ := map_opr hx
    simp [execOp, ag_get (hag y (by simp [Op.operands])) ha hv]
  case pick c a b =>
    simp only [cpx] at hx
    split at hx
    · rename_i c' a' b' hc ha hb
      simp only [Option.some.injEq] at hx; subst hx
      simp only [PX.ev] at hv
      split at hv
      · rename_i t ht
        have h1 := ag_get (hag c (by simp [Op.operands])) hc ht
        cases t
        · have h2 := ag_get (hag b (by simp [Op.operands])) hb (by simpa using hv)
          simp [execOp, h1, h2, asBool]
        · have h2 := ag_get (hag a (by simp [Op.operands])) ha (by simpa using hv)
          simp [execOp, h1, h2, asBool]
      · simp at hv
    · simp at hx
  case binOp op t y z yt =>
    have := px_bin hx (hag y (by simp [Op.operands])) (hag z (by simp [Op.operands])) hv w
    simp only [execOp, Sem.run_bind] at this ⊢
    rw [this]; rfl
  case unOp op t y =>
    obtain ⟨a, ha, rfl⟩ := map_opr hx
    simp only [PX.ev] at hv
    split at hv
    · rename_i u hu
      simp [execOp, ag_get (hag y (by simp [Op.operands])) ha hu, unV_run hv]
    · simp at hv
  case build t ps =>
    have := px_build hx (fun y hy => hag y.2 (by simp [Op.operands]; exact ⟨y.1, by simpa using hy⟩)) hv w
    simp only [execOp, Sem.run_bind, this]; rfl
  case field t y f =>
    simp only [cpx] at hx
    split at hx
    · rename_i fs a hu ha
      split at hx
      · rename_i fd hfd
        simp only [Option.map_eq_some_iff] at hx
        obtain ⟨s, hs, rfl⟩ := hx
        simp only [PX.ev] at hv
        split at hv
        · rename_i c hc
          simp [execOp, ag_get (hag y (by simp [Op.operands])) ha hc, Instr.field, run_underlying hu, hfd, asAgg, run_part hs hv]
        · simp at hv
      · simp at hx
    · simp at hx
  case extract y i =>
    obtain ⟨a, ha, rfl⟩ := map_opr hx
    simp only [PX.ev] at hv
    split at hv
    · rename_i vs hvs
      simp [execOp, ag_get (hag y (by simp [Op.operands])) ha hvs, Instr.extract, hv]
    · simp at hv
  case index t y i =>
    simp only [cpx] at hx
    split at hx
    · rename_i a j hu ha hj
      simp only [Option.some.injEq] at hx; subst hx
      simp only [PX.ev] at hv
      split at hv
      case h_2 => simp at hv
      rename_i vx vy hs hn
      unfold idxSV at hv
      split at hv
      · rename_i s k n
        split at hv
        · rename_i h0
          simp only [Option.map_eq_some_iff] at hv
          obtain ⟨b, hb, rfl⟩ := hv
          have e1 := ag_get (hag y (by simp [Op.operands])) ha hs
          have e2 := ag_get (hag i (by simp [Op.operands])) hj hn
          have e3 : s[n.toNat]? = some b := by
            obtain ⟨hlt, rfl⟩ := Array.getElem?_eq_some_iff.1 hb
            exact getElem?_pos s n.toNat hlt
          simp [execOp, e1, e2, Instr.index, run_underlying hu, asIntOf, h0, e3]
        · simp at hv
      · simp at hv
    · rename_i n el a j hu ha hj
      split at hx
      · rename_i inf s hi hs
        simp only [Option.some.injEq] at hx; subst hx
        simp only [PX.ev] at hv
        split at hv
        · rename_i c k m hc hm
          split at hv
          · rename_i h0
            have e1 := ag_get (hag y (by simp [Op.operands])) ha hc
            have e2 := ag_get (hag i (by simp [Op.operands])) hj hm
            simp only [execOp, e1, e2, Instr.index, Sem.run_bind, asIntOf, Sem.run_pure, Result.andThen_ok, run_underlying hu, if_pos h0, run_sizeOf hi, run_part hs hv]
          · simp at hv
        · simp at hv
      · simp at hx
    · simp at hx
  case convert src dst y =>
    simp only [cpx] at hx
    split at hx
    · rename_i k0 k a hu hd ha
      simp only [Option.some.injEq] at hx; subst hx
      simp only [PX.ev] at hv
      split at hv
      · rename_i j n hn
        simp only [Option.some.injEq] at hv; subst hv
        simp [execOp, ag_get (hag y (by simp [Op.operands])) ha hn, convert, run_underlying hu, run_underlying hd, Conv.intToInt]
      · simp at hv
    · rename_i a hu hd ha
      simp only [Option.some.injEq] at hx; subst hx
      simp only [PX.ev] at hv
      split at hv
      · rename_i s hs
        simp only [Option.some.injEq] at hv; subst hv
        simp [execOp, ag_get (hag y (by simp [Op.operands])) ha hs, convert, run_underlying hu, run_underlying hd]
      · simp at hv
    · simp at hx
  case slice t y lo hi mx =>
    have := px_slice hx (hag y (by simp [Op.operands])) (fun z hz => hag z (by simp [Op.operands, hz])) (fun z hz => hag z (by simp [Op.operands, hz])) (fun z hz => hag z (by simp [Op.operands, hz])) hv w
    simp only [execOp, Sem.run_bind, this]; rfl
  case fieldAddr t y f =>
    simp only [cpx] at hx
    split at hx
    · rename_i fs a hu ha
      split at hx
      · rename_i fd hfd
        split at hx
        · rename_i inf hi
          split at hx
          · simp at hx
          · rename_i hne
            simp only [Option.some.injEq] at hx; subst hx
            simp only [PX.ev] at hv
            split at hv
            case h_2 => simp at hv
            rename_i vx hp
            unfold faV at hv
            split at hv
            · rename_i p
              simp only [Option.some.injEq] at hv; subst hv
              simp [execOp, ag_get (hag y (by simp [Op.operands])) ha hp, Instr.fieldAt, run_underlying hu, hfd, Instr.sureAddr, fieldPlace, run_sizeOf hi, hne]
            · simp at hv
        · simp at hx
      · simp at hx
    · simp at hx
  case indexAddr t y i =>
    simp only [cpx] at hx
    split at hx
    · rename_i el a j hu ha hj
      simp only [Option.map_eq_some_iff] at hx
      obtain ⟨inf, hi, rfl⟩ := hx
      simp only [PX.ev] at hv
      split at hv
      case h_2 => simp at hv
      rename_i vx vy hp hn
      unfold iaV at hv
      split at hv
      · rename_i p len cap k n
        split at hv
        · rename_i h0
          simp only [Option.some.injEq] at hv; subst hv
          have e1 := ag_get (hag y (by simp [Op.operands])) ha hp
          have e2 := ag_get (hag i (by simp [Op.operands])) hj hn
          simp only [execOp, e1, e2, Instr.indexAt, Sem.run_bind, asIntOf, Sem.run_pure, Result.andThen_ok, run_underlying hu, if_pos h0, run_sizeOf hi]
        · simp at hv
      · simp at hv
    · rename_i n el a j hu ha hj
      simp only [Option.map_eq_some_iff] at hx
      obtain ⟨inf, hi, rfl⟩ := hx
      simp only [PX.ev] at hv
      split at hv
      case h_2 => simp at hv
      rename_i vx vy hp hm
      unfold iaAV at hv
      split at hv
      · rename_i p k m
        split at hv
        · rename_i h0
          simp only [Option.some.injEq] at hv; subst hv
          have e1 := ag_get (hag y (by simp [Op.operands])) ha hp
          have e2 := ag_get (hag i (by simp [Op.operands])) hj hm
          simp only [execOp, e1, e2, Instr.indexAt, Instr.sureAddr, Sem.run_bind, asIntOf, Sem.run_pure, Result.andThen_ok, run_underlying hu, if_pos h0, run_sizeOf hi]
        · simp at hv
      · simp at hv
    · simp at hx
  case makeFunc fn first cap =>
    simp only [cpx] at hx
    split at hx
    · rename_i a b ha hb
      simp only [Option.some.injEq] at hx; subst hx
      simp only [PX.ev] at hv
      split at hv
      · rename_i u1 u2 h1 h2
        simp only [Option.some.injEq] at hv; subst hv
        have e1 := ogets_spec (ρ := ρ) ha h1 (fun y hy => hag y (by simp [Op.operands]; exact .inl (by simpa using hy)))
        have e2 := ogets_spec (ρ := ρ) hb h2 (fun y hy => hag y (by simp [Op.operands]; exact .inr (by simpa using hy)))
        have e1' : first.map ρ = u1.toArray := by rw [← Array.toList_inj]; simpa using e1
        have e2' : cap.map ρ = u2.toArray := by rw [← Array.toList_inj]; simpa using e2
        simp [execOp, Instr.makeFunc, e1', e2']
      · simp at hv
    · simp at hx
  case nilCheck y =>
    obtain ⟨a, ha, rfl⟩ := map_opr hx
    simp only [PX.ev] at hv
    split at hv
    case h_2 => simp at hv
    rename_i vx hp
    unfold nilcV at hv
    split at hv
    · rename_i p
      simp only [Option.some.injEq] at hv; subst hv
      simp [execOp, ag_get (hag y (by simp [Op.operands])) ha hp]
    · simp at hv
  case call c =>
    have := px_call (ty := type) hx (fun y hy => hag y (by simp [Op.operands, Call.operands]; exact .inr (by simpa using hy))) hv w
    simpa only [execOp] using this
  all_goals simp [cpx] at hx

end
end Go.Proofs.Ytfhjclhchbagnaa
