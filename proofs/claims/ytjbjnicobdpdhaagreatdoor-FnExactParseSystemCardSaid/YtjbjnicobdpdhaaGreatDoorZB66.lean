/-
  The statement of a law that reads a variable of the program: the row, and the card that ties the variable to the program's text.
-/
import Derived.Shelf.Vars
import Derived.Lay
import Derived.Test.YtjbjnicobdpdhaaGreatDoorCards
import Derived.Test.YtjbjnicobdpdhaaGreatDoorTie
import Derived.SevenTiedAt
import Derived.Test.YtjbjnicobdpdhaaGreatDoorYF5
namespace Go.Proofs.YtjbjnicobdpdhaaGreatDoor
open Go Go.RowKit Go.ChangeShapes
set_option linter.all false
set_option linter.unusedVariables false
set_option linter.unusedSimpArgs false
set_option linter.defProp false
set_option maxRecDepth 1000000

theorem laid : laidOutB Tryz.prog = true := by kernel_rfl
theorem own0 : ownKnob Tryz.prog.godebug = none := by kernel_rfl

namespace fnExactParseSystem
theorem gS : Tryz.prog.globalNamed "loop.example/ltlcheck/impl.exprSigns" = some 0 := by kernel_rfl
theorem tS : (Tryz.prog.globals[0]?).map (·.type) = some 37 := by kernel_rfl
theorem signs {W : World} (h : laidMetH Tryz.prog Rows.fnExactParseSystemRow.laid W) : Gl (whole W) := by
  rw [MakeChecks.laidMetH_plain _ _ _ (by kernel_rfl)] at h
  obtain ⟨ps, hLV, _, _⟩ := h
  obtain ⟨g, t, cs, fuel, p, hg, ht, hv, hd⟩ := laid_mem hLV (n := "loop.example/ltlcheck/impl.exprSigns") (d := Rows.laid_loop_example_ltlcheck_impl_exprSigns) (.tail _ (.tail _ (.tail _ (.tail _ (.head _)))))
  obtain rfl := Option.some.inj (gS.symm.trans hg)
  obtain rfl := Option.some.inj (tS.symm.trans ht)
  obtain ⟨w, h1, h2⟩ := texts_of_laid (L := [[], [], [], [], [38], [124], [61], [60], [43], [45]]) gS hv Tryz.underlying37 Tryz.underlying9 (by kernel_rfl) hd (by decide) (by decide)
  exact ⟨w, h1, h2⟩
theorem maxlen {W : World} (h : W.ShapedOpen Tryz.prog) : Gm (whole W) := by
  obtain ⟨m, hm⟩ := cell_of_shapedOpen_int (g := 1) (t := 3) (zero := #[.int .i64 0]) (k := .i64) h (of_decide_eq_true (by kernel_rfl)) (by kernel_rfl) rfl (by kernel_rfl) (by kernel_rfl) Tryz.underlying3
  exact ⟨m, cell_hcell hm⟩
theorem contract (H : Type) (enc : TypeId × Value → H) (W : World) (base : Nat) (args : Array Value) (ds gs : List (DataW H)) (before : List MemPlace)
    (hval : ∀ (j : Nat) t v, Tryz.f3.params[j]? = some t → args[j]? = some v → Value.okWide Tryz.prog W .any base t v)
    (hW : DataW.Whole enc Tryz.prog Tryz.f3.params.toList Rows.fnExactParseSystemSpec.vars false W args.toList ds gs before)
    (hwt : (DataW.weightsEach Tryz.prog (Tryz.f3.params.toList ++ Rows.fnExactParseSystemSpec.plain.varTypes Tryz.prog) (ds ++ gs)).all (· ≤ reachBytes) = true) (hL : laidMetH Tryz.prog Rows.fnExactParseSystemRow.laid W) (hsh : W.ShapedOpen Tryz.prog) :
    Calls Tryz.prog 3 args W fun e W' => ∃ v, e = .returned v ∧ Rows.fnExactParseSystemSpec.post enc Tryz.prog Tryz.f3 false true false false W args v W' := by
  have hW' := hW
  obtain ⟨p, q, hA, hV, rfl, hfz, hnd⟩ := hW
  rw [Tryz.params3] at hA hval
  have hw := wOk_each (P := Tryz.prog) (ts := Tryz.f3.params.toList ++ Rows.fnExactParseSystemSpec.plain.varTypes Tryz.prog) (l := ds ++ gs) (fun n hn => by simpa using List.all_eq_true.1 hwt n hn)
  rw [Tryz.params3] at hw
  obtain ⟨v0, vs0, d0, ds0, p0, q0, hargs, rfl, rfl, h0, r0⟩ := trodAll_cons hA
  obtain ⟨rfl, rfl, rfl⟩ := trodAll_nil r0
  obtain rfl : args = #[v0] := by cases args; simp_all
  have R0 : ∃ y : ByteArray, Rep (whole W) v0 y := by
    obtain ⟨fuel, hf⟩ := h0
    obtain ⟨y, hy⟩ := (rd_str Tryz.underlying9) enc W _ fuel _ _ hf (hw 0 9 _ rfl rfl)
    have hok := hval 0 9 v0 rfl rfl
    obtain ⟨s0, rfl⟩ : ∃ s0, v0 = .string s0 := by
      clear hy hf
      simp only [Value.okWide, Tryz.underlying9, Cell.okWide] at hok
      cases v0 <;> first | exact ⟨_, rfl⟩ | simp [Cell.ok] at hok
    exact ⟨y, _, by rfl, hy⟩
  obtain ⟨y0, R0⟩ := R0
  refine (calls_law (args := [v0]) Tryz.func3 (by kernel_rfl) (by kernel_rfl) (c_FnExactParseSystem R0 (maxlen hsh) (signs hL))).mono fun e W' ⟨he, hb⟩ => ?_
  exact ⟨_, he, post_law1 laid rfl gS tS Tryz.underlying37 (by decide +kernel) (by rw [Tryz.params3]; decide +kernel) ⟨4, by kernel_rfl, Tryz.underlying4⟩ (fun d hd => by subst hd; exact ⟨rfl, rfl, rfl⟩) hW' hb⟩

set_option maxRecDepth 100000 in
theorem lifted (os : Os) (started : os.Started) (H : Type) (enc : TypeId × Value → H) :
    ReturnsInHanded {} Tryz.checked os 3 .any (fun w args => (Rows.fnExactParseSystemSpec.pre enc Tryz.prog Tryz.f3 [] false w args ∧ laidMetH Tryz.prog Rows.fnExactParseSystemRow.laid w) ∧ sizedMet enc Tryz.prog Tryz.f3 (OpenSpec.ofChange Rows.fnExactParseSystemSpec) false w args) (Rows.fnExactParseSystemSpec.post enc Tryz.prog Tryz.f3 false true false false) := by
  refine handed_both (C := Tryz.checked) (X := fun w _ => laidMetH Tryz.prog Rows.fnExactParseSystemRow.laid w) (fun _ _ _ hh h => h.of_heap hh) own0 started (by kernel_rfl) Tryz.func3
    (ChangeSpec.witness_shaped (enc := enc) (C := Tryz.checked) (os := os) (X := fun w _ => laidMetH Tryz.prog Rows.fnExactParseSystemRow.laid w) false (World.laidAll Tryz.prog os Rows.fnExactParseSystemRow.laid) #[.string ⟨#[]⟩] 8 (World.laidAll_os _ _ _) (World.shaped_of_ZipB (by kernel_rfl) (by kernel_rfl)) (by kernel_rfl) (by kernel_rfl) (by kernel_rfl) (by rw [MakeChecks.laidMetH_plain _ _ _ (by kernel_rfl)]; exact laidMet_laidAll _ (by kernel_rfl) (by kernel_rfl))) ?_
  intro W base args ds gs before hval hW hwt hL hsh
  exact contract H enc W base args ds gs before hval hW hwt hL hsh

theorem over : Rows.fnExactParseSystemRow.holds Tryz.pinned (OpenSpec.ofChange Rows.fnExactParseSystemSpec) :=
  OpenClaim.holds_of_wide 3 Tryz.f3 rfl rfl rfl rfl rfl rfl rfl ⟨rfl, rfl, rfl, rfl, rfl⟩ rfl rfl rfl rfl rfl (by kernel_rfl) Tryz.func3 (by kernel_rfl)
    (of_decide_eq_true (by kernel_rfl)) (by unfold Func.isWrapper; first | (rw [if_pos (by decide +kernel)]; kernel_rfl) | (rw [if_neg (by decide +kernel)]; exact ⟨rfl, rfl⟩))
    (fun os started H enc _ => lifted os started H enc)
end fnExactParseSystem

/-- THE STATEMENT: the tied card -/
theorem holds_FnExactParseSystem : Rows.FnExactParseSystemCardSaid :=
  Claim7.holds_tied_plain_at .later [] [.data, .data, .data, .data, .data, .pinned] true Rows.fnExactParseSystemCard.stood.harness Rows.fnExactParseSystemCard.stood.looks
    fnExactParseSystem.over (fun _ h => by cases h) (by kernel_rfl) (fun _ h => by cases h) fnExactParseSystem_row_tie rfl ⟨rfl, rfl⟩ (by kernel_rfl) rfl
    (fun f fn hf hfn => by
      obtain rfl : f = 3 := Option.some.inj ((show Tryz.prog.funcNamed "loop.example/ltlcheck/laws.FnExactParseSystem" = some 3 by kernel_rfl).symm.trans hf) |>.symm
      obtain rfl : fn = Tryz.f3 := (Option.some.inj (Tryz.func3.symm.trans hfn)).symm
      exact ⟨by kernel_rfl, fun j t ht => by
        rw [Tryz.params3] at ht
        have hm : t ∈ [9] := by simpa using Array.mem_of_getElem? ht
        have hall : ([9].all fun u => !Tryz.prog.wantsStandIn u) = true := by kernel_rfl
        exact (show Tryz.prog.wantsStandIn t = false by simpa using List.all_eq_true.1 hall t hm)⟩)
    (by kernel_rfl)
end Go.Proofs.YtjbjnicobdpdhaaGreatDoor
