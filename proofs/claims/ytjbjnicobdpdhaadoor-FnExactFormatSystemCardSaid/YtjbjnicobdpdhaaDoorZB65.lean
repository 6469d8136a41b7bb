/-
  The statement of a law that reads a variable of the program: the row, and the card that ties the variable to the program's text.
-/
import Derived.Test.YtjbjnicobdpdhaaDoorCards
import Derived.Test.YtjbjnicobdpdhaaDoorTie
import Derived.SevenTiedAt
import Derived.Test.YtjbjnicobdpdhaaDoorYF4
namespace Go.Proofs.YtjbjnicobdpdhaaDoor
open Go Go.RowKit Go.ChangeShapes
set_option linter.all false
set_option linter.unusedVariables false
set_option linter.unusedSimpArgs false
set_option linter.defProp false
set_option maxRecDepth 1000000

namespace fnExactFormatSystem
theorem gS : Tryd.prog.globalNamed "loop.example/ltlcheck/impl.exprSigns" = some 0 := by kernel_rfl
theorem tS : (Tryd.prog.globals[0]?).map (·.type) = some 66 := by kernel_rfl
theorem signs {W : World} (h : laidMetH Tryd.prog Rows.fnExactFormatSystemRow.laid W) : Gl (whole W) := by
  rw [MakeChecks.laidMetH_plain _ _ _ (by kernel_rfl)] at h
  obtain ⟨ps, hLV, _, _⟩ := h
  obtain ⟨g, t, cs, fuel, p, hg, ht, hv, hd⟩ := laid_mem hLV (n := "loop.example/ltlcheck/impl.exprSigns") (d := Rows.laid_loop_example_ltlcheck_impl_exprSigns) (.tail _ (.tail _ (.tail _ (.head _))))
  obtain rfl := Option.some.inj (gS.symm.trans hg)
  obtain rfl := Option.some.inj (tS.symm.trans ht)
  obtain ⟨w, h1, h2⟩ := texts_of_laid (L := [[], [], [], [], [38], [124], [61], [60], [43], [45]]) gS hv Tryd.underlying66 Tryd.underlying9 (by kernel_rfl) hd (by decide) (by decide)
  exact ⟨w, h1, h2⟩
theorem contract (H : Type) (enc : TypeId × Value → H) (W : World) (base : Nat) (args : Array Value) (ds gs : List (DataW H)) (before : List MemPlace)
    (hval : ∀ (j : Nat) t v, Tryd.f3.params[j]? = some t → args[j]? = some v → Value.okWide Tryd.prog W .any base t v)
    (hW : DataW.Whole enc Tryd.prog Tryd.f3.params.toList Rows.fnExactFormatSystemSpec.vars false W args.toList ds gs before)
    (hwt : (DataW.weightsEach Tryd.prog (Tryd.f3.params.toList ++ Rows.fnExactFormatSystemSpec.plain.varTypes Tryd.prog) (ds ++ gs)).all (· ≤ reachBytes) = true) (hL : laidMetH Tryd.prog Rows.fnExactFormatSystemRow.laid W) :
    Calls Tryd.prog 3 args W fun e W' => ∃ v, e = .returned v ∧ Rows.fnExactFormatSystemSpec.post enc Tryd.prog Tryd.f3 false true false false W args v W' := by
  have hW' := hW
  obtain ⟨p, q, hA, hV, rfl, hfz, hnd⟩ := hW
  rw [Tryd.params3] at hA hval
  have hw := wOk_each (P := Tryd.prog) (ts := Tryd.f3.params.toList ++ Rows.fnExactFormatSystemSpec.plain.varTypes Tryd.prog) (l := ds ++ gs) (fun n hn => by simpa using List.all_eq_true.1 hwt n hn)
  rw [Tryd.params3] at hw
  obtain ⟨v0, vs0, d0, ds0, p0, q0, hargs, rfl, rfl, h0, r0⟩ := trodAll_cons hA
  obtain ⟨rfl, rfl, rfl⟩ := trodAll_nil r0
  obtain rfl : args = #[v0] := by cases args; simp_all
  have R0 : ∃ y : Sy, Rep (whole W) v0 y := by
    obtain ⟨fuel, hf⟩ := h0
    obtain ⟨y, hy⟩ := rd_Sy enc W _ fuel _ _ hf (hw 0 25 _ rfl rfl)
    have hok := hval 0 25 v0 rfl rfl
    simp only [Value.okWide, Tryd.underlying25] at hok
    obtain ⟨cs, rfl, _⟩ := hok
    exact ⟨y, cs.toList, rfl, hy⟩
  obtain ⟨y0, R0⟩ := R0
  refine (calls_law (args := [v0]) Tryd.func3 (by kernel_rfl) (by kernel_rfl) (c_FnExactFormatSystem R0 (signs hL))).mono fun e W' ⟨he, hb⟩ => ?_
  exact ⟨_, he, post_law1 laid rfl gS tS Tryd.underlying66 (by decide +kernel) (by rw [Tryd.params3]; decide +kernel) ⟨4, by kernel_rfl, Tryd.underlying4⟩ (fun d hd => by subst hd; exact ⟨rfl, rfl, rfl⟩) hW' hb⟩

theorem door_met (os : Os) (args : Array Value) : laidMetH Tryd.prog Rows.fnExactFormatSystemRow.laid ((World.doorLaid Tryd.prog 400 os).forCall (fun _ _ => 0) ⟨#[], args, []⟩).memory :=
  laidMetH_of_parts3 (fuel := 8) (laidMet_of_run' 8 (by kernel_rfl) (by kernel_rfl)) (by kernel_rfl) (by kernel_rfl)
set_option maxRecDepth 100000 in
theorem lifted (os : Os) (started : os.Started) (H : Type) (enc : TypeId × Value → H) :
    ReturnsInHanded {} Tryd.checked os 3 .any (fun w args => (Rows.fnExactFormatSystemSpec.pre enc Tryd.prog Tryd.f3 [] false w args ∧ laidMetH Tryd.prog Rows.fnExactFormatSystemRow.laid w) ∧ sizedMet enc Tryd.prog Tryd.f3 (OpenSpec.ofChange Rows.fnExactFormatSystemSpec) false w args) (Rows.fnExactFormatSystemSpec.post enc Tryd.prog Tryd.f3 false true false false) := by
  refine returnsInHanded_of_change_and (C := Tryd.checked) (X := fun w _ => laidMetH Tryd.prog Rows.fnExactFormatSystemRow.laid w) (fun _ _ _ hh h => h.of_heap hh) own0 started (by kernel_rfl) Tryd.func3
    (ChangeSpec.witness_shaped (enc := enc) (C := Tryd.checked) (os := os) (X := fun w _ => laidMetH Tryd.prog Rows.fnExactFormatSystemRow.laid w) false (World.doorLaid Tryd.prog 400 os) #[.agg #[.slice none 0 0, .slice none 0 0]] 8 rfl (World.shaped_of_RefB (by kernel_rfl) (by kernel_rfl)) (by kernel_rfl) (by kernel_rfl) (by kernel_rfl) (door_met os _)) ?_
  intro W base args ds gs before hval hW _ hwt hL _
  exact contract H enc W base args ds gs before hval hW hwt hL

theorem over : Rows.fnExactFormatSystemRow.holds Tryd.pinned (OpenSpec.ofChange Rows.fnExactFormatSystemSpec) :=
  OpenClaim.holds_of_wide 3 Tryd.f3 rfl rfl rfl rfl rfl rfl rfl ⟨rfl, rfl, rfl, rfl, rfl⟩ rfl rfl rfl rfl rfl (by kernel_rfl) Tryd.func3 (by kernel_rfl)
    (of_decide_eq_true (by kernel_rfl)) (by unfold Func.isWrapper; first | (rw [if_pos (by decide +kernel)]; kernel_rfl) | (rw [if_neg (by decide +kernel)]; exact ⟨rfl, rfl⟩))
    (fun os started H enc _ => lifted os started H enc)
end fnExactFormatSystem

/-- THE STATEMENT: the tied card -/
theorem holds_FnExactFormatSystem : Rows.FnExactFormatSystemCardSaid :=
  Claim7.holds_tied_plain_at .later [] [.data, .data, .data, .data] true Rows.fnExactFormatSystemCard.stood.harness Rows.fnExactFormatSystemCard.stood.looks
    fnExactFormatSystem.over (fun _ h => by cases h) (by kernel_rfl) (fun _ h => by cases h) fnExactFormatSystem_row_tie rfl ⟨rfl, rfl⟩ (by kernel_rfl) rfl
    (fun f fn hf hfn => by
      obtain rfl : f = 3 := Option.some.inj ((show Tryd.prog.funcNamed "loop.example/ltlcheck/laws.FnExactFormatSystem" = some 3 by kernel_rfl).symm.trans hf) |>.symm
      obtain rfl : fn = Tryd.f3 := (Option.some.inj (Tryd.func3.symm.trans hfn)).symm
      exact ⟨by kernel_rfl, fun j t ht => by
        rw [Tryd.params3] at ht
        have hm : t ∈ [25] := by simpa using Array.mem_of_getElem? ht
        have hall : ([25].all fun u => !Tryd.prog.wantsStandIn u) = true := by kernel_rfl
        exact (show Tryd.prog.wantsStandIn t = false by simpa using List.all_eq_true.1 hall t hm)⟩)
    (by kernel_rfl)
end Go.Proofs.YtjbjnicobdpdhaaDoor
