/-
  The statement of a law that reads a variable of the program: the row, and the card that ties the variable to the program's text.
-/
import Derived.Shelf.Vars
import Derived.Lay
import Derived.Test.YtjbjnicobdpdhaaGreatDoorCards
import Derived.Test.YtjbjnicobdpdhaaGreatDoorTie
import Derived.SevenTiedAt
import Derived.Test.YtjbjnicobdpdhaaGreatDoorYDZB671
namespace Go.Proofs.YtjbjnicobdpdhaaGreatDoor
open Go Go.RowKit Go.ChangeShapes
set_option linter.all false
set_option linter.unusedVariables false
set_option linter.unusedSimpArgs false
set_option linter.defProp false
set_option maxRecDepth 1000000

theorem laid : laidOutB Tryz.prog = true := by kernel_rfl
theorem own0 : ownKnob Tryz.prog.godebug = none := by kernel_rfl

namespace fnSystemText
theorem gS : Tryz.prog.globalNamed "loop.example/ltlcheck/impl.exprSigns" = some 0 := by kernel_rfl
theorem tS : (Tryz.prog.globals[0]?).map (·.type) = some 37 := by kernel_rfl
theorem signs {W : World} (h : laidMetH Tryz.prog Rows.fnSystemTextRow.laid W) : Gl (whole W) := by
  rw [MakeChecks.laidMetH_plain _ _ _ (by kernel_rfl)] at h
  obtain ⟨ps, hLV, _, _⟩ := h
  obtain ⟨g, t, cs, fuel, p, hg, ht, hv, hd⟩ := laid_mem hLV (n := "loop.example/ltlcheck/impl.exprSigns") (d := Rows.laid_loop_example_ltlcheck_impl_exprSigns) (.tail _ (.tail _ (.tail _ (.tail _ (.head _)))))
  obtain rfl := Option.some.inj (gS.symm.trans hg)
  obtain rfl := Option.some.inj (tS.symm.trans ht)
  obtain ⟨w, h1, h2⟩ := texts_of_laid (L := [[], [], [], [], [38], [124], [61], [60], [43], [45]]) gS hv Tryz.underlying37 Tryz.underlying9 (by kernel_rfl) hd (by decide) (by decide)
  exact ⟨w, h1, h2⟩
theorem maxlen {W : World} (h : W.ShapedOpen Tryz.prog) : Gm (whole W) := by
  obtain ⟨m, hm⟩ := cell_of_shapedOpen_int (g := 1) (t := 3) (zero := #[.int .i64 0]) (k := .i64) h (of_decide_eq_true (by kernel_rfl)) (by kernel_rfl) rfl (by kernel_rfl) (by kernel_rfl) Tryz.underlying3
  exact ⟨m, cell_hcell hm⟩
theorem contract (H : Type) (enc : TypeId × Value → H) (W : World) (base : Nat) (args : Array Value) (ds gs : List (DataW H)) (before : List MemPlace)
    (hval : ∀ (j : Nat) t v, Tryz.f4.params[j]? = some t → args[j]? = some v → Value.okWide Tryz.prog W .any base t v)
    (hW : DataW.Whole enc Tryz.prog Tryz.f4.params.toList Rows.fnSystemTextSpec.vars false W args.toList ds gs before)
    (hwt : (DataW.weightsEach Tryz.prog (Tryz.f4.params.toList ++ Rows.fnSystemTextSpec.plain.varTypes Tryz.prog) (ds ++ gs)).all (· ≤ reachBytes) = true) (hL : laidMetH Tryz.prog Rows.fnSystemTextRow.laid W) (hsh : W.ShapedOpen Tryz.prog) :
    Calls Tryz.prog 4 args W fun e W' => ∃ v, e = .returned v ∧ Rows.fnSystemTextSpec.post enc Tryz.prog Tryz.f4 false true false false W args v W' := by
  have hW' := hW
  obtain ⟨p, q, hA, hV, rfl, hfz, hnd⟩ := hW
  rw [Tryz.params4] at hA hval
  have hw := wOk_each (P := Tryz.prog) (ts := Tryz.f4.params.toList ++ Rows.fnSystemTextSpec.plain.varTypes Tryz.prog) (l := ds ++ gs) (fun n hn => by simpa using List.all_eq_true.1 hwt n hn)
  rw [Tryz.params4] at hw
  obtain ⟨v0, vs0, d0, ds0, p0, q0, hargs, rfl, rfl, h0, r0⟩ := trodAll_cons hA
  obtain ⟨v1, vs1, d1, ds1, p1, q1, rfl, rfl, rfl, h1, r1⟩ := trodAll_cons r0
  obtain ⟨rfl, rfl, rfl⟩ := trodAll_nil r1
  obtain rfl : args = #[v0, v1] := by cases args; simp_all
  have R0 : ∃ y : List (BitVec 8), Rep (whole W) v0 y := by
    obtain ⟨fuel, hf⟩ := h0
    obtain ⟨y, hy⟩ := (rd_list (α := BitVec 8) Tryz.underlying31 (by kernel_rfl) (by decide) (by rw [show Tryz.prog.bytesOf 5 = 1 from by kernel_rfl]; decide) (rd_u8 Tryz.underlying5)) enc W _ fuel _ _ hf (hw 0 31 _ rfl rfl)
    have hok := hval 0 31 v0 rfl rfl
    obtain ⟨a0, len, cap, rfl⟩ := okWide_slice Tryz.underlying31 hok
    exact ⟨y, _, by rfl, hy⟩
  obtain ⟨y0, R0⟩ := R0
  have R1 : ∃ y : List (BitVec 8), Rep (whole W) v1 y := by
    obtain ⟨fuel, hf⟩ := h1
    obtain ⟨y, hy⟩ := (rd_list (α := BitVec 8) Tryz.underlying31 (by kernel_rfl) (by decide) (by rw [show Tryz.prog.bytesOf 5 = 1 from by kernel_rfl]; decide) (rd_u8 Tryz.underlying5)) enc W _ fuel _ _ hf (hw 1 31 _ rfl rfl)
    have hok := hval 1 31 v1 rfl rfl
    obtain ⟨a0, len, cap, rfl⟩ := okWide_slice Tryz.underlying31 hok
    exact ⟨y, _, by rfl, hy⟩
  obtain ⟨y1, R1⟩ := R1
  refine (calls_law (args := [v0, v1]) Tryz.func4 (by kernel_rfl) (by kernel_rfl) (c_FnSystemText R0 R1 (maxlen hsh) (signs hL))).mono fun e W' ⟨he, hb⟩ => ?_
  exact ⟨_, he, post_law1 laid rfl gS tS Tryz.underlying37 (by decide +kernel) (by rw [Tryz.params4]; decide +kernel) ⟨4, by kernel_rfl, Tryz.underlying4⟩ (fun d hd => by subst hd; exact ⟨rfl, rfl, rfl⟩) hW' hb⟩

set_option maxRecDepth 100000 in
theorem lifted (os : Os) (started : os.Started) (H : Type) (enc : TypeId × Value → H) :
    ReturnsInHanded {} Tryz.checked os 4 .any (fun w args => (Rows.fnSystemTextSpec.pre enc Tryz.prog Tryz.f4 [] false w args ∧ laidMetH Tryz.prog Rows.fnSystemTextRow.laid w) ∧ sizedMet enc Tryz.prog Tryz.f4 (OpenSpec.ofChange Rows.fnSystemTextSpec) false w args) (Rows.fnSystemTextSpec.post enc Tryz.prog Tryz.f4 false true false false) := by
  refine handed_both (C := Tryz.checked) (X := fun w _ => laidMetH Tryz.prog Rows.fnSystemTextRow.laid w) (fun _ _ _ hh h => h.of_heap hh) own0 started (by kernel_rfl) Tryz.func4
    (ChangeSpec.witness_shaped (enc := enc) (C := Tryz.checked) (os := os) (X := fun w _ => laidMetH Tryz.prog Rows.fnSystemTextRow.laid w) false (World.laidAll Tryz.prog os Rows.fnSystemTextRow.laid) #[.slice none 0 0, .slice none 0 0] 8 (World.laidAll_os _ _ _) (World.shaped_of_ZipB (by kernel_rfl) (by kernel_rfl)) (by kernel_rfl) (by kernel_rfl) (by kernel_rfl) (by rw [MakeChecks.laidMetH_plain _ _ _ (by kernel_rfl)]; exact laidMet_laidAll _ (by kernel_rfl) (by kernel_rfl))) ?_
  intro W base args ds gs before hval hW hwt hL hsh
  exact contract H enc W base args ds gs before hval hW hwt hL hsh

theorem over : Rows.fnSystemTextRow.holds Tryz.pinned (OpenSpec.ofChange Rows.fnSystemTextSpec) :=
  OpenClaim.holds_of_wide 4 Tryz.f4 rfl rfl rfl rfl rfl rfl rfl ⟨rfl, rfl, rfl, rfl, rfl⟩ rfl rfl rfl rfl rfl (by kernel_rfl) Tryz.func4 (by kernel_rfl)
    (of_decide_eq_true (by kernel_rfl)) (by unfold Func.isWrapper; first | (rw [if_pos (by decide +kernel)]; kernel_rfl) | (rw [if_neg (by decide +kernel)]; exact ⟨rfl, rfl⟩))
    (fun os started H enc _ => lifted os started H enc)
end fnSystemText

/-- THE STATEMENT: the tied card -/
theorem holds_FnSystemText : Rows.FnSystemTextCardSaid :=
  Claim7.holds_tied_plain_at .later [] [.data, .data, .data, .data, .data, .pinned] true Rows.fnSystemTextCard.stood.harness Rows.fnSystemTextCard.stood.looks
    fnSystemText.over (fun _ h => by cases h) (by kernel_rfl) (fun _ h => by cases h) fnSystemText_row_tie rfl ⟨rfl, rfl⟩ (by kernel_rfl) rfl
    (fun f fn hf hfn => by
      obtain rfl : f = 4 := Option.some.inj ((show Tryz.prog.funcNamed "loop.example/ltlcheck/laws.FnSystemText" = some 4 by kernel_rfl).symm.trans hf) |>.symm
      obtain rfl : fn = Tryz.f4 := (Option.some.inj (Tryz.func4.symm.trans hfn)).symm
      exact ⟨by kernel_rfl, fun j t ht => by
        rw [Tryz.params4] at ht
        have hm : t ∈ [31] := by simpa using Array.mem_of_getElem? ht
        have hall : ([31].all fun u => !Tryz.prog.wantsStandIn u) = true := by kernel_rfl
        exact (show Tryz.prog.wantsStandIn t = false by simpa using List.all_eq_true.1 hall t hm)⟩)
    (by kernel_rfl)
end Go.Proofs.YtjbjnicobdpdhaaGreatDoor
