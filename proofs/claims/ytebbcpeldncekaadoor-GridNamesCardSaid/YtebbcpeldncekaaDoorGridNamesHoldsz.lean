/- The law GridNames: examples and errors -/
import Derived.Test.YtebbcpeldncekaaDoorRows
import Derived.Test.YtebbcpeldncekaaDoorTie
import Derived.Test.YtebbcpeldncekaaDoorCards
import Derived.Test.YtebbcpeldncekaaDoorArgsz
import Derived.Test.YtebbcpeldncekaaDoorDLiftz
import Derived.SevenTiedAt
import Derived.Stop.Joined
import Derived.Test.YtebbcpeldncekaaDoorLGNames1z
namespace Go.Proofs.YtebbcpeldncekaaDoor
open Go.RowKit Go.ChangeShapes Go.WideShapes Go.ChangeAt

theorem own_knob : ownKnob Tryd.prog.godebug = none := by kernel_rfl
theorem laid_out : laidOutB Tryd.prog = true := by kernel_rfl

set_option maxRecDepth 100000 in
theorem the_law {H : Type} (enc : TypeId × Value → H) : LawWalk Tryd.prog 8 Tryd.f8.params.toList enc := by
  intro W base args ds ps hval hA
  rw [Tryd.params8] at hA hval
  obtain ⟨hargs, rfl, rfl⟩ := trodAll_nil hA
  obtain rfl : args = #[] := by cases args; simp_all
  exact gnames1_walk W

set_option maxRecDepth 100000 in
theorem the_lift (os : Os) (started : os.Started) (H : Type) (enc : TypeId × Value → H) :
    ReturnsInHanded {} Tryd.checked os 8 .any (fun w args => (Rows.gridNamesSpec.pre enc Tryd.prog Tryd.f8 Rows.gridNamesRow.domain false w args ∧ laidMetH Tryd.prog Rows.gridNamesRow.laid w) ∧ sizedMet enc Tryd.prog Tryd.f8 (OpenSpec.ofChange Rows.gridNamesSpec) false w args)
      (Rows.gridNamesSpec.post enc Tryd.prog Tryd.f8 false true false false) :=
  law_laid (C := Tryd.checked) (s := Rows.gridNamesSpec) (tb := 4) (X := fun w _ => laidMetH Tryd.prog Rows.gridNamesRow.laid w) (fun _ _ _ hh h => h.of_heap hh) own_knob started (by kernel_rfl) Tryd.func8
    (ChangeSpec.witness_shaped (enc := enc) (C := Tryd.checked) (os := os) (X := fun w _ => laidMetH Tryd.prog Rows.gridNamesRow.laid w) false (World.laidAll Tryd.prog os Rows.gridNamesRow.laid) #[] 8 (World.laidAll_os _ _ _)
      (World.shaped_of_ZipB (by kernel_rfl) (by kernel_rfl)) (by kernel_rfl) (by kernel_rfl) (by kernel_rfl)
      (by rw [MakeChecks.laidMetH_plain _ _ _ (by kernel_rfl)]; exact laidMet_laidAll _ (by kernel_rfl) (by kernel_rfl)))
    rfl (fun ds h => by match ds, h with | [], _ => rfl) rfl Tryd.underlying4 laid_out (by rw [Tryd.params8]; intro t ht; simp at ht) (the_law enc)

theorem gridNames_row_holds : Rows.GridNamesSaid :=
  OpenClaim.holds_of_wide 8 Tryd.f8 rfl rfl rfl rfl rfl rfl rfl ⟨rfl, rfl, rfl, rfl, rfl⟩ rfl rfl rfl rfl rfl (by kernel_rfl) Tryd.func8 (by kernel_rfl)
    (of_decide_eq_true (by kernel_rfl)) (by unfold Func.isWrapper; rw [if_neg (of_decide_eq_false (by kernel_rfl))]; exact ⟨rfl, rfl⟩)
    (fun os started H enc _ => the_lift os started H enc)
theorem gridNames_holds : Rows.GridNamesCardSaid :=
  Claim7.holds_tied_plain_at .later [] [.data, .pinned] true (true, "592f9e0f8a867d4218080735e5708681f78d0a93c2d1396a3e3eb8ad44363976") false gridNames_row_holds (fun _ h => by cases h) (by kernel_rfl) (fun _ h => by cases h) gridNames_row_tie rfl ⟨rfl, rfl⟩ (by kernel_rfl) rfl
    (fun f fn hf hfn => by
      obtain rfl : f = 8 := Option.some.inj ((show Tryd.prog.funcNamed Rows.gridNamesRow.func = some 8 by kernel_rfl).symm.trans hf) |>.symm
      obtain rfl : fn = Tryd.f8 := (Option.some.inj (Tryd.func8.symm.trans hfn)).symm
      exact ⟨by kernel_rfl, fun j t ht => by
        rw [Tryd.params8] at ht
        simp at ht⟩)
    (by kernel_rfl)
#print axioms gridNames_holds
end Go.Proofs.YtebbcpeldncekaaDoor
