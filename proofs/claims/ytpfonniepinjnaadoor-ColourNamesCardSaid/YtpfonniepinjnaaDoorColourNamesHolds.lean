/- The law ColourNames holds: limits and errors. -/
import Derived.Test.YtpfonniepinjnaaDoorRows
import Derived.Test.YtpfonniepinjnaaDoorTie
import Derived.Test.YtpfonniepinjnaaDoorCards
import Derived.Test.YtpfonniepinjnaaDoorArgs
import Derived.Test.YtpfonniepinjnaaDoorDLift
import Derived.SevenTiedAt
import Derived.Stop.Joined
import Derived.Test.YtpfonniepinjnaaDoorLCNames14
namespace Go.Proofs.YtpfonniepinjnaaDoor
open Go.RowKit Go.ChangeShapes Go.WideShapes Go.ChangeAt

theorem own_knob : ownKnob Tryd.prog.godebug = none := by kernel_rfl
theorem laid_out : laidOutB Tryd.prog = true := by kernel_rfl

set_option maxRecDepth 100000 in
theorem the_law {H : Type} (enc : TypeId × Value → H) : LawWalk Tryd.prog 5 Tryd.f5.params.toList enc := by
  intro W base args ds ps hval hA
  rw [Tryd.params5] at hA hval
  obtain ⟨hargs, rfl, rfl⟩ := trodAll_nil hA
  obtain rfl : args = #[] := by cases args; simp_all
  exact cnames_walk W

set_option maxRecDepth 100000 in
theorem the_lift (os : Os) (started : os.Started) (H : Type) (enc : TypeId × Value → H) :
    ReturnsInHanded {} Tryd.checked os 5 .any (fun w args => (Rows.colourNamesSpec.pre enc Tryd.prog Tryd.f5 Rows.colourNamesRow.domain false w args ∧ laidMetH Tryd.prog Rows.colourNamesRow.laid w) ∧ sizedMet enc Tryd.prog Tryd.f5 (OpenSpec.ofChange Rows.colourNamesSpec) false w args)
      (Rows.colourNamesSpec.post enc Tryd.prog Tryd.f5 false true false false) :=
  law_laid (C := Tryd.checked) (s := Rows.colourNamesSpec) (tb := 4) (X := fun w _ => laidMetH Tryd.prog Rows.colourNamesRow.laid w) (fun _ _ _ hh h => h.of_heap hh) own_knob started (by kernel_rfl) Tryd.func5
    (ChangeSpec.witness_shaped (enc := enc) (C := Tryd.checked) (os := os) (X := fun w _ => laidMetH Tryd.prog Rows.colourNamesRow.laid w) false (World.laidAll Tryd.prog os Rows.colourNamesRow.laid) #[] 8 (World.laidAll_os _ _ _)
      (World.shaped_of_ZipB (by kernel_rfl) (by kernel_rfl)) (by kernel_rfl) (by kernel_rfl) (by kernel_rfl)
      (by rw [MakeChecks.laidMetH_plain _ _ _ (by kernel_rfl)]; exact laidMet_laidAll _ (by kernel_rfl) (by kernel_rfl)))
    rfl (fun ds h => by match ds, h with | [], _ => rfl) rfl Tryd.underlying4 laid_out (by rw [Tryd.params5]; intro t ht; simp at ht) (the_law enc)

theorem colourNames_row_holds : Rows.ColourNamesSaid :=
  OpenClaim.holds_of_wide 5 Tryd.f5 rfl rfl rfl rfl rfl rfl rfl ⟨rfl, rfl, rfl, rfl, rfl⟩ rfl rfl rfl rfl rfl (by kernel_rfl) Tryd.func5 (by kernel_rfl)
    (of_decide_eq_true (by kernel_rfl)) (by unfold Func.isWrapper; rw [if_neg (of_decide_eq_false (by kernel_rfl))]; exact ⟨rfl, rfl⟩)
    (fun os started H enc _ => the_lift os started H enc)
theorem colourNames_holds : Rows.ColourNamesCardSaid :=
  Claim7.holds_tied_plain_at .later [] [.data, .pinned] true (true, "bfa0c46f4b10382b3027de3e506c2e60ea7fe3ac9c6411bc4163afd136312990") false colourNames_row_holds (fun _ h => by cases h) (by kernel_rfl) (fun _ h => by cases h) colourNames_row_tie rfl ⟨rfl, rfl⟩ (by kernel_rfl) rfl
    (fun f fn hf hfn => by
      obtain rfl : f = 5 := Option.some.inj ((show Tryd.prog.funcNamed Rows.colourNamesRow.func = some 5 by kernel_rfl).symm.trans hf) |>.symm
      obtain rfl : fn = Tryd.f5 := (Option.some.inj (Tryd.func5.symm.trans hfn)).symm
      exact ⟨by kernel_rfl, fun j t ht => by
        rw [Tryd.params5] at ht
        simp at ht⟩)
    (by kernel_rfl)
#print axioms colourNames_holds
end Go.Proofs.YtpfonniepinjnaaDoor
