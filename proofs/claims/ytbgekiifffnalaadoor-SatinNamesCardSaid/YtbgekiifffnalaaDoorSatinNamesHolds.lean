/- The law SatinNames answers true and turns nothing that was there: it takes no input. -/
import Derived.Test.YtbgekiifffnalaaDoorRows
import Derived.Test.YtbgekiifffnalaaDoorTie
import Derived.Test.YtbgekiifffnalaaDoorCards
import Derived.Test.YtbgekiifffnalaaDoorArgs
import Derived.Test.YtbgekiifffnalaaDoorDLift
import Derived.SevenTiedAt
import Derived.Stop.Joined
import Derived.Test.YtbgekiifffnalaaDoorLNames9
namespace Go.Proofs.YtbgekiifffnalaaDoor
open Go.RowKit Go.ChangeShapes Go.WideShapes Go.ChangeAt

theorem own_knob : ownKnob Tryd.prog.godebug = none := by kernel_rfl
theorem laid_out : laidOutB Tryd.prog = true := by kernel_rfl

set_option maxRecDepth 100000 in
theorem the_law {H : Type} (enc : TypeId × Value → H) : LawWalk Tryd.prog 3 Tryd.f3.params.toList enc := by
  intro W base args ds ps hval hA
  rw [Tryd.params3] at hA hval
  obtain ⟨hargs, rfl, rfl⟩ := trodAll_nil hA
  obtain rfl : args = #[] := by cases args; simp_all
  exact names9_walk W

set_option maxRecDepth 100000 in
theorem the_lift (os : Os) (started : os.Started) (H : Type) (enc : TypeId × Value → H) :
    ReturnsInHanded {} Tryd.checked os 3 .any (fun w args => (Rows.satinNamesSpec.pre enc Tryd.prog Tryd.f3 Rows.satinNamesRow.domain false w args ∧ laidMetH Tryd.prog Rows.satinNamesRow.laid w) ∧ sizedMet enc Tryd.prog Tryd.f3 (OpenSpec.ofChange Rows.satinNamesSpec) false w args)
      (Rows.satinNamesSpec.post enc Tryd.prog Tryd.f3 false true false false) :=
  law_laid (C := Tryd.checked) (s := Rows.satinNamesSpec) (tb := 4) (X := fun w _ => laidMetH Tryd.prog Rows.satinNamesRow.laid w) (fun _ _ _ hh h => h.of_heap hh) own_knob started (by kernel_rfl) Tryd.func3
    (ChangeSpec.witness_shaped (enc := enc) (C := Tryd.checked) (os := os) (X := fun w _ => laidMetH Tryd.prog Rows.satinNamesRow.laid w) false (World.laidAll Tryd.prog os Rows.satinNamesRow.laid) #[] 8 (World.laidAll_os _ _ _)
      (World.shaped_of_ZipB (by kernel_rfl) (by kernel_rfl)) (by kernel_rfl) (by kernel_rfl) (by kernel_rfl)
      (by rw [MakeChecks.laidMetH_plain _ _ _ (by kernel_rfl)]; exact laidMet_laidAll _ (by kernel_rfl) (by kernel_rfl)))
    rfl (fun ds h => by match ds, h with | [], _ => rfl) rfl Tryd.underlying4 laid_out (by rw [Tryd.params3]; intro t ht; simp at ht) (the_law enc)

theorem satinNames_row_holds : Rows.SatinNamesSaid :=
  OpenClaim.holds_of_wide 3 Tryd.f3 rfl rfl rfl rfl rfl rfl rfl ⟨rfl, rfl, rfl, rfl, rfl⟩ rfl rfl rfl rfl rfl (by kernel_rfl) Tryd.func3 (by kernel_rfl)
    (of_decide_eq_true (by kernel_rfl)) (by unfold Func.isWrapper; rw [if_neg (of_decide_eq_false (by kernel_rfl))]; exact ⟨rfl, rfl⟩)
    (fun os started H enc _ => the_lift os started H enc)
theorem satinNames_holds : Rows.SatinNamesCardSaid :=
  Claim7.holds_tied_plain_at .later [] [.data, .pinned] true (true, "0b925f5057e679e2ea874c32b962ee83bb40098c18143485c7e31b93ae5659bc") false satinNames_row_holds (fun _ h => by cases h) (by kernel_rfl) (fun _ h => by cases h) satinNames_row_tie rfl ⟨rfl, rfl⟩ (by kernel_rfl) rfl
    (fun f fn hf hfn => by
      obtain rfl : f = 3 := Option.some.inj ((show Tryd.prog.funcNamed Rows.satinNamesRow.func = some 3 by kernel_rfl).symm.trans hf) |>.symm
      obtain rfl : fn = Tryd.f3 := (Option.some.inj (Tryd.func3.symm.trans hfn)).symm
      exact ⟨by kernel_rfl, fun j t ht => by
        rw [Tryd.params3] at ht
        simp at ht⟩)
    (by kernel_rfl)
#print axioms satinNames_holds
end Go.Proofs.YtbgekiifffnalaaDoor
