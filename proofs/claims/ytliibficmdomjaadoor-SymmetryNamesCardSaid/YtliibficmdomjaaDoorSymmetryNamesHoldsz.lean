/- The law SymmetryNames: the examples, limits, small cloths, errors -/
import Derived.Test.YtliibficmdomjaaDoorRows
import Derived.Test.YtliibficmdomjaaDoorTie
import Derived.Test.YtliibficmdomjaaDoorCards
import Derived.Test.YtliibficmdomjaaDoorMg2z
import Derived.Test.YtliibficmdomjaaDoorMg14z
import Derived.SevenTiedAt
import Derived.Stop.Joined
import Derived.Test.YtliibficmdomjaaDoorLNames7z
namespace Go.Proofs.YtliibficmdomjaaDoor
open Go.RowKit Go.ChangeShapes Go.WideShapes Go.ChangeAt

theorem own_knob : ownKnob Tryd.prog.godebug = none := by kernel_rfl
theorem laid_out : laidOutB Tryd.prog = true := by kernel_rfl

set_option maxRecDepth 100000 in
theorem the_law {H : Type} (enc : TypeId × Value → H) : LawWalk Tryd.prog 7 Tryd.f7.params.toList enc := by
  intro W base args ds ps hval hA
  rw [Tryd.params7] at hA hval
  obtain ⟨hargs, rfl, rfl⟩ := trodAll_nil hA
  obtain rfl : args = #[] := by cases args; simp_all
  exact names7_walk W

set_option maxRecDepth 100000 in
theorem the_lift (os : Os) (started : os.Started) (H : Type) (enc : TypeId × Value → H) :
    ReturnsInHanded {} Tryd.checked os 7 .any (fun w args => (Rows.symmetryNamesSpec.pre enc Tryd.prog Tryd.f7 Rows.symmetryNamesRow.domain false w args ∧ laidMetH Tryd.prog Rows.symmetryNamesRow.laid w) ∧ sizedMet enc Tryd.prog Tryd.f7 (OpenSpec.ofChange Rows.symmetryNamesSpec) false w args)
      (Rows.symmetryNamesSpec.post enc Tryd.prog Tryd.f7 false true false false) :=
  law_laid (C := Tryd.checked) (s := Rows.symmetryNamesSpec) (tb := 4) (X := fun w _ => laidMetH Tryd.prog Rows.symmetryNamesRow.laid w) (fun _ _ _ hh h => h.of_heap hh) own_knob started (by kernel_rfl) Tryd.func7
    (ChangeSpec.witness_shaped (enc := enc) (C := Tryd.checked) (os := os) (X := fun w _ => laidMetH Tryd.prog Rows.symmetryNamesRow.laid w) false (World.laidAll Tryd.prog os Rows.symmetryNamesRow.laid) #[] 8 (World.laidAll_os _ _ _)
      (World.shaped_of_ZipB (by kernel_rfl) (by kernel_rfl)) (by kernel_rfl) (by kernel_rfl) (by kernel_rfl)
      (by rw [MakeChecks.laidMetH_plain _ _ _ (by kernel_rfl)]; exact laidMet_laidAll _ (by kernel_rfl) (by kernel_rfl)))
    rfl (fun ds h => by match ds, h with | [], _ => rfl) rfl Tryd.underlying4 laid_out (by rw [Tryd.params7]; intro t ht; simp at ht) (the_law enc)

theorem symmetryNames_row_holds : Rows.SymmetryNamesSaid :=
  OpenClaim.holds_of_wide 7 Tryd.f7 rfl rfl rfl rfl rfl rfl rfl ⟨rfl, rfl, rfl, rfl, rfl⟩ rfl rfl rfl rfl rfl (by kernel_rfl) Tryd.func7 (by kernel_rfl)
    (of_decide_eq_true (by kernel_rfl)) (by unfold Func.isWrapper; rw [if_neg (of_decide_eq_false (by kernel_rfl))]; exact ⟨rfl, rfl⟩)
    (fun os started H enc _ => the_lift os started H enc)
theorem symmetryNames_holds : Rows.SymmetryNamesCardSaid :=
  Claim7.holds_tied_plain_at .later [] [.data, .pinned] true (true, "bd37858ff3876fffd957e063a2eb96efadae5119a36a4e1ccadce4823d406d8f") false symmetryNames_row_holds (fun _ h => by cases h) (by kernel_rfl) (fun _ h => by cases h) symmetryNames_row_tie rfl ⟨rfl, rfl⟩ (by kernel_rfl) rfl
    (fun f fn hf hfn => by
      obtain rfl : f = 7 := Option.some.inj ((show Tryd.prog.funcNamed Rows.symmetryNamesRow.func = some 7 by kernel_rfl).symm.trans hf) |>.symm
      obtain rfl : fn = Tryd.f7 := (Option.some.inj (Tryd.func7.symm.trans hfn)).symm
      exact ⟨by kernel_rfl, fun j t ht => by
        rw [Tryd.params7] at ht
        simp at ht⟩)
    (by kernel_rfl)
#print axioms symmetryNames_holds
end Go.Proofs.YtliibficmdomjaaDoor
