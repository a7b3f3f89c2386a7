/- The law RepeatMoved: offsets lead from plane to plane -/
import Derived.Test.YtkhochbkjhpfgaaDoorRows
import Derived.Test.YtkhochbkjhpfgaaDoorTie
import Derived.Test.YtkhochbkjhpfgaaDoorCards
import Derived.Test.YtkhochbkjhpfgaaDoorMg1z
import Derived.Test.YtkhochbkjhpfgaaDoorMg2z
import Derived.SevenTiedAt
import Derived.Stop.Joined
import Derived.Test.YtkhochbkjhpfgaaDoorLMoved6z
namespace Go.Proofs.YtkhochbkjhpfgaaDoor
open Go.RowKit Go.ChangeShapes Go.WideShapes Go.ChangeAt

theorem own_knob : ownKnob Tryd.prog.godebug = none := by kernel_rfl
theorem laid_out : laidOutB Tryd.prog = true := by kernel_rfl

set_option maxRecDepth 100000 in
theorem the_law {H : Type} (enc : TypeId × Value → H) : LawWalk Tryd.prog 6 Tryd.f6.params.toList enc := by
  intro W base args ds ps hval hA
  rw [Tryd.params6] at hA hval
  obtain ⟨v0, vs0, d0, ds0, p0, q0, hargs, rfl, rfl, h0, r0⟩ := trodAll_cons hA
  obtain ⟨v1, vs1, d1, ds1, p1, q1, rfl, rfl, rfl, h1, r1⟩ := trodAll_cons r0
  obtain ⟨v2, vs2, d2, ds2, p2, q2, rfl, rfl, rfl, h2, r2⟩ := trodAll_cons r1
  obtain ⟨v3, vs3, d3, ds3, p3, q3, rfl, rfl, rfl, h3, r3⟩ := trodAll_cons r2
  obtain ⟨rfl, rfl, rfl⟩ := trodAll_nil r3
  obtain rfl : args = #[v0, v1, v2, v3] := by cases args; simp_all
  obtain ⟨g0, A0, n0, c0, rfl, hr0, hn0, hc0, _⟩ := open_grid (hval 0 _ v0 rfl rfl) h0
  obtain ⟨g1, A1, n1, c1, rfl, hr1, hn1, hc1, _⟩ := open_grid (hval 1 _ v1 rfl rfl) h1
  obtain ⟨x2, rfl, _, _, hx2⟩ := open_int Tryd.underlying3 (hval 2 _ v2 rfl rfl) h2
  obtain ⟨x3, rfl, _, _, hx3⟩ := open_int Tryd.underlying3 (hval 3 _ v3 rfl rfl) h3
  exact moved6_walk g0 g1 x2 x3 A0 A1 n0 c0 n1 c1 W hr0 hn0 hr1 hn1

set_option maxRecDepth 100000 in
theorem the_lift (os : Os) (started : os.Started) (H : Type) (enc : TypeId × Value → H) :
    ReturnsInHanded {} Tryd.checked os 6 .any (fun w args => (Rows.repeatMovedSpec.pre enc Tryd.prog Tryd.f6 Rows.repeatMovedRow.domain false w args ∧ laidMetH Tryd.prog Rows.repeatMovedRow.laid w) ∧ sizedMet enc Tryd.prog Tryd.f6 (OpenSpec.ofChange Rows.repeatMovedSpec) false w args)
      (Rows.repeatMovedSpec.post enc Tryd.prog Tryd.f6 false true false false) :=
  law_laid (C := Tryd.checked) (s := Rows.repeatMovedSpec) (tb := 4) (X := fun w _ => laidMetH Tryd.prog Rows.repeatMovedRow.laid w) (fun _ _ _ hh h => h.of_heap hh) own_knob started (by kernel_rfl) Tryd.func6
    (ChangeSpec.witness_shaped (enc := enc) (C := Tryd.checked) (os := os) (X := fun w _ => laidMetH Tryd.prog Rows.repeatMovedRow.laid w) false (World.laidAll Tryd.prog os Rows.repeatMovedRow.laid) #[.agg #[.int .i64 0, .int .i64 0, .slice none 0 0], .agg #[.int .i64 0, .int .i64 0, .slice none 0 0], .int .i64 0, .int .i64 0] 8 (World.laidAll_os _ _ _)
      (World.shaped_of_ZipB (by kernel_rfl) (by kernel_rfl)) (by kernel_rfl) (by kernel_rfl) (by kernel_rfl)
      (by rw [MakeChecks.laidMetH_plain _ _ _ (by kernel_rfl)]; exact laidMet_laidAll _ (by kernel_rfl) (by kernel_rfl)))
    rfl (fun ds h => by match ds, h with | [_, _, _, _], _ => rfl) rfl Tryd.underlying4 laid_out (by rw [Tryd.params6]; intro t ht; simp at ht; first | (subst ht; exact ⟨by kernel_rfl, of_decide_eq_true (by kernel_rfl)⟩) | (rcases ht with rfl | rfl <;> exact ⟨by kernel_rfl, of_decide_eq_true (by kernel_rfl)⟩) | (rcases ht with rfl | rfl | rfl <;> exact ⟨by kernel_rfl, of_decide_eq_true (by kernel_rfl)⟩) | (rcases ht with rfl | rfl | rfl | rfl <;> exact ⟨by kernel_rfl, of_decide_eq_true (by kernel_rfl)⟩)) (the_law enc)

theorem repeatMoved_row_holds : Rows.RepeatMovedSaid :=
  OpenClaim.holds_of_wide 6 Tryd.f6 rfl rfl rfl rfl rfl rfl rfl ⟨rfl, rfl, rfl, rfl, rfl⟩ rfl rfl rfl rfl rfl (by kernel_rfl) Tryd.func6 (by kernel_rfl)
    (of_decide_eq_true (by kernel_rfl)) (by unfold Func.isWrapper; rw [if_neg (of_decide_eq_false (by kernel_rfl))]; exact ⟨rfl, rfl⟩)
    (fun os started H enc _ => the_lift os started H enc)
theorem repeatMoved_holds : Rows.RepeatMovedCardSaid :=
  Claim7.holds_tied_plain_at .later [] [.data, .pinned] true (true, "6e5bb9e503933d6140a0b7f4130deb832e1d48d0097e4cb4b54d965b77228106") false repeatMoved_row_holds (fun _ h => by cases h) (by kernel_rfl) (fun _ h => by cases h) repeatMoved_row_tie rfl ⟨rfl, rfl⟩ (by kernel_rfl) rfl
    (fun f fn hf hfn => by
      obtain rfl : f = 6 := Option.some.inj ((show Tryd.prog.funcNamed Rows.repeatMovedRow.func = some 6 by kernel_rfl).symm.trans hf) |>.symm
      obtain rfl : fn = Tryd.f6 := (Option.some.inj (Tryd.func6.symm.trans hfn)).symm
      exact ⟨by kernel_rfl, fun j t ht => by
        rw [Tryd.params6] at ht
        have hm : t ∈ [33, 33, 3, 3] := by simpa using Array.mem_of_getElem? ht
        have hall : ([33, 33, 3, 3].all fun u => !Tryd.prog.wantsStandIn u) = true := by kernel_rfl
        exact (show Tryd.prog.wantsStandIn t = false by simpa using List.all_eq_true.1 hall t hm)⟩)
    (by kernel_rfl)
#print axioms repeatMoved_holds
end Go.Proofs.YtkhochbkjhpfgaaDoor
