/- LoomlogReplays holds, for any number of shafts, log and grid. -/
import Derived.Test.YtfjdlbilnoojkaaRows
import Derived.Test.YtfjdlbilnoojkaaArgsE
import Derived.Test.YtfjdlbilnoojkaaArgs
import Derived.Test.YtfjdlbilnoojkaaLReplays
namespace Go.Proofs.Ytfjdlbilnoojkaa
open Go.RowKit Go.ChangeShapes Go.WideShapes Go.ChangeAt

theorem own_knob : ownKnob Try.prog.godebug = none := by kernel_rfl
theorem laid_out : laidOutB Try.prog = true := by kernel_rfl

set_option maxRecDepth 100000 in
theorem the_law {H : Type} (enc : TypeId × Value → H) : LawWalk Try.prog 3 Try.f3.params.toList enc := by
  intro W base args ds ps hval hA
  rw [Try.params3] at hA hval
  obtain ⟨v0, vs0, d0, ds0, p0, q0, hargs, rfl, rfl, h0, r0⟩ := trodAll_cons hA
  obtain ⟨v1, vs1, d1, ds1, p1, q1, rfl, rfl, rfl, h1, r1⟩ := trodAll_cons r0
  obtain ⟨v2, vs2, d2, ds2, p2, q2, rfl, rfl, rfl, h2, r2⟩ := trodAll_cons r1
  obtain ⟨rfl, rfl, rfl⟩ := trodAll_nil r2
  obtain rfl : args = #[v0, v1, v2] := by cases args; simp_all
  obtain ⟨x0, rfl, _, _, hx0⟩ := open_int Try.underlying3 (hval 0 _ v0 rfl rfl) h0
  obtain ⟨l1, A1, n1, c1, rfl, hr1, hn1, hc1⟩ := open_log (hval 1 _ v1 rfl rfl) h1
  obtain ⟨g2, A2, n2, c2, rfl, hr2, hn2, hc2, _⟩ := open_grid (hval 2 _ v2 rfl rfl) h2
  exact lreplays_walk x0 l1 g2 A1 n1 c1 A2 n2 c2 W hr1 hn1 hc1 hr2 hn2

set_option maxRecDepth 100000 in
theorem the_lift (os : Os) (started : os.Started) (H : Type) (enc : TypeId × Value → H) :
    ReturnsInHanded {} Try.checked os 3 .any (Rows.loomlogReplaysSpec.pre6 enc Try.prog Try.f3 Rows.loomlogReplaysRow.domain false) (Rows.loomlogReplaysSpec.post enc Try.prog Try.f3 false true false false) :=
  law_lifted (C := Try.checked) (s := Rows.loomlogReplaysSpec) (tb := 4) own_knob started (by kernel_rfl) Try.func3
    (ChangeSpec.witness6 (enc := enc) (C := Try.checked) false ⟨#[], #[.int .i64 0, .slice none 0 0, .agg #[.int .i64 0, .int .i64 0, .slice none 0 0]], []⟩ 8 (by kernel_rfl) (by kernel_rfl) (by kernel_rfl) (by kernel_rfl))
    rfl (fun ds h => by match ds, h with | [_, _, _], _ => rfl) rfl Try.underlying4 laid_out (by rw [Try.params3]; intro t ht; simp at ht; first | (subst ht; exact ⟨by kernel_rfl, of_decide_eq_true (by kernel_rfl)⟩) | (rcases ht with rfl | rfl <;> exact ⟨by kernel_rfl, of_decide_eq_true (by kernel_rfl)⟩) | (rcases ht with rfl | rfl | rfl <;> exact ⟨by kernel_rfl, of_decide_eq_true (by kernel_rfl)⟩)) (the_law enc)

theorem loomlogReplays_holds : Rows.LoomlogReplaysSaid :=
  OpenClaim.holds_of_wide 3 Try.f3 rfl rfl rfl rfl rfl rfl rfl ⟨rfl, rfl, rfl, rfl, rfl⟩ rfl rfl rfl rfl rfl (by kernel_rfl) Try.func3 (by kernel_rfl)
    (of_decide_eq_true (by kernel_rfl)) (by unfold Func.isWrapper; rw [if_neg (of_decide_eq_false (by kernel_rfl))]; exact ⟨rfl, rfl⟩)
    (fun os started H enc _ => the_lift os started H enc)
#print axioms loomlogReplays_holds
end Go.Proofs.Ytfjdlbilnoojkaa
