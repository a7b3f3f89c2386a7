/- LoomlogBack holds, for any grid and place. -/
import Derived.Test.YtfjdlbilnoojkaaRows
import Derived.Test.YtfjdlbilnoojkaaArgsz
import Derived.Test.YtfjdlbilnoojkaaLBack20z
namespace Go.Proofs.Ytfjdlbilnoojkaa
open Go.RowKit Go.ChangeShapes Go.WideShapes Go.ChangeAt

theorem own_knob : ownKnob Try.prog.godebug = none := by kernel_rfl
theorem laid_out : laidOutB Try.prog = true := by kernel_rfl

set_option maxRecDepth 100000 in
theorem the_law {H : Type} (enc : TypeId × Value → H) : LawWalk Try.prog 7 Try.f7.params.toList enc := by
  intro W base args ds ps hval hA
  rw [Try.params7] at hA hval
  obtain ⟨v0, vs0, d0, ds0, p0, q0, hargs, rfl, rfl, h0, r0⟩ := trodAll_cons hA
  obtain ⟨v1, vs1, d1, ds1, p1, q1, rfl, rfl, rfl, h1, r1⟩ := trodAll_cons r0
  obtain ⟨rfl, rfl, rfl⟩ := trodAll_nil r1
  obtain rfl : args = #[v0, v1] := by cases args; simp_all
  obtain ⟨g0, A0, n0, c0, rfl, hr0, hn0, hc0, _⟩ := open_grid (hval 0 _ v0 rfl rfl) h0
  obtain ⟨x1, rfl, _, _, hx1⟩ := open_int Try.underlying3 (hval 1 _ v1 rfl rfl) h1
  exact lback_walk g0 x1 A0 n0 c0 W hr0 hn0

set_option maxRecDepth 100000 in
theorem the_lift (os : Os) (started : os.Started) (H : Type) (enc : TypeId × Value → H) :
    ReturnsInHanded {} Try.checked os 7 .any (Rows.loomlogBackSpec.pre6 enc Try.prog Try.f7 Rows.loomlogBackRow.domain false) (Rows.loomlogBackSpec.post enc Try.prog Try.f7 false true false false) :=
  law_lifted (C := Try.checked) (s := Rows.loomlogBackSpec) (tb := 4) own_knob started (by kernel_rfl) Try.func7
    (ChangeSpec.witness6 (enc := enc) (C := Try.checked) false ⟨#[], #[.agg #[.int .i64 0, .int .i64 0, .slice none 0 0], .int .i64 0], []⟩ 8 (by kernel_rfl) (by kernel_rfl) (by kernel_rfl) (by kernel_rfl))
    rfl (fun ds h => by match ds, h with | [_, _], _ => rfl) rfl Try.underlying4 laid_out (by rw [Try.params7]; intro t ht; simp at ht; first | (subst ht; exact ⟨by kernel_rfl, of_decide_eq_true (by kernel_rfl)⟩) | (rcases ht with rfl | rfl <;> exact ⟨by kernel_rfl, of_decide_eq_true (by kernel_rfl)⟩)) (the_law enc)

theorem loomlogBack_holds : Rows.LoomlogBackSaid :=
  OpenClaim.holds_of_wide 7 Try.f7 rfl rfl rfl rfl rfl rfl rfl ⟨rfl, rfl, rfl, rfl, rfl⟩ rfl rfl rfl rfl rfl (by kernel_rfl) Try.func7 (by kernel_rfl)
    (of_decide_eq_true (by kernel_rfl)) (by unfold Func.isWrapper; rw [if_neg (of_decide_eq_false (by kernel_rfl))]; exact ⟨rfl, rfl⟩)
    (fun os started H enc _ => the_lift os started H enc)
#print axioms loomlogBack_holds
end Go.Proofs.Ytfjdlbilnoojkaa
