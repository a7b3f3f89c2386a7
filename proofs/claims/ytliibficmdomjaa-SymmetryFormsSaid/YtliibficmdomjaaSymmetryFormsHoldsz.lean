/- The law SymmetryForms: results equal the reference: least forms -/
import Derived.Test.YtliibficmdomjaaRows
import Derived.Test.YtliibficmdomjaaMg4z
import Derived.Test.YtliibficmdomjaaLForms7z
namespace Go.Proofs.Ytliibficmdomjaa
open Go.RowKit Go.ChangeShapes Go.WideShapes Go.ChangeAt

theorem own_knob : ownKnob Try.prog.godebug = none := by kernel_rfl
theorem laid_out : laidOutB Try.prog = true := by kernel_rfl

set_option maxRecDepth 100000 in
theorem the_law {H : Type} (enc : TypeId × Value → H) : LawWalk Try.prog 4 Try.f4.params.toList enc := by
  intro W base args ds ps hval hA
  rw [Try.params4] at hA hval
  obtain ⟨v0, vs0, d0, ds0, p0, q0, hargs, rfl, rfl, h0, r0⟩ := trodAll_cons hA
  obtain ⟨rfl, rfl, rfl⟩ := trodAll_nil r0
  obtain rfl : args = #[v0] := by cases args; simp_all
  obtain ⟨g0, A0, n0, c0, rfl, hr0, hn0, hc0, _⟩ := open_grid (hval 0 _ v0 rfl rfl) h0
  exact forms7_walk g0 A0 n0 c0 W hr0 hn0

set_option maxRecDepth 100000 in
theorem the_lift (os : Os) (started : os.Started) (H : Type) (enc : TypeId × Value → H) :
    ReturnsInHanded {} Try.checked os 4 .any (Rows.symmetryFormsSpec.pre6 enc Try.prog Try.f4 Rows.symmetryFormsRow.domain false) (Rows.symmetryFormsSpec.post enc Try.prog Try.f4 false true false false) :=
  law_lifted (C := Try.checked) (s := Rows.symmetryFormsSpec) (tb := 4) own_knob started (by kernel_rfl) Try.func4
    (ChangeSpec.witness6 (enc := enc) (C := Try.checked) false ⟨#[], #[.agg #[.int .i64 0, .int .i64 0, .slice none 0 0]], []⟩ 8 (by kernel_rfl) (by kernel_rfl) (by kernel_rfl) (by kernel_rfl))
    rfl (fun ds h => by match ds, h with | [_], _ => rfl) rfl Try.underlying4 laid_out (by rw [Try.params4]; intro t ht; simp at ht; first | (subst ht; exact ⟨by kernel_rfl, of_decide_eq_true (by kernel_rfl)⟩)) (the_law enc)

theorem symmetryForms_holds : Rows.SymmetryFormsSaid :=
  OpenClaim.holds_of_wide 4 Try.f4 rfl rfl rfl rfl rfl rfl rfl ⟨rfl, rfl, rfl, rfl, rfl⟩ rfl rfl rfl rfl rfl (by kernel_rfl) Try.func4 (by kernel_rfl)
    (of_decide_eq_true (by kernel_rfl)) (by unfold Func.isWrapper; rw [if_neg (of_decide_eq_false (by kernel_rfl))]; exact ⟨rfl, rfl⟩)
    (fun os started H enc _ => the_lift os started H enc)
#print axioms symmetryForms_holds
end Go.Proofs.Ytliibficmdomjaa
