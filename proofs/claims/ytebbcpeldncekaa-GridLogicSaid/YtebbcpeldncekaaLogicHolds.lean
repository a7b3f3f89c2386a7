/- The law GridLogic holds for any two grids: Not, And and Or return the reference's grids and errors, and do not modify the grids. No condition. -/
import Derived.Test.YtebbcpeldncekaaRows
import Derived.Test.YtebbcpeldncekaaArgs
import Derived.Test.YtebbcpeldncekaaLogic
namespace Go.Proofs.Ytebbcpeldncekaa
open Go.RowKit Go.ChangeShapes Go.WideShapes Go.ChangeAt

theorem own_knob : ownKnob Try.prog.godebug = none := by kernel_rfl
theorem laid_out : laidOutB Try.prog = true := by kernel_rfl

theorem logic_law {H : Type} (enc : TypeId × Value → H) : LawWalk Try.prog 3 Try.f3.params.toList enc := by
  intro W base args ds ps hval hA
  rw [Try.params3] at hA hval
  obtain ⟨v0, vs0, d0, ds0, p0, q0, hargs, rfl, rfl, h0, r0⟩ := trodAll_cons hA
  obtain ⟨v1, vs1, d1, ds1, p1, q1, rfl, rfl, rfl, h1, r1⟩ := trodAll_cons r0
  obtain ⟨rfl, rfl, rfl⟩ := trodAll_nil r1
  obtain rfl : args = #[v0, v1] := by cases args; simp_all
  obtain ⟨a, A, n, c, rfl, hr, _⟩ := open_grid (hval 0 _ v0 rfl rfl) h0
  obtain ⟨b, A2, n2, c2, rfl, hr2, _⟩ := open_grid (hval 1 _ v1 rfl rfl) h1
  exact logic_walk a b A A2 n c n2 c2 W hr hr2

set_option maxRecDepth 100000 in
theorem logic_lifted (os : Os) (started : os.Started) (H : Type) (enc : TypeId × Value → H) :
    ReturnsInHanded {} Try.checked os 3 .any (Rows.gridLogicSpec.pre6 enc Try.prog Try.f3 Rows.gridLogicRow.domain false) (Rows.gridLogicSpec.post enc Try.prog Try.f3 false true false false) :=
  law_lifted (C := Try.checked) (s := Rows.gridLogicSpec) (tb := 4) own_knob started (by kernel_rfl) Try.func3
    (ChangeSpec.witness6 (enc := enc) (C := Try.checked) false ⟨#[], #[.agg #[.int .i64 0, .int .i64 0, .slice none 0 0], .agg #[.int .i64 0, .int .i64 0, .slice none 0 0]], []⟩ 8 (by kernel_rfl) (by kernel_rfl) (by kernel_rfl) (by kernel_rfl))
    rfl (fun ds h => by match ds, h with | [_, _], _ => rfl) rfl Try.underlying4 laid_out (by rw [Try.params3]; intro t ht; simp at ht; subst ht; exact ⟨by kernel_rfl, of_decide_eq_true (by kernel_rfl)⟩) (logic_law enc)

theorem gridLogic_holds : Rows.GridLogicSaid :=
  OpenClaim.holds_of_wide 3 Try.f3 rfl rfl rfl rfl rfl rfl rfl ⟨rfl, rfl, rfl, rfl, rfl⟩ rfl rfl rfl rfl rfl (by kernel_rfl) Try.func3 (by kernel_rfl)
    (of_decide_eq_true (by kernel_rfl)) (by unfold Func.isWrapper; rw [if_neg (of_decide_eq_false (by kernel_rfl))]; exact ⟨rfl, rfl⟩)
    (fun os started H enc _ => logic_lifted os started H enc)
#print axioms gridLogic_holds
end Go.Proofs.Ytebbcpeldncekaa
