/- What a call gives that hands back no grid, with an error. -/
import Derived.Test.YtpfonniepinjnaaDoorGd
import Derived.Test.YtpfonniepinjnaaDoorSt
namespace Go.Proofs.YtpfonniepinjnaaDoor
open Go.RowKit
/-- A grid that is not there, with its error. -/
def ErrG (t : Int) (w : World) (e : Ending) (w' : World) : Prop := ∃ A n c, e = .returned (.tuple #[.agg #[.int .i64 0, .int .i64 0, .slice A n c], .int .i64 t]) ∧ Below w.heap.size w w'
theorem errG_of {t : Int} {w w' : World} {e : Ending} (h : RetG (Gd.zero, t) w e w') : ErrG t w e w' := by
  obtain ⟨A, n, c, rfl, _, hb⟩ := h
  exact ⟨A, n, c, rfl, hb⟩
end Go.Proofs.YtpfonniepinjnaaDoor
