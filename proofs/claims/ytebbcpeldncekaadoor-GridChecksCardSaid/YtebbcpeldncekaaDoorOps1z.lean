/- The operations of layer 1 at results that are known. -/
import Derived.Test.YtebbcpeldncekaaDoorGTurnz
import Derived.Test.YtebbcpeldncekaaDoorShiftz
import Derived.Test.YtebbcpeldncekaaDoorMirrorz
import Derived.Test.YtebbcpeldncekaaDoorRSamez
import Derived.Test.YtebbcpeldncekaaDoorCountz
import Derived.Test.YtebbcpeldncekaaDoorNotz
namespace Go.Proofs.YtebbcpeldncekaaDoor
open Go.RowKit

theorem turn_to {g r : Gd} (h : turnG g = (r, 0)) (A : Option Addr) (n c : Nat) (w : World) (hr : Rd w A n (g.bits.map Value.bool)) : Calls Tryd.prog 22 #[.agg #[.int .i64 g.w, .int .i64 g.h, .slice A n c]] w (RetG (r, 0) w) := h ▸ turn_any g A n c w hr
theorem not_to {g r : Gd} (h : notG g = (r, 0)) (A : Option Addr) (n c : Nat) (w : World) (hr : Rd w A n (g.bits.map Value.bool)) : Calls Tryd.prog 27 #[.agg #[.int .i64 g.w, .int .i64 g.h, .slice A n c]] w (RetG (r, 0) w) := h ▸ not_any g A n c w hr
theorem shift_to {g r : Gd} {dx dy : Int} (h : shiftG g dx dy = (r, 0)) (X Y : Int) (hX : X = dx) (hY : Y = dy) (A : Option Addr) (n c : Nat) (w : World) (hr : Rd w A n (g.bits.map Value.bool)) : Calls Tryd.prog 23 #[.agg #[.int .i64 g.w, .int .i64 g.h, .slice A n c], .int .i64 X, .int .i64 Y] w (RetG (r, 0) w) := by
  subst hX hY
  rw [← h]
  exact shift_any g X Y A n c w hr
theorem mirror_to {g r : Gd} {t : Int} (h : mirG g t = (r, 0)) (X : Int) (hX : X = t) (A : Option Addr) (n c : Nat) (w : World) (hr : Rd w A n (g.bits.map Value.bool)) : Calls Tryd.prog 24 #[.agg #[.int .i64 g.w, .int .i64 g.h, .slice A n c], .int .i64 X] w (RetG (r, 0) w) := by
  subst hX
  rw [← h]
  exact mirror_any g X A n c w hr
theorem count_to {g : Gd} {k : Int} (h : countG g = (k, 0)) (A : Option Addr) (n c : Nat) (w : World) (hr : Rd w A n (g.bits.map Value.bool)) :
    Calls Tryd.prog 10 #[.agg #[.int .i64 g.w, .int .i64 g.h, .slice A n c]] w fun e w' => e = .returned (.tuple #[.int .i64 k, .int .i64 0]) ∧ Below w.heap.size w w' := by
  have := count_any g A n c w hr
  rw [h] at this
  exact this
theorem same_self (g : Gd) (hs : g.bits.length ≤ 4096) (A A2 : Option Addr) (n c n2 c2 : Nat) (w : World) (hr : Rd w A n (g.bits.map Value.bool)) (hr2 : Rd w A2 n2 (g.bits.map Value.bool)) :
    Calls Tryd.prog 19 #[.agg #[.int .i64 g.w, .int .i64 g.h, .slice A n c], .agg #[.int .i64 g.w, .int .i64 g.h, .slice A2 n2 c2]] w fun e w' => e = .returned (.bool true) ∧ Below w.heap.size w w' := by
  have hl : g.bits.length = n := by simpa using hr.len
  have h := rsame_any g g A A2 n c n2 c2 w hr hr2 (by omega)
  rw [sameG_self] at h
  exact h
end Go.Proofs.YtebbcpeldncekaaDoor
