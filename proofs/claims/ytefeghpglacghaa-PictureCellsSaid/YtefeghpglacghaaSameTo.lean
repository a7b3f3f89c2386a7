/- raddleref01.Same, with the answer by an equation. -/
import Derived.Test.YtefeghpglacghaaRSame
namespace Go.Proofs.Ytefeghpglacghaa
open Go.RowKit
theorem same_to {b : Bool} (g g2 : Gd) (h : sameG g g2 = b) (A A2 : Option Addr) (n c n2 c2 : Nat) (w : World) (hr : Rd w A n (g.bits.map Value.bool)) (hr2 : Rd w A2 n2 (g2.bits.map Value.bool)) (hn : n ≤ 1048576) :
    Calls Try.prog 27 #[.agg #[.int .i64 g.w, .int .i64 g.h, .slice A n c], .agg #[.int .i64 g2.w, .int .i64 g2.h, .slice A2 n2 c2]] w fun e w' => e = .returned (.bool b) ∧ Below w.heap.size w w' := h ▸ rsame_any g g2 A A2 n c n2 c2 w hr hr2 hn
end Go.Proofs.Ytefeghpglacghaa
