/- raddleref14.Great. -/
import Derived.Test.YtpfonniepinjnaaDoorIm
import Derived.Test.YtpfonniepinjnaaDoorProg
import Derived.WalkKit
import Derived.KernelRfl
namespace Go.Proofs.YtpfonniepinjnaaDoor
open Go.RowKit

theorem greatI_any (W H : Int) (A : Option Addr) (n c : Nat) (w : World) :
    Calls Tryd.prog 10 #[.agg #[.int .i64 W, .int .i64 H, .slice A n c]] w fun e w' => e = .returned (.bool (decide (4200 < n))) ∧ Below w.heap.size w w' := by
  go_enter Tryd.func10, Tryd.ntmps10
  go_wp2
  go_ret
  exact ⟨by simp; omega, (Below.refl _ _).alloc (Nat.le_refl _) _⟩
end Go.Proofs.YtpfonniepinjnaaDoor
