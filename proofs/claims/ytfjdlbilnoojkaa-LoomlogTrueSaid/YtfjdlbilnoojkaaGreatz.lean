/- raddleref01.Great: more than 4,200 cells. -/
import Derived.Test.YtfjdlbilnoojkaaMlthx1z
namespace Go.Proofs.Ytfjdlbilnoojkaa
open Go.RowKit

theorem great_any (W H : Int) (A : Option Addr) (n c : Nat) (w : World) :
    Calls Try.prog 11 #[.agg #[.int .i64 W, .int .i64 H, .slice A n c]] w fun e w' => e = .returned (.bool (decide (4200 < n))) ∧ Below w.heap.size w w' := by
  go_enter Try.func11, Try.ntmps11
  go_wp2
  go_ret
  exact ⟨by simp; omega, (Below.refl _ _).alloc (Nat.le_refl _) _⟩

end Go.Proofs.Ytfjdlbilnoojkaa
