/- The type bool's entry; a function value that gives cells. -/
import Derived.Test.YtfjdlbilnoojkaaChk
import Derived.Handy
import Derived.Outline
import Derived.Deep.DeepMust
import Derived.Deep.RegionLaw
import Derived.Shelf.Abstract
import Derived.Deep.RegionHeld3
import Derived.Deep.AppendLies
namespace Go.Proofs.Ytfjdlbilnoojkaa
open Go.RowKit

/-- A function value that gives the cell (x, y) of a table, whatever has been made since w. -/
def Gives (f : FuncId) (caps : Array Value) (a b : Nat) (F : Nat → Nat → Bool) (w : World) : Prop :=
  ∀ (w' : World) (x y : Nat), Below w.heap.size w w' → x < a → y < b →
    Calls Try.prog f (#[.int .i64 x, .int .i64 y] ++ caps) w' fun e w'' => e = .returned (.bool (F x y)) ∧ Below w'.heap.size w' w''

theorem Try.infoB : (Try.prog.info? 4).map (fun i => (i.zero, i.size, i.bytes)) = some (some (.bool false), 1, 1) := by kernel_rfl

end Go.Proofs.Ytfjdlbilnoojkaa
