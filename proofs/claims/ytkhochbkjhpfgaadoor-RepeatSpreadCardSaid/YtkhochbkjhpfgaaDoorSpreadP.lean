/- The plain result of Spread: a cell, spread over the plane, as a grid. -/
import Derived.Test.YtkhochbkjhpfgaaDoorRepP
import Derived.Test.YtkhochbkjhpfgaaDoorMvDef
namespace Go.Proofs.YtkhochbkjhpfgaaDoor
open Go.RowKit

/-- A cell, spread over the plane, as a grid. -/
def spreadG (g : Gd) (B W H : Int) : Gd × Int := withChk g fun a b => if B < 0 ∨ (a : Int) ≤ B ∨ W < 1 ∨ H < 1 then errG 2 else if 64 < W ∨ 64 < H then errG 4 else
  tabG W.toNat H.toNat fun x y => pl a b g.bits ((x : Int) - ((y / b * B.toNat : Nat) : Int)) (y : Int)
end Go.Proofs.YtkhochbkjhpfgaaDoor
