/- The least cell of a grid. No program in sight. -/
import Derived.Test.YtkhochbkjhpfgaaDoorRepP
namespace Go.Proofs.YtkhochbkjhpfgaaDoor
open Go.RowKit

def cellG (g : Gd) : Gd × Int := withChk g fun a b => tabG (latA a b g.bits) (latC a b g.bits) fun x y => g.bits.getD (y * a + x) false
theorem cellG_ok {a b : Nat} {bs : List Bool} (h : chk a b bs.length = 0) : cellG ⟨a, b, bs⟩ = (⟨((latA a b bs : Nat) : Int), ((latC a b bs : Nat) : Int), Pl.tab (latA a b bs) (latC a b bs) fun x y => bs.getD (y * a + x) false⟩, 0) := withChk_ok h
end Go.Proofs.YtkhochbkjhpfgaaDoor
