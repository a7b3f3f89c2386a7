/- Parts of the proof, in their order. -/
import Derived.Test.YtkhochbkjhpfgaaDoorRepPz
import Derived.Test.YtkhochbkjhpfgaaDoorMg3z
import Derived.Test.YtkhochbkjhpfgaaDoorMg2z
import Derived.Lib.Hide
/- The plain result of Spread: a cell, spread over the plane, as a grid. -/
namespace Go.Proofs.YtkhochbkjhpfgaaDoor
open Go.RowKit

/-- A cell, spread over the plane, as a grid. -/
def spreadG (g : Gd) (B W H : Int) : Gd × Int := withChk g fun a b => if B < 0 ∨ (a : Int) ≤ B ∨ W < 1 ∨ H < 1 then errG 2 else if 64 < W ∨ 64 < H then errG 4 else
  tabG W.toNat H.toNat fun x y => pl a b g.bits ((x : Int) - ((y / b * B.toNat : Nat) : Int)) (y : Int)
end Go.Proofs.YtkhochbkjhpfgaaDoor
/- raddleref01.Mod gives the remainder from 0 on (a divisor of at least 1). -/
namespace Go.Proofs.YtkhochbkjhpfgaaDoor
open Go.RowKit

theorem mod_any (a n : Int) (w : World) (hn : 1 ≤ n) (hn2 : n ≤ 1000000) :
    Calls Tryd.prog 44 #[.int .i64 a, .int .i64 n] w fun e w' => e = .returned (.int .i64 (a % n)) ∧ w' = w := by
  have h1 := Int.tmod_lt_of_pos a (show 0 < n by omega)
  have h2 := Int.lt_tmod_of_pos a (show 0 < n by omega)
  have h3 := Pl.mod2 a n (by omega)
  have H3 := Lib.hid h3
  clear h3
  go_enter Tryd.func44, Tryd.ntmps44
  go_wp2
  go_ret
  exact ⟨ret_i (by have := H3.out; rw [Int.tmod_eq_emod_of_nonneg (by omega)] at this; exact this), rfl⟩

end Go.Proofs.YtkhochbkjhpfgaaDoor
