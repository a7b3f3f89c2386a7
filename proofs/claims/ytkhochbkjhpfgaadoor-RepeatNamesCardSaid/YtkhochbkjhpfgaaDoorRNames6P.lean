/- The examples of the law RepeatNames. No program in sight. -/
import Derived.Test.YtkhochbkjhpfgaaDoorAlive6
import Derived.Test.YtkhochbkjhpfgaaDoorSpread
import Derived.Test.YtkhochbkjhpfgaaDoorIn6
import Derived.Test.YtkhochbkjhpfgaaDoorIs
namespace Go.Proofs.YtkhochbkjhpfgaaDoor
open Go.RowKit

def gs : Gd := (parseG [46, 46, 120, 46, 46, 10, 120, 46, 46, 46, 46, 10, 46, 46, 46, 120, 46, 10, 46, 120, 46, 46, 46, 10, 46, 46, 46, 46, 120, 10]).1
theorem gs_p : parseG [46, 46, 120, 46, 46, 10, 120, 46, 46, 46, 46, 10, 46, 46, 46, 120, 46, 10, 46, 120, 46, 46, 46, 10, 46, 46, 46, 46, 120, 10] = (gs, 0) := Prod.ext rfl (by decide +kernel)
def gx : Gd := (parseG [120, 120, 46, 10]).1
theorem gx_p : parseG [120, 120, 46, 10] = (gx, 0) := Prod.ext rfl (by decide +kernel)
def gm : Gd := (parseG [120, 120, 46, 120, 120, 46, 10, 46, 46, 120, 46, 46, 120, 10, 120, 120, 46, 120, 120, 46, 10, 46, 46, 120, 46, 46, 120, 10]).1
theorem gm_p : parseG [120, 120, 46, 120, 120, 46, 10, 46, 46, 120, 46, 46, 120, 10, 120, 120, 46, 120, 120, 46, 10, 46, 46, 120, 46, 46, 120, 10] = (gm, 0) := Prod.ext rfl (by decide +kernel)
def ga : Gd := (parseG [120, 46, 10]).1
theorem ga_p : parseG [120, 46, 10] = (ga, 0) := Prod.ext rfl (by decide +kernel)
def gb : Gd := (parseG [120, 120, 10]).1
theorem gb_p : parseG [120, 120, 10] = (gb, 0) := Prod.ext rfl (by decide +kernel)
def go : Gd := (parseG [120, 10]).1
theorem go_p : parseG [120, 10] = (go, 0) := Prod.ext rfl (by decide +kernel)
def gc : Gd := (spreadG gx 1 6 3).1
theorem rn1 : ofG gs = ((5, 2, 1), 0) := by decide +kernel
theorem rn2 : rectG gs = ((5, 5), 0) := by decide +kernel
theorem rn3 : spreadG gx 1 6 3 = (gc, 0) := Prod.ext rfl (by decide +kernel)
theorem rn3t : textG gc = ([120, 46, 120, 120, 46, 120, 10, 46, 120, 120, 46, 120, 120, 10, 120, 120, 46, 120, 120, 46, 10], 0) := by decide +kernel
theorem rn4 : inL 4 2 3 (-2) (-9) = (true, 0) := by decide +kernel
theorem rn5 : inL 4 2 3 0 3 = (false, 0) := by decide +kernel
theorem rn6 : isG gs 5000000000 (-5000000000) = (true, 0) := by decide +kernel
theorem rn7 : ofG gm = ((3, 0, 2), 0) := by decide +kernel
theorem rn8 {r : (Int × Int) × Int} (h : OffR ga gb r) : r = ((0, 0), 6) := by
  rcases h with ⟨h1, _⟩ | ⟨_, x, y, h2, _⟩ | ⟨_, _, h3⟩
  · exact absurd (by decide +kernel) h1
  · exfalso
    have k1 := h2.1 0 0
    have k2 := h2.1 1 0
    have e : ∀ X Y : Int, pl gb.w.toNat gb.h.toNat gb.bits X Y = true := by
      intro X Y
      obtain ⟨x, y, hx, hy, e1, e2⟩ := pl_red (a := gb.w.toNat) (b := gb.h.toNat) (by decide +kernel) (by decide +kernel) X Y
      have e3 : pl gb.w.toNat gb.h.toNat gb.bits X Y = pl gb.w.toNat gb.h.toNat gb.bits (x : Int) (y : Int) := pl_congr (by rw [e1, Int.emod_eq_of_lt (by omega) (by omega)]) (by rw [e2, Int.emod_eq_of_lt (by omega) (by omega)])
      rw [e3]
      have ew : gb.w.toNat = 2 := by decide +kernel
      have eh : gb.h.toNat = 1 := by decide +kernel
      obtain rfl : y = 0 := by omega
      have hx' : x = 0 ∨ x = 1 := by omega
      rcases hx' with rfl | rfl <;> decide +kernel
    rw [e] at k1 k2
    revert k1 k2
    decide +kernel
  · exact h3
theorem rn9 {r : (Int × Int) × Int} (h : OffR go Gd.zero r) : r = ((0, 0), 8) := by
  rcases h with ⟨_, h3⟩ | ⟨h1, _⟩ | ⟨h1, _⟩
  · rw [h3]; decide +kernel
  · exact absurd h1 (by decide +kernel)
  · exact absurd h1 (by decide +kernel)
theorem rn10 : spreadG ga 2 1 1 = (Gd.zero, 2) := Prod.ext rfl (by decide +kernel)
theorem rn11 : spreadG ga 0 0 1 = (Gd.zero, 2) := Prod.ext rfl (by decide +kernel)
theorem rn12 : spreadG ga 0 65 1 = (Gd.zero, 4) := Prod.ext rfl (by decide +kernel)
theorem rn13 : inL 0 0 0 0 0 = (false, 8) := by decide +kernel
theorem rn14 : isG Gd.zero 0 0 = (false, 8) := by decide +kernel
theorem rn15 : ofG ⟨65, 0, []⟩ = ((0, 0, 0), 4) := by decide +kernel
theorem rn16 : rectG Gd.zero = ((0, 0), 8) := by decide +kernel
theorem rn17 : chkL 64 63 64 = 0 := by decide +kernel
theorem rn18 : chkL 65 0 1 = 8 := by decide +kernel
theorem rn19 : chkL 2 2 1 = 8 := by decide +kernel
theorem rn20 : chkL 2 (-1) 1 = 8 := by decide +kernel
end Go.Proofs.YtkhochbkjhpfgaaDoor
