/- Small laws for comparing grids and images. Nothing here names a function of the program. -/
import Derived.Test.YtfjdlbilnoojkaaGdz
import Derived.Test.YtfjdlbilnoojkaaProg
import Derived.KernelRfl
import Derived.RegionTactic
import Derived.Handy
namespace Go.Proofs.Ytfjdlbilnoojkaa
open Go.RowKit

/-- Two grids are equal. -/
def sameG (a b : Gd) : Bool := decide (a.w = b.w ∧ a.h = b.h ∧ a.bits = b.bits)
theorem sameG_iff {a b : Gd} : sameG a b = true ↔ a = b := by
  obtain ⟨w, h, l⟩ := a
  obtain ⟨w', h', l'⟩ := b
  simp [sameG]
theorem sameG_self (a : Gd) : sameG a a = true := sameG_iff.2 rfl
theorem sameG_not {a b : Gd} (h : ¬ (a.w = b.w ∧ a.h = b.h ∧ a.bits = b.bits)) : sameG a b = false := by simp [sameG]; intro h1 h2 h3; exact h ⟨h1, h2, h3⟩
theorem ret_b {a b : Bool} (h : a = b) : Ending.returned (.bool a) = Ending.returned (.bool b) := by rw [h]

end Go.Proofs.Ytfjdlbilnoojkaa
