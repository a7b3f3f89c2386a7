/- Whether two planes meet, looked at within one common rectangle; the offset as a relation. Plain Lean, no program in sight. -/
import Derived.Test.YtkhochbkjhpfgaaDoorRecP
namespace Go.Proofs.YtkhochbkjhpfgaaDoor
open Go.RowKit

theorem meets_range {a b a' b' : Nat} {bs bs' : List Bool} {L M dx dy : Nat} (h1 : a ∣ L) (h2 : a' ∣ L) (h3 : b ∣ M) (h4 : b' ∣ M) (hL : 1 ≤ L) (hM : 1 ≤ M) :
    Meets a b bs a' b' bs' dx dy ↔ ∀ x y : Nat, x < L → y < M → pl a b bs (x : Int) (y : Int) = pl a' b' bs' ((x : Int) + (dx : Int)) ((y : Int) + (dy : Int)) := by
  refine ⟨fun h x y _ _ => h x y, fun h X Y => ?_⟩
  have x1 := Int.emod_nonneg X (show (L : Int) ≠ 0 by omega)
  have x2 := Int.emod_lt_of_pos X (show 0 < (L : Int) by omega)
  have y1 := Int.emod_nonneg Y (show (M : Int) ≠ 0 by omega)
  have y2 := Int.emod_lt_of_pos Y (show 0 < (M : Int) by omega)
  have k := h (X % (L : Int)).toNat (Y % (M : Int)).toNat (by omega) (by omega)
  rw [Int.toNat_of_nonneg x1, Int.toNat_of_nonneg y1] at k
  have d : ∀ {p q : Nat} (Z z : Int), p ∣ q → (Z % (q : Int) + z) % (p : Int) = (Z + z) % (p : Int) := fun {p q} Z z hd => by
    rw [Int.add_emod, Int.emod_emod_of_dvd Z (Int.natCast_dvd_natCast.2 hd), ← Int.add_emod]
  have e1 : pl a b bs X Y = pl a b bs (X % (L : Int)) (Y % (M : Int)) :=
    pl_congr (by have := d X 0 h1; simpa using this.symm) (by have := d Y 0 h3; simpa using this.symm)
  have e2 : pl a' b' bs' (X + (dx : Int)) (Y + (dy : Int)) = pl a' b' bs' (X % (L : Int) + (dx : Int)) (Y % (M : Int) + (dy : Int)) :=
    pl_congr (d X dx h2).symm (d Y dy h4).symm
  rw [e1, e2]
  exact k

/-- The offset of two grids, with the error, as a relation. -/
def OffR (g g' : Gd) (r : (Int × Int) × Int) : Prop :=
  (both2 g g' ≠ 0 ∧ r = ((0, 0), both2 g g')) ∨
  (both2 g g' = 0 ∧ ∃ x y : Nat, IsOff g.w.toNat g.h.toNat g.bits g'.w.toNat g'.h.toNat g'.bits x y ∧ r = (((x : Int), (y : Int)), 0)) ∨
  (both2 g g' = 0 ∧ (∀ x y : Nat, ¬ Meets g.w.toNat g.h.toNat g.bits g'.w.toNat g'.h.toNat g'.bits x y) ∧ r = ((0, 0), 6))
theorem OffR.unique {g g' : Gd} {r r' : (Int × Int) × Int} (h : OffR g g' r) (h' : OffR g g' r') : r = r' := by
  rcases h with ⟨h1, h2⟩ | ⟨h1, x, y, h2, h3⟩ | ⟨h1, h2, h3⟩ <;> rcases h' with ⟨k1, k2⟩ | ⟨k1, x', y', k2, k3⟩ | ⟨k1, k2, k3⟩
  · rw [h2, k2]
  · exact absurd k1 h1
  · exact absurd k1 h1
  · exact absurd h1 k1
  · obtain ⟨e1, e2⟩ := h2.unique k2
    rw [h3, k3, e1, e2]
  · exact absurd h2.1 (k2 x y)
  · exact absurd h1 k1
  · exact absurd k2.1 (h2 x' y')
  · rw [h3, k3]
theorem meets_b (P : Prop) : ∃ R : Bool, R = true ↔ P := by
  classical
  exact ⟨decide P, by simp⟩
end Go.Proofs.YtkhochbkjhpfgaaDoor
