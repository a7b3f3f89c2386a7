/- Whether a step is one of a lattice, as both functions In compute it. No program in sight. -/
import Derived.Test.YtkhochbkjhpfgaaDoorRepP
namespace Go.Proofs.YtkhochbkjhpfgaaDoor
open Go.RowKit

theorem ret_bi {b b' : Bool} {z z' : Int} (h1 : b = b') (h2 : z = z') : Ending.returned (.tuple #[.bool b, .int .i64 z]) = Ending.returned (.tuple #[.bool b', .int .i64 z']) := by rw [h1, h2]
theorem tmod_shift (x q A B : Int) : (x.tmod A - q.tmod A * B) % A = (x - q * B) % A := by
  rw [Int.tmod_def, Int.tmod_def]
  have : x - A * x.tdiv A - (q - A * q.tdiv A) * B = (x - q * B) + A * (q.tdiv A * B - x.tdiv A) := by
    rw [Int.sub_mul, Int.mul_sub, Int.mul_assoc]; omega
  rw [this, Int.add_mul_emod_self_left]
theorem mod_meets (x q A B : Int) : (x % A = q % A * B % A) ↔ (x - q * B) % A = 0 := by
  have h : q % A * B % A = q * B % A := by rw [Int.mul_emod, Int.emod_emod, ← Int.mul_emod]
  rw [h, Int.emod_eq_emod_iff_emod_sub_eq_zero]
/-- Whether a step is one of a valid lattice. -/
def inV (A B C dx dy : Int) : Bool := decide (dy.tmod C = 0) && decide ((dx - dy.tdiv C * B) % A = 0)
def inL (A B C dx dy : Int) : Bool × Int := if chkL A B C = 0 then (inV A B C dx dy, 0) else (false, chkL A B C)
theorem chkL_zero {A B C : Int} (h : chkL A B C = 0) : 1 ≤ A ∧ A ≤ 64 ∧ 1 ≤ C ∧ C ≤ 64 ∧ 0 ≤ B ∧ B < A := by
  unfold chkL at h
  split at h
  · omega
  · omega

theorem inL_bad {A B C dx dy : Int} (h : chkL A B C ≠ 0) : inL A B C dx dy = (false, chkL A B C) := if_neg h
theorem inL_ok {A B C dx dy : Int} (h : chkL A B C = 0) : inL A B C dx dy = (inV A B C dx dy, 0) := if_pos h
theorem tdiv_range {dy C : Int} (hC : 1 ≤ C) (h1 : -9223372036854775808 ≤ dy) (h2 : dy ≤ 9223372036854775807) : -9223372036854775808 ≤ dy.tdiv C ∧ dy.tdiv C ≤ 9223372036854775807 := by
  have h := Int.natAbs_tdiv_le_natAbs dy C
  rcases Int.lt_or_le dy 0 with hn | hn
  · have h3 : 0 ≤ (-dy).tdiv C := Int.tdiv_nonneg (by omega) (by omega)
    rw [Int.neg_tdiv] at h3
    omega
  · have : 0 ≤ dy.tdiv C := Int.tdiv_nonneg hn (by omega)
    omega
end Go.Proofs.YtkhochbkjhpfgaaDoor
