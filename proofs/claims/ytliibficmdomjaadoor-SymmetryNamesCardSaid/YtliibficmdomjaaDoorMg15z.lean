/- Parts of the proof, in their order. -/
import Derived.Test.YtliibficmdomjaaDoorRepPz
/- Whether a step is one of a lattice, as both functions In compute it. No program in sight. -/
namespace Go.Proofs.YtliibficmdomjaaDoor
open Go.RowKit

theorem ret_bi {b b' : Bool} {z z' : Int} (h1 : b = b') (h2 : z = z') : Ending.returned (.tuple #[.bool b, .int .i64 z]) = Ending.returned (.tuple #[.bool b', .int .i64 z']) := by rw [h1, h2]
theorem tmod_shift (x q A B : Int) : (x.tmod A - q.tmod A * B) % A = (x - q * B) % A := by
  rw [Int.tmod_def, Int.tmod_def]
  have : x - A * x.tdiv A - (q - A * q.tdiv A) * B = (x - q * B) + A * (q.tdiv A * B - x.tdiv A) := by
    rw [Int.sub_mul, Int.mul_sub, Int.mul_assoc]; omega
  rw [this, Int.add_mul_emod_self_left]
theorem mod_meets (x q A B : Int) : (x % A = q % A * B % A) ↔ (x - q * B) % A = 0 := by
  have h : q % A * B % A = q * B % A := by rw [Int.mul_emod, Int.emod_emod, ← Int.mul_emod]
  rw [h, Int.emod_eq_emod_iff_emod_sub_eq_zero]
/-- Whether a step is one of a valid lattice. -/
def inV (A B C dx dy : Int) : Bool := decide (dy.tmod C = 0) && decide ((dx - dy.tdiv C * B) % A = 0)
def inL (A B C dx dy : Int) : Bool × Int := if chkL A B C = 0 then (inV A B C dx dy, 0) else (false, chkL A B C)
theorem chkL_zero {A B C : Int} (h : chkL A B C = 0) : 1 ≤ A ∧ A ≤ 64 ∧ 1 ≤ C ∧ C ≤ 64 ∧ 0 ≤ B ∧ B < A := by
  unfold chkL at h
  split at h
  · omega
  · omega

theorem inL_bad {A B C dx dy : Int} (h : chkL A B C ≠ 0) : inL A B C dx dy = (false, chkL A B C) := if_neg h
theorem inL_ok {A B C dx dy : Int} (h : chkL A B C = 0) : inL A B C dx dy = (inV A B C dx dy, 0) := if_pos h
theorem tdiv_range {dy C : Int} (hC : 1 ≤ C) (h1 : -9223372036854775808 ≤ dy) (h2 : dy ≤ 9223372036854775807) : -9223372036854775808 ≤ dy.tdiv C ∧ dy.tdiv C ≤ 9223372036854775807 := by
  have h := Int.natAbs_tdiv_le_natAbs dy C
  rcases Int.lt_or_le dy 0 with hn | hn
  · have h3 : 0 ≤ (-dy).tdiv C := Int.tdiv_nonneg (by omega) (by omega)
    rw [Int.neg_tdiv] at h3
    omega
  · have : 0 ≤ dy.tdiv C := Int.tdiv_nonneg hn (by omega)
    omega
end Go.Proofs.YtliibficmdomjaaDoor
/- The steps of a lattice are a group. No program in sight. -/
namespace Go.Proofs.YtliibficmdomjaaDoor
open Go.RowKit

theorem inV_iff {A B C dx dy : Int} (hC : 1 ≤ C) : inV A B C dx dy = true ↔ ∃ p q : Int, dx = p * A + q * B ∧ dy = q * C := by
  unfold inV
  rw [Bool.and_eq_true, decide_eq_true_eq, decide_eq_true_eq]
  constructor
  · rintro ⟨h1, h2⟩
    have e1 := Int.mul_tdiv_add_tmod dy C
    rw [h1, Int.add_zero] at e1
    obtain ⟨p, hp⟩ := Int.dvd_of_emod_eq_zero h2
    refine ⟨p, dy.tdiv C, ?_, ?_⟩
    · rw [Int.mul_comm p A]; omega
    · rw [Int.mul_comm]; exact e1.symm
  · rintro ⟨p, q, rfl, rfl⟩
    refine ⟨Int.mul_tmod_left _ _, ?_⟩
    rw [Int.mul_tdiv_cancel _ (by omega), Int.add_sub_cancel, Int.mul_emod_left]
theorem inV_add {A B C x y dx dy : Int} (hC : 1 ≤ C) (h : inV A B C dx dy = true) : inV A B C (x + dx) (y + dy) = inV A B C x y := by
  rw [Bool.eq_iff_iff, inV_iff hC, inV_iff hC]
  obtain ⟨p, q, rfl, rfl⟩ := (inV_iff hC).1 h
  constructor
  · rintro ⟨p', q', h1, h2⟩
    refine ⟨p' - p, q' - q, ?_, ?_⟩
    · rw [Int.sub_mul, Int.sub_mul]; omega
    · rw [Int.sub_mul]; omega
  · rintro ⟨p', q', rfl, rfl⟩
    refine ⟨p' + p, q' + q, ?_, ?_⟩
    · rw [Int.add_mul, Int.add_mul]; omega
    · rw [Int.add_mul]
theorem inV_neg {A B C x y : Int} (hC : 1 ≤ C) : inV A B C (-x) (-y) = inV A B C x y := by
  rw [Bool.eq_iff_iff, inV_iff hC, inV_iff hC]
  constructor
  · rintro ⟨p', q', h1, h2⟩
    refine ⟨-p', -q', ?_, ?_⟩
    · rw [Int.neg_mul, Int.neg_mul]; omega
    · rw [Int.neg_mul]; omega
  · rintro ⟨p', q', rfl, rfl⟩
    refine ⟨-p', -q', ?_, ?_⟩
    · rw [Int.neg_mul, Int.neg_mul]; omega
    · rw [Int.neg_mul]
theorem inV_short {A B C x y : Int} (hC : 1 ≤ C) (h : inV A B C x y = true) (h1 : -C < y) (h2 : y < C) : y = 0 ∧ x.tmod A = 0 := by
  obtain ⟨p, q, rfl, rfl⟩ := (inV_iff hC).1 h
  have hq : q = 0 := by
    rcases Int.lt_trichotomy q 0 with l | l | l
    · have h3 : q * C ≤ (-1) * C := Int.mul_le_mul_of_nonneg_right (by omega) (by omega)
      omega
    · exact l
    · have h3 : 1 * C ≤ q * C := Int.mul_le_mul_of_nonneg_right (by omega) (by omega)
      omega
  subst hq
  refine ⟨Int.zero_mul _, ?_⟩
  rw [Int.zero_mul, Int.add_zero, Int.mul_tmod_left]
theorem mul_small {i A : Int} (h1 : -1000000 ≤ i) (h2 : i ≤ 1000000) (h3 : 0 ≤ A) (h4 : A ≤ 64) : -64000000 ≤ i * A ∧ i * A ≤ 64000000 := by
  have a := Int.mul_le_mul_of_nonneg_right h2 h3
  have b := Int.mul_le_mul_of_nonneg_right h1 h3
  constructor <;> omega
end Go.Proofs.YtliibficmdomjaaDoor
