/- The steps of a lattice are a group. No program in sight. -/
import Derived.Test.YtkhochbkjhpfgaaDoorInP
namespace Go.Proofs.YtkhochbkjhpfgaaDoor
open Go.RowKit

theorem inV_iff {A B C dx dy : Int} (hC : 1 ≤ C) : inV A B C dx dy = true ↔ ∃ p q : Int, dx = p * A + q * B ∧ dy = q * C := by
  unfold inV
  rw [Bool.and_eq_true, decide_eq_true_eq, decide_eq_true_eq]
  constructor
  · rintro ⟨h1, h2⟩
    have e1 := Int.mul_tdiv_add_tmod dy C
    rw [h1, Int.add_zero] at e1
    obtain ⟨p, hp⟩ := Int.dvd_of_emod_eq_zero h2
    refine ⟨p, dy.tdiv C, ?_, ?_⟩
    · rw [Int.mul_comm p A]; omega
    · rw [Int.mul_comm]; exact e1.symm
  · rintro ⟨p, q, rfl, rfl⟩
    refine ⟨Int.mul_tmod_left _ _, ?_⟩
    rw [Int.mul_tdiv_cancel _ (by omega), Int.add_sub_cancel, Int.mul_emod_left]
theorem inV_add {A B C x y dx dy : Int} (hC : 1 ≤ C) (h : inV A B C dx dy = true) : inV A B C (x + dx) (y + dy) = inV A B C x y := by
  rw [Bool.eq_iff_iff, inV_iff hC, inV_iff hC]
  obtain ⟨p, q, rfl, rfl⟩ := (inV_iff hC).1 h
  constructor
  · rintro ⟨p', q', h1, h2⟩
    refine ⟨p' - p, q' - q, ?_, ?_⟩
    · rw [Int.sub_mul, Int.sub_mul]; omega
    · rw [Int.sub_mul]; omega
  · rintro ⟨p', q', rfl, rfl⟩
    refine ⟨p' + p, q' + q, ?_, ?_⟩
    · rw [Int.add_mul, Int.add_mul]; omega
    · rw [Int.add_mul]
theorem inV_neg {A B C x y : Int} (hC : 1 ≤ C) : inV A B C (-x) (-y) = inV A B C x y := by
  rw [Bool.eq_iff_iff, inV_iff hC, inV_iff hC]
  constructor
  · rintro ⟨p', q', h1, h2⟩
    refine ⟨-p', -q', ?_, ?_⟩
    · rw [Int.neg_mul, Int.neg_mul]; omega
    · rw [Int.neg_mul]; omega
  · rintro ⟨p', q', rfl, rfl⟩
    refine ⟨-p', -q', ?_, ?_⟩
    · rw [Int.neg_mul, Int.neg_mul]; omega
    · rw [Int.neg_mul]
theorem inV_short {A B C x y : Int} (hC : 1 ≤ C) (h : inV A B C x y = true) (h1 : -C < y) (h2 : y < C) : y = 0 ∧ x.tmod A = 0 := by
  obtain ⟨p, q, rfl, rfl⟩ := (inV_iff hC).1 h
  have hq : q = 0 := by
    rcases Int.lt_trichotomy q 0 with l | l | l
    · have h3 : q * C ≤ (-1) * C := Int.mul_le_mul_of_nonneg_right (by omega) (by omega)
      omega
    · exact l
    · have h3 : 1 * C ≤ q * C := Int.mul_le_mul_of_nonneg_right (by omega) (by omega)
      omega
  subst hq
  refine ⟨Int.zero_mul _, ?_⟩
  rw [Int.zero_mul, Int.add_zero, Int.mul_tmod_left]
theorem mul_small {i A : Int} (h1 : -1000000 ≤ i) (h2 : i ≤ 1000000) (h3 : 0 ≤ A) (h4 : A ≤ 64) : -64000000 ≤ i * A ∧ i * A ≤ 64000000 := by
  have a := Int.mul_le_mul_of_nonneg_right h2 h3
  have b := Int.mul_le_mul_of_nonneg_right h1 h3
  constructor <;> omega
end Go.Proofs.YtkhochbkjhpfgaaDoor
