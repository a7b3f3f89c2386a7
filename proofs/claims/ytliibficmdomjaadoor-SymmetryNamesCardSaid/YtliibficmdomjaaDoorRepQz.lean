/- The repeats of a plane are the steps of its lattice. No program in sight. -/
import Derived.Test.YtliibficmdomjaaDoorRepPz
namespace Go.Proofs.YtliibficmdomjaaDoor
open Go.RowKit

section
variable {a b : Nat} {bs : List Bool}
theorem repB_allQ (ha : 1 ≤ a) (hb : 1 ≤ b) {dx dy : Int} : repB a b bs dx dy = true ↔ ∀ x y : Int, pl a b bs (x + dx) (y + dy) = pl a b bs x y := by
  rw [repB_iff]
  constructor
  · intro h x y
    have u1 := Int.emod_nonneg x (show (a : Int) ≠ 0 by omega)
    have u2 := Int.emod_lt_of_pos x (show 0 < (a : Int) by omega)
    have v1 := Int.emod_nonneg y (show (b : Int) ≠ 0 by omega)
    have v2 := Int.emod_lt_of_pos y (show 0 < (b : Int) by omega)
    have h1 := h (x % (a : Int)).toNat (y % (b : Int)).toNat (by omega) (by omega)
    rw [Int.toNat_of_nonneg u1, Int.toNat_of_nonneg v1] at h1
    calc pl a b bs (x + dx) (y + dy) = pl a b bs (x % (a : Int) + dx) (y % (b : Int) + dy) := pl_congr (by rw [Int.emod_add_emod]) (by rw [Int.emod_add_emod])
      _ = pl a b bs (x % (a : Int)) (y % (b : Int)) := h1
      _ = pl a b bs x y := pl_congr (by rw [Int.emod_emod]) (by rw [Int.emod_emod])
  · intro h x y _ _
    exact h x y
theorem repB_zero : repB a b bs 0 0 = true := by
  rw [repB_iff]
  intro x y _ _
  simp
theorem repB_add (ha : 1 ≤ a) (hb : 1 ≤ b) {dx dy ex ey : Int} (h : repB a b bs dx dy = true) (k : repB a b bs ex ey = true) : repB a b bs (dx + ex) (dy + ey) = true := by
  rw [repB_allQ ha hb] at *
  intro x y
  rw [← Int.add_assoc, ← Int.add_assoc, k (x + dx) (y + dy), h x y]
theorem repB_neg (ha : 1 ≤ a) (hb : 1 ≤ b) {dx dy : Int} (h : repB a b bs dx dy = true) : repB a b bs (-dx) (-dy) = true := by
  rw [repB_allQ ha hb] at *
  intro x y
  have := h (x + -dx) (y + -dy)
  rw [← this]
  congr 1 <;> omega
theorem repB_mulN (ha : 1 ≤ a) (hb : 1 ≤ b) {dx dy : Int} (h : repB a b bs dx dy = true) : ∀ k : Nat, repB a b bs (k * dx) (k * dy) = true
  | 0 => by simpa using repB_zero
  | k + 1 => by
    have := repB_add ha hb (repB_mulN ha hb h k) h
    rw [show ((k + 1 : Nat) : Int) * dx = k * dx + dx by rw [Int.natCast_add, Int.add_mul]; simp, show ((k + 1 : Nat) : Int) * dy = k * dy + dy by rw [Int.natCast_add, Int.add_mul]; simp]
    exact this
theorem repB_mul (ha : 1 ≤ a) (hb : 1 ≤ b) {dx dy : Int} (h : repB a b bs dx dy = true) (k : Int) : repB a b bs (k * dx) (k * dy) = true := by
  rcases Int.le_total 0 k with hk | hk
  · have := repB_mulN ha hb h k.toNat
    rwa [Int.toNat_of_nonneg hk] at this
  · have := repB_neg ha hb (repB_mulN ha hb h (-k).toNat)
    rw [Int.toNat_of_nonneg (by omega)] at this
    simpa [Int.neg_mul] using this
/-- The repeats are exactly the steps of the lattice. -/
theorem lat_iff {A B C : Nat} (ha : 1 ≤ a) (hb : 1 ≤ b) (h : IsLat a b bs A B C) (dx dy : Int) : repB a b bs dx dy = inB A B C dx dy := by
  have hA := repB_mul ha hb h.repA
  have hC := repB_mul ha hb h.repC
  have hA0 := h.a1
  have hC0 := h.c1
  have hB0 := h.b1
  rw [Bool.eq_iff_iff]
  unfold inB
  rw [decide_eq_true_eq]
  have key : ∀ q p : Int, repB a b bs (dx - q * B - p * A) (dy - q * C) = true ↔ repB a b bs dx dy = true := by
    intro q p
    have h1 : repB a b bs (q * B + p * A) (q * C) = true := by
      have := repB_add ha hb (hC q) (hA p)
      simpa using this
    constructor
    · intro h2
      have := repB_add ha hb h2 h1
      rw [show dx - q * B - p * A + (q * B + p * A) = dx by omega, show dy - q * C + q * C = dy by omega] at this
      exact this
    · intro h2
      have := repB_add ha hb h2 (repB_neg ha hb h1)
      rw [show dx + -(q * B + p * A) = dx - q * B - p * A by omega, show dy + -(q * C) = dy - q * C by omega] at this
      exact this
  constructor
  · intro hr
    have h1 := (key (dy / C) ((dx - (dy / C) * B) / A)).2 hr
    have e1 : dy - dy / (C : Int) * C = dy % C := by have := Int.emod_def dy C; rw [this, Int.mul_comm]
    have e2 : dx - dy / (C : Int) * B - (dx - dy / (C : Int) * B) / A * A = (dx - dy / (C : Int) * B) % A := by have := Int.emod_def (dx - dy / (C : Int) * B) A; rw [this, Int.mul_comm (A : Int)]
    rw [e1, e2] at h1
    have u1 := Int.emod_nonneg dy (show (C : Int) ≠ 0 by omega)
    have u2 := Int.emod_lt_of_pos dy (show 0 < (C : Int) by omega)
    have v1 := Int.emod_nonneg (dx - dy / (C : Int) * B) (show (A : Int) ≠ 0 by omega)
    have v2 := Int.emod_lt_of_pos (dx - dy / (C : Int) * B) (show 0 < (A : Int) by omega)
    generalize dy % (C : Int) = r at *
    generalize (dx - dy / (C : Int) * B) % (A : Int) = t at *
    obtain ⟨r, rfl⟩ : ∃ k : Nat, r = (k : Int) := ⟨r.toNat, by omega⟩
    obtain ⟨t, rfl⟩ : ∃ k : Nat, t = (k : Int) := ⟨t.toNat, by omega⟩
    rcases Nat.eq_zero_or_pos r with h2 | h2
    · subst h2
      refine ⟨rfl, ?_⟩
      rcases Nat.eq_zero_or_pos t with h3 | h3
      · subst h3; rfl
      · have := h.leastA t h3 (by omega)
        have h1' : repB a b bs (t : Int) 0 = true := by simpa using h1
        rw [h1'] at this; cases this
    · have := h.leastC t r h2 (by omega) (by omega)
      rw [h1] at this; cases this
  · rintro ⟨h1, h2⟩
    refine (key (dy / C) ((dx - (dy / C) * B) / A)).1 ?_
    have e1 : dy - dy / (C : Int) * C = 0 := by have := Int.emod_def dy C; rw [Int.mul_comm]; omega
    have e2 : dx - dy / (C : Int) * B - (dx - dy / (C : Int) * B) / A * A = 0 := by have := Int.emod_def (dx - dy / (C : Int) * B) A; rw [Int.mul_comm _ (A : Int)]; omega
    rw [e1, e2]
    exact repB_zero
/-- A repeat one pick up: the lattice has C = 1, and B is its step. -/
theorem lat_one {A B C : Nat} {s : Int} (ha : 1 ≤ a) (hb : 1 ≤ b) (h : IsLat a b bs A B C) (hs : repB a b bs s 1 = true) : C = 1 ∧ (B : Int) = s % (A : Int) := by
  rw [lat_iff ha hb h] at hs
  unfold inB at hs
  rw [decide_eq_true_eq] at hs
  obtain ⟨h1, h2⟩ := hs
  have hc := h.c1
  have hb1 := h.b1
  have hC : C = 1 := by
    rcases Nat.lt_or_ge 1 C with h3 | h3
    · rw [Int.emod_eq_of_lt (by omega) (by omega)] at h1; omega
    · omega
  refine ⟨hC, ?_⟩
  subst hC
  simp only [Int.natCast_one, Int.ediv_one, Int.one_mul] at h2
  have h3 := Int.emod_emod_of_dvd s (Int.dvd_refl (A : Int))
  have h4 : s % (A : Int) = (B : Int) % (A : Int) := by
    have := Int.emod_add_emod (s - B) A B
    rw [h2] at this
    rw [show s - (B : Int) + B = s by omega] at this
    rw [← this]; simp
  rw [h4, Int.emod_eq_of_lt (by omega) (by omega)]
end
end Go.Proofs.YtliibficmdomjaaDoor
