/- Shifted, tiled and other grids and their offsets, as the law RepeatMoved asks. No program in sight. -/
import Derived.Test.YtliibficmdomjaaDoorMg16z
import Derived.Test.YtliibficmdomjaaDoorMg5z
import Derived.Test.YtliibficmdomjaaDoorSprdPz
namespace Go.Proofs.YtliibficmdomjaaDoor
open Go.RowKit

section
variable {a b a' b' : Nat} {bs bs' : List Bool}
theorem Meets.toNat_ (ha' : 1 ≤ a') (hb' : 1 ≤ b') {dx dy : Int} (h : Meets a b bs a' b' bs' dx dy) : Meets a b bs a' b' bs' (((dx % (a' : Int)).toNat : Nat) : Int) (((dy % (b' : Int)).toNat : Nat) : Int) := by
  have x1 := Int.emod_nonneg dx (show (a' : Int) ≠ 0 by omega)
  have y1 := Int.emod_nonneg dy (show (b' : Int) ≠ 0 by omega)
  intro X Y
  rw [Int.toNat_of_nonneg x1, Int.toNat_of_nonneg y1, h X Y]
  exact pl_congr (by simp) (by simp)
theorem Meets.back {dx dy : Int} (h : Meets a b bs a' b' bs' dx dy) : Meets a' b' bs' a b bs (-dx) (-dy) := by
  intro X Y
  rw [h (X + -dx) (Y + -dy)]
  congr 1 <;> omega
/-- Planes that meet have one lattice. -/
theorem Meets.lat (ha : 1 ≤ a) (hb : 1 ≤ b) (ha' : 1 ≤ a') (hb' : 1 ≤ b') {dx dy : Int} (h : Meets a b bs a' b' bs' dx dy) : latA a b bs = latA a' b' bs' ∧ latB a b bs = latB a' b' bs' ∧ latC a b bs = latC a' b' bs' := by
  rcases Decidable.em (latA a b bs = latA a' b' bs' ∧ latB a b bs = latB a' b' bs' ∧ latC a b bs = latC a' b' bs') with h1 | h1
  · exact h1
  · exact absurd (h.toNat_ ha' hb') (off_lat ha hb ha' hb' h1 _ _)
/-- What an offset is, where planes meet. -/
theorem offR_meets (hk : both2 ⟨a, b, bs⟩ ⟨a', b', bs'⟩ = 0) (ha' : 1 ≤ a') (hb' : 1 ≤ b') {dx dy : Int} (h : Meets a b bs a' b' bs' dx dy) {r : (Int × Int) × Int} (hr : OffR ⟨a, b, bs⟩ ⟨a', b', bs'⟩ r) :
    ∃ x y : Nat, IsOff a b bs a' b' bs' x y ∧ r = (((x : Int), (y : Int)), 0) := by
  rcases hr with ⟨h1, _⟩ | ⟨_, x, y, h2, h3⟩ | ⟨_, h2, _⟩
  · exact absurd hk h1
  · exact ⟨x, y, by simpa using h2, h3⟩
  · exact absurd (h.toNat_ ha' hb') (by
      have k := h2 (dx % (a' : Int)).toNat (dy % (b' : Int)).toNat
      simp only [Int.toNat_natCast] at k
      exact k)
theorem offR_none (hk : both2 ⟨a, b, bs⟩ ⟨a', b', bs'⟩ = 0) (h : ∀ dx dy : Int, ¬ Meets a b bs a' b' bs' dx dy) {r : (Int × Int) × Int} (hr : OffR ⟨a, b, bs⟩ ⟨a', b', bs'⟩ r) : r = ((0, 0), 6) := by
  rcases hr with ⟨h1, _⟩ | ⟨_, x, y, h2, _⟩ | ⟨_, _, h3⟩
  · exact absurd hk h1
  · exact absurd h2.1 (by simpa using h (x : Int) (y : Int))
  · exact h3
/-- The least offset lies within one cell. -/
theorem off_within (ha' : 1 ≤ a') (hb' : 1 ≤ b') {A B C x y : Nat} (hL : IsLat a' b' bs' A B C) (h : IsOff a b bs a' b' bs' x y) : x < A ∧ y < C := by
  have hA := hL.a1
  have hC := hL.c1
  constructor
  · rcases Nat.lt_or_ge x A with h1 | h1
    · exact h1
    · have k := h.1.step ha' hb' hL.repA
      rw [Int.sub_zero, ← Int.ofNat_sub h1] at k
      exact absurd k (h.2 (x - A) y (.inr ⟨rfl, by omega⟩))
  · rcases Nat.lt_or_ge y C with h1 | h1
    · exact h1
    · have hp : Per a' b' bs' ((B : Int) + -(B : Int) * (A : Int)) ((C : Int) + -(B : Int) * 0) := (hL.perC ha' hb').add ((hL.perA ha' hb').mul (-(B : Int)))
      have k := h.1.step ha' hb' ((repB_all ha' hb').2 hp)
      have hBA : (B : Int) ≤ (B : Int) * (A : Int) := by
        have := Int.mul_le_mul_of_nonneg_left (show (1 : Int) ≤ (A : Int) by omega) (show (0 : Int) ≤ (B : Int) by omega)
        rwa [Int.mul_one] at this
      have e1 : (x : Int) - ((B : Int) + -(B : Int) * (A : Int)) = (((x : Int) - ((B : Int) + -(B : Int) * (A : Int))).toNat : Int) := by
        rw [Int.toNat_of_nonneg]
        rw [Int.neg_mul]; omega
      have e2 : (y : Int) - ((C : Int) + -(B : Int) * 0) = ((y - C : Nat) : Int) := by
        rw [Int.mul_zero, Int.add_zero, Int.ofNat_sub h1]
      rw [e1, e2] at k
      exact absurd k (h.2 _ (y - C) (.inl (by omega)))
/-- Two steps by which planes meet lie one step of the lattice apart. -/
theorem meets_two (ha' : 1 ≤ a') (hb' : 1 ≤ b') {x y x' y' : Int} (h : Meets a b bs a' b' bs' x y) (h' : Meets a b bs a' b' bs' x' y') : repB a' b' bs' (x - x') (y - y') = true := by
  rw [repB_all ha' hb']
  intro X Y
  have k1 := h (X - x') (Y - y')
  have k2 := h' (X - x') (Y - y')
  rw [k1] at k2
  have e1 : X - x' + x = X + (x - x') := by omega
  have e2 : Y - y' + y = Y + (y - y') := by omega
  have e3 : X - x' + x' = X := by omega
  have e4 : Y - y' + y' = Y := by omega
  rw [e1, e2, e3, e4] at k2
  exact k2
/-- A shifted grid. -/
def shiL1 (a b : Nat) (bs : List Bool) (dx dy : Int) : List Bool := Pl.tab a b fun x y => bs.getD ((((y : Int) - dy) % (b : Int)).toNat * a + (((x : Int) - dx) % (a : Int)).toNat) false
theorem shift_ok (hck : chkG ⟨a, b, bs⟩ = 0) (dx dy : Int) : shiftG ⟨a, b, bs⟩ dx dy = (⟨a, b, shiL1 a b bs dx dy⟩, 0) := withChk_ok hck
theorem shift_meets (ha : 1 ≤ a) (hb : 1 ≤ b) (dx dy : Int) : Meets a b bs a b (shiL1 a b bs dx dy) dx dy := by
  intro X Y
  obtain ⟨x, y, hx, hy, e1, e2⟩ := pl_red ha hb (X + dx) (Y + dy)
  have e3 : pl a b (shiL1 a b bs dx dy) (X + dx) (Y + dy) = pl a b (shiL1 a b bs dx dy) (x : Int) (y : Int) := pl_congr (by rw [e1, Int.emod_eq_of_lt (by omega) (by omega)]) (by rw [e2, Int.emod_eq_of_lt (by omega) (by omega)])
  rw [e3, pl_nat hx hy]
  unfold shiL1
  rw [tabD_get hx hy]
  show _ = pl a b bs ((x : Int) - dx) ((y : Int) - dy)
  refine pl_congr ?_ ?_
  · rw [← e1, Int.emod_sub_emod]
    congr 1; omega
  · rw [← e2, Int.emod_sub_emod]
    congr 1; omega
/-- A grid tiled twice to the side. -/
def twoL (a b : Nat) (bs : List Bool) : List Bool := Pl.tab (2 * a) (1 * b) fun x y => bs.getD (y % b * a + x % a) false
theorem two_meets (ha : 1 ≤ a) (hb : 1 ≤ b) : Meets a b bs (2 * a) (1 * b) (twoL a b bs) 0 0 := by
  intro X Y
  rw [Int.add_zero, Int.add_zero]
  obtain ⟨x, y, hx, hy, e1, e2⟩ := pl_red (a := 2 * a) (b := 1 * b) (by omega) (by omega) X Y
  have e3 : pl (2 * a) (1 * b) (twoL a b bs) X Y = pl (2 * a) (1 * b) (twoL a b bs) (x : Int) (y : Int) := pl_congr (by rw [e1, Int.emod_eq_of_lt (by omega) (by omega)]) (by rw [e2, Int.emod_eq_of_lt (by omega) (by omega)])
  rw [e3, pl_nat hx hy]
  unfold twoL
  rw [tabD_get hx hy, ← pl_nat (Nat.mod_lt x ha) (Nat.mod_lt y hb)]
  refine pl_congr ?_ ?_
  · rw [Int.natCast_emod, Int.emod_emod, ← e1, Int.emod_emod_of_dvd X (Int.natCast_dvd_natCast.2 (Nat.dvd_mul_left a 2))]
  · rw [Int.natCast_emod, Int.emod_emod, ← e2, Int.emod_emod_of_dvd Y (Int.natCast_dvd_natCast.2 (Nat.dvd_mul_left b 1))]
theorem two_off {x y : Nat} (ha : 1 ≤ a) (hb : 1 ≤ b) (h : IsOff a b bs (2 * a) (1 * b) (twoL a b bs) x y) : x = 0 ∧ y = 0 := by
  rcases Nat.lt_trichotomy y 0 with l | l | l
  · omega
  · rcases Nat.eq_zero_or_pos x with k | k
    · exact ⟨k, l⟩
    · exact absurd (two_meets ha hb) (h.2 0 0 (.inr ⟨l.symm, k⟩))
  · exact absurd (two_meets ha hb) (h.2 0 0 (.inl l))
end
theorem tile_two {a b : Nat} {bs : List Bool} (hck : chkG ⟨a, b, bs⟩ = 0) (ha1 : 1 ≤ a) (hb1 : 1 ≤ b) (ha : a ≤ 32) (hb : b ≤ 64) : tileG ⟨a, b, bs⟩ 2 1 = (⟨((2 * a : Nat) : Int), ((1 * b : Nat) : Int), twoL a b bs⟩, 0) := by
  have e1 : (64 : Int) / (a : Int) = ((64 / a : Nat) : Int) := by rw [Int.natCast_ediv]; rfl
  have e2 : (64 : Int) / (b : Int) = ((64 / b : Nat) : Int) := by rw [Int.natCast_ediv]; rfl
  have h1 : 2 ≤ 64 / a := (Nat.le_div_iff_mul_le ha1).2 (by omega)
  have h2 : 1 ≤ 64 / b := Nat.div_pos hb hb1
  unfold tileG
  rw [withChk_ok hck, if_neg (by omega), if_neg (by rw [e1, e2]; omega)]
  rfl
theorem tile_big {a b : Nat} {bs : List Bool} (hck : chkG ⟨a, b, bs⟩ = 0) (ha : 32 < a) : tileG ⟨a, b, bs⟩ 2 1 = (Gd.zero, 4) := by
  have e1 : (64 : Int) / (a : Int) = ((64 / a : Nat) : Int) := by rw [Int.natCast_ediv]; rfl
  have h1 : 64 / a < 2 := (Nat.div_lt_iff_lt_mul (by omega)).2 (by omega)
  unfold tileG
  rw [withChk_ok hck, if_neg (by omega), if_pos (by left; rw [e1]; omega)]
  rfl
end Go.Proofs.YtliibficmdomjaaDoor
