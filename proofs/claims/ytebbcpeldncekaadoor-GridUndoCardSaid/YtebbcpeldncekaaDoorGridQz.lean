/- The operations of layer 1 on tables. No program in sight. -/
import Derived.Test.YtebbcpeldncekaaDoorMvDefz
namespace Go.Proofs.YtebbcpeldncekaaDoor
open Go.RowKit

/-- A grid by its cells. -/
def tabD (a b : Nat) (F : Nat → Nat → Bool) : Gd := ⟨a, b, Pl.tab a b F⟩
theorem gd_tab {a b : Nat} {bs : List Bool} (hl : bs.length = b * a) : (⟨a, b, bs⟩ : Gd) = tabD a b fun x y => bs.getD (y * a + x) false := by
  unfold tabD
  rw [← Pl.tab_self hl]
section
variable {a b : Nat} {F F' : Nat → Nat → Bool}
theorem tabD_congr (h : ∀ x y, x < a → y < b → F x y = F' x y) : tabD a b F = tabD a b F' := by
  unfold tabD
  rw [Pl.tab_congr h]
theorem tabD_get {x y : Nat} (hx : x < a) (hy : y < b) : (Pl.tab a b F).getD (y * a + x) false = F x y := by
  rw [List.getD_eq_getElem?_getD, Pl.tab_get hx hy, Option.getD_some]
theorem tabD_len : (Pl.tab a b F).length = b * a := Pl.tab_length
section
variable (ha1 : 1 ≤ a) (hb1 : 1 ≤ b) (ha : a ≤ 64) (hb : b ≤ 64)
include ha1 hb1 ha hb
theorem tabD_chk' : chk (a : Int) (b : Int) (Pl.tab a b F).length = 0 := chk_ok (by omega) (by omega) (by omega) (by omega) (by rw [tabD_len, Int.natCast_mul, Int.mul_comm])
theorem tabD_chk : chkG (tabD a b F) = 0 := tabD_chk' ha1 hb1 ha hb
theorem turn_t : turnG (tabD a b F) = (tabD b a (fun x y => F y x), 0) := by
  unfold turnG tabD
  rw [withChk_ok (tabD_chk' ha1 hb1 ha hb)]
  unfold tabG
  rw [Pl.tab_congr (g := fun x y => F y x)]
  intro x y hx hy
  exact tabD_get hy hx
theorem mir0_t : mirG (tabD a b F) 0 = (tabD a b (fun x y => F (a - 1 - x) y), 0) := by
  unfold mirG tabD
  rw [withChk_ok (tabD_chk' ha1 hb1 ha hb), if_pos rfl]
  unfold tabG
  rw [Pl.tab_congr (g := fun x y => F (a - 1 - x) y)]
  intro x y hx hy
  exact tabD_get (by omega) hy
theorem mir1_t : mirG (tabD a b F) 1 = (tabD a b (fun x y => F x (b - 1 - y)), 0) := by
  unfold mirG tabD
  rw [withChk_ok (tabD_chk' ha1 hb1 ha hb), if_neg (by decide), if_pos rfl]
  unfold tabG
  rw [Pl.tab_congr (g := fun x y => F x (b - 1 - y))]
  intro x y hx hy
  exact tabD_get hx (by omega)
theorem shift_t (dx dy : Int) : shiftG (tabD a b F) dx dy = (tabD a b (fun x y => F (((x : Int) - dx) % (a : Int)).toNat (((y : Int) - dy) % (b : Int)).toNat), 0) := by
  unfold shiftG tabD
  rw [withChk_ok (tabD_chk' ha1 hb1 ha hb)]
  unfold tabG
  rw [Pl.tab_congr (g := fun x y => F (((x : Int) - dx) % (a : Int)).toNat (((y : Int) - dy) % (b : Int)).toNat)]
  intro x y hx hy
  have u1 := Int.emod_nonneg ((x : Int) - dx) (show (a : Int) ≠ 0 by omega)
  have u2 := Int.emod_lt_of_pos ((x : Int) - dx) (show 0 < (a : Int) by omega)
  have v1 := Int.emod_nonneg ((y : Int) - dy) (show (b : Int) ≠ 0 by omega)
  have v2 := Int.emod_lt_of_pos ((y : Int) - dy) (show 0 < (b : Int) by omega)
  exact tabD_get (by omega) (by omega)
theorem not_t : notG (tabD a b F) = (tabD a b (fun x y => !F x y), 0) := by
  rw [notG_ok (tabD_chk ha1 hb1 ha hb)]
  unfold tabD
  rw [Pl.tab_map]
theorem join_t (p : Bool → Bool → Bool) : joinG p (tabD a b F) (tabD a b F') = (tabD a b (fun x y => p (F x y) (F' x y)), 0) := by
  have h : bothG (tabD a b F) (tabD a b F') = 0 := by
    unfold bothG
    rw [if_neg (by rw [tabD_chk ha1 hb1 ha hb]; simp), if_neg (by rw [tabD_chk ha1 hb1 ha hb]; simp), if_neg (by simp [tabD])]
  rw [joinG_ok h]
  unfold tabD
  simp only
  rw [Pl.zip_tab false false tabD_len tabD_len]
  rw [Pl.tab_congr (g := fun x y => p (F x y) (F' x y))]
  intro x y hx hy
  rw [tabD_get hx hy, tabD_get hx hy]
end
end
/-! GridExchange. -/
/-- A remainder, from the other end. -/
theorem mod_flip {a x : Nat} {d : Int} (hx : x < a) : (((a - 1 - x : Nat) : Int) - d) % (a : Int) = ((a - 1 - (((x : Int) - (-d)) % (a : Int)).toNat : Nat) : Int) := by
  have u1 := Int.emod_nonneg ((x : Int) - -d) (show (a : Int) ≠ 0 by omega)
  have u2 := Int.emod_lt_of_pos ((x : Int) - -d) (show 0 < (a : Int) by omega)
  have e1 : ((a - 1 - (((x : Int) - (-d)) % (a : Int)).toNat : Nat) : Int) = (a : Int) - 1 - ((x : Int) - -d) % (a : Int) := by omega
  have hd := Int.emod_add_mul_ediv ((x : Int) - -d) (a : Int)
  have e2 : ((a - 1 - x : Nat) : Int) - d = ((a : Int) - 1 - ((x : Int) - -d) % (a : Int)) + (a : Int) * (-(((x : Int) - -d) / (a : Int))) := by
    rw [Int.mul_neg]
    omega
  rw [e1, e2, Int.add_mul_emod_self_left, Int.emod_eq_of_lt (by omega) (by omega)]
section
variable {a b : Nat} {F : Nat → Nat → Bool} (ha1 : 1 ≤ a) (hb1 : 1 ≤ b) (ha : a ≤ 64) (hb : b ≤ 64)
include ha1 hb1 ha hb
theorem exch_mirror (dx dy : Int) {t : Nat} (ht : t < 2) : ∃ m c s : Gd, mirG (tabD a b F) (t : Int) = (m, 0) ∧ turnG m = (c, 0) ∧ mirG (turnG (tabD a b F)).1 (1 - (t : Int)) = (c, 0) ∧
    mirG (shiftG (tabD a b F) dx dy).1 (t : Int) = (s, 0) ∧ shiftG m (dx * (2 * (t : Int) - 1)) (dy * (1 - 2 * (t : Int))) = (s, 0) ∧ m.bits.length ≤ 4096 ∧ c.bits.length ≤ 4096 ∧ s.bits.length ≤ 4096 := by
  have hba : b * a ≤ 4096 := Nat.mul_le_mul hb ha
  have hab : a * b ≤ 4096 := Nat.mul_le_mul ha hb
  rw [turn_t ha1 hb1 ha hb, shift_t ha1 hb1 ha hb]
  rcases Nat.lt_or_ge t 1 with h | h
  · obtain rfl : t = 0 := by omega
    refine ⟨_, _, _, mir0_t ha1 hb1 ha hb, turn_t ha1 hb1 ha hb, ?_, mir0_t ha1 hb1 ha hb, ?_, ?_, ?_, ?_⟩
    · exact mir1_t hb1 ha1 hb ha
    · simp only [Int.natCast_zero, Int.mul_zero, Int.zero_sub, Int.mul_neg, Int.mul_one, Int.sub_zero]
      rw [shift_t ha1 hb1 ha hb]
      congr 1
      refine tabD_congr fun x y hx hy => ?_
      rw [mod_flip hx, Int.toNat_natCast]
    · simp only [tabD, tabD_len]; omega
    · simp only [tabD, tabD_len]; omega
    · simp only [tabD, tabD_len]; omega
  · obtain rfl : t = 1 := by omega
    refine ⟨_, _, _, mir1_t ha1 hb1 ha hb, turn_t ha1 hb1 ha hb, ?_, mir1_t ha1 hb1 ha hb, ?_, ?_, ?_, ?_⟩
    · exact mir0_t hb1 ha1 hb ha
    · simp only [Int.natCast_one, Int.mul_one]
      rw [shift_t ha1 hb1 ha hb]
      congr 1
      refine tabD_congr fun x y hx hy => ?_
      rw [mod_flip hy, Int.toNat_natCast]
      rw [show dx * (2 - 1) = dx by omega, show dy * (1 - 2) = -dy by omega]
    · simp only [tabD, tabD_len]; omega
    · simp only [tabD, tabD_len]; omega
    · simp only [tabD, tabD_len]; omega
theorem exch_turn (dx dy : Int) : turnG (shiftG (tabD a b F) dx dy).1 = shiftG (turnG (tabD a b F)).1 dy dx := by
  rw [shift_t ha1 hb1 ha hb, turn_t ha1 hb1 ha hb, turn_t ha1 hb1 ha hb, shift_t hb1 ha1 hb ha]
end
end Go.Proofs.YtebbcpeldncekaaDoor
