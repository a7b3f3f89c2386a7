/- Operations of layer 1 that undo themselves, on tables. No program in sight. -/
import Derived.Test.YtebbcpeldncekaaDoorGridQz
namespace Go.Proofs.YtebbcpeldncekaaDoor
open Go.RowKit

section
variable {a b : Nat} {F : Nat → Nat → Bool} (ha1 : 1 ≤ a) (hb1 : 1 ≤ b) (ha : a ≤ 64) (hb : b ≤ 64)
include ha1 hb1 ha hb
theorem undo_turn : ∃ r : Gd, turnG (tabD a b F) = (r, 0) ∧ turnG r = (tabD a b F, 0) := ⟨_, turn_t ha1 hb1 ha hb, turn_t hb1 ha1 hb ha⟩
theorem undo_not : ∃ r : Gd, notG (tabD a b F) = (r, 0) ∧ notG r = (tabD a b F, 0) := by
  refine ⟨_, not_t ha1 hb1 ha hb, ?_⟩
  rw [not_t ha1 hb1 ha hb]
  exact congrArg (fun g => (g, (0 : Int))) (tabD_congr fun x y _ _ => Bool.not_not _)
theorem undo_mir (t : Nat) (ht : t < 2) : ∃ r : Gd, mirG (tabD a b F) (t : Int) = (r, 0) ∧ mirG r (t : Int) = (tabD a b F, 0) := by
  have ht3 : t = 0 ∨ t = 1 := by omega
  rcases ht3 with rfl | rfl
  · refine ⟨_, mir0_t ha1 hb1 ha hb, (mir0_t ha1 hb1 ha hb).trans ?_⟩
    refine congrArg (fun g => (g, (0 : Int))) (tabD_congr fun x y hx _ => ?_)
    rw [show a - 1 - (a - 1 - x) = x by omega]
  · refine ⟨_, mir1_t ha1 hb1 ha hb, (mir1_t ha1 hb1 ha hb).trans ?_⟩
    refine congrArg (fun g => (g, (0 : Int))) (tabD_congr fun x y _ hy => ?_)
    rw [show b - 1 - (b - 1 - y) = y by omega]
omit ha1 hb1 ha hb in
theorem mod_back {n x : Nat} {d : Int} (hx : x < n) : (((((((x : Int) - (-d)) % (n : Int)).toNat : Nat) : Int) - d) % (n : Int)).toNat = x := by
  have h1 := Int.emod_nonneg ((x : Int) - (-d)) (show (n : Int) ≠ 0 by omega)
  rw [Int.toNat_of_nonneg h1, show ((x : Int) - (-d)) % (n : Int) - d = ((x : Int) - (-d)) % (n : Int) + (-d) by omega, Int.emod_add_emod, show (x : Int) - (-d) + (-d) = (x : Int) by omega, Int.emod_eq_of_lt (by omega) (by omega)]
  simp
theorem undo_shift (dx dy : Int) : ∃ r : Gd, shiftG (tabD a b F) dx dy = (r, 0) ∧ shiftG r (-dx) (-dy) = (tabD a b F, 0) := by
  refine ⟨_, shift_t ha1 hb1 ha hb dx dy, (shift_t ha1 hb1 ha hb (-dx) (-dy)).trans ?_⟩
  refine congrArg (fun g => (g, (0 : Int))) (tabD_congr fun x y hx hy => ?_)
  rw [mod_back hx, mod_back hy]
theorem undo_part {p q u v : Nat} (hp1 : 1 ≤ p) (hq1 : 1 ≤ q) (hp : u + p ≤ a) (hq : v + q ≤ b) : partG (tabD a b F) (u : Int) (v : Int) (p : Int) (q : Int) = (tabD p q (fun x y => F (u + x) (v + y)), 0) := by
  unfold partG tabD
  rw [withChk_ok (tabD_chk' ha1 hb1 ha hb), if_neg (by omega)]
  unfold tabG
  simp only [Int.toNat_natCast]
  rw [Pl.tab_congr (g := fun x y => F (u + x) (v + y))]
  intro x y hx hy
  rw [show (v + y) * a + u + x = (v + y) * a + (u + x) by omega]
  exact tabD_get (by omega) (by omega)
theorem undo_tile {m n : Nat} (hm1 : 1 ≤ m) (hn1 : 1 ≤ n) (hm : m ≤ 64 / a) (hn : n ≤ 64 / b) : ∃ (T : Gd), tileG (tabD a b F) (m : Int) (n : Int) = (T, 0) ∧ T.w = ((m * a : Nat) : Int) ∧ T.h = ((n * b : Nat) : Int) ∧ m * a ≤ 64 ∧ n * b ≤ 64 ∧ a ≤ m * a ∧ b ≤ n * b ∧ T.bits.length ≤ 4096 ∧
    partG T ((m * a - a : Nat) : Int) ((n * b - b : Nat) : Int) (a : Int) (b : Int) = (tabD a b F, 0) ∧ partG T 0 0 (a : Int) (b : Int) = (tabD a b F, 0) ∧ shiftG T (a : Int) (-(b : Int)) = (T, 0) := by
  have e1 : (64 : Int) / (a : Int) = ((64 / a : Nat) : Int) := by rw [Int.natCast_ediv]; rfl
  have e2 : (64 : Int) / (b : Int) = ((64 / b : Nat) : Int) := by rw [Int.natCast_ediv]; rfl
  have hT : tileG (tabD a b F) (m : Int) (n : Int) = (tabD (m * a) (n * b) (fun x y => F (x % a) (y % b)), 0) := by
    unfold tileG tabD
    rw [withChk_ok (tabD_chk' ha1 hb1 ha hb), if_neg (by omega), if_neg (by rw [e1, e2]; omega)]
    unfold tabG
    simp only [Int.toNat_natCast]
    rw [Pl.tab_congr (g := fun x y => F (x % a) (y % b))]
    intro x y hx hy
    exact tabD_get (Nat.mod_lt _ ha1) (Nat.mod_lt _ hb1)
  have k1 : m * a ≤ 64 := Nat.le_trans (Nat.mul_le_mul_right a hm) (Nat.div_mul_le_self 64 a)
  have k2 : n * b ≤ 64 := Nat.le_trans (Nat.mul_le_mul_right b hn) (Nat.div_mul_le_self 64 b)
  have k3 : a ≤ m * a := Nat.le_mul_of_pos_left a hm1
  have k4 : b ≤ n * b := Nat.le_mul_of_pos_left b hn1
  have k5 : n * b * (m * a) ≤ 64 * 64 := Nat.mul_le_mul k2 k1
  have q1 : 1 ≤ m * a := by omega
  have q2 : 1 ≤ n * b := by omega
  have z1 : ∀ x, x < a → (m * a - a + x) % a = x := fun x hx => by
    obtain ⟨m', rfl⟩ : ∃ m', m = m' + 1 := ⟨m - 1, by omega⟩
    rw [Nat.succ_mul, Nat.add_sub_cancel, Nat.mul_comm, Nat.mul_add_mod, Nat.mod_eq_of_lt hx]
  have z2 : ∀ y, y < b → (n * b - b + y) % b = y := fun y hy => by
    obtain ⟨n', rfl⟩ : ∃ n', n = n' + 1 := ⟨n - 1, by omega⟩
    rw [Nat.succ_mul, Nat.add_sub_cancel, Nat.mul_comm, Nat.mul_add_mod, Nat.mod_eq_of_lt hy]
  refine ⟨_, hT, rfl, rfl, k1, k2, k3, k4, ?_, ?_, ?_, ?_⟩
  · show (Pl.tab (m * a) (n * b) _).length ≤ 4096
    rw [tabD_len]; omega
  · rw [undo_part q1 q2 k1 k2 ha1 hb1 (by omega) (by omega)]
    refine congrArg (fun g => (g, (0 : Int))) (tabD_congr fun x y hx hy => ?_)
    rw [z1 x hx, z2 y hy]
  · have := undo_part (F := fun x y => F (x % a) (y % b)) q1 q2 k1 k2 (p := a) (q := b) (u := 0) (v := 0) ha1 hb1 (by omega) (by omega)
    refine Eq.trans this ?_
    refine congrArg (fun g => (g, (0 : Int))) (tabD_congr fun x y hx hy => ?_)
    rw [Nat.zero_add, Nat.zero_add, Nat.mod_eq_of_lt hx, Nat.mod_eq_of_lt hy]
  · rw [shift_t q1 q2 k1 k2]
    refine congrArg (fun g => (g, (0 : Int))) (tabD_congr fun x y hx hy => ?_)
    have p1 := Int.emod_nonneg ((x : Int) - (a : Int)) (show ((m * a : Nat) : Int) ≠ 0 by omega)
    have p2 := Int.emod_nonneg ((y : Int) - (-(b : Int))) (show ((n * b : Nat) : Int) ≠ 0 by omega)
    have r1 : (((x : Int) - (a : Int)) % ((m * a : Nat) : Int)).toNat % a = x % a := by
      apply Int.ofNat.inj
      show (((((x : Int) - (a : Int)) % ((m * a : Nat) : Int)).toNat % a : Nat) : Int) = ((x % a : Nat) : Int)
      rw [Int.natCast_emod, Int.toNat_of_nonneg p1, Int.emod_emod_of_dvd _ (by rw [Int.natCast_mul]; exact Int.dvd_mul_left _ _), Int.natCast_emod, Int.sub_emod_right]
    have r2 : (((y : Int) - (-(b : Int))) % ((n * b : Nat) : Int)).toNat % b = y % b := by
      apply Int.ofNat.inj
      show (((((y : Int) - (-(b : Int))) % ((n * b : Nat) : Int)).toNat % b : Nat) : Int) = ((y % b : Nat) : Int)
      rw [Int.natCast_emod, Int.toNat_of_nonneg p2, Int.emod_emod_of_dvd _ (by rw [Int.natCast_mul]; exact Int.dvd_mul_left _ _), Int.natCast_emod, show (y : Int) - (-(b : Int)) = (y : Int) + (b : Int) by omega, Int.add_emod_right]
    rw [r1, r2]
theorem tile_none {nx ny : Int} (h : nx < 1 ∨ ny < 1 ∨ ((64 / a : Nat) : Int) < nx ∨ ((64 / b : Nat) : Int) < ny) : ∃ t : Int, tileG (tabD a b F) nx ny = (Gd.zero, t) ∧ t ≠ 0 := by
  have e1 : (64 : Int) / (a : Int) = ((64 / a : Nat) : Int) := by rw [Int.natCast_ediv]; rfl
  have e2 : (64 : Int) / (b : Int) = ((64 / b : Nat) : Int) := by rw [Int.natCast_ediv]; rfl
  unfold tileG tabD
  rw [withChk_ok (tabD_chk' ha1 hb1 ha hb)]
  by_cases h1 : nx < 1 ∨ ny < 1
  · exact ⟨2, by rw [if_pos h1]; rfl, by decide⟩
  · exact ⟨4, by rw [if_neg h1, if_pos (by rw [e1, e2]; omega)]; rfl, by decide⟩
end
end Go.Proofs.YtebbcpeldncekaaDoor
