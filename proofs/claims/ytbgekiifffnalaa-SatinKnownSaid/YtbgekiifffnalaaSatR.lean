/- Satins moved and exchanged are recognised; the cells of an end and of a pick. No program in sight. -/
import Derived.Test.YtbgekiifffnalaaSatQ
namespace Go.Proofs.Ytbgekiifffnalaa
open Go.RowKit

def shiL (n m : Nat) (dx dy : Int) : List Bool := Pl.tab n n fun x y => (satinL n m n).getD ((((y : Int) - dy) % (n : Int)).toNat * n + (((x : Int) - dx) % (n : Int)).toNat) false
theorem shiL_length (n m : Nat) (dx dy : Int) : (shiL n m dx dy).length = n * n := by simp [shiL, Pl.tab_length]
theorem sat_shift {n m : Nat} {dx dy : Int} (hn : 1 ≤ n) (h64 : n ≤ 64) : shiftG ⟨n, n, satinL n m n⟩ dx dy = (⟨n, n, shiL n m dx dy⟩, 0) := by
  unfold shiftG
  rw [withChk_ok (chk_square hn h64 (satinL_length n m n))]
  rfl
theorem isSat_shift {n m : Nat} {dx dy : Int} (hn : 1 ≤ n) : IsSat n m (shiL n m dx dy) (dx - m * dy) true := by
  refine isSat_cells hn fun x y hx hy => ?_
  unfold shiL
  rw [List.getD_eq_getElem?_getD, Pl.tab_get hx hy, Option.getD_some]
  have h := isSat_satin (m := m) hn ((x : Int) - dx) ((y : Int) - dy)
  unfold pl at h
  rw [h]
  congr 3
  rw [Int.mul_sub]
  congr 1
  omega
theorem isSat_not {n m : Nat} {bs : List Bool} {c : Int} (hn : 1 ≤ n) (hl : bs.length = n * n) (h : IsSat n m bs c true) : IsSat n m (bs.map fun b => !b) c false := by
  refine isSat_cells hn fun x y hx hy => ?_
  have h1 := Pl.cell_lt hx hy
  have h2 := h x y
  rw [pl_nat hx hy, List.getD_eq_getElem?_getD, List.getElem?_eq_getElem (by omega), Option.getD_some] at h2
  rw [List.getD_eq_getElem?_getD, List.getElem?_map, List.getElem?_eq_getElem (by omega), Option.map_some, Option.getD_some, h2]
  cases decide (((x : Int) - (m : Int) * (y : Int) - c) % (n : Int) = 0) <;> rfl
theorem ups_one {p : Nat} : ∀ {k : Nat}, ups ((List.range k).map fun i => decide (i = p) == true) = if p < k then 1 else 0
  | 0 => rfl
  | k + 1 => by
    rw [List.range_succ, List.map_append, List.map_singleton, ups_snoc, ups_one (k := k)]
    by_cases h1 : p < k
    · have h2 : ¬ k = p := by omega
      have h3 : p < k + 1 := by omega
      simp [h1, h2, h3]
    · by_cases h2 : k = p
      · subst h2; simp
      · have h3 : ¬ p < k + 1 := by omega
        simp [h1, h2, h3]
theorem ups_most {p : Nat} : ∀ {k : Nat}, ups ((List.range k).map fun i => decide (i = p) == false) = if p < k then k - 1 else k
  | 0 => rfl
  | k + 1 => by
    rw [List.range_succ, List.map_append, List.map_singleton, ups_snoc, ups_most (k := k)]
    by_cases h1 : p < k
    · have h2 : ¬ k = p := by omega
      have h3 : p < k + 1 := by omega
      simp [h1, h2, h3]
      omega
    · by_cases h2 : k = p
      · subst h2; simp
      · have h3 : ¬ p < k + 1 := by omega
        simp [h1, h2, h3]
theorem isSat_frow {n m : Nat} {bs : List Bool} {c : Int} {u : Bool} (hn : 1 ≤ n) (h : IsSat n m bs c u) : frow bs n = (List.range n).map fun i => decide (i = (c % (n : Int)).toNat) == u := by
  unfold frow
  refine List.map_congr_left fun i hi => ?_
  rw [List.mem_range] at hi
  have h1 := h i 0
  have u1 := Int.emod_nonneg c (show (n : Int) ≠ 0 by omega)
  unfold pl at h1
  rw [Int.emod_eq_of_lt (a := (i : Int)) (by omega) (by omega)] at h1
  simp only [Int.zero_emod, Int.toNat_zero, Nat.zero_mul, Nat.zero_add, Int.toNat_natCast, Int.mul_zero, Int.sub_zero] at h1
  rw [h1]
  congr 1
  rw [decide_eq_decide, emod_zero_sub, Int.emod_eq_of_lt (by omega) (by omega)]
  omega
theorem isSat_is {n m : Nat} {bs : List Bool} {c : Int} {u : Bool} (hmv : moveB (n : Int) (m : Int) = true) (h : IsSat n m bs c u) (hl : bs.length = n * n) : satG ⟨n, n, bs⟩ = (((n : Int), (m : Int), u), 0) ∧ movesG ⟨n, n, bs⟩ = ([(m : Int)], 0) := by
  have h' := hmv
  unfold moveB at h'
  simp only [Bool.and_eq_true, decide_eq_true_eq] at h'
  have ho := isSat_of (by omega) (by omega) h (chk_square (by omega) (by omega) hl)
  have u1 := Int.emod_nonneg c (show (n : Int) ≠ 0 by omega)
  have u2 := Int.emod_lt_of_pos c (show 0 < (n : Int) by omega)
  have hf := isSat_frow (by omega) h
  refine ⟨?_, movesG_yes ho rfl⟩
  cases u with
  | true =>
    have h1 : ups (frow bs n) = 1 := by rw [hf, ups_one, if_pos (by omega)]
    exact satG_yes ho rfl hmv (.inl h1) (decide_eq_true h1)
  | false =>
    have h1 : ups (frow bs n) = n - 1 := by rw [hf, ups_most, if_pos (by omega)]
    exact satG_yes ho rfl hmv (.inr (by show ((ups (frow bs n) : Nat) : Int) = (n : Int) - 1; omega)) (decide_eq_false (by show ¬ ups (frow bs n) = 1; omega))
/-- The place of the cell of an end, of a pick. -/
theorem sat_end {n m k i j : Nat} (hk : m * k % n = 1 % n) (hi : i < n) (hj : j < n) : (satinL n m n).getD (j * n + i) false = decide (j = k * i % n) := by
  have key : ∀ a b p q : Nat, p < n → q < n → a * b % n = 1 % n → p = a * q % n → q = b * p % n := fun a b p q hp hq hab e => by
    rw [e, Nat.mul_mod, Nat.mod_mod, ← Nat.mul_mod, ← Nat.mul_assoc, Nat.mul_comm b a, Nat.mul_mod, hab, ← Nat.mul_mod, Nat.one_mul, Nat.mod_eq_of_lt hq]
  rw [sat_cell hi hj, decide_eq_decide]
  exact ⟨fun e => key m k i j hi hj hk e, fun e => key k m j i hj hi (by rw [Nat.mul_comm]; exact hk) e⟩
/-- How many of the first k are the p-th. -/
def one1 (p k : Nat) : Nat := if p < k then 1 else 0
theorem one1_zero (p : Nat) : one1 p 0 = 0 := by simp [one1]
theorem one1_succ (p k : Nat) : one1 p (k + 1) = one1 p k + (if k = p then 1 else 0) := by
  unfold one1
  by_cases h1 : p < k
  · rw [if_pos h1, if_pos (by omega), if_neg (by omega)]
  · by_cases h2 : k = p
    · rw [if_neg h1, if_pos (by omega), if_pos h2]
    · rw [if_neg h1, if_neg (by omega), if_neg h2]
theorem one1_end {p n : Nat} (h : p < n) : one1 p n = 1 := if_pos h
theorem one1_le (p k : Nat) : one1 p k ≤ 1 := by unfold one1; split <;> omega
end Go.Proofs.Ytbgekiifffnalaa
