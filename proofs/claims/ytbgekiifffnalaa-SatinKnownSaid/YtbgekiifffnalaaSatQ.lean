/- Satins as planes: their lattices; turned, mirrored, moved, exchanged. No program in sight. -/
import Derived.Test.YtbgekiifffnalaaSatin9
import Derived.Test.YtbgekiifffnalaaRepQ
import Derived.Test.YtbgekiifffnalaaMeetP
import Derived.Test.YtbgekiifffnalaaSatP
import Derived.Test.YtbgekiifffnalaaCounters
namespace Go.Proofs.Ytbgekiifffnalaa
open Go.RowKit

theorem sat_cell {n m x y : Nat} (hx : x < n) (hy : y < n) : (satinL n m n).getD (y * n + x) false = decide (x = m * y % n) := by
  have h1 := Pl.cell_lt hx hy
  have hd : (y * n + x) / n = y := by rw [Nat.add_comm, Nat.add_mul_div_right _ _ (by omega), Nat.div_eq_of_lt hx, Nat.zero_add]
  have hm : (y * n + x) % n = x := by rw [Nat.add_comm, Nat.add_mul_mod_self_right, Nat.mod_eq_of_lt hx]
  unfold satinL
  rw [List.getD_eq_getElem?_getD, List.getElem?_map, List.getElem?_range h1, Option.map_some, Option.getD_some, hd, hm]
  rw [decide_eq_decide]
  exact ⟨fun h => h.2, fun h => ⟨hy, h⟩⟩
/-- A plane on which one cell of each pick is p, moved by m from pick to pick. -/
def IsSat (n m : Nat) (bs : List Bool) (c : Int) (u : Bool) : Prop := ∀ x y : Int, pl n n bs x y = (decide ((x - m * y - c) % (n : Int) = 0) == u)
theorem emod_zero_sub {p q n : Int} : (p - q) % n = 0 ↔ p % n = q % n := by
  rw [Int.emod_eq_emod_iff_emod_sub_eq_zero]
theorem isSat_cells {n m : Nat} {bs : List Bool} {c : Int} {u : Bool} (hn : 1 ≤ n) (h : ∀ x y : Nat, x < n → y < n → bs.getD (y * n + x) false = (decide (((x : Int) - m * y - c) % (n : Int) = 0) == u)) : IsSat n m bs c u := by
  intro x y
  have u1 := Int.emod_nonneg x (show (n : Int) ≠ 0 by omega)
  have u2 := Int.emod_lt_of_pos x (show 0 < (n : Int) by omega)
  have v1 := Int.emod_nonneg y (show (n : Int) ≠ 0 by omega)
  have v2 := Int.emod_lt_of_pos y (show 0 < (n : Int) by omega)
  have k := h (x % (n : Int)).toNat (y % (n : Int)).toNat (by omega) (by omega)
  unfold pl
  rw [k, Int.toNat_of_nonneg u1, Int.toNat_of_nonneg v1]
  have hx := Int.emod_add_mul_ediv x n
  have hy := Int.emod_add_mul_ediv y n
  have e : x - m * y - c = (x % (n : Int) - m * (y % (n : Int)) - c) + n * (x / n - m * (y / n)) := by
    conv => lhs; rw [← hx, ← hy]
    rw [Int.mul_add, Int.mul_sub, Int.mul_left_comm (m : Int) (n : Int)]
    omega
  rw [e, Int.add_mul_emod_self_left]
theorem isSat_satin {n m : Nat} (hn : 1 ≤ n) : IsSat n m (satinL n m n) 0 true := by
  refine isSat_cells hn fun x y hx hy => ?_
  rw [sat_cell hx hy]
  have e : (decide (((x : Int) - m * y - 0) % (n : Int) = 0) == true) = decide (((x : Int) - m * y - 0) % (n : Int) = 0) := by cases decide (((x : Int) - m * y - 0) % (n : Int) = 0) <;> rfl
  rw [e, decide_eq_decide, Int.sub_zero, emod_zero_sub, Int.emod_eq_of_lt (by omega) (by omega), ← Int.natCast_mul, ← Int.natCast_emod]
  omega
section
variable {n m : Nat} {bs : List Bool} {c : Int} {u : Bool}
theorem isSat_rep (hn : 1 ≤ n) (h : IsSat n m bs c u) (dx dy : Int) : repB n n bs dx dy = decide ((dx - m * dy) % (n : Int) = 0) := by
  rw [Bool.eq_iff_iff, repB_all hn hn, decide_eq_true_eq]
  constructor
  · intro hr
    have h1 := hr c 0
    rw [h, h] at h1
    have e1 : (c - (m : Int) * 0 - c) = 0 := by simp
    have e2 : c + dx - (m : Int) * (0 + dy) - c = dx - m * dy := by rw [Int.zero_add]; omega
    rw [e1, e2] at h1
    have e3 : decide ((0 : Int) % (n : Int) = 0) = true := by simp
    rw [e3] at h1
    cases hd : decide ((dx - (m : Int) * dy) % (n : Int) = 0) with
    | true => exact of_decide_eq_true hd
    | false => rw [hd] at h1; cases u <;> cases h1
  · intro hr x y
    rw [h, h]
    have e : x + dx - (m : Int) * (y + dy) - c = (x - m * y - c) + (dx - m * dy) := by rw [Int.mul_add]; omega
    rw [e, Int.add_emod, hr, Int.add_zero, Int.emod_emod]
theorem isSat_lat (hm : 1 ≤ m) (hmn : m < n) (h : IsSat n m bs c u) : latA n n bs = n ∧ latB n n bs = m ∧ latC n n bs = 1 := by
  have hn : 1 ≤ n := by omega
  have hR := isSat_rep hn h
  refine (lat_is hn hn).unique ⟨hn, Nat.le_refl _, ?_, ?_, hmn, Nat.le_refl _, hn, ?_, ?_, ?_⟩
  · rw [hR]; simp
  · intro k h1 h2
    rw [hR]
    refine decide_eq_false ?_
    rw [Int.mul_zero, Int.sub_zero, Int.emod_eq_of_lt (by omega) (by omega)]
    omega
  · rw [hR]; simp
  · intro k l h1 h2; omega
  · intro k hk
    rw [hR]
    refine decide_eq_false ?_
    have e : ((k : Int) - (m : Int) * ((1 : Nat) : Int)) % (n : Int) = (k : Int) - m + n := by
      rw [show ((k : Int) - (m : Int) * ((1 : Nat) : Int)) = (k : Int) - m + n + n * (-1) by omega, Int.add_mul_emod_self_left, Int.emod_eq_of_lt (by omega) (by omega)]
    rw [e]
    omega
theorem isSat_of (hm : 1 ≤ m) (hmn : m < n) (h : IsSat n m bs c u) (hk : chkG ⟨n, n, bs⟩ = 0) : ofG ⟨n, n, bs⟩ = (((n : Int), (m : Int), ((1 : Nat) : Int)), 0) := by
  obtain ⟨h1, h2, h3⟩ := isSat_lat hm hmn h
  rw [ofG_ok hk, h1, h2, h3]
end
theorem chk_square {n : Nat} {bs : List Bool} (hn : 1 ≤ n) (h64 : n ≤ 64) (hl : bs.length = n * n) : chkG ⟨n, n, bs⟩ = 0 := by
  show chk (n : Int) (n : Int) bs.length = 0
  exact chk_ok (by omega) (by omega) (by omega) (by omega) (by rw [hl, Int.natCast_mul])
/-- The satin turned. -/
theorem sat_turn {n m k : Nat} (hn : 1 ≤ n) (h64 : n ≤ 64) (hk : m * k % n = 1 % n) : turnG ⟨n, n, satinL n m n⟩ = (⟨n, n, satinL n k n⟩, 0) := by
  unfold turnG
  rw [withChk_ok (chk_square hn h64 (satinL_length n m n))]
  unfold tabG
  congr 2
  refine (Pl.tab_ext (satinL_length n k n) fun x y hx hy => ?_).symm
  have h1 := Pl.cell_lt hx hy
  rw [sat_cell hy hx, List.getElem?_eq_getElem (by rw [satinL_length]; exact h1)]
  have h2 := sat_cell (m := k) hx hy
  rw [List.getD_eq_getElem?_getD, List.getElem?_eq_getElem (by rw [satinL_length]; exact h1), Option.getD_some] at h2
  rw [h2, decide_eq_decide.2]
  have key : ∀ a b p q : Nat, p < n → q < n → a * b % n = 1 % n → p = a * q % n → q = b * p % n := fun a b p q hp hq hab e => by
    rw [e, Nat.mul_mod, Nat.mod_mod, ← Nat.mul_mod, ← Nat.mul_assoc, Nat.mul_comm b a, Nat.mul_mod, hab, ← Nat.mul_mod, Nat.one_mul, Nat.mod_eq_of_lt hq]
  exact ⟨fun e => key k m x y hx hy (by rw [Nat.mul_comm]; exact hk) e, fun e => key m k y x hy hx hk e⟩
/-- The satin mirrored. -/
def mirL (n m : Nat) : List Bool := Pl.tab n n fun x y => (satinL n m n).getD (y * n + (n - 1 - x)) false
theorem mirL_length (n m : Nat) : (mirL n m).length = n * n := by simp [mirL, Pl.tab_length]
theorem sat_mir {n m : Nat} (hn : 1 ≤ n) (h64 : n ≤ 64) : mirG ⟨n, n, satinL n m n⟩ 0 = (⟨n, n, mirL n m⟩, 0) := by
  unfold mirG
  rw [withChk_ok (chk_square hn h64 (satinL_length n m n)), if_pos rfl]
  rfl
theorem isSat_mir {n m : Nat} (hn : 1 ≤ n) (hmn : m ≤ n) : IsSat n (n - m) (mirL n m) (-1) true := by
  refine isSat_cells hn fun x y hx hy => ?_
  have e : ∀ b : Bool, (b == true) = b := fun b => by cases b <;> rfl
  unfold mirL
  rw [e, List.getD_eq_getElem?_getD, Pl.tab_get hx hy, Option.getD_some, sat_cell (by omega) hy, decide_eq_decide]
  have hc : ((n - m : Nat) : Int) = (n : Int) - (m : Int) := by omega
  have hA : (((n - 1 - x : Nat) : Int) - (m : Int) * (y : Int)) % (n : Int) = 0 ↔ n - 1 - x = m * y % n := by
    rw [emod_zero_sub, Int.emod_eq_of_lt (by omega) (by omega), ← Int.natCast_mul, ← Int.natCast_emod]
    omega
  rw [← hA, hc]
  have h1 : ((x : Int) - ((n : Int) - (m : Int)) * (y : Int) - -1) = -(((n - 1 - x : Nat) : Int) - (m : Int) * (y : Int)) + (n : Int) * (1 - (y : Int)) := by
    rw [Int.sub_mul, Int.mul_sub]; omega
  rw [h1, Int.add_mul_emod_self_left]
  rw [← Int.dvd_iff_emod_eq_zero, ← Int.dvd_iff_emod_eq_zero, Int.dvd_neg]
theorem mir_meets {n m : Nat} (hn : 1 ≤ n) (hmn : m ≤ n) : Meets n n (mirL n m) n n (satinL n (n - m) n) ((1 : Nat) : Int) ((0 : Nat) : Int) := by
  intro x y
  rw [isSat_mir hn hmn, isSat_satin hn]
  congr 3
  rw [show x + ((1 : Nat) : Int) - ((n - m : Nat) : Int) * (y + ((0 : Nat) : Int)) - 0 = x - ((n - m : Nat) : Int) * y - -1 by simp; omega]
theorem self_meets {n : Nat} {bs : List Bool} : Meets n n bs n n bs ((0 : Nat) : Int) ((0 : Nat) : Int) := by
  intro x y
  simp
theorem offR_ok {n : Nat} {bs bs' : List Bool} {x y : Nat} {r : (Int × Int) × Int} (h : chkG ⟨n, n, bs⟩ = 0) (h' : chkG ⟨n, n, bs'⟩ = 0) (hm : Meets n n bs n n bs' (x : Int) (y : Int)) (hr : OffR ⟨n, n, bs⟩ ⟨n, n, bs'⟩ r) : r.2 = 0 := by
  have hb : both2 ⟨(n : Int), (n : Int), bs⟩ ⟨n, n, bs'⟩ = 0 := by unfold both2; rw [if_neg (by omega)]; exact h'
  rcases hr with ⟨h1, _⟩ | ⟨_, _, _, _, h3⟩ | ⟨_, h2, _⟩
  · exact absurd hb h1
  · rw [h3]
  · exact absurd (by simpa using hm) (h2 x y)
/-- The inverse move. -/
def invK (n m : Nat) : Nat := least (fun j => m * j % n == 1) 1 (n - 1)
def turnOk (n m : Nat) : Bool := !moveB (n : Int) (m : Int) || (decide (1 ≤ invK n m) && decide (invK n m < n) && (m * invK n m % n == 1) && moveB (n : Int) (invK n m : Int) && moveB (n : Int) ((n : Int) - (m : Int)))
theorem turn_all : ((List.range 21).all fun n => (List.range 21).all fun m => turnOk n m) = true := by decide +kernel
theorem inv_spec {n m : Nat} (h20 : n ≤ 20) (h : moveB (n : Int) (m : Int) = true) : 1 ≤ invK n m ∧ invK n m < n ∧ m * invK n m % n = 1 ∧ moveB (n : Int) (invK n m : Int) = true ∧ moveB (n : Int) ((n : Int) - (m : Int)) = true ∧ ∀ j, 1 ≤ j → j < invK n m → m * j % n ≠ 1 := by
  have hm : m ≤ 20 := by
    unfold moveB at h
    simp only [Bool.and_eq_true, decide_eq_true_eq] at h
    omega
  have h1 := List.all_eq_true.1 (List.all_eq_true.1 turn_all n (by rw [List.mem_range]; omega)) m (by rw [List.mem_range]; omega)
  unfold turnOk at h1
  rw [h] at h1
  simp only [Bool.not_true, Bool.false_or, Bool.and_eq_true, decide_eq_true_eq, beq_iff_eq] at h1
  obtain ⟨⟨⟨⟨h2, h3⟩, h4⟩, h5⟩, h6⟩ := h1
  refine ⟨h2, h3, h4, h5, h6, fun j k1 k2 => ?_⟩
  have := (least_spec (fun j => m * j % n == 1) (n - 1) 1).2.2.1 j k1 k2
  simpa using this
/-- The moves of a number are those that are moves. -/
theorem mem_moves {n : Nat} {m : Nat} (h : moveB (n : Int) (m : Int) = true) : (m : Int) ∈ (countersG (n : Int)).1 := by
  have h' := h
  unfold moveB at h'
  simp only [Bool.and_eq_true, decide_eq_true_eq] at h'
  rw [countersG_ok (by omega) (by omega)]
  unfold movesB
  rw [List.mem_map]
  exact ⟨m, by rw [List.mem_filter, List.mem_range]; exact ⟨by omega, h⟩, rfl⟩
end Go.Proofs.Ytbgekiifffnalaa
