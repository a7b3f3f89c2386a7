/- How many cells are up: of joined, exchanged, turned and shifted grids. No program in sight. -/
import Derived.Test.YtebbcpeldncekaaDoorGridQ
import Derived.Test.YtebbcpeldncekaaDoorCount
namespace Go.Proofs.YtebbcpeldncekaaDoor
open Go.RowKit

def b1 (b : Bool) : Nat := if b then 1 else 0
theorem ups_sum : ∀ l : List Bool, ups l = (l.map b1).sum
  | [] => rfl
  | b :: l => by
    have ih := ups_sum l
    have e : ups (b :: l) = b1 b + ups l := by unfold ups b1; cases b <;> simp [Nat.add_comm]
    rw [e, ih]
    rfl
theorem sum_const {α : Type} (k : Nat) : ∀ l : List α, (l.map fun _ => k).sum = l.length * k
  | [] => by simp
  | a :: l => by
    rw [List.map_cons, List.sum_cons, sum_const k l, List.length_cons, Nat.succ_mul]
    omega
/-- The sum of all cells. -/
def sumT (a b : Nat) (F : Nat → Nat → Nat) : Nat := ((List.range b).map fun y => ((List.range a).map fun x => F x y).sum).sum
theorem ups_tab (a : Nat) (F : Nat → Nat → Bool) : ∀ b, ups (Pl.tab a b F) = sumT a b fun x y => b1 (F x y)
  | 0 => rfl
  | b + 1 => by
    have ih := ups_tab a F b
    rw [ups_sum] at ih ⊢
    rw [Pl.tab_succ, List.map_append, List.sum_append, ih]
    unfold sumT
    rw [List.range_succ, List.map_append, List.sum_append, List.map_singleton, List.sum_singleton, List.map_map]
    rfl
theorem sum_add {α : Type} (f g : α → Nat) : ∀ l : List α, (l.map fun x => f x + g x).sum = (l.map f).sum + (l.map g).sum
  | [] => rfl
  | a :: l => by
    simp only [List.map_cons, List.sum_cons, sum_add f g l]
    omega
theorem sumT_add (a b : Nat) (F G : Nat → Nat → Nat) : sumT a b (fun x y => F x y + G x y) = sumT a b F + sumT a b G := by
  unfold sumT
  simp only [sum_add]
theorem sumT_congr {a b : Nat} {F G : Nat → Nat → Nat} (h : ∀ x y, F x y = G x y) : sumT a b F = sumT a b G := by
  have : F = G := funext fun x => funext fun y => h x y
  rw [this]
theorem sumT_one (a : Nat) : ∀ b, sumT a b (fun _ _ => 1) = b * a
  | 0 => by simp [sumT]
  | b + 1 => by
    have ih := sumT_one a b
    unfold sumT at ih ⊢
    rw [List.range_succ, List.map_append, List.sum_append, ih, List.map_singleton, List.sum_singleton, Nat.succ_mul, sum_const]
    simp
theorem sumT_zero_w (b : Nat) (F : Nat → Nat → Nat) : sumT 0 b F = 0 := by
  unfold sumT
  simp [sum_const]
theorem sumT_swap (F : Nat → Nat → Nat) : ∀ a b, sumT a b F = sumT b a fun x y => F y x
  | 0, b => by
    rw [sumT_zero_w]
    rfl
  | a + 1, b => by
    have ih := sumT_swap F a b
    have e : sumT (a + 1) b F = sumT a b F + ((List.range b).map fun y => F a y).sum := by
      unfold sumT
      simp only [List.range_succ, List.map_append, List.sum_append, List.map_singleton, List.sum_singleton]
      rw [sum_add]
    rw [e, ih]
    unfold sumT
    rw [List.range_succ, List.map_append, List.sum_append, List.map_singleton, List.sum_singleton]
theorem perm_shift (a : Nat) (d : Int) : ((List.range a).map fun x : Nat => (((x : Int) - d) % (a : Int)).toNat).Perm (List.range a) := by
  rcases Nat.eq_zero_or_pos a with h | h
  · subst h; exact .nil
  refine (List.perm_ext_iff_of_nodup ?_ List.nodup_range).2 fun k => ?_
  · rw [List.nodup_iff_pairwise_ne, List.pairwise_map]
    refine List.Pairwise.imp_of_mem ?_ (List.nodup_iff_pairwise_ne.1 (List.nodup_range (n := a)))
    intro x y hx hy hne he
    rw [List.mem_range] at hx hy
    have u1 := Int.emod_nonneg ((x : Int) - d) (show (a : Int) ≠ 0 by omega)
    have v1 := Int.emod_nonneg ((y : Int) - d) (show (a : Int) ≠ 0 by omega)
    have e : ((x : Int) - d) % (a : Int) = ((y : Int) - d) % (a : Int) := by omega
    have e2 := Int.emod_sub_cancel_right d |>.1 e
    rw [Int.emod_eq_of_lt (by omega) (by omega), Int.emod_eq_of_lt (by omega) (by omega)] at e2
    exact hne (by omega)
  · rw [List.mem_map, List.mem_range]
    constructor
    · rintro ⟨x, _, rfl⟩
      have u1 := Int.emod_nonneg ((x : Int) - d) (show (a : Int) ≠ 0 by omega)
      have u2 := Int.emod_lt_of_pos ((x : Int) - d) (show 0 < (a : Int) by omega)
      omega
    · intro hk
      have u1 := Int.emod_nonneg ((k : Int) + d) (show (a : Int) ≠ 0 by omega)
      have u2 := Int.emod_lt_of_pos ((k : Int) + d) (show 0 < (a : Int) by omega)
      refine ⟨(((k : Int) + d) % (a : Int)).toNat, by rw [List.mem_range]; omega, ?_⟩
      rw [Int.toNat_of_nonneg u1, Int.emod_sub_emod, show (k : Int) + d - d = k by omega, Int.emod_eq_of_lt (by omega) (by omega), Int.toNat_natCast]
theorem sum_shift (a : Nat) (d : Int) (f : Nat → Nat) : ((List.range a).map fun x : Nat => f (((x : Int) - d) % (a : Int)).toNat).sum = ((List.range a).map f).sum := by
  have h := ((perm_shift a d).map f).sum_nat
  rw [List.map_map] at h
  exact h
theorem sumT_shift (a b : Nat) (dx dy : Int) (F : Nat → Nat → Nat) : sumT a b (fun x y => F (((x : Int) - dx) % (a : Int)).toNat (((y : Int) - dy) % (b : Int)).toNat) = sumT a b F := by
  unfold sumT
  rw [← sum_shift b dy fun y => ((List.range a).map fun x => F x y).sum]
  congr 1
  refine List.map_congr_left fun y _ => ?_
  exact sum_shift a dx fun x => F x (((y : Int) - dy) % (b : Int)).toNat
section
variable {a b : Nat} {F F' : Nat → Nat → Bool} (ha1 : 1 ≤ a) (hb1 : 1 ≤ b) (ha : a ≤ 64) (hb : b ≤ 64)
include ha1 hb1 ha hb
theorem count_t : countG (tabD a b F) = (((sumT a b fun x y => b1 (F x y) : Nat) : Int), 0) := by
  rw [countG_ok (tabD_chk ha1 hb1 ha hb)]
  unfold tabD
  simp only
  rw [ups_tab]
end
theorem alg_sum (a b : Nat) (F F' : Nat → Nat → Bool) : (sumT a b fun x y => b1 (F x y)) + (sumT a b fun x y => b1 (F' x y)) = (sumT a b fun x y => b1 (F x y && F' x y)) + (sumT a b fun x y => b1 (F x y || F' x y)) := by
  rw [← sumT_add, ← sumT_add]
  refine sumT_congr fun x y => ?_
  cases F x y <;> cases F' x y <;> rfl
theorem alg_not (a b : Nat) (F : Nat → Nat → Bool) : (sumT a b fun x y => b1 (F x y)) + (sumT a b fun x y => b1 (!F x y)) = b * a := by
  rw [← sumT_add, ← sumT_one a b]
  refine sumT_congr fun x y => ?_
  cases F x y <;> rfl
end Go.Proofs.YtebbcpeldncekaaDoor
