/- symmetry.behind, Compose and Inverse: sums of bits. -/
import Derived.Test.YtliibficmdomjaaDoorMg7z
import Derived.Test.YtliibficmdomjaaDoorSym1z
namespace Go.Proofs.YtliibficmdomjaaDoor
open Go.RowKit

theorem behind_0 (w : World) : Calls Tryd.prog 31 #[.int .i64 0] w fun e w' => e = .returned (.int .i64 0) ∧ w' = w := by
  go_enter Tryd.func31, Tryd.ntmps31
  go_wp2_with fail
  go_ret
  exact ⟨by kernel_rfl, rfl⟩
theorem behind_1 (w : World) : Calls Tryd.prog 31 #[.int .i64 1] w fun e w' => e = .returned (.int .i64 2) ∧ w' = w := by
  go_enter Tryd.func31, Tryd.ntmps31
  go_wp2_with fail
  go_ret
  exact ⟨by kernel_rfl, rfl⟩
theorem behind_2 (w : World) : Calls Tryd.prog 31 #[.int .i64 2] w fun e w' => e = .returned (.int .i64 1) ∧ w' = w := by
  go_enter Tryd.func31, Tryd.ntmps31
  go_wp2_with fail
  go_ret
  exact ⟨by kernel_rfl, rfl⟩
theorem behind_3 (w : World) : Calls Tryd.prog 31 #[.int .i64 3] w fun e w' => e = .returned (.int .i64 3) ∧ w' = w := by
  go_enter Tryd.func31, Tryd.ntmps31
  go_wp2_with fail
  go_ret
  exact ⟨by kernel_rfl, rfl⟩
theorem behind_4 (w : World) : Calls Tryd.prog 31 #[.int .i64 4] w fun e w' => e = .returned (.int .i64 4) ∧ w' = w := by
  go_enter Tryd.func31, Tryd.ntmps31
  go_wp2_with fail
  go_ret
  exact ⟨by kernel_rfl, rfl⟩
theorem behind_5 (w : World) : Calls Tryd.prog 31 #[.int .i64 5] w fun e w' => e = .returned (.int .i64 6) ∧ w' = w := by
  go_enter Tryd.func31, Tryd.ntmps31
  go_wp2_with fail
  go_ret
  exact ⟨by kernel_rfl, rfl⟩
theorem behind_6 (w : World) : Calls Tryd.prog 31 #[.int .i64 6] w fun e w' => e = .returned (.int .i64 5) ∧ w' = w := by
  go_enter Tryd.func31, Tryd.ntmps31
  go_wp2_with fail
  go_ret
  exact ⟨by kernel_rfl, rfl⟩
theorem behind_7 (w : World) : Calls Tryd.prog 31 #[.int .i64 7] w fun e w' => e = .returned (.int .i64 7) ∧ w' = w := by
  go_enter Tryd.func31, Tryd.ntmps31
  go_wp2_with fail
  go_ret
  exact ⟨by kernel_rfl, rfl⟩
theorem behind_8 (w : World) : Calls Tryd.prog 31 #[.int .i64 8] w fun e w' => e = .returned (.int .i64 8) ∧ w' = w := by
  go_enter Tryd.func31, Tryd.ntmps31
  go_wp2_with fail
  go_ret
  exact ⟨by kernel_rfl, rfl⟩
theorem behind_9 (w : World) : Calls Tryd.prog 31 #[.int .i64 9] w fun e w' => e = .returned (.int .i64 10) ∧ w' = w := by
  go_enter Tryd.func31, Tryd.ntmps31
  go_wp2_with fail
  go_ret
  exact ⟨by kernel_rfl, rfl⟩
theorem behind_10 (w : World) : Calls Tryd.prog 31 #[.int .i64 10] w fun e w' => e = .returned (.int .i64 9) ∧ w' = w := by
  go_enter Tryd.func31, Tryd.ntmps31
  go_wp2_with fail
  go_ret
  exact ⟨by kernel_rfl, rfl⟩
theorem behind_11 (w : World) : Calls Tryd.prog 31 #[.int .i64 11] w fun e w' => e = .returned (.int .i64 11) ∧ w' = w := by
  go_enter Tryd.func31, Tryd.ntmps31
  go_wp2_with fail
  go_ret
  exact ⟨by kernel_rfl, rfl⟩
theorem behind_12 (w : World) : Calls Tryd.prog 31 #[.int .i64 12] w fun e w' => e = .returned (.int .i64 12) ∧ w' = w := by
  go_enter Tryd.func31, Tryd.ntmps31
  go_wp2_with fail
  go_ret
  exact ⟨by kernel_rfl, rfl⟩
theorem behind_13 (w : World) : Calls Tryd.prog 31 #[.int .i64 13] w fun e w' => e = .returned (.int .i64 14) ∧ w' = w := by
  go_enter Tryd.func31, Tryd.ntmps31
  go_wp2_with fail
  go_ret
  exact ⟨by kernel_rfl, rfl⟩
theorem behind_14 (w : World) : Calls Tryd.prog 31 #[.int .i64 14] w fun e w' => e = .returned (.int .i64 13) ∧ w' = w := by
  go_enter Tryd.func31, Tryd.ntmps31
  go_wp2_with fail
  go_ret
  exact ⟨by kernel_rfl, rfl⟩
theorem behind_15 (w : World) : Calls Tryd.prog 31 #[.int .i64 15] w fun e w' => e = .returned (.int .i64 15) ∧ w' = w := by
  go_enter Tryd.func31, Tryd.ntmps31
  go_wp2_with fail
  go_ret
  exact ⟨by kernel_rfl, rfl⟩
theorem behind_any (n : Nat) (w : World) (h : n < 16) : Calls Tryd.prog 31 #[.int .i64 n] w fun e w' => e = .returned (.int .i64 (behindN n : Nat)) ∧ w' = w := by
  match n, h with
  | 0, _ => exact behind_0 w
  | 1, _ => exact behind_1 w
  | 2, _ => exact behind_2 w
  | 3, _ => exact behind_3 w
  | 4, _ => exact behind_4 w
  | 5, _ => exact behind_5 w
  | 6, _ => exact behind_6 w
  | 7, _ => exact behind_7 w
  | 8, _ => exact behind_8 w
  | 9, _ => exact behind_9 w
  | 10, _ => exact behind_10 w
  | 11, _ => exact behind_11 w
  | 12, _ => exact behind_12 w
  | 13, _ => exact behind_13 w
  | 14, _ => exact behind_14 w
  | 15, _ => exact behind_15 w
  | k + 16, h => exact absurd h (by omega)
theorem xor_all : ((List.range 16).all fun m => (List.range 16).all fun n => decide (bits .xor .i64 (m : Int) (n : Int) = ((Nat.xor m n : Nat) : Int))) = true := by decide +kernel
theorem xor_of {m n : Nat} (hm : m < 16) (hn : n < 16) : bits .xor .i64 (m : Int) (n : Int) = ((Nat.xor m n : Nat) : Int) := by
  have h := xor_all
  simp only [List.all_eq_true, List.mem_range, decide_eq_true_eq] at h
  exact h m hm n hn
theorem behind_all : ((List.range 16).all fun m => decide (behindN m < 16)) = true := by decide +kernel
theorem behind_lt {m : Nat} (hm : m < 16) : behindN m < 16 := by
  have h := behind_all
  simp only [List.all_eq_true, List.mem_range, decide_eq_true_eq] at h
  exact h m hm
theorem compG_bad2 {m n : Int} (h : ¬ (0 ≤ m ∧ m < 16) ∨ ¬ (0 ≤ n ∧ n < 16)) : compG m n = (0, 2) := by unfold compG; rw [if_pos (by omega)]

theorem compose_any (m n : Int) (w : World) : Calls Tryd.prog 11 #[.int .i64 m, .int .i64 n] w fun e w' => e = .returned (.tuple #[.int .i64 (compG m n).1, .int .i64 (compG m n).2]) ∧ w' = w := by
  by_cases hm : 0 ≤ m ∧ m < 16
  · have HD : Hid (decide (0 ≤ m ∧ m < 16) = true) := Lib.hid (by simpa using hm)
    by_cases hn : 0 ≤ n ∧ n < 16
    · have HD2 : Hid (decide (0 ≤ n ∧ n < 16) = true) := Lib.hid (by simpa using hn)
      obtain ⟨m, rfl⟩ : ∃ k : Nat, m = (k : Int) := ⟨m.toNat, by omega⟩
      obtain ⟨n, rfl⟩ : ∃ k : Nat, n = (k : Int) := ⟨n.toNat, by omega⟩
      have hm' : m < 16 := by omega
      have hn' : n < 16 := by omega
      have hc : compG (m : Int) (n : Int) = (((compN m n : Nat) : Int), 0) := by unfold compG; rw [if_neg (by omega)]; simp
      have k4 := bit4 hm'
      unfold compN at hc
      rcases Bool.eq_false_or_eq_true (m.testBit 2) with h4 | h4
      · rw [h4, if_pos rfl] at k4 hc
        have HC := Lib.hid hc
        have hx := xor_of hm' (behind_lt hn')
        clear hm hn hc
        go_enter Tryd.func11, Tryd.ntmps11
        go_wp2_with fail
        refine (is7_to _ _ HD.out).mono ?_
        rintro e w1 ⟨rfl, rfl⟩
        go_wp2_with fail
        refine (is7_to _ _ HD2.out).mono ?_
        rintro e w1 ⟨rfl, rfl⟩
        go_wp2_with fail
        refine (behind_any n _ hn').mono ?_
        rintro e w1 ⟨rfl, rfl⟩
        go_wp2_with fail
        go_ret2
        exact ⟨by rw [HC.out]; rfl, rfl⟩
      · rw [h4, if_neg (by simp)] at k4 hc
        have HC := Lib.hid hc
        have hx := xor_of hm' hn'
        clear hm hn hc
        go_enter Tryd.func11, Tryd.ntmps11
        go_wp2_with fail
        refine (is7_to _ _ HD.out).mono ?_
        rintro e w1 ⟨rfl, rfl⟩
        go_wp2_with fail
        refine (is7_to _ _ HD2.out).mono ?_
        rintro e w1 ⟨rfl, rfl⟩
        go_wp2_with fail
        go_ret2
        exact ⟨by rw [HC.out]; rfl, rfl⟩
    · rw [compG_bad2 (.inr hn)]
      have HD2 : Hid (decide (0 ≤ n ∧ n < 16) = false) := Lib.hid (by simpa using hn)
      clear hm hn
      go_enter Tryd.func11, Tryd.ntmps11
      go_wp2_with fail
      refine (is7_to _ _ HD.out).mono ?_
      rintro e w1 ⟨rfl, rfl⟩
      go_wp2_with fail
      refine (is7_to _ _ HD2.out).mono ?_
      rintro e w1 ⟨rfl, rfl⟩
      go_wp2_with fail
      go_ret2
      exact ⟨rfl, rfl⟩
  · rw [compG_bad2 (.inl hm)]
    have HD : Hid (decide (0 ≤ m ∧ m < 16) = false) := Lib.hid (by simpa using hm)
    clear hm
    go_enter Tryd.func11, Tryd.ntmps11
    go_wp2_with fail
    refine (is7_to _ _ HD.out).mono ?_
    rintro e w1 ⟨rfl, rfl⟩
    go_wp2_with fail
    go_ret2
    exact ⟨rfl, rfl⟩
theorem inverse_any (m : Int) (w : World) : Calls Tryd.prog 13 #[.int .i64 m] w fun e w' => e = .returned (.tuple #[.int .i64 (invG m).1, .int .i64 (invG m).2]) ∧ w' = w := by
  by_cases hm : 0 ≤ m ∧ m < 16
  · have HD : Hid (decide (0 ≤ m ∧ m < 16) = true) := Lib.hid (by simpa using hm)
    obtain ⟨m, rfl⟩ : ∃ k : Nat, m = (k : Int) := ⟨m.toNat, by omega⟩
    have hm' : m < 16 := by omega
    have hc : invG (m : Int) = (((invN m : Nat) : Int), 0) := by unfold invG; rw [if_neg (by omega)]; simp
    have k4 := bit4 hm'
    unfold invN at hc
    rcases Bool.eq_false_or_eq_true (m.testBit 2) with h4 | h4
    · rw [h4, if_pos rfl] at k4 hc
      have HC := Lib.hid hc
      clear hm hc
      go_enter Tryd.func13, Tryd.ntmps13
      go_wp2_with fail
      refine (is7_to _ _ HD.out).mono ?_
      rintro e w1 ⟨rfl, rfl⟩
      go_wp2_with fail
      refine (behind_any m _ hm').mono ?_
      rintro e w1 ⟨rfl, rfl⟩
      go_wp2_with fail
      go_ret2
      exact ⟨by rw [HC.out]; rfl, rfl⟩
    · rw [h4, if_neg (by simp)] at k4 hc
      have HC := Lib.hid hc
      clear hm hc
      go_enter Tryd.func13, Tryd.ntmps13
      go_wp2_with fail
      refine (is7_to _ _ HD.out).mono ?_
      rintro e w1 ⟨rfl, rfl⟩
      go_wp2_with fail
      go_ret2
      exact ⟨by rw [HC.out]; rfl, rfl⟩
  · have hv : invG m = (0, 2) := by unfold invG; rw [if_pos (by omega)]
    rw [hv]
    have HD : Hid (decide (0 ≤ m ∧ m < 16) = false) := Lib.hid (by simpa using hm)
    clear hm
    go_enter Tryd.func13, Tryd.ntmps13
    go_wp2_with fail
    refine (is7_to _ _ HD.out).mono ?_
    rintro e w1 ⟨rfl, rfl⟩
    go_wp2_with fail
    go_ret2
    exact ⟨rfl, rfl⟩
end Go.Proofs.YtliibficmdomjaaDoor
