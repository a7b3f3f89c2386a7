/- repeat.Check and raddleref06.Check: the error of a lattice. -/
import Derived.Test.YtkhochbkjhpfgaaDoorRepP
import Derived.Test.YtkhochbkjhpfgaaDoorChk
import Derived.Test.YtkhochbkjhpfgaaDoorSt
import Derived.Outline
namespace Go.Proofs.YtkhochbkjhpfgaaDoor
open Go.RowKit

set_option maxHeartbeats 1000000 in
theorem lcheck_any (A B C : Int) (w : World) :
    Calls Tryd.prog 8 #[.agg #[.int .i64 A, .int .i64 B, .int .i64 C]] w fun e w' => e = .returned (.int .i64 (chkL A B C)) ∧ Below w.heap.size w w' := by
  have S0 := (St.start w).box #[.int .i64 A, .int .i64 B, .int .i64 C] 23
  simp only [List.nil_append] at S0
  obtain ⟨c0, c1, c2⟩ := (S0.blk 0 rfl).cell3
  by_cases hb : A < 1 ∨ C < 1
  · have HC : Hid (chkL A B C = 8) := Lib.hid (by unfold chkL; rw [if_pos (by omega)])
    go_enter Tryd.func8, Tryd.ntmps8
    go_wp2_with fail
    all_goals (go_ret; exact ⟨ret_i HC.out.symm, S0.below⟩)
  replace hb : ¬ (A < 1 ∨ C < 1) := hb
  have hA1 : 1 ≤ A := by omega
  have hC1 : 1 ≤ C := by omega
  clear hb
  by_cases hb : 64 < A ∨ 64 < C
  · have HC : Hid (chkL A B C = 8) := Lib.hid (by unfold chkL; rw [if_pos (by omega)])
    go_enter Tryd.func8, Tryd.ntmps8
    go_wp2_with fail
    all_goals (go_ret; exact ⟨ret_i HC.out.symm, S0.below⟩)
  replace hb : ¬ (64 < A ∨ 64 < C) := hb
  have hA2 : A ≤ 64 := by omega
  have hC2 : C ≤ 64 := by omega
  clear hb
  by_cases hb : B < 0
  · have HC : Hid (chkL A B C = 8) := Lib.hid (by unfold chkL; rw [if_pos (by omega)])
    go_enter Tryd.func8, Tryd.ntmps8
    go_wp2_with fail
    all_goals (go_ret; exact ⟨ret_i HC.out.symm, S0.below⟩)
  replace hb : ¬ (B < 0) := hb
  have hB1 : 0 ≤ B := by omega
  clear hb
  by_cases hb : A ≤ B
  · have HC : Hid (chkL A B C = 8) := Lib.hid (by unfold chkL; rw [if_pos (by omega)])
    go_enter Tryd.func8, Tryd.ntmps8
    go_wp2_with fail
    all_goals (go_ret; exact ⟨ret_i HC.out.symm, S0.below⟩)
  replace hb : ¬ (A ≤ B) := hb
  have hB2 : B < A := by omega
  clear hb
  have HC : Hid (chkL A B C = 0) := Lib.hid (by unfold chkL; rw [if_neg (by omega)])
  go_enter Tryd.func8, Tryd.ntmps8
  go_wp2_with fail
  all_goals (go_ret; exact ⟨ret_i HC.out.symm, S0.below⟩)

set_option maxHeartbeats 1000000 in
theorem rlcheck_any (A B C : Int) (w : World) :
    Calls Tryd.prog 9 #[.agg #[.int .i64 A, .int .i64 B, .int .i64 C]] w fun e w' => e = .returned (.int .i64 (chkL A B C)) ∧ Below w.heap.size w w' := by
  have S0 := (St.start w).box #[.int .i64 A, .int .i64 B, .int .i64 C] 23
  simp only [List.nil_append] at S0
  obtain ⟨c0, c1, c2⟩ := (S0.blk 0 rfl).cell3
  by_cases hb : A < 1
  · have HC : Hid (chkL A B C = 8) := Lib.hid (by unfold chkL; rw [if_pos (by omega)])
    go_enter Tryd.func9, Tryd.ntmps9
    go_wp2_with fail
    all_goals (go_ret; exact ⟨ret_i HC.out.symm, S0.below⟩)
  replace hb : ¬ (A < 1) := hb
  have hA1 : 1 ≤ A := by omega
  clear hb
  by_cases hb : 64 < A
  · have HC : Hid (chkL A B C = 8) := Lib.hid (by unfold chkL; rw [if_pos (by omega)])
    go_enter Tryd.func9, Tryd.ntmps9
    go_wp2_with fail
    all_goals (go_ret; exact ⟨ret_i HC.out.symm, S0.below⟩)
  replace hb : ¬ (64 < A) := hb
  have hA2 : A ≤ 64 := by omega
  clear hb
  by_cases hb : C < 1
  · have HC : Hid (chkL A B C = 8) := Lib.hid (by unfold chkL; rw [if_pos (by omega)])
    go_enter Tryd.func9, Tryd.ntmps9
    go_wp2_with fail
    all_goals (go_ret; exact ⟨ret_i HC.out.symm, S0.below⟩)
  replace hb : ¬ (C < 1) := hb
  have hC1 : 1 ≤ C := by omega
  clear hb
  by_cases hb : 64 < C
  · have HC : Hid (chkL A B C = 8) := Lib.hid (by unfold chkL; rw [if_pos (by omega)])
    go_enter Tryd.func9, Tryd.ntmps9
    go_wp2_with fail
    all_goals (go_ret; exact ⟨ret_i HC.out.symm, S0.below⟩)
  replace hb : ¬ (64 < C) := hb
  have hC2 : C ≤ 64 := by omega
  clear hb
  by_cases hb : B < 0
  · have HC : Hid (chkL A B C = 8) := Lib.hid (by unfold chkL; rw [if_pos (by omega)])
    go_enter Tryd.func9, Tryd.ntmps9
    go_wp2_with fail
    all_goals (go_ret; exact ⟨ret_i HC.out.symm, S0.below⟩)
  replace hb : ¬ (B < 0) := hb
  have hB1 : 0 ≤ B := by omega
  clear hb
  by_cases hb : A ≤ B
  · have HC : Hid (chkL A B C = 8) := Lib.hid (by unfold chkL; rw [if_pos (by omega)])
    go_enter Tryd.func9, Tryd.ntmps9
    go_wp2_with fail
    all_goals (go_ret; exact ⟨ret_i HC.out.symm, S0.below⟩)
  replace hb : ¬ (A ≤ B) := hb
  have hB2 : B < A := by omega
  clear hb
  have HC : Hid (chkL A B C = 0) := Lib.hid (by unfold chkL; rw [if_neg (by omega)])
  go_enter Tryd.func9, Tryd.ntmps9
  go_wp2_with fail
  all_goals (go_ret; exact ⟨ret_i HC.out.symm, S0.below⟩)

end Go.Proofs.YtkhochbkjhpfgaaDoor
