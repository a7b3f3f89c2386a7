/- repeat.In: whether a step is one of a lattice. -/
import Derived.Test.YtkhochbkjhpfgaaDoorInP
import Derived.Test.YtkhochbkjhpfgaaDoorLChk
import Derived.Test.YtkhochbkjhpfgaaDoorReps
namespace Go.Proofs.YtkhochbkjhpfgaaDoor
open Go.RowKit

theorem lcheck_to {v : Int} (A B C : Int) (w : World) (h : chkL A B C = v) :
    Calls Tryd.prog 8 #[.agg #[.int .i64 A, .int .i64 B, .int .i64 C]] w fun e w' => e = .returned (.int .i64 v) ∧ Below w.heap.size w w' := h ▸ lcheck_any A B C w
set_option maxHeartbeats 2000000 in
theorem in_any (A B C dx dy : Int) (w : World) (hy1 : -9223372036854775808 ≤ dy) (hy2 : dy ≤ 9223372036854775807) :
    Calls Tryd.prog 11 #[.agg #[.int .i64 A, .int .i64 B, .int .i64 C], .int .i64 dx, .int .i64 dy] w fun e w' => e = .returned (.tuple #[.bool (inL A B C dx dy).1, .int .i64 (inL A B C dx dy).2]) ∧ Below w.heap.size w w' := by
  have S0 := (St.start w).box #[.int .i64 A, .int .i64 B, .int .i64 C] 23
  simp only [List.nil_append] at S0
  obtain ⟨c0, c1, c2⟩ := (S0.blk 0 rfl).cell3
  by_cases h0 : chkL A B C = 0
  · have hcb : (chkL A B C != 0) = false := by simpa using h0
    obtain ⟨a1, a2, g1, g2, b1, b2⟩ := chkL_zero h0
    have HC := Lib.hid (inL_ok (dx := dx) (dy := dy) h0)
    have HK := Lib.hid (lcheck_to A B C (w.alloc (.cells #[.int .i64 A, .int .i64 B, .int .i64 C] 23)) h0)
    clear h0 hcb
    obtain ⟨q1, q2⟩ := tdiv_range g1 hy1 hy2
    have t1 := Int.tmod_lt_of_pos dx (show 0 < A by omega)
    have t2 := Int.lt_tmod_of_pos dx (show 0 < A by omega)
    have t3 := Int.tmod_lt_of_pos (dy.tdiv C) (show 0 < A by omega)
    have t4 := Int.lt_tmod_of_pos (dy.tdiv C) (show 0 < A by omega)
    have hSh := tmod_shift dx (dy.tdiv C) A B
    have HV : Hid (inV A B C dx dy = (decide (dy.tmod C = 0) && decide ((dx.tmod A - (dy.tdiv C).tmod A * B) % A = 0))) := Lib.hid (by unfold inV; rw [hSh])
    clear hSh
    generalize hIn : inL A B C dx dy = r at *
    obtain ⟨r1, r2⟩ := r
    clear hIn
    have hA0 : ¬ A = 0 := by omega
    have hC0 : ¬ C = 0 := by omega
    have w0 : IntKind.i64.wrap (dy.tdiv C) = dy.tdiv C := IntWalk.i64_in _ (by omega)
    have hmb : ∃ M : Int, (dy.tdiv C).tmod A * B = M ∧ -4096 ≤ M ∧ M ≤ 4096 := by
      refine ⟨_, rfl, ?_, ?_⟩
      · have := Int.mul_le_mul_of_nonneg_right (show -64 ≤ (dy.tdiv C).tmod A by omega) b1
        omega
      · have := Int.mul_le_mul_of_nonneg_right (show (dy.tdiv C).tmod A ≤ 64 by omega) b1
        omega
    obtain ⟨M, hM, m1, m2⟩ := hmb
    have w1 : IntKind.i64.wrap M = M := IntWalk.i64_in _ (by omega)
    have w2 : IntKind.i64.wrap (dx.tmod A - M) = dx.tmod A - M := IntWalk.i64_in _ (by omega)
    rw [hM] at HV
    by_cases hT : dy.tmod C = 0
    · have k1 : (dy.tmod C == 0) = true := by simpa using hT
      have k2 : decide (dy.tmod C = 0) = true := by simpa using hT
      obtain ⟨z, hz⟩ : ∃ z, (dx.tmod A - M) % A = z := ⟨_, rfl⟩
      have HZ := Lib.hid hz
      rw [k2, hz, Bool.true_and] at HV
      have HT := Lib.hid hT
      clear hT hz k2
      go_enter Tryd.func11, Tryd.ntmps11
      go_wp2_with fail
      refine HK.out.mono ?_
      rintro e w1 ⟨rfl, hb1⟩
      have S1 := S0.keep hb1
      clear c0 c1 c2
      obtain ⟨c0, c1, c2⟩ := (S1.blk 0 rfl).cell3
      go_wp2_with fail
      go_quiet ((go_at_call 26; exact Calls.quiet_of_same (rmod_to _ A _ HZ.out (by omega) (by omega))))
      go_wp2_with fail
      go_ret2
      have h := HC.out
      injection h with h1 h2
      exact ⟨ret_bi (by rw [h1, HV.out]; first | rfl | simp) h2.symm, below_drewN S1.below _⟩
    · have k1 : (dy.tmod C == 0) = false := by simpa using hT
      have k2 : decide (dy.tmod C = 0) = false := by simpa using hT
      rw [k2, Bool.false_and] at HV
      go_enter Tryd.func11, Tryd.ntmps11
      go_wp2_with fail
      refine HK.out.mono ?_
      rintro e w1 ⟨rfl, hb1⟩
      have S1 := S0.keep hb1
      clear c0 c1 c2
      obtain ⟨c0, c1, c2⟩ := (S1.blk 0 rfl).cell3
      go_wp2_with fail
      go_quiet (fail)
      go_wp2_with fail
      go_ret2
      have h := HC.out
      injection h with h1 h2
      exact ⟨ret_bi (by rw [h1, HV.out]) h2.symm, below_drewN S1.below _⟩
  · have hcb : (chkL A B C != 0) = true := by simpa using h0
    have HC := Lib.hid (inL_bad (dx := dx) (dy := dy) h0)
    have HK := Lib.hid (lcheck_any A B C (w.alloc (.cells #[.int .i64 A, .int .i64 B, .int .i64 C] 23)))
    clear h0
    generalize chkL A B C = t at *
    generalize inL A B C dx dy = r at *
    obtain ⟨r1, r2⟩ := r
    go_enter Tryd.func11, Tryd.ntmps11
    go_wp2_with fail
    refine HK.out.mono ?_
    rintro e w1 ⟨rfl, hb1⟩
    have S1 := S0.keep hb1
    clear c0 c1 c2
    go_wp2_with fail
    go_ret2
    have h := HC.out
    injection h with h1 h2
    exact ⟨ret_bi h1.symm h2.symm, S1.below⟩
end Go.Proofs.YtkhochbkjhpfgaaDoor
