/- math/bits.Mul of one and a small number. -/
import Derived.Test.YtfjdlbilnoojkaaChk
import Derived.Outline
import Derived.IntWalk
namespace Go.Proofs.Ytfjdlbilnoojkaa
open Go.RowKit

theorem and32_all : ((List.range 65).all fun n => decide (bits .and .u64 (n : Int) 4294967295 = (n : Int))) = true := by decide +kernel
theorem and32_of {n : Nat} (h : n ≤ 64) : bits .and .u64 (n : Int) 4294967295 = (n : Int) := by
  have k := and32_all
  simp only [List.all_eq_true, List.mem_range, decide_eq_true_eq] at k
  exact k n (by omega)
theorem mul64_one (n : Nat) (w : World) (h : n ≤ 64) : Calls Try.prog 65 #[.int .u64 1, .int .u64 n] w fun e w' => e = .returned (.tuple #[.int .u64 0, .int .u64 n]) ∧ w' = w := by
  have a1 := and32_of h
  have a2 := and32_of (show 1 ≤ 64 by omega)
  have a3 := and32_of (show 0 ≤ 64 by omega)
  have b1 : bits .and .u64 1 4294967295 = 1 := a2
  have b0 : bits .and .u64 0 4294967295 = 0 := a3
  clear a2 a3
  have d1 : (n : Int) / 4294967296 = 0 := by omega
  go_enter Try.func65, Try.ntmps65
  go_wp2_with fail
  go_ret2
  exact ⟨by simp, rfl⟩
end Go.Proofs.Ytfjdlbilnoojkaa
