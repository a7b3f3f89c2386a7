/- Parts of the proof, in their order. -/
import Derived.Test.YtliibficmdomjaaDoorAppNoAz
import Derived.Test.YtliibficmdomjaaDoorAppNoBz
import Derived.Test.YtliibficmdomjaaDoorAppYesAz
import Derived.Test.YtliibficmdomjaaDoorAppYesBz
import Derived.Test.YtliibficmdomjaaDoorMg2z
import Derived.Lib.Hide
import Derived.Test.YtliibficmdomjaaDoorRepPz
/- symmetry.applied: a valid grid with an operation applied. -/
namespace Go.Proofs.YtliibficmdomjaaDoor
open Go.RowKit

theorem applied_any (a b op bl o c : Nat) (bs : List Bool) (w : World) (ha1 : 1 ≤ a) (hb1 : 1 ≤ b) (ha : a ≤ 64) (hb : b ≤ 64) (ho : op < 16) (hr : Rd w (some ⟨bl, o, none⟩) (b * a) (bs.map Value.bool)) :
    Calls Tryd.prog 33 #[.agg #[.int .i64 a, .int .i64 b, .slice (some ⟨bl, o, none⟩) (b * a) c], .int .i64 op] w (RetT (appG a b bs op) w) := by
  unfold appG appB
  rcases Bool.eq_false_or_eq_true (op.testBit 2) with h4 | h4 <;> rcases Bool.eq_false_or_eq_true (op.testBit 0) with h1 | h1 <;> rcases Bool.eq_false_or_eq_true (op.testBit 1) with h2 | h2 <;> rw [h4, h1, h2]
  · exact applied_ttt a b op bl o c bs w ha1 hb1 ha hb ho _ h1 h2 h4 rfl hr
  · exact applied_ttf a b op bl o c bs w ha1 hb1 ha hb ho _ h1 h2 h4 rfl hr
  · exact applied_tft a b op bl o c bs w ha1 hb1 ha hb ho _ h1 h2 h4 rfl hr
  · exact applied_tff a b op bl o c bs w ha1 hb1 ha hb ho _ h1 h2 h4 rfl hr
  · exact applied_ftt a b op bl o c bs w ha1 hb1 ha hb ho _ h1 h2 h4 rfl hr
  · exact applied_ftf a b op bl o c bs w ha1 hb1 ha hb ho _ h1 h2 h4 rfl hr
  · exact applied_fft a b op bl o c bs w ha1 hb1 ha hb ho _ h1 h2 h4 rfl hr
  · exact applied_fff a b op bl o c bs w ha1 hb1 ha hb ho _ h1 h2 h4 rfl hr
end Go.Proofs.YtliibficmdomjaaDoor
/- repeat.mod gives the remainder from 0 on (a divisor of at least 1). -/
namespace Go.Proofs.YtliibficmdomjaaDoor
open Go.RowKit

theorem rmod_any (a n : Int) (w : World) (hn : 1 ≤ n) (hn2 : n ≤ 1000000) :
    Calls Tryd.prog 39 #[.int .i64 a, .int .i64 n] w fun e w' => e = .returned (.int .i64 (a % n)) ∧ w' = w := by
  have h1 := Int.tmod_lt_of_pos a (show 0 < n by omega)
  have h2 := Int.lt_tmod_of_pos a (show 0 < n by omega)
  have h3 := Pl.tmod_pos a n (by omega)
  have H3 := Lib.hid h3
  clear h3
  by_cases ht : a.tmod n < 0
  all_goals
    go_enter Tryd.func39, Tryd.ntmps39
    go_wp2
    go_ret
    exact ⟨ret_i (by have := H3.out; first | (rw [if_pos ht] at this; exact this) | (rw [if_neg (by omega)] at this; exact this)), rfl⟩

end Go.Proofs.YtliibficmdomjaaDoor
/- Whether a step is one of a lattice, as both functions In compute it. No program in sight. -/
namespace Go.Proofs.YtliibficmdomjaaDoor
open Go.RowKit

theorem ret_bi {b b' : Bool} {z z' : Int} (h1 : b = b') (h2 : z = z') : Ending.returned (.tuple #[.bool b, .int .i64 z]) = Ending.returned (.tuple #[.bool b', .int .i64 z']) := by rw [h1, h2]
theorem tmod_shift (x q A B : Int) : (x.tmod A - q.tmod A * B) % A = (x - q * B) % A := by
  rw [Int.tmod_def, Int.tmod_def]
  have : x - A * x.tdiv A - (q - A * q.tdiv A) * B = (x - q * B) + A * (q.tdiv A * B - x.tdiv A) := by
    rw [Int.sub_mul, Int.mul_sub, Int.mul_assoc]; omega
  rw [this, Int.add_mul_emod_self_left]
theorem mod_meets (x q A B : Int) : (x % A = q % A * B % A) ↔ (x - q * B) % A = 0 := by
  have h : q % A * B % A = q * B % A := by rw [Int.mul_emod, Int.emod_emod, ← Int.mul_emod]
  rw [h, Int.emod_eq_emod_iff_emod_sub_eq_zero]
/-- Whether a step is one of a valid lattice. -/
def inV (A B C dx dy : Int) : Bool := decide (dy.tmod C = 0) && decide ((dx - dy.tdiv C * B) % A = 0)
def inL (A B C dx dy : Int) : Bool × Int := if chkL A B C = 0 then (inV A B C dx dy, 0) else (false, chkL A B C)
theorem chkL_zero {A B C : Int} (h : chkL A B C = 0) : 1 ≤ A ∧ A ≤ 64 ∧ 1 ≤ C ∧ C ≤ 64 ∧ 0 ≤ B ∧ B < A := by
  unfold chkL at h
  split at h
  · omega
  · omega

theorem inL_bad {A B C dx dy : Int} (h : chkL A B C ≠ 0) : inL A B C dx dy = (false, chkL A B C) := if_neg h
theorem inL_ok {A B C dx dy : Int} (h : chkL A B C = 0) : inL A B C dx dy = (inV A B C dx dy, 0) := if_pos h
theorem tdiv_range {dy C : Int} (hC : 1 ≤ C) (h1 : -9223372036854775808 ≤ dy) (h2 : dy ≤ 9223372036854775807) : -9223372036854775808 ≤ dy.tdiv C ∧ dy.tdiv C ≤ 9223372036854775807 := by
  have h := Int.natAbs_tdiv_le_natAbs dy C
  rcases Int.lt_or_le dy 0 with hn | hn
  · have h3 : 0 ≤ (-dy).tdiv C := Int.tdiv_nonneg (by omega) (by omega)
    rw [Int.neg_tdiv] at h3
    omega
  · have : 0 ≤ dy.tdiv C := Int.tdiv_nonneg hn (by omega)
    omega
end Go.Proofs.YtliibficmdomjaaDoor
