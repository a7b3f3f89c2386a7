/- symmetry.applied: a valid grid with an operation applied. -/
import Derived.Test.YtliibficmdomjaaAppNoA
import Derived.Test.YtliibficmdomjaaAppNoB
import Derived.Test.YtliibficmdomjaaAppYesA
import Derived.Test.YtliibficmdomjaaAppYesB
namespace Go.Proofs.Ytliibficmdomjaa
open Go.RowKit

theorem applied_any (a b op bl o c : Nat) (bs : List Bool) (w : World) (ha1 : 1 ≤ a) (hb1 : 1 ≤ b) (ha : a ≤ 64) (hb : b ≤ 64) (ho : op < 16) (hr : Rd w (some ⟨bl, o, none⟩) (b * a) (bs.map Value.bool)) :
    Calls Try.prog 27 #[.agg #[.int .i64 a, .int .i64 b, .slice (some ⟨bl, o, none⟩) (b * a) c], .int .i64 op] w (RetT (appG a b bs op) w) := by
  unfold appG appB
  rcases Bool.eq_false_or_eq_true (op.testBit 2) with h4 | h4 <;> rcases Bool.eq_false_or_eq_true (op.testBit 0) with h1 | h1 <;> rcases Bool.eq_false_or_eq_true (op.testBit 1) with h2 | h2 <;> rw [h4, h1, h2]
  · exact applied_ttt a b op bl o c bs w ha1 hb1 ha hb ho _ h1 h2 h4 rfl hr
  · exact applied_ttf a b op bl o c bs w ha1 hb1 ha hb ho _ h1 h2 h4 rfl hr
  · exact applied_tft a b op bl o c bs w ha1 hb1 ha hb ho _ h1 h2 h4 rfl hr
  · exact applied_tff a b op bl o c bs w ha1 hb1 ha hb ho _ h1 h2 h4 rfl hr
  · exact applied_ftt a b op bl o c bs w ha1 hb1 ha hb ho _ h1 h2 h4 rfl hr
  · exact applied_ftf a b op bl o c bs w ha1 hb1 ha hb ho _ h1 h2 h4 rfl hr
  · exact applied_fft a b op bl o c bs w ha1 hb1 ha hb ho _ h1 h2 h4 rfl hr
  · exact applied_fff a b op bl o c bs w ha1 hb1 ha hb ho _ h1 h2 h4 rfl hr
end Go.Proofs.Ytliibficmdomjaa
