/- grid.around: the remainder of a step. -/
import Derived.Test.YtebbcpeldncekaaDoorBuildz
import Derived.Test.YtebbcpeldncekaaDoorMvDefz
import Derived.Deep.QuietTactic
import Derived.BigQuiet
namespace Go.Proofs.YtebbcpeldncekaaDoor
open Go.RowKit

theorem around_any (a n : Int) (w : World) (hn : 1 ≤ n) (hn2 : n ≤ 1000000) :
    Calls Tryd.prog 45 #[.int .i64 a, .int .i64 n] w fun e w' => e = .returned (.int .i64 (a % n)) ∧ w' = w := by
  have h1 := Int.tmod_lt_of_pos a (show 0 < n by omega)
  have h2 := Int.lt_tmod_of_pos a (show 0 < n by omega)
  have h3 := Pl.tmod_pos a n (by omega)
  have H3 := Lib.hid h3
  clear h3
  by_cases ht : a.tmod n < 0
  all_goals
    go_enter Tryd.func45, Tryd.ntmps45
    go_wp2
    go_ret
    exact ⟨ret_i (by have := H3.out; first | (rw [if_pos ht] at this; exact this) | (rw [if_neg (by omega)] at this; exact this)), rfl⟩

end Go.Proofs.YtebbcpeldncekaaDoor
