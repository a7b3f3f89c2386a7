/- raddleref01.Mod gives the remainder from 0 on (a divisor of at least 1). -/
import Derived.Test.YtbgekiifffnalaaChk
import Derived.Lib.Hide
namespace Go.Proofs.Ytbgekiifffnalaa
open Go.RowKit

theorem mod_any (a n : Int) (w : World) (hn : 1 ≤ n) (hn2 : n ≤ 1000000) :
    Calls Try.prog 31 #[.int .i64 a, .int .i64 n] w fun e w' => e = .returned (.int .i64 (a % n)) ∧ w' = w := by
  have h1 := Int.tmod_lt_of_pos a (show 0 < n by omega)
  have h2 := Int.lt_tmod_of_pos a (show 0 < n by omega)
  have h3 := Pl.mod2 a n (by omega)
  have H3 := Lib.hid h3
  clear h3
  go_enter Try.func31, Try.ntmps31
  go_wp2
  go_ret
  exact ⟨ret_i (by have := H3.out; rw [Int.tmod_eq_emod_of_nonneg (by omega)] at this; exact this), rfl⟩

end Go.Proofs.Ytbgekiifffnalaa
