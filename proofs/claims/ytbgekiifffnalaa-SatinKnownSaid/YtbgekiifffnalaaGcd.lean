/- raddleref06.Gcd. -/
import Derived.Test.YtbgekiifffnalaaChk
import Derived.Test.YtbgekiifffnalaaSt
import Derived.Outline
import Derived.BigQuiet
import Derived.BigRegion
import Derived.IntWalk
namespace Go.Proofs.Ytbgekiifffnalaa
open Go.RowKit

set_option maxHeartbeats 1000000 in
theorem gcd_any (a b : Nat) (w : World) (hb : b ≤ 1000000) :
    Calls Try.prog 48 #[.int .i64 a, .int .i64 b] w fun e w' => e = .returned (.int .i64 (Nat.gcd a b : Nat)) ∧ ∃ m, w' = w.drewN m := by
  obtain ⟨G, hG⟩ : ∃ G, G = Nat.gcd a b := ⟨_, rfl⟩
  rw [← hG]
  have HG := Lib.hid hG
  clear hG
  go_enter Try.func48, Try.ntmps48
  go_wp2_with fail
  go_loopw [0, 1] (fun u v wr => ∃ (x y m : Nat), u = .int .i64 x ∧ v = .int .i64 y ∧ y ≤ 1000000 ∧ G = Nat.gcd x y ∧ wr = w.drewN m) (fun _ v _ => (intOf v).toNat)
  case atStart => exact ⟨a, b, 0, rfl, rfl, hb, HG.out, rfl⟩
  case round =>
    obtain ⟨x, y, m, rfl, rfl, hy, hg, rfl⟩ := hrel
    have HX := Lib.hid hg
    clear hg
    by_cases h0 : 0 < y
    · have h1 : ¬ (y : Int) = 0 := by omega
      have h2 : ¬ y = 0 := by omega
      have ht : (x : Int).tmod (y : Int) = ((x % y : Nat) : Int) := by rw [Int.tmod_eq_emod_of_nonneg (by omega)]; exact (Int.natCast_emod x y).symm
      have hlt : x % y < y := Nat.mod_lt _ h0
      have HR : Hid (G = Nat.gcd y (x % y)) := Lib.hid (by rw [HX.out, Nat.gcd_comm x y, Nat.gcd_rec y x, Nat.gcd_comm])
      generalize x % y = z at *
      go_wp2_with fail
      go_region
      all_goals
        go_wp2_with fail
        go_roundw
        case rel => exact ⟨y, z, m + 1, rfl, rfl, by omega, HR.out, rfl⟩
        case measure => simp [intOf]; omega
    · obtain rfl : y = 0 := by omega
      have HZ : Hid (G = x) := Lib.hid (by rw [HX.out]; simp)
      go_wp2_with fail
      go_ret
      exact ⟨ret_i (by rw [HZ.out]), m, rfl⟩
end Go.Proofs.Ytbgekiifffnalaa
