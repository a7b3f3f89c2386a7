/- satin.gcd and satin.move. -/
import Derived.Test.YtbgekiifffnalaaDoorChk
import Derived.Test.YtbgekiifffnalaaDoorSt
import Derived.Outline
import Derived.BigQuiet
import Derived.BigRegion
import Derived.IntWalk
namespace Go.Proofs.YtbgekiifffnalaaDoor
open Go.RowKit

/-- A number is a move of another one. -/
def moveB (n m : Int) : Bool := decide (5 ≤ n ∧ n ≤ 64 ∧ 2 ≤ m ∧ m ≤ n - 2) && decide (Nat.gcd n.toNat m.toNat = 1)
theorem moveB_no {n m : Int} (h : n < 5 ∨ 64 < n ∨ m < 2 ∨ n - 2 < m) : moveB n m = false := by
  unfold moveB
  rw [decide_eq_false (by omega)]
  rfl
set_option maxHeartbeats 1000000 in
theorem gcds_any (a b : Nat) (w : World) (hb : b ≤ 1000000) :
    Calls Tryd.prog 30 #[.int .i64 a, .int .i64 b] w fun e w' => e = .returned (.int .i64 (Nat.gcd a b : Nat)) ∧ ∃ m, w' = w.drewN m := by
  obtain ⟨G, hG⟩ : ∃ G, G = Nat.gcd a b := ⟨_, rfl⟩
  rw [← hG]
  have HG := Lib.hid hG
  clear hG
  go_enter Tryd.func30, Tryd.ntmps30
  go_wp2_with fail
  go_loopw [0, 1] (fun u v wr => ∃ (x y m : Nat), u = .int .i64 x ∧ v = .int .i64 y ∧ y ≤ 1000000 ∧ G = Nat.gcd x y ∧ wr = w.drewN m) (fun _ v _ => (intOf v).toNat)
  case atStart => exact ⟨a, b, 0, rfl, rfl, hb, HG.out, rfl⟩
  case round =>
    obtain ⟨x, y, m, rfl, rfl, hy, hg, rfl⟩ := hrel
    have HX := Lib.hid hg
    clear hg
    by_cases h0 : 0 < y
    · have h1 : ¬ (y : Int) = 0 := by omega
      have h2 : ¬ y = 0 := by omega
      have ht : (x : Int).tmod (y : Int) = ((x % y : Nat) : Int) := by rw [Int.tmod_eq_emod_of_nonneg (by omega)]; exact (Int.natCast_emod x y).symm
      have hlt : x % y < y := Nat.mod_lt _ h0
      have HR : Hid (G = Nat.gcd y (x % y)) := Lib.hid (by rw [HX.out, Nat.gcd_comm x y, Nat.gcd_rec y x, Nat.gcd_comm])
      generalize x % y = z at *
      go_wp2_with fail
      go_region
      all_goals
        go_wp2_with fail
        go_roundw
        case rel => exact ⟨y, z, m + 1, rfl, rfl, by omega, HR.out, rfl⟩
        case measure => simp [intOf]; omega
    · obtain rfl : y = 0 := by omega
      have HZ : Hid (G = x) := Lib.hid (by rw [HX.out]; simp)
      go_wp2_with fail
      go_ret
      exact ⟨ret_i (by rw [HZ.out]), m, rfl⟩

set_option maxHeartbeats 1000000 in
theorem move_any (n m : Int) (w : World) : Calls Tryd.prog 16 #[.int .i64 n, .int .i64 m] w fun e w' => e = .returned (.bool (moveB n m)) ∧ Below w.heap.size w w' := by
  by_cases h1 : n < 5
  · have HM := Lib.hid (moveB_no (n := n) (m := m) (by omega))
    go_enter Tryd.func16, Tryd.ntmps16
    go_wp2_with fail
    go_ret
    exact ⟨by rw [HM.out]; rfl, Below.refl _ _⟩
  by_cases h2 : 64 < n
  · have HM := Lib.hid (moveB_no (n := n) (m := m) (by omega))
    go_enter Tryd.func16, Tryd.ntmps16
    go_wp2_with fail
    go_ret
    exact ⟨by rw [HM.out]; rfl, Below.refl _ _⟩
  by_cases h3 : m < 2
  · have HM := Lib.hid (moveB_no (n := n) (m := m) (by omega))
    go_enter Tryd.func16, Tryd.ntmps16
    go_wp2_with fail
    go_ret
    exact ⟨by rw [HM.out]; rfl, Below.refl _ _⟩
  by_cases h4 : n - 2 < m
  · have HM := Lib.hid (moveB_no (n := n) (m := m) (by omega))
    go_enter Tryd.func16, Tryd.ntmps16
    go_wp2_with fail
    go_ret
    exact ⟨by rw [HM.out]; rfl, Below.refl _ _⟩
  obtain ⟨n, rfl⟩ : ∃ k : Nat, n = (k : Int) := ⟨n.toNat, by omega⟩
  obtain ⟨m, rfl⟩ : ∃ k : Nat, m = (k : Int) := ⟨m.toNat, by omega⟩
  obtain ⟨d, hgd⟩ : ∃ d, Nat.gcd n m = d := ⟨_, rfl⟩
  have HG := Lib.hid (fun W => hgd ▸ gcds_any n m W (by omega))
  have hm : moveB (n : Int) (m : Int) = decide (d = 1) := by
    unfold moveB
    simp only [Int.toNat_natCast, hgd]
    rw [decide_eq_true (p := 5 ≤ (n : Int) ∧ (n : Int) ≤ 64 ∧ 2 ≤ (m : Int) ∧ (m : Int) ≤ (n : Int) - 2) (by omega), Bool.true_and]
  clear hgd
  have HM : Hid (moveB (n : Int) (m : Int) = decide (d = 1)) := Lib.hid hm
  clear hm
  go_enter Tryd.func16, Tryd.ntmps16
  go_wp2_with fail
  refine (HG.out _).mono ?_
  rintro e w1 ⟨rfl, k, rfl⟩
  go_wp2_with fail
  go_ret
  exact ⟨by rw [HM.out]; exact congrArg (fun z => Ending.returned (Value.bool z)) (show ((d : Int) == 1) = decide (d = 1) by rw [Bool.eq_iff_iff]; simp; omega), below_drewN (Below.refl _ _) _⟩
end Go.Proofs.YtbgekiifffnalaaDoor
