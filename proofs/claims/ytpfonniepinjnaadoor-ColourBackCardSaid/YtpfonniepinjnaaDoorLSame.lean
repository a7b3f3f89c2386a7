/- raddleref02.Same of two lists that read the same. -/
import Derived.Test.YtpfonniepinjnaaDoorSt
import Derived.Test.YtpfonniepinjnaaDoorChk
import Derived.BigQuiet
import Derived.Outline
namespace Go.Proofs.YtpfonniepinjnaaDoor
open Go.RowKit

set_option maxHeartbeats 1000000 in
theorem lsame_any (xs : List Int) (A A' : Option Addr) (n n' c c' : Nat) (w : World) (hr : Rd w A n (xs.map (Value.int .i64))) (hr' : Rd w A' n' (xs.map (Value.int .i64))) (hn : n ≤ 1048576) :
    Calls Tryd.prog 15 #[.slice A n c, .slice A' n' c'] w fun e w' => e = .returned (.bool true) ∧ Below w.heap.size w w' := by
  have e1 := hr.len
  have e2 := hr'.len
  obtain rfl : n' = n := by omega
  clear e2
  have HN := Lib.hid e1
  clear e1
  go_enter Tryd.func15, Tryd.ntmps15
  go_wp2_with fail
  go_loopw [5] (fun i wr => ∃ x : Nat, x ≤ n' ∧ i = .int .i64 x ∧ Below w.heap.size w wr) (fun i _ => n' - (intOf i).toNat)
  case atStart => exact ⟨0, Nat.zero_le _, rfl, Below.refl _ _⟩
  case round =>
    obtain ⟨x, hx, rfl, hb⟩ := hrel
    by_cases hlt : x < n'
    · obtain ⟨b, o, hA, _, hc⟩ := (hr.below hb).at_ (by omega)
      obtain ⟨b', o', hA', _, hc'⟩ := (hr'.below hb).at_ (by omega)
      have hl : xs.length = n' := by have := HN.out; simpa using this
      have g0 := hc x (.int .i64 (xs.getD x 0)) (by rw [List.getElem?_map, List.getElem?_eq_getElem (by omega)]; simp [List.getD, show x < xs.length by omega])
      have g1 := hc' x (.int .i64 (xs.getD x 0)) (by rw [List.getElem?_map, List.getElem?_eq_getElem (by omega)]; simp [List.getD, show x < xs.length by omega])
      generalize xs.getD x 0 = z at *
      clear hc hc' hr hr' hl
      rw [hA, hA']
      clear hA hA'
      go_wp2_with fail
      go_quiet (fail)
      go_wp2_with fail
      go_roundw
      case rel => exact ⟨x + 1, by omega, by go_num, below_drewN hb _⟩
      case measure => simp [intOf]; omega
    · go_wp2_with fail
      go_ret
      exact ⟨rfl, hb⟩
end Go.Proofs.YtpfonniepinjnaaDoor
