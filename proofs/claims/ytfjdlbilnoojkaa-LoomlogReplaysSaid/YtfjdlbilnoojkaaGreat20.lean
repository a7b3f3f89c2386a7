/- raddleref20.Great: logs larger than the statements consider. -/
import Derived.Test.YtfjdlbilnoojkaaLog
import Derived.Test.YtfjdlbilnoojkaaSt
import Derived.Test.YtfjdlbilnoojkaaProg
import Derived.KernelRfl
import Derived.Handy
import Derived.Outline
namespace Go.Proofs.Ytfjdlbilnoojkaa
open Go.RowKit

theorem ret_b20 {a b : Bool} (h : a = b) : Ending.returned (.bool a) = Ending.returned (.bool b) := by rw [h]
set_option maxHeartbeats 1600000 in
theorem great20_any (l : List Ev) (A : Option Addr) (n c : Nat) (w : World) (hr : LogR w A n l) (hn : n ≤ maxLen) :
    Calls Try.prog 10 #[.slice A n c] w fun e w' => e = .returned (.bool (greatE l)) ∧ w' = w := by
  have HL := Lib.hid hr.len
  have hn63 : n ≤ 9223372036854775807 := hn
  clear hn
  go_enter Try.func10, Try.ntmps10
  go_wp2_with fail
  go_loopw [3] (fun i wr => ∃ k : Nat, k ≤ n ∧ i = .int .i64 k ∧ (∀ i q r, i < k → l[i]? = some (q, r) → r.length ≤ 50) ∧ wr = w) (fun i _ => n - (intOf i).toNat)
  case atStart => exact ⟨0, Nat.zero_le _, rfl, fun i q r h => absurd h (by omega), rfl⟩
  case round =>
    obtain ⟨k, hk, rfl, heq, rfl⟩ := hrel
    have HE := Lib.hid heq
    clear heq
    by_cases hlt : k < n
    · obtain ⟨b, o, q, r, A', c', hA, hb, hi, c1, c2, hrr⟩ := hr.at_ hlt
      subst hA
      have HI := Lib.hid hi
      clear hi
      by_cases h50 : 50 < r.length
      · have hd : decide (50 < (r.length : Int)) = true := decide_eq_true (by omega)
        go_wp2_with fail
        go_ret
        exact ⟨ret_b20 (greatE_yes HI.out h50).symm, rfl⟩
      · have hd : decide (50 < (r.length : Int)) = false := decide_eq_false (by omega)
        go_wp2_with fail
        go_roundw
        case rel => 
          refine ⟨k + 1, by omega, by go_num, fun i q' r' hi hi' => ?_, by trivial⟩
          by_cases hik : i = k
          · subst hik
            have := HI.out.symm.trans hi'
            injection this with e
            injection e with _ e2
            subst e2
            omega
          · exact HE.out i q' r' (by omega) hi'
        case measure => simp [intOf]; omega
    · have hkk : k = n := by omega
      subst hkk
      have hG := Lib.hid (greatE_rest HL.out HE.out)
      by_cases h60 : 60 < k
      · have d1 : decide (60 < (k : Int)) = true := decide_eq_true (by omega)
        by_cases h400 : k ≤ 400
        · have d2 : decide ((k : Int) ≤ 400) = true := decide_eq_true (by omega)
          have hg := Lib.hid (hG.out.trans (decide_eq_true (by omega)))
          go_wp2_with fail
          go_ret
          exact ⟨ret_b20 hg.out.symm, rfl⟩
        · have d2 : decide ((k : Int) ≤ 400) = false := decide_eq_false (by omega)
          by_cases h410 : 410 < k
          · have d3 : decide (410 < (k : Int)) = true := decide_eq_true (by omega)
            have hg := Lib.hid (hG.out.trans (decide_eq_true (by omega)))
            go_wp2_with fail
            go_ret
            exact ⟨ret_b20 hg.out.symm, rfl⟩
          · have d3 : decide (410 < (k : Int)) = false := decide_eq_false (by omega)
            have hg := Lib.hid (hG.out.trans (decide_eq_false (by omega)))
            go_wp2_with fail
            go_ret
            exact ⟨ret_b20 hg.out.symm, rfl⟩
      · have d1 : decide (60 < (k : Int)) = false := decide_eq_false (by omega)
        have d3 : decide (410 < (k : Int)) = false := decide_eq_false (by omega)
        have hg := Lib.hid (hG.out.trans (decide_eq_false (by omega)))
        go_wp2_with fail
        go_ret
        exact ⟨ret_b20 hg.out.symm, rfl⟩
end Go.Proofs.Ytfjdlbilnoojkaa
