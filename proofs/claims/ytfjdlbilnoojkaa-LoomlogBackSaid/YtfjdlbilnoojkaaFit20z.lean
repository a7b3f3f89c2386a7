/- The law's fit(g). -/
import Derived.Test.YtfjdlbilnoojkaaMg3z
import Derived.Test.YtfjdlbilnoojkaaMg6z
namespace Go.Proofs.Ytfjdlbilnoojkaa
open Go.RowKit

set_option maxHeartbeats 1000000 in
theorem fit20_any (W H : Int) (A : Option Addr) (n c : Nat) (w : World) :
    Calls Try.prog 28 #[.agg #[.int .i64 W, .int .i64 H, .slice A n c]] w fun e w' => e = .returned (.bool (decide (chkP W H n = 0))) ∧ Below w.heap.size w w' := by
  have S0 := (St.start w).box #[.int .i64 W, .int .i64 H, .slice A n c] 25
  simp only [List.nil_append] at S0
  have HG := Lib.hid (fun u => great_any W H A n c u)
  have HC := Lib.hid (fun u => rpcheck_any W H A n c u)
  obtain ⟨c0, c1, c2⟩ := (S0.blk 0 rfl).cell3
  by_cases hg : 4200 < n
  · have hd : decide (4200 < n) = true := decide_eq_true hg
    rw [hd] at HG
    rw [decide_eq_false (show ¬ chkP W H n = 0 from fun h => by
      obtain ⟨a, b, _, _, _, ha, _, hb, hn⟩ := chkP_zero h
      have := Nat.mul_le_mul hb ha
      omega)]
    go_enter Try.func28, Try.ntmps28
    go_wp2_with fail
    refine (HG.out _).mono ?_
    rintro e w1 ⟨rfl, hb1⟩
    go_wp2_with fail
    go_ret
    exact ⟨rfl, (S0.keep hb1).below⟩
  · have hd : decide (4200 < n) = false := decide_eq_false hg
    rw [hd] at HG
    generalize chkP W H n = K at *
    go_enter Try.func28, Try.ntmps28
    go_wp2_with fail
    refine (HG.out _).mono ?_
    rintro e w1 ⟨rfl, hb1⟩
    have S1 := S0.keep hb1
    clear c0 c1 c2
    obtain ⟨c0, c1, c2⟩ := (S1.blk 0 rfl).cell3
    go_wp2_with fail
    refine (HC.out _).mono ?_
    rintro e w2 ⟨rfl, hb2⟩
    by_cases hk : K = 0
    · subst hk
      go_wp2_with fail
      go_ret
      exact ⟨rfl, (S1.keep hb2).below⟩
    · have hkb : (K == 0) = false := by simpa using hk
      go_wp2_with fail
      go_ret
      exact ⟨by rw [decide_eq_false hk]; rfl, (S1.keep hb2).below⟩
end Go.Proofs.Ytfjdlbilnoojkaa
