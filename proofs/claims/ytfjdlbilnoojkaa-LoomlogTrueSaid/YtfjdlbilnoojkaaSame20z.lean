/- loomlog.same: whether two lists of picks are equal. -/
import Derived.Test.YtfjdlbilnoojkaaCommonz
namespace Go.Proofs.Ytfjdlbilnoojkaa
open Go.RowKit

theorem ret_s20 {a b : Bool} (h : a = b) : Ending.returned (.bool a) = Ending.returned (.bool b) := by rw [h]
set_option maxHeartbeats 2000000 in
theorem same20_any (a b : List (List Bool)) (A B : Option Addr) (na nb ca cb : Nat) (w : World) (hna : a.length = na) (hnb : b.length = nb) (ha : LRB w A a) (hb : LRB w B b) (hla : ∀ r ∈ a, r.length ≤ 64) (h1 : na ≤ 1000) :
    Calls Try.prog 45 #[.slice A na ca, .slice B nb cb] w fun e w' => e = .returned (.bool (decide (a = b))) ∧ Below w.heap.size w w' := by
  by_cases hn : na = nb
  · subst hn
    have HC := Lib.hid (common_any a b A B na na ca cb w hna hnb ha hb hla h1)
    have HS := Lib.hid (show decide (a = b) = decide (comL a b = na) from decide_eq_decide.2 (by rw [← com_same (hna.trans hnb.symm), hna]))
    have hle := (com_le a b).1
    rw [hna] at hle
    clear hna hnb ha hb hla
    generalize comL a b = k at *
    generalize decide (a = b) = d at *
    go_enter Try.func45, Try.ntmps45
    go_wp2_with fail
    refine HC.out.mono ?_
    rintro e w1 ⟨rfl, m, rfl⟩
    by_cases hk : k = na
    · have hkb : ((k : Int) == (na : Int)) = true := by simp [hk]
      rw [decide_eq_true hk] at HS
      have HS2 := Lib.hid HS.out
      clear hk
      go_wp2_with fail
      go_ret
      exact ⟨ret_s20 HS2.out.symm, below_drewN (Below.refl _ _) m⟩
    · have hkb : ((k : Int) == (na : Int)) = false := by simp; omega
      rw [decide_eq_false hk] at HS
      have HS2 := Lib.hid HS.out
      clear hk
      go_wp2_with fail
      go_ret
      exact ⟨ret_s20 HS2.out.symm, below_drewN (Below.refl _ _) m⟩
  · have hkb : ((na : Int) == (nb : Int)) = false := by simp; omega
    have HS := Lib.hid (show decide (a = b) = false from decide_eq_false (fun e => hn (by rw [← hna, ← hnb, e])))
    go_enter Try.func45, Try.ntmps45
    go_wp2_with fail
    go_ret
    exact ⟨ret_s20 HS.out.symm, Below.refl _ _⟩
end Go.Proofs.Ytfjdlbilnoojkaa
