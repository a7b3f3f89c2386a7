/- The law SatinRuns, walked: it answers true and turns nothing that was there, for any row. -/
import Derived.Test.YtbgekiifffnalaaAlive9
import Derived.Test.YtbgekiifffnalaaRunsQ
import Derived.Test.YtbgekiifffnalaaRTw
import Derived.Test.YtbgekiifffnalaaSameTo
namespace Go.Proofs.Ytbgekiifffnalaa
open Go.RowKit

set_option maxHeartbeats 2000000 in
set_option maxRecDepth 100000 in
theorem runs9_walk (l : List Bool) (A : Option Addr) (n c : Nat) (w : World) (hr : Rd w A n (l.map Value.bool)) (hc : n ≤ c) :
    Calls Try.prog 5 #[.slice A n c] w fun e w' => e = .returned (.bool true) ∧ Below w.heap.size w w' := by
  have hl : l.length = n := by simpa using hr.len
  by_cases h70 : 70 < n
  · go_enter Try.func5, Try.ntmps5
    go_wp2_with fail
    refine (alive_any _).mono ?_
    rintro e w1 ⟨rfl, hb1⟩
    go_wp2_with fail
    go_ret
    exact ⟨rfl, hb1⟩
  have HR := Lib.hid (fun W h => runs_any l A n c W h hc)
  have S0 := (St.start w).addRd hr
  simp only [List.nil_append] at S0
  by_cases h64 : 64 < n
  · rw [runsG_many (by omega)] at HR
    clear hr
    go_enter Try.func5, Try.ntmps5
    go_wp2_with fail
    refine (HR.out _ (S0.rd 0 rfl)).mono ?_
    rintro e w1 ⟨A1, n1, cc1, rfl, hown1, hb1⟩
    have S1 := S0.keep hb1
    go_wp2_with fail
    refine (alive_any _).mono ?_
    rintro e w2 ⟨rfl, hb2⟩
    have S2 := S1.keep hb2
    go_wp2_with fail
    go_ret
    exact ⟨rfl, S2.below⟩
  by_cases hbad : l.length < 2 ∨ l.getD 0 false = false ∨ l.getD (l.length - 1) false = true
  · have hd : decide (64 < (n : Int)) = false := by simp; omega
    rw [runsG_bad (by omega) hbad] at HR
    clear hbad hr
    go_enter Try.func5, Try.ntmps5
    go_wp2_with fail
    refine (HR.out _ (S0.rd 0 rfl)).mono ?_
    rintro e w1 ⟨A1, n1, cc1, rfl, hown1, hb1⟩
    have S1 := S0.keep hb1
    go_wp2_with fail
    refine (alive_any _).mono ?_
    rintro e w2 ⟨rfl, hb2⟩
    have S2 := S1.keep hb2
    go_wp2_with fail
    go_ret
    exact ⟨rfl, S2.below⟩
  · have h2 : 2 ≤ l.length := by omega
    have h0 : l.getD 0 false = true := by
      cases h : l.getD 0 false
      · exact absurd (.inr (.inl h)) hbad
      · rfl
    have h1 : l.getD (l.length - 1) false = false := by
      cases h : l.getD (l.length - 1) false
      · rfl
      · exact absurd (.inr (.inr h)) hbad
    have hG := runsG_ok (by omega) h2 h0 h1
    obtain ⟨hv, hrow⟩ := runs_valid (by omega) h2 h0 h1
    have hrl := runsK_le l l.length
    rw [hG] at HR
    clear hbad hG
    generalize runsK l l.length = r at *
    have HT := Lib.hid (fun A' n' c' W h hn => twill_any r 0 A' n' c' W h hn)
    rw [twill_zero hv hrow (by omega), hl] at HT
    have HV := Lib.hid (fun A' n' c' W h hn => valid_any r A' n' c' W h hn)
    rw [hv] at HV
    have HL := Lib.hid hl
    have HRL := Lib.hid hrl
    clear hv hrow h0 h1 h2 hr hl hrl
    go_enter Try.func5, Try.ntmps5
    go_wp2_with fail
    refine (HR.out _ (S0.rd 0 rfl)).mono ?_
    rintro e w1 ⟨A1, n1, cc1, rfl, hown1, hb1⟩
    have hn1 : n1 ≤ 1048576 := by have h1 := hown1.1; have h2 := HRL.out; have h3 := HL.out; simp at h1; omega
    have S1 := (S0.keep hb1).addRd (rd_of_own hown1)
    simp only [List.nil_append, List.cons_append] at S1
    go_wp2_with fail
    refine (HT.out _ _ _ _ (S1.rd 1 rfl) hn1).mono ?_
    rintro e w2 ⟨A2, n2, cc2, rfl, hown2, hb2⟩
    simp only at hown2 ⊢
    have S2 := ((S1.keep hb2).addRd (rd_of_own hown2)).box #[.int .i64 n, .int .i64 1, .slice A2 n2 cc2] 24
    simp only [List.nil_append, List.cons_append] at S2
    go_wp2_with fail
    refine (HV.out _ _ _ _ (S2.rd 1 rfl) hn1).mono ?_
    rintro e w3 ⟨rfl, h3⟩
    have h4 := h3.symm
    subst h4
    clear h3
    obtain ⟨c0, c1, c2⟩ := (S2.blk 3 rfl).cell3
    go_wp2_with fail
    refine (same_to ⟨n, 1, l⟩ ⟨n, 1, l⟩ (sameG_self _) _ _ _ _ _ _ _ (S2.rd 2 rfl) (S2.rd 0 rfl) ?_).mono ?_
    · have h1 := hown2.1; have h2 := HL.out; simp at h1; omega
    rintro e w4 ⟨rfl, hb4⟩
    have S4 := S2.keep hb4
    clear c0 c1 c2
    go_wp2_with fail
    refine (alive_any _).mono ?_
    rintro e w5 ⟨rfl, hb5⟩
    have S5 := S4.keep hb5
    go_wp2_with fail
    go_ret
    exact ⟨rfl, S5.below⟩
end Go.Proofs.Ytbgekiifffnalaa
