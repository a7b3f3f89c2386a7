/- The law SatinAsks, walked: it answers true and turns nothing that was there, for any grid. -/
import Derived.Test.YtbgekiifffnalaaSat9
import Derived.Test.YtbgekiifffnalaaLSame
namespace Go.Proofs.Ytbgekiifffnalaa
open Go.RowKit

theorem great9_any (W H : Int) (A : Option Addr) (n c : Nat) (w : World) : Calls Try.prog 10 #[.agg #[.int .i64 W, .int .i64 H, .slice A n c]] w fun e w' => e = .returned (.bool (decide (400 < n))) ∧ Below w.heap.size w w' := by
  have S0 := (St.start w).box #[.int .i64 W, .int .i64 H, .slice A n c] 24
  simp only [List.nil_append] at S0
  obtain ⟨c0, c1, c2⟩ := (S0.blk 0 rfl).cell3
  go_enter Try.func10, Try.ntmps10
  go_wp2_with fail
  go_ret
  exact ⟨ret_b2 (by simp; omega), S0.below⟩
theorem movesG_small (g : Gd) : (movesG g).1.length ≤ 1 := by unfold movesG; split <;> (try split) <;> simp

set_option maxHeartbeats 4000000 in
set_option maxRecDepth 100000 in
theorem asks9_walk (g : Gd) (A : Option Addr) (n c : Nat) (w : World) (hr : Rd w A n (g.bits.map Value.bool)) (hc : n ≤ c) :
    Calls Try.prog 3 #[.agg #[.int .i64 g.w, .int .i64 g.h, .slice A n c]] w fun e w' => e = .returned (.bool true) ∧ Below w.heap.size w w' := by
  have S0 := ((St.start w).addRd hr).box #[.int .i64 g.w, .int .i64 g.h, .slice A n c] 24
  simp only [List.nil_append, List.cons_append] at S0
  have H1 := Lib.hid (fun W h => moves_any g A n c W h hc)
  have H2 := Lib.hid (fun W h => rmoves9_any g A n c W h)
  have H3 := Lib.hid (fun W h => sat_any g A n c W h hc)
  have H4 := Lib.hid (fun W h => rsat_any g A n c W h)
  unfold SatRet at H3 H4
  have hz := movesG_small g
  generalize movesG g = r1 at *
  generalize satG g = r2 at *
  obtain ⟨l1, e1⟩ := r1
  obtain ⟨⟨x2, y2, u2⟩, e2⟩ := r2
  simp only at H3 H4 hz
  by_cases hn : 400 < n
  · have hd : decide (400 < n) = true := by simpa using hn
    obtain ⟨c0, c1, c2⟩ := (S0.blk 1 rfl).cell3
    go_enter Try.func3, Try.ntmps3
    go_wp2_with fail
    refine (great9_any _ _ _ _ _ _).mono ?_
    rintro e w1 ⟨rfl, hb1⟩
    have S1 := S0.keep hb1
    go_wp2_with fail
    go_ret
    exact ⟨rfl, S1.below⟩
  have hd : decide (400 < n) = false := by simpa using hn
  obtain ⟨c00, c01, c02⟩ := (S0.blk 1 rfl).cell3
  go_enter Try.func3, Try.ntmps3
  go_wp2_with fail
  refine (great9_any _ _ _ _ _ _).mono ?_
  rintro e w1 ⟨rfl, hb1⟩
  clear c00 c01 c02
  have S1 := S0.keep hb1
  obtain ⟨c10, c11, c12⟩ := (S1.blk 1 rfl).cell3
  go_wp2_with fail
  refine (H1.out _ (S1.rd 0 rfl)).mono ?_
  rintro e w2 ⟨A2, n2, cc2, rfl, hown2, hb2⟩
  clear c10 c11 c12
  have S2 := (S1.keep hb2).addRd (rd_of_own hown2)
  simp only [List.nil_append, List.cons_append] at S2
  clear S1
  have hz1 : n2 ≤ 1048576 := by have h1 := hown2.1; simp at h1 hz; omega
  obtain ⟨c20, c21, c22⟩ := (S2.blk 1 rfl).cell3
  go_wp2_with fail
  refine (H2.out _ (S2.rd 0 rfl)).mono ?_
  rintro e w3 ⟨A3, n3, cc3, rfl, hown3, hb3⟩
  clear c20 c21 c22
  have S3 := (S2.keep hb3).addRd (rd_of_own hown3)
  simp only [List.nil_append, List.cons_append] at S3
  clear S2
  obtain ⟨c30, c31, c32⟩ := (S3.blk 1 rfl).cell3
  go_wp2_with fail
  refine (H3.out _ (S3.rd 0 rfl)).mono ?_
  rintro e w4 ⟨rfl, hb4⟩
  clear c30 c31 c32
  have S4 := S3.keep hb4
  clear S3
  obtain ⟨c40, c41, c42⟩ := (S4.blk 1 rfl).cell3
  go_wp2_with fail
  refine (H4.out _ (S4.rd 0 rfl)).mono ?_
  rintro e w5 ⟨rfl, hb5⟩
  clear c40 c41 c42
  have S5 := S4.keep hb5
  clear S4
  go_wp2_with fail
  refine (lsame_any l1 _ _ _ _ _ _ _ (S5.rd 2 rfl) (S5.rd 3 rfl) hz1).mono ?_
  rintro e w6 ⟨rfl, hb6⟩
  have S6 := S5.keep hb6
  clear S5
  go_wp2_with fail
  go_ret
  exact ⟨rfl, S6.below⟩
end Go.Proofs.Ytbgekiifffnalaa
