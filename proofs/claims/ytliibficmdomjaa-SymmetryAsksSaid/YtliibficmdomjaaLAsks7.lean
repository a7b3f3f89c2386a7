/- The law SymmetryAsks, walked: it answers true and turns nothing that was there, for any grids and number. -/
import Derived.Test.YtliibficmdomjaaHas
import Derived.Test.YtliibficmdomjaaRHas
import Derived.Test.YtliibficmdomjaaAlls
import Derived.Test.YtliibficmdomjaaLSame
import Derived.BigRegion
namespace Go.Proofs.Ytliibficmdomjaa
open Go.RowKit

set_option maxHeartbeats 4000000 in
set_option maxRecDepth 100000 in
theorem asks7_walk (g g' : Gd) (X : Int) (A A' : Option Addr) (n c n' c' : Nat) (w : World) (hr : Rd w A n (g.bits.map Value.bool)) (hr' : Rd w A' n' (g'.bits.map Value.bool)) (hc : n ≤ c) (hc' : n' ≤ c') :
    Calls Try.prog 5 #[.agg #[.int .i64 g.w, .int .i64 g.h, .slice A n c], .agg #[.int .i64 g'.w, .int .i64 g'.h, .slice A' n' c'], .int .i64 X] w fun e w' => e = .returned (.bool true) ∧ Below w.heap.size w w' := by
  have S0 := ((((St.start w).addRd hr).addRd hr').box #[.int .i64 g.w, .int .i64 g.h, .slice A n c] 24).box #[.int .i64 g'.w, .int .i64 g'.h, .slice A' n' c'] 24
  simp only [size_alloc1, List.nil_append, List.cons_append] at S0
  have H1 := Lib.hid (fun W h => has_any g X A n c W h hc)
  have H2 := Lib.hid (fun W h => rhas_any g X A n c W h)
  have H3 := Lib.hid (fun W h => all_any g A n c W h hc)
  have H4 := Lib.hid (fun W h => rall_any g A n c W h)
  have H5 := Lib.hid (fun W h h' => alikes_any g g' A A' n c n' c' W h h' hc')
  have H6 := Lib.hid (fun W h h' => ralikes_any g g' A A' n c n' c' W h h')
  clear hr hr' hc hc'
  obtain ⟨c00, c01, c02⟩ := (S0.blk 2 rfl).cell3
  go_enter Try.func5, Try.ntmps5
  go_wp2_with fail
  refine (great7_any _ _ _ _ _ _).mono ?_
  rintro e w1 ⟨r, rfl, _, hb1⟩
  clear c00 c01 c02
  have S1 := S0.keep hb1
  clear S0
  cases r with
  | true =>
    go_wp2_with fail
    go_ret
    exact ⟨rfl, S1.below⟩
  | false =>
  obtain ⟨c10, c11, c12⟩ := (S1.blk 3 rfl).cell3
  go_wp2_with fail
  refine (great7_any _ _ _ _ _ _).mono ?_
  rintro e w2 ⟨r, rfl, _, hb2⟩
  clear c10 c11 c12
  have S2 := S1.keep hb2
  clear S1
  cases r with
  | true =>
    go_wp2_with fail
    go_ret
    exact ⟨rfl, S2.below⟩
  | false =>
  obtain ⟨c20, c21, c22⟩ := (S2.blk 2 rfl).cell3
  go_wp2_with fail
  refine (H1.out _ (S2.rd 0 rfl)).mono ?_
  rintro e w3 ⟨⟨⟨hv, px, py⟩, pe⟩, hR, rfl, hb3⟩
  clear c20 c21 c22
  have S3 := (S2.keep hb3).box #[.int .i64 px, .int .i64 py] 45
  simp only [List.nil_append, List.cons_append] at S3
  clear S2
  obtain ⟨c30, c31, c32⟩ := (S3.blk 2 rfl).cell3
  go_wp2_with fail
  refine (H2.out _ (S3.rd 0 rfl)).mono ?_
  rintro e w4 ⟨r', hR', rfl, hb4⟩
  clear c30 c31 c32
  have hu := hR'.unique hR
  subst hu
  clear hR hR'
  have S4 := (S3.keep hb4).box #[.int .i64 px, .int .i64 py] 45
  simp only [List.nil_append, List.cons_append] at S4
  clear S3
  obtain ⟨c40, c41, c42⟩ := (S4.blk 2 rfl).cell3
  go_wp2_with fail
  refine (H3.out _ (S4.rd 0 rfl)).mono ?_
  rintro e w5 ⟨⟨l1, e1⟩, hQ, A5, n5, cc5, rfl, hown5, hb5⟩
  clear c40 c41 c42
  have hz1 : n5 ≤ 1048576 := by have h1 := hown5.1; have h2 := allR_small hQ; simp at h1 h2; omega
  have S5 := (S4.keep hb5).addRd (rd_of_own hown5)
  simp only [List.nil_append, List.cons_append] at S5
  clear S4
  obtain ⟨c50, c51, c52⟩ := (S5.blk 2 rfl).cell3
  go_wp2_with fail
  refine (H4.out _ (S5.rd 0 rfl)).mono ?_
  rintro e w6 ⟨r', hQ', A6, n6, cc6, rfl, hown6, hb6⟩
  clear c50 c51 c52
  have hu := hQ'.unique hQ
  subst hu
  clear hQ hQ'
  have S6 := (S5.keep hb6).addRd (rd_of_own hown6)
  simp only [List.nil_append, List.cons_append] at S6
  clear S5
  obtain ⟨c60, c61, c62⟩ := (S6.blk 2 rfl).cell3
  obtain ⟨c70, c71, c72⟩ := (S6.blk 3 rfl).cell3
  go_wp2_with fail
  refine (H5.out _ (S6.rd 0 rfl) (S6.rd 1 rfl)).mono ?_
  rintro e w7 ⟨⟨l2, e2⟩, hT, A7, n7, cc7, rfl, hown7, hb7⟩
  clear c60 c61 c62 c70 c71 c72
  have hz2 : n7 ≤ 1048576 := by have h1 := hown7.1; have h2 := alikeR_small hT; simp at h1 h2; omega
  have S7 := (S6.keep hb7).addRd (rd_of_own hown7)
  simp only [List.nil_append, List.cons_append] at S7
  clear S6
  obtain ⟨c80, c81, c82⟩ := (S7.blk 2 rfl).cell3
  obtain ⟨c90, c91, c92⟩ := (S7.blk 3 rfl).cell3
  go_wp2_with fail
  refine (H6.out _ (S7.rd 0 rfl) (S7.rd 1 rfl)).mono ?_
  rintro e w8 ⟨r', hT', A8, n8, cc8, rfl, hown8, hb8⟩
  clear c80 c81 c82 c90 c91 c92
  have hu := hT'.unique hT
  subst hu
  clear hT hT'
  have S8 := (S7.keep hb8).addRd (rd_of_own hown8)
  simp only [List.nil_append, List.cons_append] at S8
  clear S7
  obtain ⟨c100, c101⟩ := (S8.blk 4 rfl).cellP
  obtain ⟨c110, c111⟩ := (S8.blk 5 rfl).cellP
  go_wp2_with fail
  refine (lsame_any l1 _ _ _ _ _ _ _ (S8.rd 6 rfl) (S8.rd 7 rfl) hz1).mono ?_
  rintro e w9 ⟨rfl, hb9⟩
  clear c100 c101 c110 c111
  have S9 := S8.keep hb9
  clear S8
  go_wp2_with fail
  refine (lsame_any l2 _ _ _ _ _ _ _ (S9.rd 8 rfl) (S9.rd 9 rfl) hz2).mono ?_
  rintro e w10 ⟨rfl, hb10⟩
  have S10 := S9.keep hb10
  clear S9
  go_wp2_with fail
  go_ret
  exact ⟨rfl, S10.below⟩
end Go.Proofs.Ytliibficmdomjaa
