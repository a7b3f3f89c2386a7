/- grid.Same compares two grids. -/
import Derived.Test.YtebbcpeldncekaaDoorRSamez
import Derived.Test.YtebbcpeldncekaaDoorEqsz
namespace Go.Proofs.YtebbcpeldncekaaDoor
open Go.RowKit

set_option maxHeartbeats 1000000 in
theorem gsame_any (g g2 : Gd) (A A2 : Option Addr) (n c n2 c2 : Nat) (w : World) (hr : Rd w A n (g.bits.map Value.bool)) (hr2 : Rd w A2 n2 (g2.bits.map Value.bool)) (hn : n ≤ 1048576) :
    Calls Tryd.prog 18 #[.agg #[.int .i64 g.w, .int .i64 g.h, .slice A n c], .agg #[.int .i64 g2.w, .int .i64 g2.h, .slice A2 n2 c2]] w fun e w' => e = .returned (.bool (sameG g g2)) ∧ Below w.heap.size w w' := by
  obtain ⟨W, H, bs⟩ := g
  obtain ⟨W2, H2, bs2⟩ := g2
  simp only at hr hr2 ⊢
  have HE := Lib.hid (fun wz (h : Rd wz A n (bs.map Value.bool)) (h2 : Rd wz A2 n2 (bs2.map Value.bool)) => eqs_any bs bs2 A A2 n c n2 c2 wz h h2 hn)
  have S0 := ((((St.start w).addRd hr).addRd hr2).box #[.int .i64 W, .int .i64 H, .slice A n c] 24).box #[.int .i64 W2, .int .i64 H2, .slice A2 n2 c2] 24
  simp only [size_alloc1, List.nil_append, List.cons_append] at S0
  obtain ⟨c0, c1, c2⟩ := (S0.blk 2 rfl).cell3
  obtain ⟨d0, d1, d2⟩ := (S0.blk 3 rfl).cell3
  clear hr hr2
  by_cases h1 : W = W2
  · subst h1
    by_cases h2 : H = H2
    · subst h2
      have HD := Lib.hid (show sameG ⟨W, H, bs⟩ ⟨W, H, bs2⟩ = decide (bs = bs2) from decide_eq_decide.2 ⟨fun h => h.2.2, fun h => ⟨rfl, rfl, h⟩⟩)
      generalize decide (bs = bs2) = q at *
      go_enter Tryd.func18, Tryd.ntmps18
      go_wp2_with fail
      refine (HE.out _ (S0.rd 0 rfl) (S0.rd 1 rfl)).mono ?_
      rintro e w1 ⟨rfl, m, rfl⟩
      go_wp2_with fail
      go_ret
      exact ⟨ret_b HD.out.symm, below_drewN S0.below _⟩
    · have HD := Lib.hid (show sameG ⟨W, H, bs⟩ ⟨W, H2, bs2⟩ = false from decide_eq_false (fun h => h2 h.2.1))
      have k1 : (H == H2) = false := by simpa using h2
      go_enter Tryd.func18, Tryd.ntmps18
      go_wp2_with fail
      go_ret
      exact ⟨ret_b HD.out.symm, S0.below⟩
  · have HD := Lib.hid (show sameG ⟨W, H, bs⟩ ⟨W2, H2, bs2⟩ = false from decide_eq_false (fun h => h1 h.1))
    have k1 : (W == W2) = false := by simpa using h1
    go_enter Tryd.func18, Tryd.ntmps18
    go_wp2_with fail
    go_ret
    exact ⟨ret_b HD.out.symm, S0.below⟩
end Go.Proofs.YtebbcpeldncekaaDoor
