/- grid.both gives the error 'bothG', for any two grids. -/
import Derived.Test.YtebbcpeldncekaaDoorChkz
import Derived.Deep.DeepMust
namespace Go.Proofs.YtebbcpeldncekaaDoor
open Go.RowKit

theorem both_any (g g2 : Gd) (A A2 : Option Addr) (n c n2 c2 : Nat) (w : World) (hn : g.bits.length = n) (hn2 : g2.bits.length = n2) :
    Calls Tryd.prog 49 #[.agg #[.int .i64 g.w, .int .i64 g.h, .slice A n c], .agg #[.int .i64 g2.w, .int .i64 g2.h, .slice A2 n2 c2]] w fun e w' =>
      e = .returned (.int .i64 (bothG g g2)) ∧ Below w.heap.size w w' := by
  obtain ⟨W, H, bs⟩ := g
  obtain ⟨W2, H2, bs2⟩ := g2
  simp only at hn hn2 ⊢
  have HB : ∀ r : Int, bothG ⟨W, H, bs⟩ ⟨W2, H2, bs2⟩ = (if chk W H n ≠ 0 then chk W H n else if chk W2 H2 n2 ≠ 0 then chk W2 H2 n2 else if W ≠ W2 ∨ H ≠ H2 then 2 else 0) := by
    intro _; unfold bothG chkG; simp only [hn, hn2]
  have HB' := Lib.hid (HB 0)
  clear hn hn2 HB
  have hA0 := (Blk.new w 24 #[.int .i64 W, .int .i64 H, .slice A n c]).alloc (.cells #[.int .i64 W2, .int .i64 H2, .slice A2 n2 c2] 24)
  have hA1 : Blk ((w.alloc (.cells #[.int .i64 W, .int .i64 H, .slice A n c] 24)).alloc (.cells #[.int .i64 W2, .int .i64 H2, .slice A2 n2 c2] 24)) (w.heap.size + 1) 24 #[.int .i64 W2, .int .i64 H2, .slice A2 n2 c2] := by simpa using Blk.new (w.alloc (.cells #[.int .i64 W, .int .i64 H, .slice A n c] 24)) _ _
  have hB0 := Joins.below_alloc2 w (.cells #[.int .i64 W, .int .i64 H, .slice A n c] 24) (.cells #[.int .i64 W2, .int .i64 H2, .slice A2 n2 c2] 24)
  rcases Bool.eq_false_or_eq_true (chk W H n != 0) with k1 | k1 <;> rcases Bool.eq_false_or_eq_true (chk W2 H2 n2 != 0) with k2 | k2 <;> rcases Bool.eq_false_or_eq_true (W != W2) with k3 | k3 <;> rcases Bool.eq_false_or_eq_true (H != H2) with k4 | k4
  all_goals
    go_enter Tryd.func49, Tryd.ntmps49
    go_wp2_with (go_at_call 16; go_must (refine (check_any _ _ _ _ _ _).mono ?_; rintro e w' ⟨rfl, hb⟩; have hx := Blk.keep (g := w.heap.size) (by assumption) hb; have hy := Blk.keep (g := w.heap.size + 1) (by assumption) hb; have hz := below_then (w := w) (by assumption) hb; obtain ⟨_, _, _⟩ := hx.cell3; obtain ⟨_, _, _⟩ := hy.cell3))
    go_ret
    refine ⟨ret_i ?_, by assumption⟩
    rw [HB'.out]
    simp at k1 k2 k3 k4
    clear HB' hA0 hA1 hB0
    repeat' split
    all_goals omega
end Go.Proofs.YtebbcpeldncekaaDoor
