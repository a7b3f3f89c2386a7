/- grid.Check gives the error 'chk', for any grid. -/
import Derived.Test.YtfjdlbilnoojkaaProg
import Derived.Test.YtfjdlbilnoojkaaGd
import Derived.KernelRfl
namespace Go.Proofs.Ytfjdlbilnoojkaa
open Go.RowKit

theorem ret_i {k : IntKind} {a b : Int} (h : a = b) : Ending.returned (.int k a) = Ending.returned (.int k b) := by rw [h]

theorem check_any (W H : Int) (A : Option Addr) (n c : Nat) (w : World) :
    Calls Try.prog 50 #[.agg #[.int .i64 W, .int .i64 H, .slice A n c]] w fun e w' => e = .returned (.int .i64 (chk W H n)) ∧ Below w.heap.size w w' := by
  by_cases hb : 64 < W ∨ 64 < H
  · go_enter Try.func50, Try.ntmps50
    go_wp2
    all_goals (go_ret; exact ⟨ret_i (chk_big hb).symm, (Below.refl _ _).alloc (Nat.le_refl _) _⟩)
  by_cases hs : W < 1 ∨ H < 1
  · have hW : W ≤ 64 := by omega
    have hH : H ≤ 64 := by omega
    go_enter Try.func50, Try.ntmps50
    go_wp2
    all_goals (go_ret; exact ⟨ret_i (chk_bad hW hH (by omega)).symm, (Below.refl _ _).alloc (Nat.le_refl _) _⟩)
  have hW : W ≤ 64 := by omega
  have hH : H ≤ 64 := by omega
  have hW1 : 1 ≤ W := by omega
  have hH1 : 1 ≤ H := by omega
  have hm := mul_wrap hW hH hW1 hH1
  by_cases hl : (n : Int) = W * H
  · have hl' : ((n : Int) != wrap64 (W * H)) = false := by rw [hm, bne_eq_false_iff_eq]; exact hl
    have HL := Lib.hid hl; clear hl
    have HM := Lib.hid hm; clear hm
    go_enter Try.func50, Try.ntmps50
    go_wp2
    all_goals (go_ret; exact ⟨ret_i (chk_ok hW hH hW1 hH1 HL.out).symm, (Below.refl _ _).alloc (Nat.le_refl _) _⟩)
  · have hl' : ((n : Int) != wrap64 (W * H)) = true := by rw [hm, bne_iff_ne]; exact hl
    have HL := Lib.hid hl; clear hl
    have HM := Lib.hid hm; clear hm
    go_enter Try.func50, Try.ntmps50
    go_wp2
    all_goals (go_ret; exact ⟨ret_i (chk_bad hW hH (.inr (.inr HL.out))).symm, (Below.refl _ _).alloc (Nat.le_refl _) _⟩)
end Go.Proofs.Ytfjdlbilnoojkaa
