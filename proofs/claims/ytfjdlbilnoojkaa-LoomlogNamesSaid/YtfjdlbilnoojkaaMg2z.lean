/- Parts of the proof, in their order. -/
import Derived.Test.YtfjdlbilnoojkaaProg
import Derived.Test.YtfjdlbilnoojkaaGdz
import Derived.KernelRfl
import Derived.Test.YtfjdlbilnoojkaaStz
/- grid.Check gives the error 'chk', for any grid. -/
namespace Go.Proofs.Ytfjdlbilnoojkaa
open Go.RowKit

theorem ret_i {k : IntKind} {a b : Int} (h : a = b) : Ending.returned (.int k a) = Ending.returned (.int k b) := by rw [h]

theorem check_any (W H : Int) (A : Option Addr) (n c : Nat) (w : World) :
    Calls Try.prog 50 #[.agg #[.int .i64 W, .int .i64 H, .slice A n c]] w fun e w' => e = .returned (.int .i64 (chk W H n)) ∧ Below w.heap.size w w' := by
  by_cases hb : 64 < W ∨ 64 < H
  · go_enter Try.func50, Try.ntmps50
    go_wp2
    all_goals (go_ret; exact ⟨ret_i (chk_big hb).symm, (Below.refl _ _).alloc (Nat.le_refl _) _⟩)
  by_cases hs : W < 1 ∨ H < 1
  · have hW : W ≤ 64 := by omega
    have hH : H ≤ 64 := by omega
    go_enter Try.func50, Try.ntmps50
    go_wp2
    all_goals (go_ret; exact ⟨ret_i (chk_bad hW hH (by omega)).symm, (Below.refl _ _).alloc (Nat.le_refl _) _⟩)
  have hW : W ≤ 64 := by omega
  have hH : H ≤ 64 := by omega
  have hW1 : 1 ≤ W := by omega
  have hH1 : 1 ≤ H := by omega
  have hm := mul_wrap hW hH hW1 hH1
  by_cases hl : (n : Int) = W * H
  · have hl' : ((n : Int) != wrap64 (W * H)) = false := by rw [hm, bne_eq_false_iff_eq]; exact hl
    have HL := Lib.hid hl; clear hl
    have HM := Lib.hid hm; clear hm
    go_enter Try.func50, Try.ntmps50
    go_wp2
    all_goals (go_ret; exact ⟨ret_i (chk_ok hW hH hW1 hH1 HL.out).symm, (Below.refl _ _).alloc (Nat.le_refl _) _⟩)
  · have hl' : ((n : Int) != wrap64 (W * H)) = true := by rw [hm, bne_iff_ne]; exact hl
    have HL := Lib.hid hl; clear hl
    have HM := Lib.hid hm; clear hm
    go_enter Try.func50, Try.ntmps50
    go_wp2
    all_goals (go_ret; exact ⟨ret_i (chk_bad hW hH (.inr (.inr HL.out))).symm, (Below.refl _ _).alloc (Nat.le_refl _) _⟩)
end Go.Proofs.Ytfjdlbilnoojkaa
/- The reference's Check of layer 1 gives the error 'chk', for any grid. -/
namespace Go.Proofs.Ytfjdlbilnoojkaa
open Go.RowKit

theorem rcheck_any (W H : Int) (A : Option Addr) (n c : Nat) (w : World) :
    Calls Try.prog 53 #[.agg #[.int .i64 W, .int .i64 H, .slice A n c]] w fun e w' => e = .returned (.int .i64 (chk W H n)) ∧ Below w.heap.size w w' := by
  by_cases hb : 64 < W ∨ 64 < H
  · go_enter Try.func53, Try.ntmps53
    go_wp2
    all_goals (go_ret; exact ⟨ret_i (chk_big hb).symm, (Below.refl _ _).alloc (Nat.le_refl _) _⟩)
  by_cases hs : W < 1 ∨ H < 1
  · have hW : W ≤ 64 := by omega
    have hH : H ≤ 64 := by omega
    go_enter Try.func53, Try.ntmps53
    go_wp2
    all_goals (go_ret; exact ⟨ret_i (chk_bad hW hH (by omega)).symm, (Below.refl _ _).alloc (Nat.le_refl _) _⟩)
  have hW : W ≤ 64 := by omega
  have hH : H ≤ 64 := by omega
  have hW1 : 1 ≤ W := by omega
  have hH1 : 1 ≤ H := by omega
  have hm := mul_wrap hW hH hW1 hH1
  by_cases hl : (n : Int) = W * H
  · have hl' : ((n : Int) != wrap64 (W * H)) = false := by rw [hm, bne_eq_false_iff_eq]; exact hl
    have HL := Lib.hid hl; clear hl
    have HM := Lib.hid hm; clear hm
    go_enter Try.func53, Try.ntmps53
    go_wp2
    all_goals (go_ret; exact ⟨ret_i (chk_ok hW hH hW1 hH1 HL.out).symm, (Below.refl _ _).alloc (Nat.le_refl _) _⟩)
  · have hl' : ((n : Int) != wrap64 (W * H)) = true := by rw [hm, bne_iff_ne]; exact hl
    have HL := Lib.hid hl; clear hl
    have HM := Lib.hid hm; clear hm
    go_enter Try.func53, Try.ntmps53
    go_wp2
    all_goals (go_ret; exact ⟨ret_i (chk_bad hW hH (.inr (.inr HL.out))).symm, (Below.refl _ _).alloc (Nat.le_refl _) _⟩)
end Go.Proofs.Ytfjdlbilnoojkaa
/- peg.Check and raddleref18.Check: lifts of at most 40 shafts. -/
namespace Go.Proofs.Ytfjdlbilnoojkaa
open Go.RowKit

/-- The error of lifts. -/
def chkP (W H : Int) (n : Nat) : Int := if chk W H n ≠ 0 then chk W H n else if 40 < W then 8 else 0
set_option maxHeartbeats 1000000 in
theorem pcheck_any (W H : Int) (A : Option Addr) (n c : Nat) (w : World) :
    Calls Try.prog 39 #[.agg #[.int .i64 W, .int .i64 H, .slice A n c]] w fun e w' => e = .returned (.int .i64 (chkP W H n)) ∧ Below w.heap.size w w' := by
  have S0 := (St.start w).box #[.int .i64 W, .int .i64 H, .slice A n c] 25
  simp only [List.nil_append] at S0
  have HC := Lib.hid (fun w => check_any W H A n c w)
  have hP := Lib.hid (show chkP W H n = if chk W H n ≠ 0 then chk W H n else if 40 < W then 8 else 0 from rfl)
  generalize chkP W H n = r at *
  generalize chk W H n = k at *
  obtain ⟨c0, c1, c2⟩ := (S0.blk 0 rfl).cell3
  by_cases hk : k = 0
  · have hkb : (k != 0) = false := by simpa using hk
    go_enter Try.func39, Try.ntmps39
    go_wp2_with fail
    refine (HC.out _).mono ?_
    rintro e w1 ⟨rfl, hb1⟩
    have S1 := S0.keep hb1
    clear c0 c1 c2
    obtain ⟨c0, c1, c2⟩ := (S1.blk 0 rfl).cell3
    by_cases h40 : 40 < W
    · have hd : decide (40 < W) = true := decide_eq_true h40
      have hr : r = 8 := by rw [hP.out, if_neg (by simpa using hk), if_pos h40]
      subst hr
      go_wp2_with fail
      go_ret
      exact ⟨rfl, S1.below⟩
    · have hd : decide (40 < W) = false := decide_eq_false h40
      have hr : r = 0 := by rw [hP.out, if_neg (by simpa using hk), if_neg h40]
      subst hr
      go_wp2_with fail
      go_ret
      exact ⟨rfl, S1.below⟩
  · have hkb : (k != 0) = true := by simpa using hk
    have hr : r = k := by rw [hP.out, if_pos hk]
    subst hr
    go_enter Try.func39, Try.ntmps39
    go_wp2_with fail
    refine (HC.out _).mono ?_
    rintro e w1 ⟨rfl, hb1⟩
    go_wp2_with fail
    go_ret
    exact ⟨rfl, (S0.keep hb1).below⟩
set_option maxHeartbeats 1000000 in
theorem rpcheck_any (W H : Int) (A : Option Addr) (n c : Nat) (w : World) :
    Calls Try.prog 41 #[.agg #[.int .i64 W, .int .i64 H, .slice A n c]] w fun e w' => e = .returned (.int .i64 (chkP W H n)) ∧ Below w.heap.size w w' := by
  have S0 := (St.start w).box #[.int .i64 W, .int .i64 H, .slice A n c] 25
  simp only [List.nil_append] at S0
  have HC := Lib.hid (fun w => rcheck_any W H A n c w)
  have hP := Lib.hid (show chkP W H n = if chk W H n ≠ 0 then chk W H n else if 40 < W then 8 else 0 from rfl)
  generalize chkP W H n = r at *
  generalize chk W H n = k at *
  obtain ⟨c0, c1, c2⟩ := (S0.blk 0 rfl).cell3
  by_cases hk : k = 0
  · have hkb : (k != 0) = false := by simpa using hk
    go_enter Try.func41, Try.ntmps41
    go_wp2_with fail
    refine (HC.out _).mono ?_
    rintro e w1 ⟨rfl, hb1⟩
    have S1 := S0.keep hb1
    clear c0 c1 c2
    obtain ⟨c0, c1, c2⟩ := (S1.blk 0 rfl).cell3
    by_cases h40 : 40 < W
    · have hd : decide (40 < W) = true := decide_eq_true h40
      have hr : r = 8 := by rw [hP.out, if_neg (by simpa using hk), if_pos h40]
      subst hr
      go_wp2_with fail
      go_ret
      exact ⟨rfl, S1.below⟩
    · have hd : decide (40 < W) = false := decide_eq_false h40
      have hr : r = 0 := by rw [hP.out, if_neg (by simpa using hk), if_neg h40]
      subst hr
      go_wp2_with fail
      go_ret
      exact ⟨rfl, S1.below⟩
  · have hkb : (k != 0) = true := by simpa using hk
    have hr : r = k := by rw [hP.out, if_pos hk]
    subst hr
    go_enter Try.func41, Try.ntmps41
    go_wp2_with fail
    refine (HC.out _).mono ?_
    rintro e w1 ⟨rfl, hb1⟩
    have S1 := S0.keep hb1
    clear c0 c1 c2
    obtain ⟨c0, c1, c2⟩ := (S1.blk 0 rfl).cell3
    go_wp2_with fail
    refine (HC.out _).mono ?_
    rintro e w2 ⟨rfl, hb2⟩
    go_wp2_with fail
    go_ret
    exact ⟨rfl, (S1.keep hb2).below⟩
end Go.Proofs.Ytfjdlbilnoojkaa
