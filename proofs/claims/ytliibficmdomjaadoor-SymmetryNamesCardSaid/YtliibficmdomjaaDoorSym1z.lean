/- raddleref07.Start, Is, Great; symmetry.is; symmetry.check of one grid. -/
import Derived.Test.YtliibficmdomjaaDoorMg5z
import Derived.Test.YtliibficmdomjaaDoorMg3z
import Derived.Test.YtliibficmdomjaaDoorMg2z
import Derived.Outline
namespace Go.Proofs.YtliibficmdomjaaDoor
open Go.RowKit

def startN (W H : Int) (n : Nat) : Int := if chk W H n ≠ 0 then chk W H n else if 16 < W ∨ 16 < H then 4 else 0
theorem startG_n {g : Gd} {n : Nat} (h : g.bits.length = n) : startG g = startN g.w g.h n := by unfold startG startN chkG; rw [h]
theorem startN_bad {W H : Int} {n : Nat} (h : chk W H n ≠ 0) : startN W H n = chk W H n := if_pos h
theorem startN_big {W H : Int} {n : Nat} (h : chk W H n = 0) (hb : 16 < W ∨ 16 < H) : startN W H n = 4 := by unfold startN; rw [if_neg (by omega), if_pos hb]
theorem startN_ok {W H : Int} {n : Nat} (h : chk W H n = 0) (hb : ¬ (16 < W ∨ 16 < H)) : startN W H n = 0 := by unfold startN; rw [if_neg (by omega), if_neg hb]
theorem startN_zero {W H : Int} {n : Nat} (h : startN W H n = 0) : chk W H n = 0 ∧ W ≤ 16 ∧ H ≤ 16 := by
  unfold startN at h
  by_cases h1 : chk W H n = 0
  · rw [if_neg (by omega)] at h
    by_cases h2 : 16 < W ∨ 16 < H
    · rw [if_pos h2] at h; omega
    · omega
  · rw [if_pos h1] at h; exact absurd h h1

theorem is7_any (op : Int) (w : World) : Calls Tryd.prog 30 #[.int .i64 op] w fun e w' => e = .returned (.bool (decide (0 ≤ op ∧ op < 16))) ∧ w' = w := by
  by_cases h1 : 0 ≤ op <;> by_cases h2 : op < 16
  all_goals
    go_enter Tryd.func30, Tryd.ntmps30
    go_wp2
    go_ret
    exact ⟨by simp [h1, h2], rfl⟩
theorem ris7_any (op : Int) (w : World) : Calls Tryd.prog 9 #[.int .i64 op] w fun e w' => e = .returned (.bool (decide (0 ≤ op ∧ op < 16))) ∧ w' = w := by
  by_cases h1 : 0 ≤ op <;> by_cases h2 : op < 16
  all_goals
    go_enter Tryd.func9, Tryd.ntmps9
    go_wp2
    go_ret
    exact ⟨by simp [h1, h2], rfl⟩

theorem is7_to {r : Bool} (op : Int) (w : World) (h : decide (0 ≤ op ∧ op < 16) = r) : Calls Tryd.prog 30 #[.int .i64 op] w fun e w' => e = .returned (.bool r) ∧ w' = w := h ▸ is7_any op w
theorem ris7_to {r : Bool} (op : Int) (w : World) (h : decide (0 ≤ op ∧ op < 16) = r) : Calls Tryd.prog 9 #[.int .i64 op] w fun e w' => e = .returned (.bool r) ∧ w' = w := h ▸ ris7_any op w

set_option maxHeartbeats 1000000 in
theorem start7_any (W H : Int) (A : Option Addr) (n c : Nat) (w : World) :
    Calls Tryd.prog 29 #[.agg #[.int .i64 W, .int .i64 H, .slice A n c]] w fun e w' => e = .returned (.int .i64 (startN W H n)) ∧ Below w.heap.size w w' := by
  have S0 := (St.start w).box #[.int .i64 W, .int .i64 H, .slice A n c] 24
  simp only [List.nil_append] at S0
  obtain ⟨c0, c1, c2⟩ := (S0.blk 0 rfl).cell3
  by_cases h0 : chk W H n = 0
  · have hcb : (chk W H n != 0) = false := by simpa using h0
    by_cases h1 : 16 < W
    · have HR := Lib.hid (startN_big h0 (.inl h1))
      clear h0
      go_enter Tryd.func29, Tryd.ntmps29
      go_wp2_with fail
      refine (rcheck_any _ _ _ _ _ _).mono ?_
      rintro e w1 ⟨rfl, hb1⟩
      have S1 := S0.keep hb1
      clear c0 c1 c2
      obtain ⟨c0, c1, c2⟩ := (S1.blk 0 rfl).cell3
      go_wp2_with fail
      go_ret
      exact ⟨ret_i HR.out.symm, S1.below⟩
    by_cases h2 : 16 < H
    · have HR := Lib.hid (startN_big h0 (.inr h2))
      clear h0
      go_enter Tryd.func29, Tryd.ntmps29
      go_wp2_with fail
      refine (rcheck_any _ _ _ _ _ _).mono ?_
      rintro e w1 ⟨rfl, hb1⟩
      have S1 := S0.keep hb1
      clear c0 c1 c2
      obtain ⟨c0, c1, c2⟩ := (S1.blk 0 rfl).cell3
      go_wp2_with fail
      go_ret
      exact ⟨ret_i HR.out.symm, S1.below⟩
    have HR := Lib.hid (startN_ok h0 (fun h => h.elim h1 h2))
    clear h0
    go_enter Tryd.func29, Tryd.ntmps29
    go_wp2_with fail
    refine (rcheck_any _ _ _ _ _ _).mono ?_
    rintro e w1 ⟨rfl, hb1⟩
    have S1 := S0.keep hb1
    clear c0 c1 c2
    obtain ⟨c0, c1, c2⟩ := (S1.blk 0 rfl).cell3
    go_wp2_with fail
    go_ret
    exact ⟨ret_i HR.out.symm, S1.below⟩
  · have hcb : (chk W H n != 0) = true := by simpa using h0
    have HR := Lib.hid (startN_bad h0)
    clear h0
    go_enter Tryd.func29, Tryd.ntmps29
    go_wp2_with fail
    refine (rcheck_any _ _ _ _ _ _).mono ?_
    rintro e w1 ⟨rfl, hb1⟩
    have S1 := S0.keep hb1
    clear c0 c1 c2
    obtain ⟨c0, c1, c2⟩ := (S1.blk 0 rfl).cell3
    go_wp2_with fail
    refine (rcheck_any _ _ _ _ _ _).mono ?_
    rintro e w2 ⟨rfl, hb2⟩
    have S2 := S1.keep hb2
    go_wp2_with fail
    go_ret
    exact ⟨ret_i HR.out.symm, S2.below⟩

/-- Whatever Great answers: no, only at a grid of at most 500 cells. -/
def GreatR (n : Nat) (w : World) (e : Ending) (w' : World) : Prop := ∃ r : Bool, e = .returned (.bool r) ∧ (r = false → n ≤ 500) ∧ Below w.heap.size w w'
set_option maxHeartbeats 2000000 in
theorem great7_any (W H : Int) (A : Option Addr) (n c : Nat) (w : World) :
    Calls Tryd.prog 28 #[.agg #[.int .i64 W, .int .i64 H, .slice A n c]] w (GreatR n w) := by
  have S0 := (St.start w).box #[.int .i64 W, .int .i64 H, .slice A n c] 24
  simp only [List.nil_append] at S0
  obtain ⟨c0, c1, c2⟩ := (S0.blk 0 rfl).cell3
  by_cases hn : 500 < n
  · go_enter Tryd.func28, Tryd.ntmps28
    go_wp2_with fail
    go_ret
    exact ⟨_, rfl, fun h => by simp at h, S0.below⟩
  by_cases h0 : startN W H n = 0
  · obtain ⟨h1, h2, h3⟩ := startN_zero h0
    obtain ⟨a, b, rfl, rfl, ha1, ha, hbb1, hb, rfl⟩ := chk_zero h1
    have he : (startN (a : Int) (b : Int) (b * a) == 0) = true := by simpa using h0
    have hQ : (a : Int) * (b : Int) = ((a * b : Nat) : Int) := (Int.natCast_mul a b).symm
    have hQb : a * b ≤ 16 * 16 := Nat.mul_le_mul (by omega) (by omega)
    generalize a * b = q at *
    clear h0 h1
    by_cases h8 : 8 < a
    · go_enter Tryd.func28, Tryd.ntmps28
      go_wp2_with fail
      refine (start7_any _ _ _ _ _ _).mono ?_
      rintro e w1 ⟨rfl, hb1⟩
      have S1 := S0.keep hb1
      clear c0 c1 c2
      obtain ⟨c0, c1, c2⟩ := (S1.blk 0 rfl).cell3
      go_wp2_with fail
      go_ret
      exact ⟨_, rfl, fun _ => by omega, S1.below⟩
    by_cases h9 : 8 < b
    · go_enter Tryd.func28, Tryd.ntmps28
      go_wp2_with fail
      refine (start7_any _ _ _ _ _ _).mono ?_
      rintro e w1 ⟨rfl, hb1⟩
      have S1 := S0.keep hb1
      clear c0 c1 c2
      obtain ⟨c0, c1, c2⟩ := (S1.blk 0 rfl).cell3
      go_wp2_with fail
      go_ret
      exact ⟨_, rfl, fun _ => by omega, S1.below⟩
    go_enter Tryd.func28, Tryd.ntmps28
    go_wp2_with fail
    refine (start7_any _ _ _ _ _ _).mono ?_
    rintro e w1 ⟨rfl, hb1⟩
    have S1 := S0.keep hb1
    clear c0 c1 c2
    obtain ⟨c0, c1, c2⟩ := (S1.blk 0 rfl).cell3
    go_wp2_with fail
    go_ret
    exact ⟨_, rfl, fun _ => by omega, S1.below⟩
  · have he : (startN W H n == 0) = false := by simpa using h0
    clear h0
    go_enter Tryd.func28, Tryd.ntmps28
    go_wp2_with fail
    refine (start7_any _ _ _ _ _ _).mono ?_
    rintro e w1 ⟨rfl, hb1⟩
    have S1 := S0.keep hb1
    go_wp2_with fail
    go_ret
    exact ⟨_, rfl, fun _ => by omega, S1.below⟩
end Go.Proofs.YtliibficmdomjaaDoor
