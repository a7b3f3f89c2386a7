/- The test of a grid in the law package of layer 7. -/
import Derived.Test.YtliibficmdomjaaDoorSym1z
namespace Go.Proofs.YtliibficmdomjaaDoor
open Go.RowKit

set_option maxHeartbeats 2000000 in
theorem great7_ok (a b n c : Nat) (A : Option Addr) (w : World) (h0 : startN (a : Int) (b : Int) n = 0) :
    Calls Tryd.prog 28 #[.agg #[.int .i64 a, .int .i64 b, .slice A n c]] w fun e w' => e = .returned (.bool (decide (8 < a ∨ 8 < b ∨ 36 < a * b))) ∧ Below w.heap.size w w' := by
  have S0 := (St.start w).box #[.int .i64 a, .int .i64 b, .slice A n c] 24
  simp only [List.nil_append] at S0
  obtain ⟨c0, c1, c2⟩ := (S0.blk 0 rfl).cell3
  obtain ⟨h1, h2, h3⟩ := startN_zero h0
  obtain ⟨a', b', e1, e2, ha1, ha, hbb1, hb, rfl⟩ := chk_zero h1
  obtain rfl : a = a' := by omega
  obtain rfl : b = b' := by omega
  have he : (startN (a : Int) (b : Int) (b * a) == 0) = true := by simpa using h0
  have hQ : (a : Int) * (b : Int) = ((a * b : Nat) : Int) := (Int.natCast_mul a b).symm
  have hQb : a * b ≤ 16 * 16 := Nat.mul_le_mul (by omega) (by omega)
  have hPb : b * a ≤ 16 * 16 := Nat.mul_le_mul (by omega) (by omega)
  clear h0 h1 e1 e2
  generalize a * b = q at *
  generalize b * a = n at *
  have HS := Lib.hid (fun W => start7_any (a : Int) (b : Int) A n c W)
  generalize startN (a : Int) (b : Int) n = k at *
  by_cases h8 : 8 < a
  · go_enter Tryd.func28, Tryd.ntmps28
    go_wp2_with fail
    refine (HS.out _).mono ?_
    rintro e w1 ⟨rfl, hb1⟩
    have S1 := S0.keep hb1
    clear c0 c1 c2
    obtain ⟨c0, c1, c2⟩ := (S1.blk 0 rfl).cell3
    go_wp2_with fail
    go_ret
    exact ⟨congrArg (fun r => Ending.returned (.bool r)) (by first | rfl | (rw [Bool.eq_iff_iff]; simp only [Bool.or_eq_true, decide_eq_true_eq]; omega)), S1.below⟩
  by_cases h9 : 8 < b
  · go_enter Tryd.func28, Tryd.ntmps28
    go_wp2_with fail
    refine (HS.out _).mono ?_
    rintro e w1 ⟨rfl, hb1⟩
    have S1 := S0.keep hb1
    clear c0 c1 c2
    obtain ⟨c0, c1, c2⟩ := (S1.blk 0 rfl).cell3
    go_wp2_with fail
    go_ret
    exact ⟨congrArg (fun r => Ending.returned (.bool r)) (by first | rfl | (rw [Bool.eq_iff_iff]; simp only [Bool.or_eq_true, decide_eq_true_eq]; omega)), S1.below⟩
  by_cases h36 : 36 < q
  · go_enter Tryd.func28, Tryd.ntmps28
    go_wp2_with fail
    refine (HS.out _).mono ?_
    rintro e w1 ⟨rfl, hb1⟩
    have S1 := S0.keep hb1
    clear c0 c1 c2
    obtain ⟨c0, c1, c2⟩ := (S1.blk 0 rfl).cell3
    go_wp2_with fail
    go_ret
    exact ⟨congrArg (fun r => Ending.returned (.bool r)) (by first | rfl | (rw [Bool.eq_iff_iff]; simp only [Bool.or_eq_true, decide_eq_true_eq]; omega)), S1.below⟩
  go_enter Tryd.func28, Tryd.ntmps28
  go_wp2_with fail
  refine (HS.out _).mono ?_
  rintro e w1 ⟨rfl, hb1⟩
  have S1 := S0.keep hb1
  clear c0 c1 c2
  obtain ⟨c0, c1, c2⟩ := (S1.blk 0 rfl).cell3
  go_wp2_with fail
  go_ret
  exact ⟨congrArg (fun r => Ending.returned (.bool r)) (by first | rfl | (rw [Bool.eq_iff_iff]; simp only [Bool.or_eq_true, decide_eq_true_eq]; omega)), S1.below⟩

/-- What valid answers. -/
def valid7B (g : Gd) : Bool := decide (startG g = 0 ∧ g.w ≤ 8 ∧ g.h ≤ 8 ∧ g.w * g.h ≤ 36)
set_option maxHeartbeats 1000000 in
set_option maxRecDepth 100000 in
theorem valid7_any (g : Gd) (A : Option Addr) (n c : Nat) (w : World) (hl : g.bits.length = n) :
    Calls Tryd.prog 8 #[.agg #[.int .i64 g.w, .int .i64 g.h, .slice A n c]] w fun e w' => e = .returned (.bool (valid7B g)) ∧ Below w.heap.size w w' := by
  have hV := startG_n hl
  have S0 := (St.start w).box #[.int .i64 g.w, .int .i64 g.h, .slice A n c] 24
  simp only [List.nil_append] at S0
  by_cases h0 : startG g = 0
  · obtain ⟨W, H, bs⟩ := g
    simp only at S0 hl hV ⊢
    rw [hV] at h0
    obtain ⟨h1, h2, h3⟩ := startN_zero h0
    obtain ⟨a, b, rfl, rfl, ha1, ha, hbb1, hb, hn⟩ := chk_zero h1
    have HGr := Lib.hid (fun W => great7_ok a b n c A W h0)
    have HSt := Lib.hid (fun W => start7_any (a : Int) (b : Int) A n c W)
    have hv : valid7B ⟨a, b, bs⟩ = !decide (8 < a ∨ 8 < b ∨ 36 < a * b) := by
      unfold valid7B
      rw [hV, h0, Bool.eq_iff_iff]
      have hQ : (a : Int) * (b : Int) = ((a * b : Nat) : Int) := (Int.natCast_mul a b).symm
      simp only [decide_eq_true_eq, Bool.not_eq_true', decide_eq_false_iff_not, true_and]
      show ((a : Int) ≤ 8 ∧ (b : Int) ≤ 8 ∧ (a : Int) * (b : Int) ≤ 36) ↔ _
      rw [hQ]
      generalize a * b = q at *
      omega
    rw [hv]
    rw [h0] at HSt
    obtain ⟨c0, c1, c2⟩ := (S0.blk 0 rfl).cell3
    clear hl hV h0 h1 hn hv
    generalize decide (8 < a ∨ 8 < b ∨ 36 < a * b) = r at *
    cases r with
    | true =>
      go_enter Tryd.func8, Tryd.ntmps8
      go_wp2_with fail
      refine (HGr.out _).mono ?_
      rintro e w1 ⟨rfl, hb1⟩
      have S2 := S0.keep hb1
      clear c0 c1 c2
      go_wp2_with fail
      go_ret
      exact ⟨by trivial, S2.below⟩
    | false =>
      go_enter Tryd.func8, Tryd.ntmps8
      go_wp2_with fail
      refine (HGr.out _).mono ?_
      rintro e w1 ⟨rfl, hb1⟩
      have S2 := S0.keep hb1
      clear c0 c1 c2
      obtain ⟨c0, c1, c2⟩ := (S2.blk 0 rfl).cell3
      go_wp2_with fail
      refine (HSt.out _).mono ?_
      rintro e w2 ⟨rfl, hb2⟩
      go_wp2_with fail
      go_ret
      exact ⟨by trivial, (S2.keep hb2).below⟩
  · have hv : valid7B g = false := by unfold valid7B; rw [decide_eq_false_iff_not]; exact fun h => h0 h.1
    rw [hv]
    rw [hV] at h0
    have hk : (startN g.w g.h n == 0) = false := by simpa using h0
    have HGr := Lib.hid (fun W => great7_any g.w g.h A n c W)
    have HSt := Lib.hid (fun W => start7_any g.w g.h A n c W)
    obtain ⟨c0, c1, c2⟩ := (S0.blk 0 rfl).cell3
    clear hl hV h0 hv
    generalize startN g.w g.h n = k at *
    go_enter Tryd.func8, Tryd.ntmps8
    go_wp2_with fail
    refine (HGr.out _).mono ?_
    rintro e w1 ⟨r, rfl, _, hb1⟩
    have S2 := S0.keep hb1
    clear c0 c1 c2
    obtain ⟨c0, c1, c2⟩ := (S2.blk 0 rfl).cell3
    cases r with
    | true =>
      go_wp2_with fail
      go_ret
      exact ⟨by trivial, S2.below⟩
    | false =>
      go_wp2_with fail
      refine (HSt.out _).mono ?_
      rintro e w2 ⟨rfl, hb2⟩
      go_wp2_with fail
      go_ret
      exact ⟨by trivial, (S2.keep hb2).below⟩
end Go.Proofs.YtliibficmdomjaaDoor
