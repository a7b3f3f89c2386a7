/- The law RepeatAsks, walked: it answers true and turns nothing that was there, for any grid, lattice and step. -/
import Derived.Test.YtkhochbkjhpfgaaIn
namespace Go.Proofs.Ytkhochbkjhpfgaa
open Go.RowKit

theorem great6_any (W H : Int) (A : Option Addr) (n c : Nat) (w : World) :
    Calls Try.prog 5 #[.agg #[.int .i64 W, .int .i64 H, .slice A n c]] w fun e w' => e = .returned (.bool (decide (100 < n))) ∧ Below w.heap.size w w' := by
  go_enter Try.func5, Try.ntmps5
  go_wp2
  go_ret
  exact ⟨by simp; omega, (Below.refl _ _).alloc (Nat.le_refl _) _⟩

set_option maxHeartbeats 4000000 in
set_option maxRecDepth 100000 in
theorem asks_walk (g : Gd) (X Y Z dx dy : Int) (A : Option Addr) (n c : Nat) (w : World) (hr : Rd w A n (g.bits.map Value.bool)) (hc : n ≤ c) (hy1 : -9223372036854775808 ≤ dy) (hy2 : dy ≤ 9223372036854775807) :
    Calls Try.prog 3 #[.agg #[.int .i64 g.w, .int .i64 g.h, .slice A n c], .agg #[.int .i64 X, .int .i64 Y, .int .i64 Z], .int .i64 dx, .int .i64 dy] w fun e w' => e = .returned (.bool true) ∧ Below w.heap.size w w' := by
  have S0 := (((St.start w).addRd hr).box #[.int .i64 g.w, .int .i64 g.h, .slice A n c] 24).box #[.int .i64 X, .int .i64 Y, .int .i64 Z] 26
  simp only [size_alloc1, List.nil_append, List.cons_append] at S0
  obtain ⟨c0, c1, c2⟩ := (S0.blk 1 rfl).cell3
  have H1 := Lib.hid (fun W h => is_any g dx dy A n c W h hc)
  have H2 := Lib.hid (fun W h => isr_any g dx dy A n c W h)
  have H3 := Lib.hid (fun W h => of_any g A n c W h hc)
  have H4 := Lib.hid (fun W h => rof_any g A n c W h)
  have H5 := Lib.hid (fun W => in_any X Y Z dx dy W hy1 hy2)
  have H6 := Lib.hid (fun W => rin_any X Y Z dx dy W hy1 hy2)
  have H7 := Lib.hid (fun W => lcheck_any X Y Z W)
  have H8 := Lib.hid (fun W => rlcheck_any X Y Z W)
  generalize isG g dx dy = r1 at *
  generalize ofG g = r2 at *
  generalize inL X Y Z dx dy = r3 at *
  generalize chkL X Y Z = r4 at *
  obtain ⟨b1, e1⟩ := r1
  obtain ⟨⟨x2, y2, z2⟩, e2⟩ := r2
  obtain ⟨b3, e3⟩ := r3
  simp only at H1 H2 H3 H4 H5 H6
  clear hr
  by_cases hn : 100 < n
  · have hd : decide (100 < n) = true := by simpa using hn
    go_enter Try.func3, Try.ntmps3
    go_wp2_with fail
    refine (great6_any _ _ _ _ _ _).mono ?_
    rintro e w1 ⟨rfl, hb1⟩
    have S1 := S0.keep hb1
    go_wp2_with fail
    go_ret
    exact ⟨rfl, S1.below⟩
  have hd : decide (100 < n) = false := by simpa using hn
  have k1 : (b1 == b1) = true := by simp
  have k3 : (b3 == b3) = true := by simp
  go_enter Try.func3, Try.ntmps3
  go_wp2_with fail
  refine (great6_any _ _ _ _ _ _).mono ?_
  rintro e w1 ⟨rfl, hb1⟩
  have S1 := S0.keep hb1
  clear c0 c1 c2
  obtain ⟨c0, c1, c2⟩ := (S1.blk 1 rfl).cell3
  go_wp2_with fail
  refine (H1.out _ (S1.rd 0 rfl)).mono ?_
  rintro e w2 ⟨rfl, hb2⟩
  have S2 := S1.keep hb2
  clear c0 c1 c2
  obtain ⟨c0, c1, c2⟩ := (S2.blk 1 rfl).cell3
  go_wp2_with fail
  refine (H2.out _ (S2.rd 0 rfl)).mono ?_
  rintro e w3 ⟨rfl, hb3⟩
  have S3 := S2.keep hb3
  clear c0 c1 c2
  obtain ⟨c0, c1, c2⟩ := (S3.blk 1 rfl).cell3
  go_wp2_with fail
  refine (H3.out _ (S3.rd 0 rfl)).mono ?_
  rintro e w4 ⟨rfl, hb4⟩
  have S4 := (S3.keep hb4).box #[.int .i64 x2, .int .i64 y2, .int .i64 z2] 26
  simp only [List.nil_append, List.cons_append] at S4
  clear c0 c1 c2
  obtain ⟨c0, c1, c2⟩ := (S4.blk 1 rfl).cell3
  go_wp2_with fail
  refine (H4.out _ (S4.rd 0 rfl)).mono ?_
  rintro e w5 ⟨rfl, hb5⟩
  have S5 := (S4.keep hb5).box #[.int .i64 x2, .int .i64 y2, .int .i64 z2] 26
  simp only [List.nil_append, List.cons_append] at S5
  clear c0 c1 c2
  obtain ⟨c0, c1, c2⟩ := (S5.blk 2 rfl).cell3
  go_wp2_with fail
  refine (H5.out _).mono ?_
  rintro e w6 ⟨rfl, hb6⟩
  have S6 := S5.keep hb6
  clear c0 c1 c2
  obtain ⟨c0, c1, c2⟩ := (S6.blk 2 rfl).cell3
  go_wp2_with fail
  refine (H6.out _).mono ?_
  rintro e w7 ⟨rfl, hb7⟩
  have S7 := S6.keep hb7
  clear c0 c1 c2
  obtain ⟨c0, c1, c2⟩ := (S7.blk 2 rfl).cell3
  obtain ⟨d0, d1, d2⟩ := (S7.blk 3 rfl).cell3
  obtain ⟨f0, f1, f2⟩ := (S7.blk 4 rfl).cell3
  have SD := S7.drew
  clear S0 S1 S2 S3 S4 S5 S6 H1 H2 H3 H4 H5 H6 hb1 hb2 hb3 hb4 hb5 hb6 hb7 hd
  go_wp2_with fail
  go_region_held3 (fun w' => (w'.cell? ⟨w.heap.size + 1, 0, none⟩ = some (.int .i64 X) ∧ w'.cell? ⟨w.heap.size + 1, 1, none⟩ = some (.int .i64 Y) ∧ w'.cell? ⟨w.heap.size + 1, 2, none⟩ = some (.int .i64 Z)) ∧
      (w'.cell? ⟨w4.heap.size, 0, none⟩ = some (.int .i64 x2) ∧ w'.cell? ⟨w4.heap.size, 1, none⟩ = some (.int .i64 y2) ∧ w'.cell? ⟨w4.heap.size, 2, none⟩ = some (.int .i64 z2)) ∧
      (w'.cell? ⟨w5.heap.size, 0, none⟩ = some (.int .i64 x2) ∧ w'.cell? ⟨w5.heap.size, 1, none⟩ = some (.int .i64 y2) ∧ w'.cell? ⟨w5.heap.size, 2, none⟩ = some (.int .i64 z2)))
    (first | exact ⟨(SD.blk 2 rfl).cell3, (SD.blk 3 rfl).cell3, (SD.blk 4 rfl).cell3⟩ | go_keep)
    (first
      | (go_at_call 12; refine (H7.out _).mono ?_; rintro ez wz ⟨rfl, hbz⟩; replace SD := SD.keep hbz)
      | (go_at_call 13; refine (H8.out _).mono ?_; rintro ez wz ⟨rfl, hbz⟩; replace SD := SD.keep hbz)
      | fail)
  all_goals
    go_wp2_with fail
    go_ret
    exact ⟨by simp, SD.below⟩
end Go.Proofs.Ytkhochbkjhpfgaa
