/- The examples of layer 9 hold. -/
import Derived.Test.YtbgekiifffnalaaDoorCountersA
import Derived.Test.YtbgekiifffnalaaDoorSatinA9
import Derived.Test.YtbgekiifffnalaaDoorTwA9
import Derived.Test.YtbgekiifffnalaaDoorRuns9
import Derived.Test.YtbgekiifffnalaaDoorLSame
import Derived.Test.YtbgekiifffnalaaDoorText
namespace Go.Proofs.YtbgekiifffnalaaDoor
open Go.RowKit

theorem rd_of_blk {w : World} {g : Nat} {t : TypeId} {cs : Array Value} (h : Blk w g t cs) : Rd w (some ⟨g, 0, none⟩) cs.size cs.toList := by
  refine ⟨by simp, fun _ => ⟨g, 0, rfl, fun j u hj => ?_⟩⟩
  rw [Nat.zero_add, h.cell j]
  simpa using hj
def satT : List UInt8 := [46, 46, 46, 120, 46, 10, 46, 120, 46, 46, 46, 10, 46, 46, 46, 46, 120, 10, 46, 46, 120, 46, 46, 10, 120, 46, 46, 46, 46, 10]
def twT : List UInt8 := [120, 46, 46, 120, 10, 46, 46, 120, 120, 10, 46, 120, 120, 46, 10, 120, 120, 46, 46, 10]
theorem ex1 : countersG 5 = ([2, 3], 0) := by decide +kernel
theorem ex2 : countersG 8 = ([3, 5], 0) := by decide +kernel
theorem ex3 : countersG 6 = ([], 0) := by decide +kernel
theorem ex4 : satinMG 5 2 = ((satinMG 5 2).1, 0) := Prod.ext rfl (by decide +kernel)
theorem ex4t : textG (satinMG 5 2).1 = (satT, 0) := by decide +kernel
theorem ex5 : twillG [2, 2] 1 = ((twillG [2, 2] 1).1, 0) := Prod.ext rfl (by decide +kernel)
theorem ex5t : textG (twillG [2, 2] 1).1 = (twT, 0) := by decide +kernel
theorem ex6 : runsG [true, true, false, true, false, false] = ([2, 1, 1, 2], 0) := by decide +kernel
theorem reads_true (g : Gd) (l : List UInt8) (h : textG g = (l, 0)) (A : Option Addr) (n c : Nat) (w : World) (hr : Rd w A n (g.bits.map Value.bool)) (hnc : n ≤ c) :
    Calls Tryd.prog 11 #[.agg #[.int .i64 g.w, .int .i64 g.h, .slice A n c], .int .i64 0, .string ⟨l.toArray⟩] w fun e w' => e = .returned (.bool true) ∧ Below w.heap.size w w' := by
  have HT := Lib.hid (fun W h => text_any g A n c W h hnc)
  rw [h] at HT
  have S0 := ((St.start w).addRd hr).box #[.int .i64 g.w, .int .i64 g.h, .slice A n c] 24
  simp only [List.nil_append, List.cons_append] at S0
  obtain ⟨c0, c1, c2⟩ := (S0.blk 1 rfl).cell3
  clear h hr
  go_enter Tryd.func11, Tryd.ntmps11
  go_wp2_with fail
  refine (HT.out _ (S0.rd 0 rfl)).mono ?_
  rintro e w1 ⟨rfl, hb1⟩
  have S1 := S0.keep hb1
  clear c0 c1 c2
  go_wp2_with fail
  go_ret
  exact ⟨rfl, S1.below⟩

set_option maxHeartbeats 1000000 in
set_option maxRecDepth 100000 in
theorem alive_any (w : World) : Calls Tryd.prog 14 #[] w fun e w' => e = .returned (.bool true) ∧ Below w.heap.size w w' := by
  have H1 := Lib.hid (fun W => counters_any 5 W)
  have H2 := Lib.hid (fun W => counters_any 8 W)
  have H3 := Lib.hid (fun W => counters_any 6 W)
  have H4 := Lib.hid (fun W => satin_any 5 2 W)
  have H5 := Lib.hid (fun A n c W h hn => twill_any [2, 2] 1 A n c W h hn)
  have H6 := Lib.hid (fun A n c W h hc => runs_any [true, true, false, true, false, false] A n c W h hc)
  have T4 := Lib.hid (fun A n c W h hc => reads_true _ _ ex4t A n c W h hc)
  have T5 := Lib.hid (fun A n c W h hc => reads_true _ _ ex5t A n c W h hc)
  rw [ex1] at H1
  rw [ex2] at H2
  rw [ex3] at H3
  rw [ex4] at H4
  rw [ex5] at H5
  rw [ex6] at H6
  unfold satT at T4
  unfold twT at T5
  generalize (satinMG 5 2).1 = g4 at *
  generalize (twillG [2, 2] 1).1 = g5 at *
  have S0 := St.start w
  go_enter Tryd.func14, Tryd.ntmps14
  go_wp2_with fail
  refine (H1.out _).mono ?_
  rintro e w1 ⟨A1, n1, cc1, rfl, hown1, hb1⟩
  obtain rfl : n1 = 2 := by have := hown1.1; simp at this; omega
  have S1 := (S0.keep hb1).addRd (rd_of_own hown1)
  simp only [List.nil_append] at S1
  go_wp2_with fail
  refine (H2.out _).mono ?_
  rintro e w2 ⟨A2, n2, cc2, rfl, hown2, hb2⟩
  obtain rfl : n2 = 2 := by have := hown2.1; simp at this; omega
  have S2 := (S1.keep hb2).addRd (rd_of_own hown2)
  simp only [List.nil_append, List.cons_append] at S2
  clear S1
  go_wp2_with fail
  refine (H3.out _).mono ?_
  rintro e w3 ⟨A3, n3, cc3, rfl, hown3, hb3⟩
  obtain rfl : n3 = 0 := by have := hown3.1; simp at this; omega
  have S3 := (S2.keep hb3).addRd (rd_of_own hown3)
  simp only [List.nil_append, List.cons_append] at S3
  clear S2
  go_wp2_with fail
  refine (H4.out _).mono ?_
  rintro e w4 ⟨A4, n4, cc4, rfl, hown4, hb4⟩
  simp only at hown4 ⊢
  have S4 := ((S3.keep hb4).addRd (rd_of_own hown4)).box #[.int .i64 g4.w, .int .i64 g4.h, .slice A4 n4 cc4] 24
  simp only [List.nil_append, List.cons_append] at S4
  clear S3
  have hc4 := own_le hown4
  have S4b := (S4.box #[.int .i64 2, .int .i64 2] 3).addRd (n := 2) (xs := ([2, 2] : List Int).map (Value.int .i64)) (rd_of_blk (Blk.new _ 3 #[.int .i64 2, .int .i64 2]))
  simp only [size_alloc1, List.nil_append, List.cons_append] at S4b
  go_wp2_with fail
  refine (H5.out _ _ _ _ (S4b.rd 6 rfl) (by simp)).mono ?_
  rintro e w5 ⟨A5, n5, cc5, rfl, hown5, hb5⟩
  simp only at hown5 ⊢
  have S5 := ((S4b.keep hb5).addRd (rd_of_own hown5)).box #[.int .i64 g5.w, .int .i64 g5.h, .slice A5 n5 cc5] 24
  simp only [List.nil_append, List.cons_append] at S5
  clear S4b
  have hc5 := own_le hown5
  have S5b := (S5.box #[.bool true, .bool true, .bool false, .bool true, .bool false, .bool false] 4).addRd (n := 6) (xs := [true, true, false, true, false, false].map Value.bool) (rd_of_blk (Blk.new _ 4 #[.bool true, .bool true, .bool false, .bool true, .bool false, .bool false]))
  simp only [size_alloc1, List.nil_append, List.cons_append] at S5b
  go_wp2_with fail
  refine (H6.out _ _ _ _ (S5b.rd 10 rfl) (by simp)).mono ?_
  rintro e w6 ⟨A6, n6, cc6, rfl, hown6, hb6⟩
  obtain rfl : n6 = 4 := by have := hown6.1; simp at this; omega
  have S6 := (S5b.keep hb6).addRd (rd_of_own hown6)
  simp only [List.nil_append, List.cons_append] at S6
  clear S5b
  have S6b := (S6.box #[.int .i64 2, .int .i64 3] 3).addRd (n := 2) (xs := ([2, 3] : List Int).map (Value.int .i64)) (rd_of_blk (Blk.new _ 3 #[.int .i64 2, .int .i64 3]))
  simp only [List.nil_append, List.cons_append] at S6b
  go_wp2_with fail
  refine (lsame_any [2, 3] _ _ _ _ _ _ _ (S6b.rd 0 rfl) (S6b.rd 13 rfl) (by omega)).mono ?_
  rintro e w7 ⟨rfl, hb7⟩
  have S7 := S6b.keep hb7
  clear S6b
  have S7b := (S7.box #[.int .i64 3, .int .i64 5] 3).addRd (n := 2) (xs := ([3, 5] : List Int).map (Value.int .i64)) (rd_of_blk (Blk.new _ 3 #[.int .i64 3, .int .i64 5]))
  simp only [List.nil_append, List.cons_append] at S7b
  go_wp2_with fail
  refine (lsame_any [3, 5] _ _ _ _ _ _ _ (S7b.rd 1 rfl) (S7b.rd 15 rfl) (by omega)).mono ?_
  rintro e w8 ⟨rfl, hb8⟩
  have S8 := S7b.keep hb8
  clear S7b
  obtain ⟨c00, c01, c02⟩ := (S8.blk 4 rfl).cell3
  go_wp2_with fail
  refine (T4.out _ _ _ _ (S8.rd 3 rfl) hc4).mono ?_
  rintro e w9 ⟨rfl, hb9⟩
  clear c00 c01 c02
  have S9 := S8.keep hb9
  clear S8
  obtain ⟨c10, c11, c12⟩ := (S9.blk 8 rfl).cell3
  go_wp2_with fail
  refine (T5.out _ _ _ _ (S9.rd 7 rfl) hc5).mono ?_
  rintro e w10 ⟨rfl, hb10⟩
  clear c10 c11 c12
  have S10 := S9.keep hb10
  clear S9
  have S10b := (S10.box #[.int .i64 2, .int .i64 1, .int .i64 1, .int .i64 2] 3).addRd (n := 4) (xs := ([2, 1, 1, 2] : List Int).map (Value.int .i64)) (rd_of_blk (Blk.new _ 3 #[.int .i64 2, .int .i64 1, .int .i64 1, .int .i64 2]))
  simp only [List.nil_append, List.cons_append] at S10b
  go_wp2_with fail
  refine (lsame_any [2, 1, 1, 2] _ _ _ _ _ _ _ (S10b.rd 11 rfl) (S10b.rd 17 rfl) (by omega)).mono ?_
  rintro e w11 ⟨rfl, hb11⟩
  have S11 := S10b.keep hb11
  clear S10b
  go_wp2_with fail
  go_ret
  exact ⟨rfl, S11.below⟩
end Go.Proofs.YtbgekiifffnalaaDoor
