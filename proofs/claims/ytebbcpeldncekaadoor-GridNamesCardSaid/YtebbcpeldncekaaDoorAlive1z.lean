/- The examples of layer 1 hold. -/
import Derived.Test.YtebbcpeldncekaaDoorRetLz
import Derived.Test.YtebbcpeldncekaaDoorParsez
import Derived.Test.YtebbcpeldncekaaDoorTextz
import Derived.Test.YtebbcpeldncekaaDoorCountz
import Derived.Test.YtebbcpeldncekaaDoorGTurnz
import Derived.Test.YtebbcpeldncekaaDoorShiftz
import Derived.Test.YtebbcpeldncekaaDoorRSamez
namespace Go.Proofs.YtebbcpeldncekaaDoor
open Go.RowKit

theorem rd_of_blk {w : World} {g : Nat} {t : TypeId} {cs : Array Value} (h : Blk w g t cs) : Rd w (some ⟨g, 0, none⟩) cs.size cs.toList := by
  refine ⟨by simp, fun _ => ⟨g, 0, rfl, fun j u hj => ?_⟩⟩
  rw [Nat.zero_add, h.cell j]
  simpa using hj
theorem own_of_cells (w : World) (t : TypeId) (cs : Array Value) (hm : cs.size ≤ maxLen) : (w.alloc (.cells cs t)).ownsRow w.heap.size t 1 (.slice (some ⟨w.heap.size, 0, none⟩) cs.size cs.size) cs.size cs.toList :=
  own_of_blk (Blk.new w t cs) (Nat.le_refl _) hm
def giv : Gd := ⟨3, 2, [true, false, false, false, true, true]⟩
theorem parse_to (s : List UInt8) (r : Gd × Int) (w : World) (hs : s.length ≤ 1048576) (h : parseG s = r) : Calls Tryd.prog 14 #[str s] w (RetG r w) := h ▸ parse_any s w hs

set_option maxHeartbeats 1000000 in
set_option maxRecDepth 100000 in
theorem given_any (w : World) : Calls Tryd.prog 30 #[] w (RetT giv w) := by
  have S1 := ((St.start w).box #[.int .i64 3, .int .i64 2, .slice (some ⟨w.heap.size + 1, 0, none⟩) 6 6] 24).box #[.bool true, .bool false, .bool false, .bool false, .bool true, .bool true] 4
  simp only [size_alloc1, List.nil_append, List.cons_append] at S1
  have hO := own_of_blk (base := w.heap.size) (S1.blk 1 rfl) (by omega) (by decide)
  go_enter Tryd.func30, Tryd.ntmps30
  go_wp2_with fail
  refine bodyPost_ret (v := .agg #[.int .i64 3, .int .i64 2, .slice (some ⟨w.heap.size + 1, 0, none⟩) 6 6]) (by simp [results, Tryd.results30, go_sem]) rfl ?_
  exact ⟨_, _, _, rfl, hO, S1.below⟩

set_option maxHeartbeats 1000000 in
set_option maxRecDepth 100000 in
theorem reads_true (s : List UInt8) (g : Gd) (hs : s.length ≤ 1048576) (h : textG g = (s, 0)) (hp : parseG s = (g, 0)) (A : Option Addr) (n c : Nat) (w : World) (hr : Rd w A n (g.bits.map Value.bool)) (hnc : n ≤ c) :
    Calls Tryd.prog 31 #[str s, .agg #[.int .i64 g.w, .int .i64 g.h, .slice A n c], .int .i64 0] w fun e w' => e = .returned (.bool true) ∧ Below w.heap.size w w' := by
  have HT := Lib.hid (fun W h => text_any g A n c W h hnc)
  rw [h] at HT
  have HP := Lib.hid (fun W => parse_to s (g, 0) W hs hp)
  have hl : g.bits.length = n := by simpa using hr.len
  have hn : n ≤ 1048576 := by
    have hc : chkG g = 0 := by
      by_cases h0 : chkG g = 0
      · exact h0
      · rw [textG_bad h0] at h
        have := congrArg Prod.snd h
        exact absurd this h0
    have := chkG_small hc
    omega
  have HS := Lib.hid (fun A2 q c2 W h h2 => rsame_any g g A A2 n c q c2 W h h2 hn)
  rw [sameG_self] at HS
  have S0 := ((St.start w).addRd hr).box #[.int .i64 g.w, .int .i64 g.h, .slice A n c] 24
  simp only [List.nil_append, List.cons_append] at S0
  obtain ⟨c0, c1, c2⟩ := (S0.blk 1 rfl).cell3
  clear h hr hp hl hs
  go_enter Tryd.func31, Tryd.ntmps31
  go_wp2_with fail
  refine (HT.out _ (S0.rd 0 rfl)).mono ?_
  rintro e w1 ⟨rfl, hb1⟩
  have S1 := S0.keep hb1
  clear c0 c1 c2
  go_wp2_with fail
  refine (HP.out _).mono ?_
  rintro e w2 ⟨A2, n2, cc2, rfl, hown2, hb2⟩
  simp only at hown2 ⊢
  have S2 := ((S1.keep hb2).addRd (rd_of_own hown2)).box #[.int .i64 g.w, .int .i64 g.h, .slice A2 n2 cc2] 24
  simp only [List.nil_append, List.cons_append] at S2
  clear S1 hown2
  obtain ⟨c0, c1, c2⟩ := (S2.blk 1 rfl).cell3
  obtain ⟨d0, d1, d2⟩ := (S2.blk 3 rfl).cell3
  go_wp2_with fail
  refine (HS.out _ _ _ _ (S2.rd 0 rfl) (S2.rd 2 rfl)).mono ?_
  rintro e w3 ⟨rfl, hb3⟩
  go_wp2_with fail
  go_ret
  exact ⟨rfl, (S2.keep hb3).below⟩

set_option maxHeartbeats 1000000 in
set_option maxRecDepth 100000 in
theorem refused_true (s : List UInt8) (hs : s.length ≤ 1048576) (hp : parseG s = (Gd.zero, 12)) (w : World) :
    Calls Tryd.prog 32 #[str s] w fun e w' => e = .returned (.bool true) ∧ Below w.heap.size w w' := by
  have HP := Lib.hid (fun W => parse_to s (Gd.zero, 12) W hs hp)
  have S0 := St.start w
  clear hp hs
  go_enter Tryd.func32, Tryd.ntmps32
  go_wp2_with fail
  refine (HP.out _).mono ?_
  rintro e w2 ⟨A2, n2, cc2, rfl, hown2, hb2⟩
  obtain rfl : n2 = 0 := by have := hown2.1; simp [Gd.zero] at this; omega
  have S2 := (S0.keep hb2).box #[.int .i64 0, .int .i64 0, .slice A2 0 cc2] 24
  simp only [List.nil_append] at S2
  obtain ⟨d0, d1, d2⟩ := (S2.blk 0 rfl).cell3
  simp only [Gd.zero]
  go_wp2_with fail
  go_ret
  exact ⟨rfl, S2.below⟩

theorem ga1 : countG giv = (3, 0) := by decide +kernel
theorem ga2 : turnG giv = ((turnG giv).1, 0) := Prod.ext rfl (by decide +kernel)
theorem ga3 : shiftG giv 1 0 = ((shiftG giv 1 0).1, 0) := Prod.ext rfl (by decide +kernel)
def ta1 : List UInt8 := [46, 120, 120, 10, 120, 46, 46, 10]
def ta2 : List UInt8 := [46, 120, 10, 46, 120, 10, 120, 46, 10]
def ta3 : List UInt8 := [120, 46, 120, 10, 46, 120, 46, 10]
theorem tx1 : textG giv = (ta1, 0) := by decide +kernel
theorem tx2 : textG (turnG giv).1 = (ta2, 0) := by decide +kernel
theorem tx3 : textG (shiftG giv 1 0).1 = (ta3, 0) := by decide +kernel
theorem pg_of {s : List UInt8} {r : Gd × Int} (h : (sameG (parseG s).1 r.1 && decide ((parseG s).2 = r.2)) = true) : parseG s = r := by
  rw [Bool.and_eq_true, sameG_iff, decide_eq_true_eq] at h
  exact Prod.ext h.1 h.2
theorem pa1 : parseG ta1 = (giv, 0) := pg_of (by decide +kernel)
theorem pa2 : parseG ta2 = ((turnG giv).1, 0) := pg_of (by decide +kernel)
theorem pa3 : parseG ta3 = ((shiftG giv 1 0).1, 0) := pg_of (by decide +kernel)
theorem pr1 : parseG [120] = (Gd.zero, 12) := pg_of (by decide +kernel)
theorem pr2 : parseG [120, 120, 10, 120, 10] = (Gd.zero, 12) := pg_of (by decide +kernel)

set_option maxHeartbeats 1000000 in
set_option maxRecDepth 100000 in
theorem alive_any (w : World) : Calls Tryd.prog 21 #[] w fun e w' => e = .returned (.bool true) ∧ Below w.heap.size w w' := by
  have HG := Lib.hid (fun W => given_any W)
  have HC := Lib.hid (fun A n c W h => count_any giv A n c W h)
  have HT := Lib.hid (fun A n c W h => turn_any giv A n c W h)
  have HS := Lib.hid (fun A n c W h => shift_any giv 1 0 A n c W h)
  have R1 := Lib.hid (fun A n c W h hc => reads_true ta1 giv (by decide) tx1 pa1 A n c W h hc)
  have R2 := Lib.hid (fun A n c W h hc => reads_true ta2 _ (by decide) tx2 pa2 A n c W h hc)
  have R3 := Lib.hid (fun A n c W h hc => reads_true ta3 _ (by decide) tx3 pa3 A n c W h hc)
  have F1 := Lib.hid (fun W => refused_true [120] (by decide) pr1 W)
  have F2 := Lib.hid (fun W => refused_true [120, 120, 10, 120, 10] (by decide) pr2 W)
  rw [ga1] at HC
  rw [ga2] at HT
  rw [ga3] at HS
  unfold ta1 at R1
  unfold ta2 at R2
  unfold ta3 at R3
  generalize (turnG giv).1 = g2 at *
  generalize (shiftG giv 1 0).1 = g3 at *
  generalize giv = g1 at *
  have S0 := St.start w
  go_enter Tryd.func21, Tryd.ntmps21
  go_wp2_with fail
  refine (HG.out _).mono ?_
  rintro e w1 ⟨A1, n1, c1, rfl, hown1, hb1⟩
  have S1 := (S0.keep hb1).addRd (rd_of_own hown1)
  simp only [List.nil_append] at S1
  go_wp2_with fail
  refine (HC.out _ _ _ _ (S1.rd 0 rfl)).mono ?_
  rintro e w2 ⟨rfl, hb2⟩
  have S2 := S1.keep hb2
  clear S1 hown1
  go_wp2_with fail
  refine (HG.out _).mono ?_
  rintro e w3 ⟨A3, n3, c3, rfl, hown3, hb3⟩
  have S3 := (S2.keep hb3).addRd (rd_of_own hown3)
  simp only [List.nil_append, List.cons_append] at S3
  clear S2 hown3
  go_wp2_with fail
  refine (HT.out _ _ _ _ (S3.rd 1 rfl)).mono ?_
  rintro e w4 ⟨A4, n4, c4, rfl, hown4, hb4⟩
  simp only at hown4 ⊢
  have hc4 := own_le hown4
  have S4 := ((S3.keep hb4).addRd (rd_of_own hown4)).box #[.int .i64 g2.w, .int .i64 g2.h, .slice A4 n4 c4] 24
  simp only [List.nil_append, List.cons_append] at S4
  clear S3 hown4
  go_wp2_with fail
  refine (HG.out _).mono ?_
  rintro e w5 ⟨A5, n5, c5, rfl, hown5, hb5⟩
  have S5 := (S4.keep hb5).addRd (rd_of_own hown5)
  simp only [List.nil_append, List.cons_append] at S5
  clear S4 hown5
  go_wp2_with fail
  refine (HS.out _ _ _ _ (S5.rd 4 rfl)).mono ?_
  rintro e w6 ⟨A6, n6, c6, rfl, hown6, hb6⟩
  simp only at hown6 ⊢
  have hc6 := own_le hown6
  have S6 := ((S5.keep hb6).addRd (rd_of_own hown6)).box #[.int .i64 g3.w, .int .i64 g3.h, .slice A6 n6 c6] 24
  simp only [List.nil_append, List.cons_append] at S6
  clear S5 hown6
  go_wp2_with fail
  refine (HG.out _).mono ?_
  rintro e w7 ⟨A7, n7, c7, rfl, hown7, hb7⟩
  have hc7 := own_le hown7
  have S7 := (S6.keep hb7).addRd (rd_of_own hown7)
  simp only [List.nil_append, List.cons_append] at S7
  clear S6 hown7
  go_wp2_with fail
  refine (R1.out _ _ _ _ (S7.rd 7 rfl) hc7).mono ?_
  rintro e w8 ⟨rfl, hb8⟩
  have S8 := S7.keep hb8
  clear S7
  obtain ⟨d0, d1, d2⟩ := (S8.blk 3 rfl).cell3
  go_wp2_with fail
  refine (R2.out _ _ _ _ (S8.rd 2 rfl) hc4).mono ?_
  rintro e w9 ⟨rfl, hb9⟩
  have S9 := S8.keep hb9
  clear S8 d0 d1 d2
  obtain ⟨d0, d1, d2⟩ := (S9.blk 6 rfl).cell3
  go_wp2_with fail
  refine (R3.out _ _ _ _ (S9.rd 5 rfl) hc6).mono ?_
  rintro e w10 ⟨rfl, hb10⟩
  have S10 := S9.keep hb10
  clear S9 d0 d1 d2
  go_wp2_with fail
  refine (F1.out _).mono ?_
  rintro e w11 ⟨rfl, hb11⟩
  have S11 := S10.keep hb11
  go_wp2_with fail
  refine (F2.out _).mono ?_
  rintro e w12 ⟨rfl, hb12⟩
  have S12 := S11.keep hb12
  go_wp2_with fail
  go_ret
  exact ⟨rfl, S12.below⟩
end Go.Proofs.YtebbcpeldncekaaDoor
