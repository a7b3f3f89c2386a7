/- The examples of layer 6 hold. -/
import Derived.Test.YtkhochbkjhpfgaaDoorRetL
import Derived.Test.YtkhochbkjhpfgaaDoorParse
import Derived.Test.YtkhochbkjhpfgaaDoorText
import Derived.Test.YtkhochbkjhpfgaaDoorCell6
import Derived.Test.YtkhochbkjhpfgaaDoorRect
import Derived.Test.YtkhochbkjhpfgaaDoorOffset
import Derived.Test.YtkhochbkjhpfgaaDoorRSame
namespace Go.Proofs.YtkhochbkjhpfgaaDoor
open Go.RowKit

theorem parse_to (s : List UInt8) (r : Gd × Int) (w : World) (hs : s.length ≤ 1048576) (h : parseG s = r) : Calls Tryd.prog 40 #[str s] w (RetG r w) := h ▸ parse_any s w hs
theorem pg_of {s : List UInt8} {r : Gd × Int} (h : (sameG (parseG s).1 r.1 && decide ((parseG s).2 = r.2)) = true) : parseG s = r := by
  rw [Bool.and_eq_true, sameG_iff, decide_eq_true_eq] at h
  exact Prod.ext h.1 h.2

set_option maxHeartbeats 1000000 in
set_option maxRecDepth 100000 in
theorem cloth_to (s : List UInt8) (g : Gd) (k : Int) (hs : s.length ≤ 1048576) (h : parseG s = (g, k)) (w : World) : Calls Tryd.prog 24 #[str s] w (RetT g w) := by
  have HP := Lib.hid (fun W => parse_to s (g, k) W hs h)
  clear h hs
  have S0 := (St.start w).box #[.int .i64 0, .int .i64 0, .slice none 0 0] 33
  simp only [List.nil_append] at S0
  go_enter Tryd.func24, Tryd.ntmps24
  go_wp2_with fail
  refine (HP.out _).mono ?_
  rintro e w1 ⟨A1, n1, c1, rfl, hown1, hb1⟩
  simp only at hown1 ⊢
  have S1 := S0.keep hb1
  have S2 := S1.box #[.int .i64 g.w, .int .i64 g.h, .slice A1 n1 c1] 33
  have hR := S2.blk 0 rfl
  have hO1 := hown1.alloc (.cells #[.int .i64 g.w, .int .i64 g.h, .slice A1 n1 c1] 33)
  obtain ⟨r0, r1, r2⟩ := hR.cell3
  obtain ⟨f0, f1, f2⟩ := hR.frozen3
  have hB2 := below_set3 S2.below (Nat.le_refl _) (.int .i64 g.w) (.int .i64 g.h) (.slice A1 n1 c1)
  have hO2 := own_set3 hO1 hR (by decide) (.int .i64 g.w) (.int .i64 g.h) (.slice A1 n1 c1)
  obtain ⟨q0, q1, q2⟩ := (hR.set3 (.int .i64 g.w) (.int .i64 g.h) (.slice A1 n1 c1)).cell3
  go_wp2_with fail
  refine bodyPost_ret (v := .agg #[.int .i64 g.w, .int .i64 g.h, .slice A1 n1 c1]) (by simp [results, Tryd.results24, go_sem, q0, q1, q2]) rfl ?_
  exact ⟨A1, n1, c1, rfl, own_base hO2 (by simp), hB2⟩

set_option maxHeartbeats 1000000 in
set_option maxRecDepth 100000 in
theorem reads_to (g : Gd) (l : List UInt8) (h : textG g = (l, 0)) (l' : List UInt8) (b : Bool) (hb : decide (l' = l) = b) (A : Option Addr) (n c : Nat) (w : World) (hr : Rd w A n (g.bits.map Value.bool)) (hnc : n ≤ c) :
    Calls Tryd.prog 25 #[.agg #[.int .i64 g.w, .int .i64 g.h, .slice A n c], .int .i64 0, str l'] w fun e w' => e = .returned (.bool b) ∧ Below w.heap.size w w' := by
  have HT := Lib.hid (fun W h => text_any g A n c W h hnc)
  rw [h] at HT
  have S0 := ((St.start w).addRd hr).box #[.int .i64 g.w, .int .i64 g.h, .slice A n c] 33
  simp only [List.nil_append, List.cons_append] at S0
  obtain ⟨c0, c1, c2⟩ := (S0.blk 1 rfl).cell3
  have hbb : (l' == l) = b := by rw [← hb, Bool.eq_iff_iff]; simp
  clear h hr hb
  go_enter Tryd.func25, Tryd.ntmps25
  go_wp2_with fail
  refine (HT.out _ (S0.rd 0 rfl)).mono ?_
  rintro e w1 ⟨rfl, hb1⟩
  have S1 := S0.keep hb1
  clear c0 c1 c2
  go_wp2_with fail
  go_ret
  exact ⟨by first | rfl | (simp [go_sem, hbb]), S1.below⟩

def k1 : Gd := ⟨2, 2, [true, false, false, true]⟩
def k2 : Gd := ⟨2, 2, [false, true, true, false]⟩
def k3 : Gd := ⟨3, 2, [false, false, false, false, false, false]⟩
def kc : Gd := ⟨2, 1, [true, false]⟩
theorem kp1 : parseG [46, 120, 10, 120, 46, 10] = (k1, 0) := pg_of (by decide +kernel)
theorem kp2 : parseG [120, 46, 10, 46, 120, 10] = (k2, 0) := pg_of (by decide +kernel)
theorem kp3 : parseG [46, 46, 46, 10, 46, 46, 46, 10] = (k3, 0) := pg_of (by decide +kernel)
theorem ko1 : ofG k1 = ((2, 1, 1), 0) := by decide +kernel
theorem ko3 : ofG k3 = ((1, 0, 1), 0) := by decide +kernel
theorem kc1 : cellG k1 = (kc, 0) := by
  have h : (sameG (cellG k1).1 kc && decide ((cellG k1).2 = 0)) = true := by decide +kernel
  rw [Bool.and_eq_true, sameG_iff, decide_eq_true_eq] at h
  exact Prod.ext h.1 h.2
theorem kr1 : rectG k1 = ((2, 2), 0) := by decide +kernel
theorem kt1 : textG kc = ([120, 46, 10], 0) := by decide +kernel
theorem koff : OffR k1 k2 ((1, 0), 0) := by
  refine .inr (.inl ⟨by decide +kernel, 1, 0, ⟨?_, ?_⟩, rfl⟩)
  · rw [meets_range (L := 2) (M := 2) (by decide) (by decide) (by decide) (by decide) (by decide) (by decide)]
    intro x y hx hy
    have hx' : x = 0 ∨ x = 1 := by omega
    have hy' : y = 0 ∨ y = 1 := by omega
    rcases hx' with rfl | rfl <;> rcases hy' with rfl | rfl <;> decide +kernel
  · intro x' y' hl hm
    have e1 : x' = 0 := by omega
    have e2 : y' = 0 := by omega
    subst e1 e2
    have := hm 0 0
    revert this
    decide +kernel

set_option maxHeartbeats 1000000 in
set_option maxRecDepth 100000 in
theorem alive_any (w : World) : Calls Tryd.prog 10 #[] w fun e w' => e = .returned (.bool true) ∧ Below w.heap.size w w' := by
  have K1 := Lib.hid (fun W => cloth_to _ k1 0 (by decide) kp1 W)
  have K2 := Lib.hid (fun W => cloth_to _ k2 0 (by decide) kp2 W)
  have K3 := Lib.hid (fun W => cloth_to _ k3 0 (by decide) kp3 W)
  have O1 := Lib.hid (fun A n c W h hc => of_any k1 A n c W h hc)
  have O3 := Lib.hid (fun A n c W h hc => of_any k3 A n c W h hc)
  have C1 := Lib.hid (fun A n c W h hc => cell6_any k1 A n c W h hc)
  have R1 := Lib.hid (fun A n c W h hc => rect_any k1 A n c W h hc)
  have F1 := Lib.hid (fun A A' n c n' c' W h h' hc hc' => offset_any k1 k2 A A' n c n' c' W h h' hc hc')
  have T1 := Lib.hid (fun A n c W h hc => reads_to kc _ kt1 [120, 46, 10] true (by decide) A n c W h hc)
  have KO := Lib.hid koff
  rw [ko1] at O1
  rw [ko3] at O3
  rw [kc1] at C1
  rw [kr1] at R1
  generalize k1 = g1 at *
  generalize k2 = g2 at *
  generalize k3 = g3 at *
  generalize kc = gc at *
  have S0 := St.start w
  go_enter Tryd.func10, Tryd.ntmps10
  go_wp2_with fail
  refine (K1.out _).mono ?_
  rintro e w1 ⟨A1, n1, c1, rfl, hown1, hb1⟩
  have hc1 := own_le hown1
  have S1 := (S0.keep hb1).addRd (rd_of_own hown1)
  simp only [List.nil_append] at S1
  clear hown1
  go_wp2_with fail
  refine (O1.out _ _ _ _ (S1.rd 0 rfl) hc1).mono ?_
  rintro e w2 ⟨rfl, hb2⟩
  have S2 := (S1.keep hb2).box #[.int .i64 2, .int .i64 1, .int .i64 1] 23
  simp only [List.nil_append, List.cons_append] at S2
  clear S1
  go_wp2_with fail
  refine (K1.out _).mono ?_
  rintro e w3 ⟨A3, n3, c3, rfl, hown3, hb3⟩
  have hc3 := own_le hown3
  have S3 := (S2.keep hb3).addRd (rd_of_own hown3)
  simp only [List.nil_append, List.cons_append] at S3
  clear hown3 S2
  go_wp2_with fail
  refine (C1.out _ _ _ _ (S3.rd 2 rfl) hc3).mono ?_
  rintro e w4 ⟨A4, n4, c4, rfl, hown4, hb4⟩
  simp only at hown4 ⊢
  have hc4 := own_le hown4
  have S4 := ((S3.keep hb4).addRd (rd_of_own hown4)).box #[.int .i64 gc.w, .int .i64 gc.h, .slice A4 n4 c4] 33
  simp only [List.nil_append, List.cons_append] at S4
  clear hown4 S3
  go_wp2_with fail
  refine (K1.out _).mono ?_
  rintro e w5 ⟨A5, n5, c5, rfl, hown5, hb5⟩
  have hc5 := own_le hown5
  have S5 := (S4.keep hb5).addRd (rd_of_own hown5)
  simp only [List.nil_append, List.cons_append] at S5
  clear hown5 S4
  go_wp2_with fail
  refine (R1.out _ _ _ _ (S5.rd 5 rfl) hc5).mono ?_
  rintro e w6 ⟨rfl, hb6⟩
  have S6 := S5.keep hb6
  clear S5
  go_wp2_with fail
  refine (K1.out _).mono ?_
  rintro e w7 ⟨A7, n7, c7, rfl, hown7, hb7⟩
  have hc7 := own_le hown7
  have S7 := (S6.keep hb7).addRd (rd_of_own hown7)
  simp only [List.nil_append, List.cons_append] at S7
  clear hown7 S6
  go_wp2_with fail
  refine (K2.out _).mono ?_
  rintro e w8 ⟨A8, n8, c8, rfl, hown8, hb8⟩
  have hc8 := own_le hown8
  have S8 := (S7.keep hb8).addRd (rd_of_own hown8)
  simp only [List.nil_append, List.cons_append] at S8
  clear hown8 S7
  go_wp2_with fail
  refine (F1.out _ _ _ _ _ _ _ (S8.rd 6 rfl) (S8.rd 7 rfl) hc7 hc8).mono ?_
  rintro e w9 ⟨r, hR, rfl, hb9⟩
  have hu := hR.unique KO.out
  subst hu
  have S9 := (S8.keep hb9).box #[.int .i64 1, .int .i64 0] 48
  simp only [List.nil_append, List.cons_append] at S9
  clear S8 hR
  simp only
  go_wp2_with fail
  refine (K3.out _).mono ?_
  rintro e w10 ⟨A10, n10, c10, rfl, hown10, hb10⟩
  have hc10 := own_le hown10
  have S10 := (S9.keep hb10).addRd (rd_of_own hown10)
  simp only [List.nil_append, List.cons_append] at S10
  clear hown10 S9
  go_wp2_with fail
  refine (O3.out _ _ _ _ (S10.rd 9 rfl) hc10).mono ?_
  rintro e w11 ⟨rfl, hb11⟩
  have S11 := (S10.keep hb11).box #[.int .i64 1, .int .i64 0, .int .i64 1] 23
  simp only [List.nil_append, List.cons_append] at S11
  clear S10
  obtain ⟨a0, a1, a2⟩ := (S11.blk 1 rfl).cell3
  obtain ⟨b0, b1, b2⟩ := (S11.blk 4 rfl).cell3
  go_wp2_with fail
  refine (T1.out _ _ _ _ (S11.rd 3 rfl) hc4).mono ?_
  rintro e w12 ⟨rfl, hb12⟩
  have S12 := S11.keep hb12
  clear S11 a0 a1 a2 b0 b1 b2
  obtain ⟨a0, a1⟩ := (S12.blk 8 rfl).cellP
  obtain ⟨b0, b1, b2⟩ := (S12.blk 10 rfl).cell3
  go_wp2_with fail
  go_ret
  exact ⟨rfl, S12.below⟩
end Go.Proofs.YtkhochbkjhpfgaaDoor
