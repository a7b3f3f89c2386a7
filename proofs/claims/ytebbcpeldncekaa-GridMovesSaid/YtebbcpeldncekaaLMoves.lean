/- The law GridMoves, walked: it answers true and turns nothing that was there, for any grid and numbers. -/
import Derived.Test.YtebbcpeldncekaaLogic
import Derived.Test.YtebbcpeldncekaaShift
import Derived.Test.YtebbcpeldncekaaPart
import Derived.Test.YtebbcpeldncekaaRTurn
import Derived.Test.YtebbcpeldncekaaRShift
import Derived.Test.YtebbcpeldncekaaRTile
import Derived.Test.YtebbcpeldncekaaRPart
namespace Go.Proofs.Ytebbcpeldncekaa
open Go.RowKit

theorem tabG_small {a b : Nat} (ha : a ≤ 64) (hb : b ≤ 64) (F : Nat → Nat → Bool) : (tabG a b F).1.bits.length ≤ 4096 := by
  unfold tabG
  rw [Pl.tab_length]
  exact Nat.mul_le_mul hb ha
theorem shiftG_small (g : Gd) (dx dy : Int) : (shiftG g dx dy).1.bits.length ≤ 4096 := by
  unfold shiftG withChk
  split
  · rename_i h
    obtain ⟨a, b, h1, h2, _, h3, _, h4, _⟩ := chk_zero h
    exact tabG_small (by omega) (by omega) _
  · simp [Gd.zero]
theorem turnG_small (g : Gd) : (turnG g).1.bits.length ≤ 4096 := by
  unfold turnG withChk
  split
  · rename_i h
    obtain ⟨a, b, h1, h2, _, h3, _, h4, _⟩ := chk_zero h
    exact tabG_small (by omega) (by omega) _
  · simp [Gd.zero]
theorem mirG_small (g : Gd) (k : Int) : (mirG g k).1.bits.length ≤ 4096 := by
  unfold mirG withChk
  split
  · rename_i h
    obtain ⟨a, b, h1, h2, _, h3, _, h4, _⟩ := chk_zero h
    simp only
    split
    · exact tabG_small (by omega) (by omega) _
    · split
      · exact tabG_small (by omega) (by omega) _
      · simp [errG, Gd.zero]
  · simp [Gd.zero]
theorem partG_small (g : Gd) (x y w h : Int) : (partG g x y w h).1.bits.length ≤ 4096 := by
  unfold partG withChk
  split
  · rename_i hc
    obtain ⟨a, b, h1, h2, _, h3, _, h4, _⟩ := chk_zero hc
    simp only
    split
    · simp [errG, Gd.zero]
    · exact tabG_small (by omega) (by omega) _
  · simp [Gd.zero]
theorem tileG_small (g : Gd) (x y : Int) : (tileG g x y).1.bits.length ≤ 4096 := by
  unfold tileG withChk
  split
  · rename_i hc
    obtain ⟨a, b, h1, h2, _, h3, _, h4, _⟩ := chk_zero hc
    simp only
    split
    · simp [errG, Gd.zero]
    · split
      · simp [errG, Gd.zero]
      · exact tabG_small (tile_side (by omega)) (tile_side (by omega)) _
  · simp [Gd.zero]

set_option maxHeartbeats 4000000 in
set_option maxRecDepth 100000 in
theorem moves_walk (a : Gd) (x y p q : Int) (A : Option Addr) (n c : Nat) (w : World) (hra : Rd w A n (a.bits.map Value.bool)) :
    Calls Try.prog 4 #[.agg #[.int .i64 a.w, .int .i64 a.h, .slice A n c], .int .i64 x, .int .i64 y, .int .i64 p, .int .i64 q] w fun e w' => e = .returned (.bool true) ∧ Below w.heap.size w w' := by
  have HTurn := Lib.hid (fun W h => turn_any a A n c W h)
  have HRTurn := Lib.hid (fun W h => rturn_any a A n c W h)
  have HMir := Lib.hid (fun W h => mirror_any a x A n c W h)
  have HRMir := Lib.hid (fun W h => rmirror_any a x A n c W h)
  have HSh := Lib.hid (fun W h => shift_any a x y A n c W h)
  have HRSh := Lib.hid (fun W h => rshift_any a x y A n c W h)
  have HTile := Lib.hid (fun W h => tile_any a p q A n c W h)
  have HRTile := Lib.hid (fun W h => rtile_any a p q A n c W h)
  have HPart := Lib.hid (fun W h => part_any a x y p q A n c W h)
  have HRPart := Lib.hid (fun W h => rpart_any a x y p q A n c W h)
  have HTwin := Lib.hid (fun W (h : Rd W A n (a.bits.map Value.bool)) hn => twin_any a.w a.h A n c a.bits W h hn)
  have z1 := turnG_small a
  have z2 := mirG_small a x
  have z3 := shiftG_small a x y
  have z4 := tileG_small a p q
  have z5 := partG_small a x y p q
  generalize turnG a = r1 at *
  generalize mirG a x = r2 at *
  generalize shiftG a x y = r3 at *
  generalize tileG a p q = r4 at *
  generalize partG a x y p q = r5 at *
  obtain ⟨⟨x1, y1, l1⟩, e1⟩ := r1
  obtain ⟨⟨x2, y2, l2⟩, e2⟩ := r2
  obtain ⟨⟨x3, y3, l3⟩, e3⟩ := r3
  obtain ⟨⟨x4, y4, l4⟩, e4⟩ := r4
  obtain ⟨⟨x5, y5, l5⟩, e5⟩ := r5
  obtain ⟨W, H, bs⟩ := a
  simp only at z1 z2 z3 z4 z5 hra HTurn HRTurn HMir HRMir HSh HRSh HTile HRTile HPart HRPart HTwin ⊢
  have ha := Blk.new w 24 #[.int .i64 W, .int .i64 H, .slice A n c]
  have hB : Below w.heap.size w (w.alloc (.cells #[.int .i64 W, .int .i64 H, .slice A n c] 24)) := (Below.refl _ _).alloc (Nat.le_refl _) _
  have hAlt := hra.lt
  replace hra := hra.below hB
  by_cases hn : 4200 < n
  · have hd : decide (4200 < n) = true := by simpa using hn
    go_enter Try.func4, Try.ntmps4
    go_wp2_with fail
    refine (great_any _ _ _ _ _ _).mono ?_
    rintro e w1 ⟨rfl, hb1⟩
    replace hB := below_then hB hb1
    go_wp2_with fail
    go_ret
    exact ⟨rfl, hB⟩
  have hd : decide (4200 < n) = false := by simpa using hn
  go_enter Try.func4, Try.ntmps4
  go_wp2_with fail
  refine (great_any _ _ _ _ _ _).mono ?_
  rintro e w1 ⟨rfl, hb1⟩
  have s1 : w.heap.size + 1 ≤ w1.heap.size := by have := hb1.size; simpa using this
  replace ha := ha.keep hb1
  replace hra := hra.below hb1
  replace hB := below_then hB hb1
  obtain ⟨ca0, ca1, ca2⟩ := ha.cell3
  have la := ha.lt
  go_wp2_with fail
  refine (HTwin.out _ hra (by omega)).mono ?_
  rintro e w2 ⟨A2, n2, c2, rfl, hown2, hb2⟩
  clear ca0 ca1 ca2 la
  have s2 := hb2.size
  replace ha := ha.keep hb2
  replace hra := hra.below hb2
  replace hB := below_then hB hb2
  simp only at hown2 ⊢
  have ho2 := hown2.lt
  obtain ⟨ca0, ca1, ca2⟩ := ha.cell3
  have la := ha.lt
  go_wp2_with fail
  refine (HTurn.out _ (hra.alloc _)).mono ?_
  rintro e w3 ⟨A3, n3, c3, rfl, hown3, hb3⟩
  clear ca0 ca1 ca2 la
  have s3 : w2.heap.size + 1 ≤ w3.heap.size := by have := hb3.size; simpa using this
  replace ha := (ha.alloc _).keep hb3
  have ht11 := (Blk.new w2 24 _).keep hb3
  replace hra := (hra.alloc _).below hb3
  replace hown2 := own_below (hown2.alloc _) hb3
  replace hB := below_then (hB.alloc hB.size _) hb3
  simp only at hown3 ⊢
  obtain ⟨ca0, ca1, ca2⟩ := ha.cell3
  have la := ha.lt
  go_wp2_with fail
  refine (HRTurn.out _ (hra.alloc _)).mono ?_
  rintro e w4 ⟨A4, n4, c4, rfl, hown4, hb4⟩
  clear ca0 ca1 ca2 la
  have s4 : w3.heap.size + 1 ≤ w4.heap.size := by have := hb4.size; simpa using this
  replace ha := (ha.alloc _).keep hb4
  replace ht11 := (ht11.alloc _).keep hb4
  have ht12 := (Blk.new w3 24 _).keep hb4
  replace hra := (hra.alloc _).below hb4
  replace hown2 := own_below (hown2.alloc _) hb4
  replace hown3 := own_below (hown3.alloc _) hb4
  replace hB := below_then (hB.alloc hB.size _) hb4
  simp only at hown4 ⊢
  obtain ⟨ca0, ca1, ca2⟩ := ha.cell3
  have la := ha.lt
  go_wp2_with fail
  refine (HMir.out _ (hra.alloc _)).mono ?_
  rintro e w5 ⟨A5, n5, c5, rfl, hown5, hb5⟩
  clear ca0 ca1 ca2 la
  have s5 : w4.heap.size + 1 ≤ w5.heap.size := by have := hb5.size; simpa using this
  replace ha := (ha.alloc _).keep hb5
  replace ht11 := (ht11.alloc _).keep hb5
  replace ht12 := (ht12.alloc _).keep hb5
  have ht14 := (Blk.new w4 24 _).keep hb5
  replace hra := (hra.alloc _).below hb5
  replace hown2 := own_below (hown2.alloc _) hb5
  replace hown3 := own_below (hown3.alloc _) hb5
  replace hown4 := own_below (hown4.alloc _) hb5
  replace hB := below_then (hB.alloc hB.size _) hb5
  simp only at hown5 ⊢
  obtain ⟨ca0, ca1, ca2⟩ := ha.cell3
  have la := ha.lt
  go_wp2_with fail
  refine (HRMir.out _ (hra.alloc _)).mono ?_
  rintro e w6 ⟨A6, n6, c6, rfl, hown6, hb6⟩
  clear ca0 ca1 ca2 la
  have s6 : w5.heap.size + 1 ≤ w6.heap.size := by have := hb6.size; simpa using this
  replace ha := (ha.alloc _).keep hb6
  replace ht11 := (ht11.alloc _).keep hb6
  replace ht12 := (ht12.alloc _).keep hb6
  replace ht14 := (ht14.alloc _).keep hb6
  have ht16 := (Blk.new w5 24 _).keep hb6
  replace hra := (hra.alloc _).below hb6
  replace hown2 := own_below (hown2.alloc _) hb6
  replace hown3 := own_below (hown3.alloc _) hb6
  replace hown4 := own_below (hown4.alloc _) hb6
  replace hown5 := own_below (hown5.alloc _) hb6
  replace hB := below_then (hB.alloc hB.size _) hb6
  simp only at hown6 ⊢
  obtain ⟨ca0, ca1, ca2⟩ := ha.cell3
  have la := ha.lt
  go_wp2_with fail
  refine (HSh.out _ (hra.alloc _)).mono ?_
  rintro e w7 ⟨A7, n7, c7, rfl, hown7, hb7⟩
  clear ca0 ca1 ca2 la
  have s7 : w6.heap.size + 1 ≤ w7.heap.size := by have := hb7.size; simpa using this
  replace ha := (ha.alloc _).keep hb7
  replace ht11 := (ht11.alloc _).keep hb7
  replace ht12 := (ht12.alloc _).keep hb7
  replace ht14 := (ht14.alloc _).keep hb7
  replace ht16 := (ht16.alloc _).keep hb7
  have ht18 := (Blk.new w6 24 _).keep hb7
  replace hra := (hra.alloc _).below hb7
  replace hown2 := own_below (hown2.alloc _) hb7
  replace hown3 := own_below (hown3.alloc _) hb7
  replace hown4 := own_below (hown4.alloc _) hb7
  replace hown5 := own_below (hown5.alloc _) hb7
  replace hown6 := own_below (hown6.alloc _) hb7
  replace hB := below_then (hB.alloc hB.size _) hb7
  simp only at hown7 ⊢
  obtain ⟨S7, hS7, hA7, ho7⟩ := own_head hown7
  obtain ⟨ca0, ca1, ca2⟩ := ha.cell3
  have la := ha.lt
  go_wp2_with fail
  refine (HRSh.out _ (hra.alloc _)).mono ?_
  rintro e w8 ⟨A8, n8, c8, rfl, hown8, hb8⟩
  clear ca0 ca1 ca2 la
  have s8 : w7.heap.size + 1 ≤ w8.heap.size := by have := hb8.size; simpa using this
  replace ha := (ha.alloc _).keep hb8
  replace ht11 := (ht11.alloc _).keep hb8
  replace ht12 := (ht12.alloc _).keep hb8
  replace ht14 := (ht14.alloc _).keep hb8
  replace ht16 := (ht16.alloc _).keep hb8
  replace ht18 := (ht18.alloc _).keep hb8
  have ht20 := (Blk.new w7 24 _).keep hb8
  replace hra := (hra.alloc _).below hb8
  replace hown2 := own_below (hown2.alloc _) hb8
  replace hown3 := own_below (hown3.alloc _) hb8
  replace hown4 := own_below (hown4.alloc _) hb8
  replace hown5 := own_below (hown5.alloc _) hb8
  replace hown6 := own_below (hown6.alloc _) hb8
  replace hown7 := own_below (hown7.alloc _) hb8
  replace hB := below_then (hB.alloc hB.size _) hb8
  simp only at hown8 ⊢
  obtain ⟨ca0, ca1, ca2⟩ := ha.cell3
  have la := ha.lt
  go_wp2_with fail
  refine (HTile.out _ (hra.alloc _)).mono ?_
  rintro e w9 ⟨A9, n9, c9, rfl, hown9, hb9⟩
  clear ca0 ca1 ca2 la
  have s9 : w8.heap.size + 1 ≤ w9.heap.size := by have := hb9.size; simpa using this
  replace ha := (ha.alloc _).keep hb9
  replace ht11 := (ht11.alloc _).keep hb9
  replace ht12 := (ht12.alloc _).keep hb9
  replace ht14 := (ht14.alloc _).keep hb9
  replace ht16 := (ht16.alloc _).keep hb9
  replace ht18 := (ht18.alloc _).keep hb9
  replace ht20 := (ht20.alloc _).keep hb9
  have ht22 := (Blk.new w8 24 _).keep hb9
  replace hra := (hra.alloc _).below hb9
  replace hown2 := own_below (hown2.alloc _) hb9
  replace hown3 := own_below (hown3.alloc _) hb9
  replace hown4 := own_below (hown4.alloc _) hb9
  replace hown5 := own_below (hown5.alloc _) hb9
  replace hown6 := own_below (hown6.alloc _) hb9
  replace hown7 := own_below (hown7.alloc _) hb9
  replace hown8 := own_below (hown8.alloc _) hb9
  replace hB := below_then (hB.alloc hB.size _) hb9
  simp only at hown9 ⊢
  obtain ⟨ca0, ca1, ca2⟩ := ha.cell3
  have la := ha.lt
  go_wp2_with fail
  refine (HRTile.out _ (hra.alloc _)).mono ?_
  rintro e w10 ⟨A10, n10, c10, rfl, hown10, hb10⟩
  clear ca0 ca1 ca2 la
  have s10 : w9.heap.size + 1 ≤ w10.heap.size := by have := hb10.size; simpa using this
  replace ha := (ha.alloc _).keep hb10
  replace ht11 := (ht11.alloc _).keep hb10
  replace ht12 := (ht12.alloc _).keep hb10
  replace ht14 := (ht14.alloc _).keep hb10
  replace ht16 := (ht16.alloc _).keep hb10
  replace ht18 := (ht18.alloc _).keep hb10
  replace ht20 := (ht20.alloc _).keep hb10
  replace ht22 := (ht22.alloc _).keep hb10
  have ht24 := (Blk.new w9 24 _).keep hb10
  replace hra := (hra.alloc _).below hb10
  replace hown2 := own_below (hown2.alloc _) hb10
  replace hown3 := own_below (hown3.alloc _) hb10
  replace hown4 := own_below (hown4.alloc _) hb10
  replace hown5 := own_below (hown5.alloc _) hb10
  replace hown6 := own_below (hown6.alloc _) hb10
  replace hown7 := own_below (hown7.alloc _) hb10
  replace hown8 := own_below (hown8.alloc _) hb10
  replace hown9 := own_below (hown9.alloc _) hb10
  replace hB := below_then (hB.alloc hB.size _) hb10
  simp only at hown10 ⊢
  obtain ⟨ca0, ca1, ca2⟩ := ha.cell3
  have la := ha.lt
  go_wp2_with fail
  refine (HPart.out _ (hra.alloc _)).mono ?_
  rintro e w11 ⟨A11, n11, c11, rfl, hown11, hb11⟩
  clear ca0 ca1 ca2 la
  have s11 : w10.heap.size + 1 ≤ w11.heap.size := by have := hb11.size; simpa using this
  replace ha := (ha.alloc _).keep hb11
  replace ht11 := (ht11.alloc _).keep hb11
  replace ht12 := (ht12.alloc _).keep hb11
  replace ht14 := (ht14.alloc _).keep hb11
  replace ht16 := (ht16.alloc _).keep hb11
  replace ht18 := (ht18.alloc _).keep hb11
  replace ht20 := (ht20.alloc _).keep hb11
  replace ht22 := (ht22.alloc _).keep hb11
  replace ht24 := (ht24.alloc _).keep hb11
  have ht26 := (Blk.new w10 24 _).keep hb11
  replace hra := (hra.alloc _).below hb11
  replace hown2 := own_below (hown2.alloc _) hb11
  replace hown3 := own_below (hown3.alloc _) hb11
  replace hown4 := own_below (hown4.alloc _) hb11
  replace hown5 := own_below (hown5.alloc _) hb11
  replace hown6 := own_below (hown6.alloc _) hb11
  replace hown7 := own_below (hown7.alloc _) hb11
  replace hown8 := own_below (hown8.alloc _) hb11
  replace hown9 := own_below (hown9.alloc _) hb11
  replace hown10 := own_below (hown10.alloc _) hb11
  replace hB := below_then (hB.alloc hB.size _) hb11
  simp only at hown11 ⊢
  obtain ⟨ca0, ca1, ca2⟩ := ha.cell3
  have la := ha.lt
  go_wp2_with fail
  refine (HRPart.out _ (hra.alloc _)).mono ?_
  rintro e w12 ⟨A12, n12, c12, rfl, hown12, hb12⟩
  clear ca0 ca1 ca2 la
  have s12 : w11.heap.size + 1 ≤ w12.heap.size := by have := hb12.size; simpa using this
  replace ha := (ha.alloc _).keep hb12
  replace ht11 := (ht11.alloc _).keep hb12
  replace ht12 := (ht12.alloc _).keep hb12
  replace ht14 := (ht14.alloc _).keep hb12
  replace ht16 := (ht16.alloc _).keep hb12
  replace ht18 := (ht18.alloc _).keep hb12
  replace ht20 := (ht20.alloc _).keep hb12
  replace ht22 := (ht22.alloc _).keep hb12
  replace ht24 := (ht24.alloc _).keep hb12
  replace ht26 := (ht26.alloc _).keep hb12
  have ht28 := (Blk.new w11 24 _).keep hb12
  replace hra := (hra.alloc _).below hb12
  replace hown2 := own_below (hown2.alloc _) hb12
  replace hown3 := own_below (hown3.alloc _) hb12
  replace hown4 := own_below (hown4.alloc _) hb12
  replace hown5 := own_below (hown5.alloc _) hb12
  replace hown6 := own_below (hown6.alloc _) hb12
  replace hown7 := own_below (hown7.alloc _) hb12
  replace hown8 := own_below (hown8.alloc _) hb12
  replace hown9 := own_below (hown9.alloc _) hb12
  replace hown10 := own_below (hown10.alloc _) hb12
  replace hown11 := own_below (hown11.alloc _) hb12
  replace hB := below_then (hB.alloc hB.size _) hb12
  simp only at hown12 ⊢
  have hk3 : n3 ≤ 4096 := by have := hown3.1; simp at this; omega
  obtain ⟨ct120, ct121, ct122⟩ := ht12.cell3
  have lt12 := ht12.lt
  obtain ⟨ct140, ct141, ct142⟩ := ht14.cell3
  have lt14 := ht14.lt
  go_wp2_with fail
  refine (rsame_true ⟨x1, y1, l1⟩ _ _ _ _ _ _ _ (rd_of_own (hown3.alloc _)) (rd_of_own (hown4.alloc _)) (by omega)).mono ?_
  rintro e w13 ⟨rfl, hb13⟩
  clear ct120 ct121 ct122 lt12
  clear ct140 ct141 ct142 lt14
  have s13 : w12.heap.size + 1 ≤ w13.heap.size := by have := hb13.size; simpa using this
  replace ha := (ha.alloc _).keep hb13
  replace ht11 := (ht11.alloc _).keep hb13
  replace ht12 := (ht12.alloc _).keep hb13
  replace ht14 := (ht14.alloc _).keep hb13
  replace ht16 := (ht16.alloc _).keep hb13
  replace ht18 := (ht18.alloc _).keep hb13
  replace ht20 := (ht20.alloc _).keep hb13
  replace ht22 := (ht22.alloc _).keep hb13
  replace ht24 := (ht24.alloc _).keep hb13
  replace ht26 := (ht26.alloc _).keep hb13
  replace ht28 := (ht28.alloc _).keep hb13
  have ht30 := (Blk.new w12 24 _).keep hb13
  replace hra := (hra.alloc _).below hb13
  replace hown2 := own_below (hown2.alloc _) hb13
  replace hown3 := own_below (hown3.alloc _) hb13
  replace hown4 := own_below (hown4.alloc _) hb13
  replace hown5 := own_below (hown5.alloc _) hb13
  replace hown6 := own_below (hown6.alloc _) hb13
  replace hown7 := own_below (hown7.alloc _) hb13
  replace hown8 := own_below (hown8.alloc _) hb13
  replace hown9 := own_below (hown9.alloc _) hb13
  replace hown10 := own_below (hown10.alloc _) hb13
  replace hown11 := own_below (hown11.alloc _) hb13
  replace hown12 := own_below (hown12.alloc _) hb13
  replace hB := below_then (hB.alloc hB.size _) hb13
  have hk5 : n5 ≤ 4096 := by have := hown5.1; simp at this; omega
  obtain ⟨ct160, ct161, ct162⟩ := ht16.cell3
  have lt16 := ht16.lt
  obtain ⟨ct180, ct181, ct182⟩ := ht18.cell3
  have lt18 := ht18.lt
  go_wp2_with fail
  refine (rsame_true ⟨x2, y2, l2⟩ _ _ _ _ _ _ _ (rd_of_own (hown5)) (rd_of_own (hown6)) (by omega)).mono ?_
  rintro e w14 ⟨rfl, hb14⟩
  clear ct160 ct161 ct162 lt16
  clear ct180 ct181 ct182 lt18
  have s14 := hb14.size
  replace ha := ha.keep hb14
  replace ht11 := ht11.keep hb14
  replace ht12 := ht12.keep hb14
  replace ht14 := ht14.keep hb14
  replace ht16 := ht16.keep hb14
  replace ht18 := ht18.keep hb14
  replace ht20 := ht20.keep hb14
  replace ht22 := ht22.keep hb14
  replace ht24 := ht24.keep hb14
  replace ht26 := ht26.keep hb14
  replace ht28 := ht28.keep hb14
  replace ht30 := ht30.keep hb14
  replace hra := hra.below hb14
  replace hown2 := own_below hown2 hb14
  replace hown3 := own_below hown3 hb14
  replace hown4 := own_below hown4 hb14
  replace hown5 := own_below hown5 hb14
  replace hown6 := own_below hown6 hb14
  replace hown7 := own_below hown7 hb14
  replace hown8 := own_below hown8 hb14
  replace hown9 := own_below hown9 hb14
  replace hown10 := own_below hown10 hb14
  replace hown11 := own_below hown11 hb14
  replace hown12 := own_below hown12 hb14
  replace hB := below_then hB hb14
  have hk7 : n7 ≤ 4096 := by have := hown7.1; simp at this; omega
  obtain ⟨ct200, ct201, ct202⟩ := ht20.cell3
  have lt20 := ht20.lt
  obtain ⟨ct220, ct221, ct222⟩ := ht22.cell3
  have lt22 := ht22.lt
  go_wp2_with fail
  refine (rsame_true ⟨x3, y3, l3⟩ _ _ _ _ _ _ _ (rd_of_own (hown7)) (rd_of_own (hown8)) (by omega)).mono ?_
  rintro e w15 ⟨rfl, hb15⟩
  clear ct200 ct201 ct202 lt20
  clear ct220 ct221 ct222 lt22
  have s15 := hb15.size
  replace ha := ha.keep hb15
  replace ht11 := ht11.keep hb15
  replace ht12 := ht12.keep hb15
  replace ht14 := ht14.keep hb15
  replace ht16 := ht16.keep hb15
  replace ht18 := ht18.keep hb15
  replace ht20 := ht20.keep hb15
  replace ht22 := ht22.keep hb15
  replace ht24 := ht24.keep hb15
  replace ht26 := ht26.keep hb15
  replace ht28 := ht28.keep hb15
  replace ht30 := ht30.keep hb15
  replace hra := hra.below hb15
  replace hown2 := own_below hown2 hb15
  replace hown3 := own_below hown3 hb15
  replace hown4 := own_below hown4 hb15
  replace hown5 := own_below hown5 hb15
  replace hown6 := own_below hown6 hb15
  replace hown7 := own_below hown7 hb15
  replace hown8 := own_below hown8 hb15
  replace hown9 := own_below hown9 hb15
  replace hown10 := own_below hown10 hb15
  replace hown11 := own_below hown11 hb15
  replace hown12 := own_below hown12 hb15
  replace hB := below_then hB hb15
  have hk9 : n9 ≤ 4096 := by have := hown9.1; simp at this; omega
  obtain ⟨ct240, ct241, ct242⟩ := ht24.cell3
  have lt24 := ht24.lt
  obtain ⟨ct260, ct261, ct262⟩ := ht26.cell3
  have lt26 := ht26.lt
  go_wp2_with fail
  refine (rsame_true ⟨x4, y4, l4⟩ _ _ _ _ _ _ _ (rd_of_own (hown9)) (rd_of_own (hown10)) (by omega)).mono ?_
  rintro e w16 ⟨rfl, hb16⟩
  clear ct240 ct241 ct242 lt24
  clear ct260 ct261 ct262 lt26
  have s16 := hb16.size
  replace ha := ha.keep hb16
  replace ht11 := ht11.keep hb16
  replace ht12 := ht12.keep hb16
  replace ht14 := ht14.keep hb16
  replace ht16 := ht16.keep hb16
  replace ht18 := ht18.keep hb16
  replace ht20 := ht20.keep hb16
  replace ht22 := ht22.keep hb16
  replace ht24 := ht24.keep hb16
  replace ht26 := ht26.keep hb16
  replace ht28 := ht28.keep hb16
  replace ht30 := ht30.keep hb16
  replace hra := hra.below hb16
  replace hown2 := own_below hown2 hb16
  replace hown3 := own_below hown3 hb16
  replace hown4 := own_below hown4 hb16
  replace hown5 := own_below hown5 hb16
  replace hown6 := own_below hown6 hb16
  replace hown7 := own_below hown7 hb16
  replace hown8 := own_below hown8 hb16
  replace hown9 := own_below hown9 hb16
  replace hown10 := own_below hown10 hb16
  replace hown11 := own_below hown11 hb16
  replace hown12 := own_below hown12 hb16
  replace hB := below_then hB hb16
  have hk11 : n11 ≤ 4096 := by have := hown11.1; simp at this; omega
  obtain ⟨ct280, ct281, ct282⟩ := ht28.cell3
  have lt28 := ht28.lt
  obtain ⟨ct300, ct301, ct302⟩ := ht30.cell3
  have lt30 := ht30.lt
  go_wp2_with fail
  refine (rsame_true ⟨x5, y5, l5⟩ _ _ _ _ _ _ _ (rd_of_own (hown11)) (rd_of_own (hown12)) (by omega)).mono ?_
  rintro e w17 ⟨rfl, hb17⟩
  clear ct280 ct281 ct282 lt28
  clear ct300 ct301 ct302 lt30
  have s17 := hb17.size
  replace ha := ha.keep hb17
  replace ht11 := ht11.keep hb17
  replace ht12 := ht12.keep hb17
  replace ht14 := ht14.keep hb17
  replace ht16 := ht16.keep hb17
  replace ht18 := ht18.keep hb17
  replace ht20 := ht20.keep hb17
  replace ht22 := ht22.keep hb17
  replace ht24 := ht24.keep hb17
  replace ht26 := ht26.keep hb17
  replace ht28 := ht28.keep hb17
  replace ht30 := ht30.keep hb17
  replace hra := hra.below hb17
  replace hown2 := own_below hown2 hb17
  replace hown3 := own_below hown3 hb17
  replace hown4 := own_below hown4 hb17
  replace hown5 := own_below hown5 hb17
  replace hown6 := own_below hown6 hb17
  replace hown7 := own_below hown7 hb17
  replace hown8 := own_below hown8 hb17
  replace hown9 := own_below hown9 hb17
  replace hown10 := own_below hown10 hb17
  replace hown11 := own_below hown11 hb17
  replace hown12 := own_below hown12 hb17
  replace hB := below_then hB hb17
  clear HTwin HTurn HRTurn HMir HRMir HSh HRSh HTile HRTile HPart HRPart hd
  clear hown3 hown4 hown5 hown6 hown8 hown9 hown10 hown11 hown12 ht12 ht14 ht16 ht18 ht22 ht24 ht26 ht28 ht30 hb1 hb2 hb3 hb4 hb5 hb6 hb7 hb8 hb9 hb10 hb11 hb12 hb13 hb14 hb15 hb16 hb17
  go_wp2_with fail
  go_loopw [32] (fun i wr => ∃ (k : Nat) (l : List Bool), k ≤ n7 ∧ i = .int .i64 k ∧ wr.ownsRow (w6.heap.size + 1) 4 1 (.slice A7 n7 c7) n7 (l.map Value.bool) ∧ Only S7 w17 wr) (fun i _ => n7 - (intOf i).toNat)
  case atStart => exact ⟨0, l3, Nat.zero_le _, rfl, own_base hown7 (by simp), Only.refl _ _⟩
  case round =>
    obtain ⟨k, l, hk, rfl, hown, hon⟩ := hrel
    have hs7 : ∀ q ∈ S7, w6.heap.size < q ∧ q < w7.heap.size := fun q hq => by have := hS7 _ hq; simp at this; omega
    have hx := ht20.only hon (fun hm => by have := hs7 _ hm; omega)
    obtain ⟨d0, d1, d2⟩ := hx.cell3
    by_cases hlt : k < n7
    · obtain ⟨g, rfl, hg⟩ := hA7 (by omega)
      have hll : l.length = n7 := by simpa using hown.1
      have hcell : wr.cell? ⟨g, k, none⟩ = some (.bool (l.getD k false)) := by
        rw [hown.cellAt k (by omega), List.getElem?_map, List.getElem?_eq_getElem (by omega)]
        simp [List.getD, show k < l.length by omega]
      have hfr := hown.frozenAt k
      have hst := hown.stored k (.bool (!(l.getD k false)))
      have R1 := Lib.hid hst.1
      have R2 := Lib.hid (hon.set (p := ⟨g, k, none⟩) hg (.bool (!(l.getD k false))))
      generalize l.getD k false = p at *
      clear hst hown hon hll hA7 hown7 ho7 hown2 hS7 ho2 ha ht11 ht20 hra hx hB hAlt hs7
      go_wp2_with fail
      go_region
      all_goals
        go_wp2_with fail
        go_roundw
        case rel => exact ⟨k + 1, l.set k (!p), by omega, by go_num, by rw [List.map_set]; exact R1.out, R2.out.drew⟩
        case measure => simp [intOf]; omega
    · have hn7 : k = n7 := by omega
      replace ha := ha.only hon (fun hm => by have := hs7 _ hm; omega)
      replace ht11 := ht11.only hon (fun hm => by have := hs7 _ hm; omega)
      replace hra := hra.only hon (fun b o h1 h2 hm => by have := hAlt b o h1 h2; have := hs7 _ hm; omega)
      replace hown2 := own_only hown2 hon (fun q hq hm => by have := ho2 q hq; have := hs7 _ hm; omega)
      have hB1 := hB.trans (hon.below (B := w.heap.size) (fun q hq => by have := hs7 _ hq; omega) hB.size)
      obtain ⟨ca0, ca1, ca2⟩ := ha.cell3
      obtain ⟨cb0, cb1, cb2⟩ := ht11.cell3
      clear hon hB hS7 hA7 hs7 ht20 hown hown7 hx ho2 ho7 hAlt
      go_wp2_with fail
      refine (rsame_true ⟨W, H, bs⟩ _ _ _ _ _ _ _ hra (rd_of_own hown2) (by omega)).mono ?_
      rintro e w20 ⟨rfl, hb20⟩
      go_wp2_with fail
      go_ret
      exact ⟨rfl, below_then hB1 hb20⟩

end Go.Proofs.Ytebbcpeldncekaa
