import Derived.Test.YtebbcpeldncekaaJoin
import Derived.Test.YtebbcpeldncekaaRJoin
import Derived.Test.YtebbcpeldncekaaRSame
import Derived.BigRegion
namespace Go.Proofs.Ytebbcpeldncekaa
open Go.RowKit

theorem rsame_true (g : Gd) (A A2 : Option Addr) (n c n2 c2 : Nat) (w : World) (hr : Rd w A n (g.bits.map Value.bool)) (hr2 : Rd w A2 n2 (g.bits.map Value.bool)) (hn : n ≤ 1048576) :
    Calls Try.prog 13 #[.agg #[.int .i64 g.w, .int .i64 g.h, .slice A n c], .agg #[.int .i64 g.w, .int .i64 g.h, .slice A2 n2 c2]] w fun e w' => e = .returned (.bool true) ∧ Below w.heap.size w w' :=
  (rsame_any g g A A2 n c n2 c2 w hr hr2 hn).mono fun _ _ h => ⟨by rw [h.1, sameG_self], h.2⟩

set_option maxHeartbeats 4000000 in
theorem logic_walk (a b : Gd) (A A2 : Option Addr) (n c n2 c2 : Nat) (w : World) (hra : Rd w A n (a.bits.map Value.bool)) (hrb : Rd w A2 n2 (b.bits.map Value.bool)) :
    Calls Try.prog 3 #[.agg #[.int .i64 a.w, .int .i64 a.h, .slice A n c], .agg #[.int .i64 b.w, .int .i64 b.h, .slice A2 n2 c2]] w fun e w' => e = .returned (.bool true) ∧ Below w.heap.size w w' := by
  have HNot := Lib.hid (fun W h => not_any a A n c W h)
  have HRNot := Lib.hid (fun W h => rnot_any a A n c W h)
  have HAnd := Lib.hid (fun W h h2 => and_any a b A A2 n c n2 c2 W h h2)
  have HRAnd := Lib.hid (fun W h h2 => rand_any a b A A2 n c n2 c2 W h h2)
  have HOr := Lib.hid (fun W h h2 => or_any a b A A2 n c n2 c2 W h h2)
  have HROr := Lib.hid (fun W h h2 => ror_any a b A A2 n c n2 c2 W h h2)
  have HTwin := Lib.hid (fun W (h : Rd W A n (a.bits.map Value.bool)) hn => twin_any a.w a.h A n c a.bits W h hn)
  have HSame := Lib.hid (fun W A3 n3 c3 h h3 hn => rsame_true a A A3 n c n3 c3 W h h3 hn)
  have z1 := notG_small a
  have z2 := joinG_small (fun p q => p && q) a b
  have z3 := joinG_small (fun p q => p || q) a b
  generalize notG a = r1 at *
  generalize joinG (fun p q => p && q) a b = r2 at *
  generalize joinG (fun p q => p || q) a b = r3 at *
  obtain ⟨⟨x1, y1, l1⟩, e1⟩ := r1
  obtain ⟨⟨x2, y2, l2⟩, e2⟩ := r2
  obtain ⟨⟨x3, y3, l3⟩, e3⟩ := r3
  obtain ⟨W, H, bs⟩ := a
  obtain ⟨W2, H2, bs2⟩ := b
  simp only at z1 z2 z3 hra hrb HNot HRNot HAnd HRAnd HOr HROr HTwin HSame ⊢
  have ha := (Blk.new w 24 #[.int .i64 W, .int .i64 H, .slice A n c]).alloc (.cells #[.int .i64 W2, .int .i64 H2, .slice A2 n2 c2] 24)
  have hb : Blk ((w.alloc (.cells #[.int .i64 W, .int .i64 H, .slice A n c] 24)).alloc (.cells #[.int .i64 W2, .int .i64 H2, .slice A2 n2 c2] 24)) (w.heap.size + 1) 24 #[.int .i64 W2, .int .i64 H2, .slice A2 n2 c2] := by simpa using Blk.new (w.alloc (.cells #[.int .i64 W, .int .i64 H, .slice A n c] 24)) 24 #[.int .i64 W2, .int .i64 H2, .slice A2 n2 c2]
  have hB := Joins.below_alloc2 w (.cells #[.int .i64 W, .int .i64 H, .slice A n c] 24) (.cells #[.int .i64 W2, .int .i64 H2, .slice A2 n2 c2] 24)
  have hAlt := hra.lt
  replace hra := hra.below hB
  replace hrb := hrb.below hB
  by_cases hn : 4200 < n
  · have hd : decide (4200 < n) = true := by simpa using hn
    go_enter Try.func3, Try.ntmps3
    go_wp2_with fail
    refine (great_any _ _ _ _ _ _).mono ?_
    rintro e w1 ⟨rfl, hb1⟩
    replace hB := below_then hB hb1
    go_wp2_with fail
    go_ret
    exact ⟨rfl, hB⟩
  have hd : decide (4200 < n) = false := by simpa using hn
  by_cases hn2 : 4200 < n2
  · have hd2 : decide (4200 < n2) = true := by simpa using hn2
    go_enter Try.func3, Try.ntmps3
    go_wp2_with fail
    refine (great_any _ _ _ _ _ _).mono ?_
    rintro e w1 ⟨rfl, hb1⟩
    replace hB := below_then hB hb1
    replace hb := hb.keep hb1
    obtain ⟨c0, c1, c2'⟩ := hb.cell3
    go_wp2_with fail
    refine (great_any _ _ _ _ _ _).mono ?_
    rintro e w2 ⟨rfl, hb2⟩
    replace hB := below_then hB hb2
    go_wp2_with fail
    go_ret
    exact ⟨rfl, hB⟩
  have hd2 : decide (4200 < n2) = false := by simpa using hn2
  go_enter Try.func3, Try.ntmps3
  go_wp2_with fail
  refine (great_any _ _ _ _ _ _).mono ?_
  rintro e w1 ⟨rfl, hb1⟩
  have s1 : w.heap.size + 1 + 1 ≤ w1.heap.size := by have := hb1.size; simpa using this
  replace ha := ha.keep hb1
  replace hb := hb.keep hb1
  replace hra := hra.below hb1
  replace hrb := hrb.below hb1
  replace hB := below_then hB hb1
  obtain ⟨cb0, cb1, cb2⟩ := hb.cell3
  have lb := hb.lt
  go_wp2_with fail
  refine (great_any _ _ _ _ _ _).mono ?_
  rintro e w2 ⟨rfl, hb2⟩
  clear cb0 cb1 cb2 lb
  have s2 := hb2.size
  replace ha := ha.keep hb2
  replace hb := hb.keep hb2
  replace hra := hra.below hb2
  replace hrb := hrb.below hb2
  replace hB := below_then hB hb2
  obtain ⟨ca0, ca1, ca2⟩ := ha.cell3
  have la := ha.lt
  go_wp2_with fail
  refine (HTwin.out _ hra (by omega)).mono ?_
  rintro e w3 ⟨A3, n3, c3, rfl, hown3, hb3⟩
  clear ca0 ca1 ca2 la
  have s3 := hb3.size
  replace ha := ha.keep hb3
  replace hb := hb.keep hb3
  replace hra := hra.below hb3
  replace hrb := hrb.below hb3
  replace hB := below_then hB hb3
  simp only at hown3 ⊢
  have ho3 := hown3.lt
  obtain ⟨ca0, ca1, ca2⟩ := ha.cell3
  have la := ha.lt
  go_wp2_with fail
  refine (HNot.out _ (hra.alloc _)).mono ?_
  rintro e w4 ⟨A4, n4, c4, rfl, hown4, hb4⟩
  clear ca0 ca1 ca2 la
  have s4 : w3.heap.size + 1 ≤ w4.heap.size := by have := hb4.size; simpa using this
  replace ha := (ha.alloc _).keep hb4
  replace hb := (hb.alloc _).keep hb4
  have ht5 := (Blk.new w3 24 _).keep hb4
  replace hra := (hra.alloc _).below hb4
  replace hrb := (hrb.alloc _).below hb4
  replace hown3 := own_below (hown3.alloc _) hb4
  replace hB := below_then (hB.alloc hB.size _) hb4
  simp only at hown4 ⊢
  obtain ⟨S4, hS4, hA4, ho4⟩ := own_head hown4
  obtain ⟨ca0, ca1, ca2⟩ := ha.cell3
  have la := ha.lt
  go_wp2_with fail
  refine (HRNot.out _ (hra.alloc _)).mono ?_
  rintro e w5 ⟨A5, n5, c5, rfl, hown5, hb5⟩
  clear ca0 ca1 ca2 la
  have s5 : w4.heap.size + 1 ≤ w5.heap.size := by have := hb5.size; simpa using this
  replace ha := (ha.alloc _).keep hb5
  replace hb := (hb.alloc _).keep hb5
  replace ht5 := (ht5.alloc _).keep hb5
  have ht6 := (Blk.new w4 24 _).keep hb5
  replace hra := (hra.alloc _).below hb5
  replace hrb := (hrb.alloc _).below hb5
  replace hown3 := own_below (hown3.alloc _) hb5
  replace hown4 := own_below (hown4.alloc _) hb5
  replace hB := below_then (hB.alloc hB.size _) hb5
  simp only at hown5 ⊢
  obtain ⟨ca0, ca1, ca2⟩ := ha.cell3
  have la := ha.lt
  obtain ⟨cb0, cb1, cb2⟩ := hb.cell3
  have lb := hb.lt
  go_wp2_with fail
  refine (HAnd.out _ (hra.alloc _) (hrb.alloc _)).mono ?_
  rintro e w6 ⟨A6, n6, c6, rfl, hown6, hb6⟩
  clear ca0 ca1 ca2 la
  clear cb0 cb1 cb2 lb
  have s6 : w5.heap.size + 1 ≤ w6.heap.size := by have := hb6.size; simpa using this
  replace ha := (ha.alloc _).keep hb6
  replace hb := (hb.alloc _).keep hb6
  replace ht5 := (ht5.alloc _).keep hb6
  replace ht6 := (ht6.alloc _).keep hb6
  have ht8 := (Blk.new w5 24 _).keep hb6
  replace hra := (hra.alloc _).below hb6
  replace hrb := (hrb.alloc _).below hb6
  replace hown3 := own_below (hown3.alloc _) hb6
  replace hown4 := own_below (hown4.alloc _) hb6
  replace hown5 := own_below (hown5.alloc _) hb6
  replace hB := below_then (hB.alloc hB.size _) hb6
  simp only at hown6 ⊢
  obtain ⟨S6, hS6, hA6, ho6⟩ := own_head hown6
  obtain ⟨ca0, ca1, ca2⟩ := ha.cell3
  have la := ha.lt
  obtain ⟨cb0, cb1, cb2⟩ := hb.cell3
  have lb := hb.lt
  go_wp2_with fail
  refine (HRAnd.out _ (hra.alloc _) (hrb.alloc _)).mono ?_
  rintro e w7 ⟨A7, n7, c7, rfl, hown7, hb7⟩
  clear ca0 ca1 ca2 la
  clear cb0 cb1 cb2 lb
  have s7 : w6.heap.size + 1 ≤ w7.heap.size := by have := hb7.size; simpa using this
  replace ha := (ha.alloc _).keep hb7
  replace hb := (hb.alloc _).keep hb7
  replace ht5 := (ht5.alloc _).keep hb7
  replace ht6 := (ht6.alloc _).keep hb7
  replace ht8 := (ht8.alloc _).keep hb7
  have ht10 := (Blk.new w6 24 _).keep hb7
  replace hra := (hra.alloc _).below hb7
  replace hrb := (hrb.alloc _).below hb7
  replace hown3 := own_below (hown3.alloc _) hb7
  replace hown4 := own_below (hown4.alloc _) hb7
  replace hown5 := own_below (hown5.alloc _) hb7
  replace hown6 := own_below (hown6.alloc _) hb7
  replace hB := below_then (hB.alloc hB.size _) hb7
  simp only at hown7 ⊢
  obtain ⟨ca0, ca1, ca2⟩ := ha.cell3
  have la := ha.lt
  obtain ⟨cb0, cb1, cb2⟩ := hb.cell3
  have lb := hb.lt
  go_wp2_with fail
  refine (HOr.out _ (hra.alloc _) (hrb.alloc _)).mono ?_
  rintro e w8 ⟨A8, n8, c8, rfl, hown8, hb8⟩
  clear ca0 ca1 ca2 la
  clear cb0 cb1 cb2 lb
  have s8 : w7.heap.size + 1 ≤ w8.heap.size := by have := hb8.size; simpa using this
  replace ha := (ha.alloc _).keep hb8
  replace hb := (hb.alloc _).keep hb8
  replace ht5 := (ht5.alloc _).keep hb8
  replace ht6 := (ht6.alloc _).keep hb8
  replace ht8 := (ht8.alloc _).keep hb8
  replace ht10 := (ht10.alloc _).keep hb8
  have ht12 := (Blk.new w7 24 _).keep hb8
  replace hra := (hra.alloc _).below hb8
  replace hrb := (hrb.alloc _).below hb8
  replace hown3 := own_below (hown3.alloc _) hb8
  replace hown4 := own_below (hown4.alloc _) hb8
  replace hown5 := own_below (hown5.alloc _) hb8
  replace hown6 := own_below (hown6.alloc _) hb8
  replace hown7 := own_below (hown7.alloc _) hb8
  replace hB := below_then (hB.alloc hB.size _) hb8
  simp only at hown8 ⊢
  obtain ⟨S8, hS8, hA8, ho8⟩ := own_head hown8
  obtain ⟨ca0, ca1, ca2⟩ := ha.cell3
  have la := ha.lt
  obtain ⟨cb0, cb1, cb2⟩ := hb.cell3
  have lb := hb.lt
  go_wp2_with fail
  refine (HROr.out _ (hra.alloc _) (hrb.alloc _)).mono ?_
  rintro e w9 ⟨A9, n9, c9, rfl, hown9, hb9⟩
  clear ca0 ca1 ca2 la
  clear cb0 cb1 cb2 lb
  have s9 : w8.heap.size + 1 ≤ w9.heap.size := by have := hb9.size; simpa using this
  replace ha := (ha.alloc _).keep hb9
  replace hb := (hb.alloc _).keep hb9
  replace ht5 := (ht5.alloc _).keep hb9
  replace ht6 := (ht6.alloc _).keep hb9
  replace ht8 := (ht8.alloc _).keep hb9
  replace ht10 := (ht10.alloc _).keep hb9
  replace ht12 := (ht12.alloc _).keep hb9
  have ht14 := (Blk.new w8 24 _).keep hb9
  replace hra := (hra.alloc _).below hb9
  replace hrb := (hrb.alloc _).below hb9
  replace hown3 := own_below (hown3.alloc _) hb9
  replace hown4 := own_below (hown4.alloc _) hb9
  replace hown5 := own_below (hown5.alloc _) hb9
  replace hown6 := own_below (hown6.alloc _) hb9
  replace hown7 := own_below (hown7.alloc _) hb9
  replace hown8 := own_below (hown8.alloc _) hb9
  replace hB := below_then (hB.alloc hB.size _) hb9
  simp only at hown9 ⊢
  obtain ⟨ct60, ct61, ct62⟩ := ht6.cell3
  have lt6 := ht6.lt
  obtain ⟨ct80, ct81, ct82⟩ := ht8.cell3
  have lt8 := ht8.lt
  go_wp2_with fail
  have hk4 : n4 ≤ 4096 := by have := hown4.1; simp at this; omega
  have hk6 : n6 ≤ 4096 := by have := hown6.1; simp at this; omega
  have hk8 : n8 ≤ 4096 := by have := hown8.1; simp at this; omega
  refine (rsame_true ⟨x1, y1, l1⟩ _ _ _ _ _ _ _ (rd_of_own (hown4.alloc _)) (rd_of_own (hown5.alloc _)) (by omega)).mono ?_
  rintro e w10 ⟨rfl, hb10⟩
  clear ct60 ct61 ct62 lt6
  clear ct80 ct81 ct82 lt8
  have s10 : w9.heap.size + 1 ≤ w10.heap.size := by have := hb10.size; simpa using this
  replace ha := (ha.alloc _).keep hb10
  replace hb := (hb.alloc _).keep hb10
  replace ht5 := (ht5.alloc _).keep hb10
  replace ht6 := (ht6.alloc _).keep hb10
  replace ht8 := (ht8.alloc _).keep hb10
  replace ht10 := (ht10.alloc _).keep hb10
  replace ht12 := (ht12.alloc _).keep hb10
  replace ht14 := (ht14.alloc _).keep hb10
  have ht16 := (Blk.new w9 24 _).keep hb10
  replace hra := (hra.alloc _).below hb10
  replace hrb := (hrb.alloc _).below hb10
  replace hown3 := own_below (hown3.alloc _) hb10
  replace hown4 := own_below (hown4.alloc _) hb10
  replace hown5 := own_below (hown5.alloc _) hb10
  replace hown6 := own_below (hown6.alloc _) hb10
  replace hown7 := own_below (hown7.alloc _) hb10
  replace hown8 := own_below (hown8.alloc _) hb10
  replace hown9 := own_below (hown9.alloc _) hb10
  replace hB := below_then (hB.alloc hB.size _) hb10
  obtain ⟨ct100, ct101, ct102⟩ := ht10.cell3
  have lt10 := ht10.lt
  obtain ⟨ct120, ct121, ct122⟩ := ht12.cell3
  have lt12 := ht12.lt
  go_wp2_with fail
  refine (rsame_true ⟨x2, y2, l2⟩ _ _ _ _ _ _ _ (rd_of_own hown6) (rd_of_own hown7) (by omega)).mono ?_
  rintro e w11 ⟨rfl, hb11⟩
  clear ct100 ct101 ct102 lt10
  clear ct120 ct121 ct122 lt12
  have s11 := hb11.size
  replace ha := ha.keep hb11
  replace hb := hb.keep hb11
  replace ht5 := ht5.keep hb11
  replace ht6 := ht6.keep hb11
  replace ht8 := ht8.keep hb11
  replace ht10 := ht10.keep hb11
  replace ht12 := ht12.keep hb11
  replace ht14 := ht14.keep hb11
  replace ht16 := ht16.keep hb11
  replace hra := hra.below hb11
  replace hrb := hrb.below hb11
  replace hown3 := own_below hown3 hb11
  replace hown4 := own_below hown4 hb11
  replace hown5 := own_below hown5 hb11
  replace hown6 := own_below hown6 hb11
  replace hown7 := own_below hown7 hb11
  replace hown8 := own_below hown8 hb11
  replace hown9 := own_below hown9 hb11
  replace hB := below_then hB hb11
  obtain ⟨ct140, ct141, ct142⟩ := ht14.cell3
  have lt14 := ht14.lt
  obtain ⟨ct160, ct161, ct162⟩ := ht16.cell3
  have lt16 := ht16.lt
  go_wp2_with fail
  refine (rsame_true ⟨x3, y3, l3⟩ _ _ _ _ _ _ _ (rd_of_own hown8) (rd_of_own hown9) (by omega)).mono ?_
  rintro e w12 ⟨rfl, hb12⟩
  clear ct140 ct141 ct142 lt14
  clear ct160 ct161 ct162 lt16
  have s12 := hb12.size
  replace ha := ha.keep hb12
  replace hb := hb.keep hb12
  replace ht5 := ht5.keep hb12
  replace ht6 := ht6.keep hb12
  replace ht8 := ht8.keep hb12
  replace ht10 := ht10.keep hb12
  replace ht12 := ht12.keep hb12
  replace ht14 := ht14.keep hb12
  replace ht16 := ht16.keep hb12
  replace hra := hra.below hb12
  replace hrb := hrb.below hb12
  replace hown3 := own_below hown3 hb12
  replace hown4 := own_below hown4 hb12
  replace hown5 := own_below hown5 hb12
  replace hown6 := own_below hown6 hb12
  replace hown7 := own_below hown7 hb12
  replace hown8 := own_below hown8 hb12
  replace hown9 := own_below hown9 hb12
  replace hB := below_then hB hb12
  clear HTwin HSame HNot HRNot HAnd HRAnd HOr HROr hd hd2 ht8 ht12 ht16 hb hrb hown5 hown7 hown9 hb1 hb2 hb3 hb4 hb5 hb6 hb7 hb8 hb9 hb10 hb11 hb12
  go_wp2_with fail
  go_loopw [18] (fun i wr => ∃ (k : Nat) (l : List Bool), k ≤ n4 ∧ i = .int .i64 k ∧ wr.ownsRow (w3.heap.size + 1) 4 1 (.slice A4 n4 c4) n4 (l.map Value.bool) ∧ Only S4 w12 wr) (fun i _ => n4 - (intOf i).toNat)
  case atStart => exact ⟨0, l1, Nat.zero_le _, rfl, own_base hown4 (by simp), Only.refl _ _⟩
  case round =>
    obtain ⟨k, l, hk, rfl, hown, hon⟩ := hrel
    have hx6 := ht6.only hon (fun hm => by have := hS4 _ hm; omega)
    obtain ⟨c60, c61, c62⟩ := hx6.cell3
    by_cases hlt : k < n4
    · obtain ⟨g, rfl, hg⟩ := hA4 (by omega)
      have hll : l.length = n4 := by simpa using hown.1
      have hcell : wr.cell? ⟨g, k, none⟩ = some (.bool (l.getD k false)) := by
        rw [hown.cellAt k (by omega), List.getElem?_map, List.getElem?_eq_getElem (by omega)]
        simp [List.getD, show k < l.length by omega]
      have hfr := hown.frozenAt k
      have hst := hown.stored k (.bool (!(l.getD k false)))
      have R1 := Lib.hid hst.1
      have R2 := Lib.hid (hon.set (p := ⟨g, k, none⟩) hg (.bool (!(l.getD k false))))
      generalize l.getD k false = p at *
      clear hst hown hon hll hA4 hown4 ho4 hown3 hown6 hown8 hA6 hA8 hS4 hS6 hS8 ho3 ho6 ho8 ha ht5 ht6 ht10 ht14 hra hx6 hB hAlt
      go_wp2_with fail
      go_region
      all_goals
        go_wp2_with fail
        go_roundw
        case rel => exact ⟨k + 1, l.set k (!p), by omega, by go_num, by rw [List.map_set]; exact R1.out, R2.out.drew⟩
        case measure => simp [intOf]; omega
    · have hn4 : k = n4 := by omega
      clear hown hx6
      have hs6 : ∀ q ∈ S4, q < w4.heap.size := fun q hq => (hS4 q hq).2
      have hs7 : ∀ q ∈ S4, w3.heap.size < q := fun q hq => by have := (hS4 q hq).1; simp at this; omega
      replace ha := ha.only hon (fun hm => by have := hs7 _ hm; omega)
      replace ht5 := ht5.only hon (fun hm => by have := hs7 _ hm; omega)
      replace ht10 := ht10.only hon (fun hm => by have := hs6 _ hm; omega)
      replace ht14 := ht14.only hon (fun hm => by have := hs6 _ hm; omega)
      replace hra := hra.only hon (fun b o h1 h2 hm => by have := hAlt b o h1 h2; have := hs7 _ hm; omega)
      replace hown6 := own_only hown6 hon (fun q hq hm => by have := ho6 q hq; have := hs6 _ hm; simp at *; omega)
      replace hown8 := own_only hown8 hon (fun q hq hm => by have := ho8 q hq; have := hs6 _ hm; simp at *; omega)
      replace hown3 := own_only hown3 hon (fun q hq hm => by have := ho3 q hq; have := hs7 _ hm; omega)
      have hB1 := hB.trans (hon.below (B := w.heap.size) (fun q hq => by have := hs7 _ hq; omega) hB.size)
      clear hon hB hS4 hA4 hs6 hs7 ht6
      go_wp2_with fail
      clear c60 c61 c62
      go_loopw [19] (fun i wq => ∃ (k : Nat) (l m : List Bool), k ≤ n6 ∧ k ≤ n8 ∧ i = .int .i64 k ∧ wq.ownsRow (w5.heap.size + 1) 4 1 (.slice A6 n6 c6) n6 (l.map Value.bool) ∧
          wq.ownsRow (w7.heap.size + 1) 4 1 (.slice A8 n8 c8) n8 (m.map Value.bool) ∧ Only (S6 ++ S8) wr wq) (fun i _ => n6 - (intOf i).toNat)
      case atStart => exact ⟨0, l2, l3, Nat.zero_le _, Nat.zero_le _, rfl, own_base hown6 (by simp), own_base hown8 (by simp), Only.refl _ _⟩
      case round =>
        clear hk hlt
        obtain ⟨k, l, m, hk, hk', rfl, hw6, hw8, hon⟩ := hrel
        have h68 : ∀ q ∈ S6 ++ S8, w5.heap.size < q ∧ q < w6.heap.size ∨ w7.heap.size < q ∧ q < w8.heap.size := fun q hq => by
          rcases List.mem_append.1 hq with h | h
          · left; have := hS6 _ h; simp at this; omega
          · right; have := hS8 _ h; simp at this; omega
        have hx10 := ht10.only hon (fun hm => by have := h68 _ hm; omega)
        have hx14 := ht14.only hon (fun hm => by have := h68 _ hm; omega)
        obtain ⟨c60, c61, c62⟩ := hx10.cell3
        obtain ⟨c70, c71, c72⟩ := hx14.cell3
        by_cases hlt : k < n6 ∧ k < n8
        · obtain ⟨hlt6, hlt8⟩ := hlt
          obtain ⟨g, rfl, hg⟩ := hA6 (by omega)
          obtain ⟨g', rfl, hg'⟩ := hA8 (by omega)
          have hgg : g < g' := by have := (hS6 _ hg).2; have := (hS8 _ hg').1; simp at *; omega
          have hll : l.length = n6 := by simpa using hw6.1
          have hlm : m.length = n8 := by simpa using hw8.1
          have hcell : wr.cell? ⟨g, k, none⟩ = some (.bool (l.getD k false)) := by
            rw [hw6.cellAt k (by omega), List.getElem?_map, List.getElem?_eq_getElem (by omega)]
            simp [List.getD, show k < l.length by omega]
          have hcell' : wr.cell? ⟨g', k, none⟩ = some (.bool (m.getD k false)) := by
            rw [hw8.cellAt k (by omega), List.getElem?_map, List.getElem?_eq_getElem (by omega)]
            simp [List.getD, show k < m.length by omega]
          have hfr := hw6.frozenAt k
          have hfr' := hw8.frozenAt k
          have hst := hw6.stored k (.bool (!(l.getD k false)))
          have hw8' := own_far hw8 (p := ⟨g, k, none⟩) (by simp [Value.ownBlock]; omega) (.bool (!(l.getD k false)))
          have hst' := hw8'.stored k (.bool (!(m.getD k false)))
          have R1 := Lib.hid (own_far hst.1 (p := ⟨g', k, none⟩) (by simp [Value.ownBlock]; omega) (.bool (!(m.getD k false))))
          have R2 := Lib.hid hst'.1
          have R3 := Lib.hid ((hon.set (p := ⟨g, k, none⟩) (List.mem_append.2 (Or.inl hg)) (.bool (!(l.getD k false)))).set (p := ⟨g', k, none⟩) (List.mem_append.2 (Or.inr hg')) (.bool (!(m.getD k false))))
          have hc2 : ∀ u, (wr.setCell ⟨g, k, none⟩ u).cell? ⟨g', k, none⟩ = some (.bool (m.getD k false)) := fun u => (World.cell?_setCell_other wr _ _ u (by intro e; injection e; omega)).trans hcell'
          have hf2 : ∀ u, (wr.setCell ⟨g, k, none⟩ u).frozen? ⟨g', k, none⟩ = false := fun u => by simpa using hfr'
          have hg6 : w6.heap.size ≠ g := by have := h68 _ (List.mem_append.2 (Or.inl hg)); omega
          have hg8 : w8.heap.size ≠ g := by have := h68 _ (List.mem_append.2 (Or.inl hg)); omega
          have hz1 : ∀ u, (wr.setCell ⟨g, k, none⟩ u).cell? ⟨w8.heap.size, 2, none⟩ = some (.slice (some ⟨g', 0, none⟩) n8 c8) := fun u => (hx14.far (p := ⟨g, k, none⟩) hg8 u).cell 2
          have hz2 : ∀ u, (wr.setCell ⟨g, k, none⟩ u).cell? ⟨w6.heap.size, 2, none⟩ = some (.slice (some ⟨g, 0, none⟩) n6 c6) := fun u => (hx10.far (p := ⟨g, k, none⟩) hg6 u).cell 2
          generalize l.getD k false = p at *
          generalize m.getD k false = q at *
          clear hst hst' hw6 hw8 hw8' hon hll hlm hA6 hA8 hx10 hx14 hown3 hown6 hown8 hS6 hS8 ho3 ho6 ho8 ha ht5 ht10 ht14 hra hAlt hB1 hg hg' h68
          go_wp2_with fail
          go_region
          all_goals
            go_wp2_with fail
            go_roundw
            case rel => exact ⟨k + 1, l.set k (!p), m.set k (!q), by omega, by omega, by go_num, by rw [List.map_set]; exact R1.out, by rw [List.map_set]; exact R2.out, R3.out.drew⟩
            case measure => simp [intOf]; omega
        · have hB2 := hB1.trans (hon.below (B := w.heap.size) (fun q hq => by have := h68 _ hq; omega) hB1.size)
          replace ha := ha.only hon (fun hm => by have := h68 _ hm; omega)
          replace ht5 := ht5.only hon (fun hm => by have := h68 _ hm; omega)
          replace hra := hra.only hon (fun b o h1 h2 hm => by have := hAlt b o h1 h2; have := h68 _ hm; omega)
          replace hown3 := own_only hown3 hon (fun q hq hm => by have := ho3 q hq; have := h68 _ hm; omega)
          obtain ⟨ca0, ca1, ca2⟩ := ha.cell3
          obtain ⟨cb0, cb1, cb2⟩ := ht5.cell3
          have hd6 : k < n6 → decide ((k : Int) < (n8 : Int)) = false := fun h => by simp; omega
          clear hon hB1 ha ht5 hw6 hw8 hown6 hown8 hA6 hA8 hS6 hS8 ho3 ho6 ho8 ht10 ht14 hAlt h68 hx10 hx14
          by_cases h6 : k < n6
          · have hd6' := hd6 h6
            clear hd6
            go_wp2_with fail
            refine (rsame_true ⟨W, H, bs⟩ _ _ _ _ _ _ _ hra (rd_of_own hown3) (by omega)).mono ?_
            rintro e w20 ⟨rfl, hb20⟩
            go_wp2_with fail
            go_ret
            exact ⟨rfl, below_then hB2 hb20⟩
          · clear hd6
            go_wp2_with fail
            refine (rsame_true ⟨W, H, bs⟩ _ _ _ _ _ _ _ hra (rd_of_own hown3) (by omega)).mono ?_
            rintro e w20 ⟨rfl, hb20⟩
            go_wp2_with fail
            go_ret
            exact ⟨rfl, below_then hB2 hb20⟩

end Go.Proofs.Ytebbcpeldncekaa
