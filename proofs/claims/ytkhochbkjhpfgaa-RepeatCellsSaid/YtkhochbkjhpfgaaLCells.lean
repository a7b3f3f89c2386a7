/- The law RepeatCells, walked: it answers true and turns nothing that was there, for any grids and numbers. -/
import Derived.Test.YtkhochbkjhpfgaaLAsks
import Derived.Test.YtkhochbkjhpfgaaCell6
import Derived.Test.YtkhochbkjhpfgaaSpread
import Derived.Test.YtkhochbkjhpfgaaRSpread
import Derived.Test.YtkhochbkjhpfgaaOffset
import Derived.Test.YtkhochbkjhpfgaaROffset
import Derived.Test.YtkhochbkjhpfgaaRRect
import Derived.Test.YtkhochbkjhpfgaaTwin
import Derived.Test.YtkhochbkjhpfgaaRSame
import Derived.BigRegion
namespace Go.Proofs.Ytkhochbkjhpfgaa
open Go.RowKit

theorem same_to {b : Bool} (g g2 : Gd) (h : sameG g g2 = b) (A A2 : Option Addr) (n c n2 c2 : Nat) (w : World) (hr : Rd w A n (g.bits.map Value.bool)) (hr2 : Rd w A2 n2 (g2.bits.map Value.bool)) (hn : n ≤ 1048576) :
    Calls Try.prog 23 #[.agg #[.int .i64 g.w, .int .i64 g.h, .slice A n c], .agg #[.int .i64 g2.w, .int .i64 g2.h, .slice A2 n2 c2]] w fun e w' => e = .returned (.bool b) ∧ Below w.heap.size w w' := h ▸ rsame_any g g2 A A2 n c n2 c2 w hr hr2 hn
theorem tabG_small {a b : Nat} (ha : a ≤ 64) (hb : b ≤ 64) (F : Nat → Nat → Bool) : (tabG a b F).1.bits.length ≤ 4096 := by
  unfold tabG
  rw [Pl.tab_length]
  exact Nat.mul_le_mul hb ha
theorem withChk_small {g : Gd} {k : Nat → Nat → Gd × Int} (h : ∀ a b : Nat, 1 ≤ a → 1 ≤ b → a ≤ 64 → b ≤ 64 → (k a b).1.bits.length ≤ 4096) : (withChk g k).1.bits.length ≤ 4096 := by
  unfold withChk
  split
  · rename_i hc
    obtain ⟨a, b, h1, h2, h3, h4, h5, h6, _⟩ := chk_zero hc
    rw [h1, h2]
    exact h a b h3 h5 h4 h6
  · simp [Gd.zero]
theorem cellG_small (g : Gd) : (cellG g).1.bits.length ≤ 4096 := withChk_small fun a b h1 h2 h3 h4 => by
  have h := lat_is (bs := g.bits) h1 h2
  exact tabG_small (Nat.le_trans h.a2 h3) (Nat.le_trans h.c2 h4) _
theorem spreadG_small (g : Gd) (B W H : Int) : (spreadG g B W H).1.bits.length ≤ 4096 := withChk_small fun a b h1 h2 h3 h4 => by
  split
  · simp [errG, Gd.zero]
  · split
    · simp [errG, Gd.zero]
    · exact tabG_small (by omega) (by omega) _

set_option maxHeartbeats 4000000 in
set_option maxRecDepth 100000 in
theorem cells_walk (g g' : Gd) (B X Y : Int) (A A' : Option Addr) (n c n' c' : Nat) (w : World) (hr : Rd w A n (g.bits.map Value.bool)) (hr' : Rd w A' n' (g'.bits.map Value.bool)) (hc : n ≤ c) (hc' : n' ≤ c') :
    Calls Try.prog 4 #[.agg #[.int .i64 g.w, .int .i64 g.h, .slice A n c], .agg #[.int .i64 g'.w, .int .i64 g'.h, .slice A' n' c'], .int .i64 B, .int .i64 X, .int .i64 Y] w fun e w' => e = .returned (.bool true) ∧ Below w.heap.size w w' := by
  have S0 := ((((St.start w).addRd hr).addRd hr').box #[.int .i64 g.w, .int .i64 g.h, .slice A n c] 24).box #[.int .i64 g'.w, .int .i64 g'.h, .slice A' n' c'] 24
  simp only [size_alloc1, List.nil_append, List.cons_append] at S0
  have hAlt := hr.lt
  have H1 := Lib.hid (fun W h => cell6_any g A n c W h hc)
  have H2 := Lib.hid (fun W h => rcell6_any g A n c W h)
  have H3 := Lib.hid (fun W h => spread_any g B X Y A n c W h hc)
  have H4 := Lib.hid (fun W h => rspread_any g B X Y A n c W h)
  have H5 := Lib.hid (fun W h => rect_any g A n c W h hc)
  have H6 := Lib.hid (fun W h => rrect_any g A n c W h)
  have H7 := Lib.hid (fun W h h' => offset_any g g' A A' n c n' c' W h h' hc hc')
  have H8 := Lib.hid (fun W h h' => roffset_any g g' A A' n c n' c' W h h')
  have z1 := cellG_small g
  have z2 := spreadG_small g B X Y
  generalize cellG g = r1 at *
  generalize spreadG g B X Y = r2 at *
  generalize rectG g = r3 at *
  obtain ⟨⟨x1, y1, l1⟩, e1⟩ := r1
  obtain ⟨⟨x2, y2, l2⟩, e2⟩ := r2
  obtain ⟨⟨x3, y3⟩, e3⟩ := r3
  simp only at z1 z2 H1 H2 H3 H4 H5 H6
  by_cases hn : 100 < n
  · have hd : decide (100 < n) = true := by simpa using hn
    obtain ⟨c0, c1, c2⟩ := (S0.blk 2 rfl).cell3
    go_enter Try.func4, Try.ntmps4
    go_wp2_with fail
    refine (great6_any _ _ _ _ _ _).mono ?_
    rintro e w1 ⟨rfl, hb1⟩
    have S1 := S0.keep hb1
    go_wp2_with fail
    go_ret
    exact ⟨rfl, S1.below⟩
  have hd : decide (100 < n) = false := by simpa using hn
  by_cases hn' : 100 < n'
  · have hd' : decide (100 < n') = true := by simpa using hn'
    obtain ⟨c0, c1, c2⟩ := (S0.blk 2 rfl).cell3
    go_enter Try.func4, Try.ntmps4
    go_wp2_with fail
    refine (great6_any _ _ _ _ _ _).mono ?_
    rintro e w1 ⟨rfl, hb1⟩
    have S1 := S0.keep hb1
    clear c0 c1 c2
    obtain ⟨c0, c1, c2⟩ := (S1.blk 3 rfl).cell3
    go_wp2_with fail
    refine (great6_any _ _ _ _ _ _).mono ?_
    rintro e w2 ⟨rfl, hb2⟩
    have S2 := S1.keep hb2
    go_wp2_with fail
    go_ret
    exact ⟨rfl, S2.below⟩
  have hd' : decide (100 < n') = false := by simpa using hn'
  obtain ⟨c00, c01, c02⟩ := (S0.blk 2 rfl).cell3
  go_enter Try.func4, Try.ntmps4
  go_wp2_with fail
  refine (great6_any _ _ _ _ _ _).mono ?_
  rintro e w1 ⟨rfl, hb1⟩
  clear c00 c01 c02
  have S1 := S0.keep hb1
  obtain ⟨c10, c11, c12⟩ := (S1.blk 3 rfl).cell3
  go_wp2_with fail
  refine (great6_any _ _ _ _ _ _).mono ?_
  rintro e w2 ⟨rfl, hb2⟩
  clear c10 c11 c12
  have S2 := S1.keep hb2
  clear S1
  have sw2 := S2.size
  obtain ⟨c20, c21, c22⟩ := (S2.blk 2 rfl).cell3
  go_wp2_with fail
  refine (twin_any _ _ _ _ _ g.bits _ (S2.rd 0 rfl) (by omega)).mono ?_
  rintro e w3 ⟨A3, n3, cc3, rfl, hown3, hb3⟩
  simp only at hown3 ⊢
  clear c20 c21 c22
  have S3 := ((S2.keep hb3).addRd (rd_of_own hown3)).box #[.int .i64 g.w, .int .i64 g.h, .slice A3 n3 cc3] 24
  simp only [List.nil_append, List.cons_append] at S3
  clear S2
  have hAt := (rd_of_own hown3).lt
  obtain ⟨c30, c31, c32⟩ := (S3.blk 2 rfl).cell3
  go_wp2_with fail
  refine (H1.out _ (S3.rd 0 rfl)).mono ?_
  rintro e w4 ⟨A4, n4, cc4, rfl, hown4, hb4⟩
  simp only at hown4 ⊢
  clear c30 c31 c32
  have S4 := ((S3.keep hb4).addRd (rd_of_own hown4)).box #[.int .i64 x1, .int .i64 y1, .slice A4 n4 cc4] 24
  simp only [List.nil_append, List.cons_append] at S4
  clear S3
  obtain ⟨S', hS', hA4, ho4⟩ := own_head hown4
  have k4 : n4 ≤ 4096 := by have := hown4.1; simp at this; omega
  obtain ⟨c40, c41, c42⟩ := (S4.blk 2 rfl).cell3
  go_wp2_with fail
  refine (H2.out _ (S4.rd 0 rfl)).mono ?_
  rintro e w5 ⟨A5, n5, cc5, rfl, hown5, hb5⟩
  simp only at hown5 ⊢
  clear c40 c41 c42
  have S5 := ((S4.keep hb5).addRd (rd_of_own hown5)).box #[.int .i64 x1, .int .i64 y1, .slice A5 n5 cc5] 24
  simp only [List.nil_append, List.cons_append] at S5
  replace hown4 := own_below (hown4.alloc _) hb5
  clear S4
  obtain ⟨c50, c51, c52⟩ := (S5.blk 2 rfl).cell3
  go_wp2_with fail
  refine (H3.out _ (S5.rd 0 rfl)).mono ?_
  rintro e w6 ⟨A6, n6, cc6, rfl, hown6, hb6⟩
  simp only at hown6 ⊢
  clear c50 c51 c52
  have S6 := ((S5.keep hb6).addRd (rd_of_own hown6)).box #[.int .i64 x2, .int .i64 y2, .slice A6 n6 cc6] 24
  simp only [List.nil_append, List.cons_append] at S6
  replace hown4 := own_below (hown4.alloc _) hb6
  clear S5
  have k6 : n6 ≤ 4096 := by have := hown6.1; simp at this; omega
  obtain ⟨c60, c61, c62⟩ := (S6.blk 2 rfl).cell3
  go_wp2_with fail
  refine (H4.out _ (S6.rd 0 rfl)).mono ?_
  rintro e w7 ⟨A7, n7, cc7, rfl, hown7, hb7⟩
  simp only at hown7 ⊢
  clear c60 c61 c62
  have S7 := ((S6.keep hb7).addRd (rd_of_own hown7)).box #[.int .i64 x2, .int .i64 y2, .slice A7 n7 cc7] 24
  simp only [List.nil_append, List.cons_append] at S7
  replace hown4 := own_below (hown4.alloc _) hb7
  clear S6
  obtain ⟨c70, c71, c72⟩ := (S7.blk 2 rfl).cell3
  go_wp2_with fail
  refine (H5.out _ (S7.rd 0 rfl)).mono ?_
  rintro e w8 ⟨rfl, hb8⟩
  clear c70 c71 c72
  have S8 := S7.keep hb8
  replace hown4 := own_below (hown4.alloc _) hb8
  clear S7
  obtain ⟨c80, c81, c82⟩ := (S8.blk 2 rfl).cell3
  go_wp2_with fail
  refine (H6.out _ (S8.rd 0 rfl)).mono ?_
  rintro e w9 ⟨rfl, hb9⟩
  clear c80 c81 c82
  have S9 := S8.keep hb9
  replace hown4 := own_below (hown4) hb9
  clear S8
  obtain ⟨c90, c91, c92⟩ := (S9.blk 2 rfl).cell3
  obtain ⟨c100, c101, c102⟩ := (S9.blk 3 rfl).cell3
  go_wp2_with fail
  refine (H7.out _ (S9.rd 0 rfl) (S9.rd 1 rfl)).mono ?_
  rintro e w10 ⟨⟨⟨px, py⟩, pe⟩, hR, rfl, hb10⟩
  clear c90 c91 c92 c100 c101 c102
  have S10 := (S9.keep hb10).box #[.int .i64 px, .int .i64 py] 54
  simp only [List.nil_append, List.cons_append] at S10
  replace hown4 := own_below (hown4) hb10
  clear S9
  obtain ⟨c110, c111, c112⟩ := (S10.blk 2 rfl).cell3
  obtain ⟨c120, c121, c122⟩ := (S10.blk 3 rfl).cell3
  go_wp2_with fail
  refine (H8.out _ (S10.rd 0 rfl) (S10.rd 1 rfl)).mono ?_
  rintro e w11 ⟨r', hR', rfl, hb11⟩
  clear c110 c111 c112 c120 c121 c122
  have hu := hR'.unique hR
  subst hu
  have S11 := (S10.keep hb11).box #[.int .i64 px, .int .i64 py] 54
  simp only [List.nil_append, List.cons_append] at S11
  replace hown4 := own_below (hown4.alloc _) hb11
  clear S10
  obtain ⟨c130, c131, c132⟩ := (S11.blk 7 rfl).cell3
  obtain ⟨c140, c141, c142⟩ := (S11.blk 9 rfl).cell3
  go_wp2_with fail
  refine (same_to ⟨x1, y1, l1⟩ ⟨x1, y1, l1⟩ (sameG_self _) _ _ _ _ _ _ _ (S11.rd 6 rfl) (S11.rd 8 rfl) (by omega)).mono ?_
  rintro e w12 ⟨rfl, hb12⟩
  clear c130 c131 c132 c140 c141 c142
  have S12 := S11.keep hb12
  replace hown4 := own_below (hown4.alloc _) hb12
  clear S11
  obtain ⟨c150, c151⟩ := (S12.blk 14 rfl).cellP
  obtain ⟨c160, c161⟩ := (S12.blk 15 rfl).cellP
  obtain ⟨c170, c171, c172⟩ := (S12.blk 11 rfl).cell3
  obtain ⟨c180, c181, c182⟩ := (S12.blk 13 rfl).cell3
  go_wp2_with fail
  refine (same_to ⟨x2, y2, l2⟩ ⟨x2, y2, l2⟩ (sameG_self _) _ _ _ _ _ _ _ (S12.rd 10 rfl) (S12.rd 12 rfl) (by omega)).mono ?_
  rintro e w13 ⟨rfl, hb13⟩
  clear c150 c151 c160 c161 c170 c171 c172 c180 c181 c182
  have S13 := S12.keep hb13
  replace hown4 := own_below (hown4) hb13
  clear S12
  obtain ⟨c190, c191⟩ := (S13.blk 14 rfl).cellP
  obtain ⟨c200, c201⟩ := (S13.blk 15 rfl).cellP
  clear hb1 hb2 hb5 hb6 hb7 hb8 hb9 hb10 hb11 hb12 hb13 H1 H2 H3 H4 H5 H6 H7 H8 hd hd'
  go_wp2_with fail
  clear c190 c191 c200 c201
  go_loopw [30] (fun i wr => ∃ (k : Nat) (l : List Bool), k ≤ n4 ∧ i = .int .i64 k ∧ wr.ownsRow (w3.heap.size + 1) 4 1 (.slice A4 n4 cc4) n4 (l.map Value.bool) ∧ Only S' w13 wr) (fun i _ => n4 - (intOf i).toNat)
  case atStart => exact ⟨0, l1, Nat.zero_le _, rfl, own_base hown4 (by simp), Only.refl _ _⟩
  case round =>
    obtain ⟨k, l, hk, rfl, hown, hon⟩ := hrel
    have hs7 : ∀ q ∈ S', w3.heap.size < q ∧ q < w4.heap.size := fun q hq => by have := hS' _ hq; simp at this; omega
    have sz := S13.below.size
    have hx := (S13.blk 7 rfl).only hon (fun hm => by have := hs7 _ hm; omega)
    obtain ⟨d0, d1, d2⟩ := hx.cell3
    by_cases hlt : k < n4
    · obtain ⟨g, rfl, hg⟩ := hA4 (by omega)
      have hll : l.length = n4 := by simpa using hown.1
      have hcell : wr.cell? ⟨g, k, none⟩ = some (.bool (l.getD k false)) := by
        rw [hown.cellAt k (by omega), List.getElem?_map, List.getElem?_eq_getElem (by omega)]
        simp [List.getD, show k < l.length by omega]
      have hfr := hown.frozenAt k
      have hst := hown.stored k (.bool (!(l.getD k false)))
      have R1 := Lib.hid hst.1
      have R2 := Lib.hid (hon.set (p := ⟨g, k, none⟩) hg (.bool (!(l.getD k false))))
      generalize l.getD k false = p at *
      clear hst hown hon hll hA4 hown4 ho4 hS' S13 hx hAlt hAt hs7 hown3 hb3 hb4 S0
      go_wp2_with fail
      go_region
      all_goals
        go_wp2_with fail
        go_roundw
        case rel => exact ⟨k + 1, l.set k (!p), by omega, by go_num, by rw [List.map_set]; exact R1.out, R2.out.drew⟩
        case measure => simp [intOf]; omega
    · have hn7 : k = n4 := by omega
      have sz3 := hb3.size
      have sz4 := hb4.size
      have hB1 := S13.below.trans (hon.below (B := w.heap.size) (fun q hq => by have := hs7 _ hq; omega) S13.size)
      have ha := (S13.blk 2 rfl).only hon (fun hm => by have := hs7 _ hm; omega)
      have ht := (S13.blk 5 rfl).only hon (fun hm => by have := hs7 _ hm; omega)
      have hra := (S13.rd 0 rfl).only hon (fun b o h1 h2 hm => by have := hAlt b o h1 h2; have := hs7 _ hm; omega)
      have hrt := (S13.rd 4 rfl).only hon (fun b o h1 h2 hm => by have := hAt b o h1 h2; have := hs7 _ hm; omega)
      obtain ⟨ca0, ca1, ca2⟩ := ha.cell3
      obtain ⟨cb0, cb1, cb2⟩ := ht.cell3
      clear hon hS' hA4 hs7 hown hown4 hx ho4 hAlt hAt
      go_wp2_with fail
      refine (same_to g g (sameG_self _) _ _ _ _ _ _ _ hra hrt (by omega)).mono ?_
      rintro e w20 ⟨rfl, hb20⟩
      go_wp2_with fail
      go_ret
      exact ⟨rfl, below_then hB1 hb20⟩
end Go.Proofs.Ytkhochbkjhpfgaa
