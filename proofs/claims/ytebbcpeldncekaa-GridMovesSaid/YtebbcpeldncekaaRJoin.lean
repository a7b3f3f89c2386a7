import Derived.Test.YtebbcpeldncekaaRNot
import Derived.Test.YtebbcpeldncekaaBoth
namespace Go.Proofs.Ytebbcpeldncekaa
open Go.RowKit

theorem rboth_any (g g2 : Gd) (A A2 : Option Addr) (n c n2 c2 : Nat) (w : World) (hn : g.bits.length = n) (hn2 : g2.bits.length = n2) :
    Calls Try.prog 44 #[.agg #[.int .i64 g.w, .int .i64 g.h, .slice A n c], .agg #[.int .i64 g2.w, .int .i64 g2.h, .slice A2 n2 c2]] w fun e w' =>
      e = .returned (.int .i64 (both2 g g2)) ∧ Below w.heap.size w w' := by
  obtain ⟨W, H, bs⟩ := g
  obtain ⟨W2, H2, bs2⟩ := g2
  simp only at hn hn2 ⊢
  have HB : Hid (both2 ⟨W, H, bs⟩ ⟨W2, H2, bs2⟩ = (if chk W H n ≠ 0 then chk W H n else chk W2 H2 n2)) := by
    show _ = _
    unfold both2 chkG; simp only [hn, hn2]
  clear hn hn2
  have hA0 := (Blk.new w 24 #[.int .i64 W, .int .i64 H, .slice A n c]).alloc (.cells #[.int .i64 W2, .int .i64 H2, .slice A2 n2 c2] 24)
  have hA1 : Blk ((w.alloc (.cells #[.int .i64 W, .int .i64 H, .slice A n c] 24)).alloc (.cells #[.int .i64 W2, .int .i64 H2, .slice A2 n2 c2] 24)) (w.heap.size + 1) 24 #[.int .i64 W2, .int .i64 H2, .slice A2 n2 c2] := by simpa using Blk.new (w.alloc (.cells #[.int .i64 W, .int .i64 H, .slice A n c] 24)) 24 #[.int .i64 W2, .int .i64 H2, .slice A2 n2 c2]
  have hB0 := Joins.below_alloc2 w (.cells #[.int .i64 W, .int .i64 H, .slice A n c] 24) (.cells #[.int .i64 W2, .int .i64 H2, .slice A2 n2 c2] 24)
  rcases Bool.eq_false_or_eq_true (chk W H n != 0) with k1 | k1
  all_goals
    go_enter Try.func44, Try.ntmps44
    go_wp2_with (go_at_call 27; refine (rcheck_any _ _ _ _ _ _).mono ?_; rintro e w' ⟨rfl, hb⟩; have hx := Blk.keep (g := w.heap.size) (by assumption) hb; have hy := Blk.keep (g := w.heap.size + 1) (by assumption) hb; have hz := below_then (w := w) (by assumption) hb; obtain ⟨_, _, _⟩ := hx.cell3; obtain ⟨_, _, _⟩ := hy.cell3)
    go_ret
    refine ⟨ret_i ?_, by assumption⟩
    rw [HB.out]
    simp at k1
    clear HB hA0 hA1 hB0
    repeat' split
    all_goals omega

/-- Cell by cell: one of two, or both. -/
def orAnd (or : Bool) (p q : Bool) : Bool := if or then p || q else p && q
theorem both2_both (g g2 : Gd) : both2 g g2 ≠ 0 → bothG g g2 = both2 g g2 := by
  unfold both2 bothG; intro h; split at h <;> simp_all
theorem both2_zero (g g2 : Gd) : both2 g g2 = 0 → bothG g g2 = if g.w ≠ g2.w ∨ g.h ≠ g2.h then 2 else 0 := by
  unfold both2 bothG; intro h; split at h <;> simp_all

set_option maxHeartbeats 3200000 in
theorem joined_any (g g2 : Gd) (or : Bool) (A A2 : Option Addr) (n c n2 c2 : Nat) (w : World) (hr : Rd w A n (g.bits.map Value.bool)) (hr2 : Rd w A2 n2 (g2.bits.map Value.bool)) :
    Calls Try.prog 30 #[.agg #[.int .i64 g.w, .int .i64 g.h, .slice A n c], .agg #[.int .i64 g2.w, .int .i64 g2.h, .slice A2 n2 c2], .bool or] w (RetG (joinG (orAnd or) g g2) w) := by
  have hn : g.bits.length = n := by simpa using hr.len
  have hn2 : g2.bits.length = n2 := by simpa using hr2.len
  have HBo := Lib.hid (fun w => rboth_any g g2 A A2 n c n2 c2 w hn hn2)
  obtain ⟨W, H, bs⟩ := g
  obtain ⟨W2, H2, bs2⟩ := g2
  simp only at hr hr2 hn hn2 HBo ⊢
  have hA0 := ((Blk.new w 24 #[.int .i64 W, .int .i64 H, .slice A n c]).alloc (.cells #[.int .i64 W2, .int .i64 H2, .slice A2 n2 c2] 24)).alloc (.cells #[.int .i64 0, .int .i64 0, .slice none 0 0] 24)
  have hA1 : Blk (((w.alloc (.cells #[.int .i64 W, .int .i64 H, .slice A n c] 24)).alloc (.cells #[.int .i64 W2, .int .i64 H2, .slice A2 n2 c2] 24)).alloc (.cells #[.int .i64 0, .int .i64 0, .slice none 0 0] 24)) (w.heap.size + 1) 24 #[.int .i64 W2, .int .i64 H2, .slice A2 n2 c2] := by
    simpa using (Blk.new (w.alloc (.cells #[.int .i64 W, .int .i64 H, .slice A n c] 24)) 24 #[.int .i64 W2, .int .i64 H2, .slice A2 n2 c2]).alloc (.cells #[.int .i64 0, .int .i64 0, .slice none 0 0] 24)
  have hR0 : Blk (((w.alloc (.cells #[.int .i64 W, .int .i64 H, .slice A n c] 24)).alloc (.cells #[.int .i64 W2, .int .i64 H2, .slice A2 n2 c2] 24)).alloc (.cells #[.int .i64 0, .int .i64 0, .slice none 0 0] 24)) (w.heap.size + 1 + 1) 24 #[.int .i64 0, .int .i64 0, .slice none 0 0] := by
    simpa using Blk.new ((w.alloc (.cells #[.int .i64 W, .int .i64 H, .slice A n c] 24)).alloc (.cells #[.int .i64 W2, .int .i64 H2, .slice A2 n2 c2] 24)) 24 #[.int .i64 0, .int .i64 0, .slice none 0 0]
  have hB0 := Joins.below_alloc3 w (.cells #[.int .i64 W, .int .i64 H, .slice A n c] 24) (.cells #[.int .i64 W2, .int .i64 H2, .slice A2 n2 c2] 24) (.cells #[.int .i64 0, .int .i64 0, .slice none 0 0] 24)
  by_cases hc2 : both2 ⟨W, H, bs⟩ ⟨W2, H2, bs2⟩ = 0
  · have hcb2 : (both2 ⟨W, H, bs⟩ ⟨W2, H2, bs2⟩ != 0) = false := by simpa using hc2
    have hz := both2_zero _ _ hc2
    simp only at hz
    by_cases hs : W ≠ W2 ∨ H ≠ H2
    · rw [if_pos hs] at hz
      have HC : Hid (joinG (orAnd or) ⟨W, H, bs⟩ ⟨W2, H2, bs2⟩ = (Gd.zero, 2)) := by
        have := joinG_bad (p := orAnd or) (a := ⟨W, H, bs⟩) (b := ⟨W2, H2, bs2⟩) (by rw [hz]; decide)
        rw [hz] at this
        exact this
      clear hz hc2 hn hn2
      have hs' : (W != W2) = true ∨ (W != W2) = false ∧ (H != H2) = true := by
        by_cases e : W = W2
        · right; subst e; simp at hs; simp [hs]
        · left; simp [e]
      clear hs
      rcases hs' with k1 | ⟨k1, k2⟩
      all_goals
        go_enter Try.func30, Try.ntmps30
        go_wp2_with fail
        refine (HBo.out _).mono ?_
        rintro e w1 ⟨rfl, hb1⟩
        have hR1 := hR0.keep hb1
        have hA01 := hA0.keep hb1
        have hA11 := hA1.keep hb1
        have hB1 := below_then hB0 hb1
        obtain ⟨c0, c1, c2'⟩ := hA01.cell3
        obtain ⟨d0, d1, d2⟩ := hA11.cell3
        obtain ⟨r0, r1, r2⟩ := hR1.cell3
        obtain ⟨f0, f1, f2⟩ := hR1.frozen3
        obtain ⟨q0, q1, q2⟩ := (hR1.set3 (.int .i64 0) (.int .i64 0) (.slice none 0 0)).cell3
        go_wp2_with fail
        refine bodyPost_ret (v := .tuple #[.agg #[.int .i64 0, .int .i64 0, .slice none 0 0], .int .i64 2]) (by simp [results, Try.results30, go_sem, q0, q1, q2]) rfl ?_
        exact bad_ret HC.out (below_set3 hB1 (by omega) _ _ _)
    · have hW : W = W2 := by omega
      have hH : H = H2 := by omega
      subst hW hH
      have hc : bothG ⟨W, H, bs⟩ ⟨W, H, bs2⟩ = 0 := by rw [hz, if_neg hs]
      obtain ⟨h1, h2, h3, h4⟩ := bothG_zero hc
      unfold chkG at h1 h2
      simp only at h1 h2
      clear h3 h4 hz hs
      obtain ⟨a, b, rfl, rfl, ha1, ha, hb1, hb, hab⟩ := chk_zero h1
      have h2' : bs2.length = b * a := by
        obtain ⟨a', b', hw', hh', _, _, _, _, hab'⟩ := chk_zero h2
        have e1 : a' = a := by omega
        have e2 : b' = b := by omega
        subst e1 e2
        exact hab'
      have HC : Hid (joinG (orAnd or) ⟨a, b, bs⟩ ⟨a, b, bs2⟩ = (⟨a, b, List.zipWith (orAnd or) bs bs2⟩, 0)) := joinG_ok hc
      obtain rfl : n = b * a := by omega
      obtain rfl : n2 = b * a := by omega
      have hba : b * a ≤ 4096 := Nat.mul_le_mul hb ha
      have hba1 : 0 < b * a := Nat.mul_pos hb1 ha1
      have HN := Lib.hid hab
      have HN2 := Lib.hid h2'
      have HL : Hid ((List.zipWith (orAnd or) bs bs2).length = bs.length) := by show _ = _; simp [hab, h2']
      clear hc h1 h2 hn hn2 hab h2' hc2
      go_enter Try.func30, Try.ntmps30
      go_wp2_with fail
      refine (HBo.out _).mono ?_
      rintro e w1 ⟨rfl, hb1⟩
      have hR1 := hR0.keep hb1
      have hA01 := hA0.keep hb1
      have hA11 := hA1.keep hb1
      have hB1 := below_then hB0 hb1
      have hr1 := hr.below hB1
      have hr21 := hr2.below hB1
      obtain ⟨c0, c1, c2'⟩ := hA01.cell3
      obtain ⟨d0, d1, d2⟩ := hA11.cell3
      go_wp2_with fail
      refine (twin_any _ _ _ _ _ _ _ hr1 (by omega)).mono ?_
      rintro e w2 ⟨A3, n3, c3, rfl, hown2, hb2⟩
      simp only at hown2 ⊢
      have hn3 : n3 = b * a := by have h1 := hown2.1; have h2 := HN.out; simp at h1; omega
      subst hn3
      obtain ⟨g, rfl, hg1, hg2, hgc⟩ := own_form hown2 hba1
      clear c0 c1 c2' d0 d1 d2
      go_wp2_with fail
      go_loopw [9] (fun i wr => ∃ k : Nat, k ≤ b * a ∧ i = .int .i64 k ∧ Blk wr w2.heap.size 24 #[.int .i64 a, .int .i64 b, .slice (some ⟨g, 0, none⟩) (b * a) c3] ∧
          wr.ownsRow w1.heap.size 4 1 (.slice (some ⟨g, 0, none⟩) (b * a) c3) (b * a) ((Pl.mix (List.zipWith (orAnd or) bs bs2) bs k).map Value.bool) ∧ Below w1.heap.size w1 wr)
        (fun i _ => b * a - (intOf i).toNat)
      case atStart => exact ⟨0, Nat.zero_le _, rfl, by simpa using Blk.new _ _ _, by rw [Pl.mix_zero]; exact hown2.alloc _, hb2.alloc hb2.size _⟩
      case round =>
        obtain ⟨k, hk, rfl, hblk, hown, hbel⟩ := hrel
        obtain ⟨c0, c1, c2'⟩ := hblk.cell3
        by_cases hlt : k < b * a
        · have hkl : k < bs.length := by rw [HN.out]; exact hlt
          have hkl2 : k < bs2.length := by rw [HN2.out]; exact hlt
          obtain ⟨ba, oa, rfl, hbl, hca⟩ := (hr1.below hbel).at_ hba1
          obtain ⟨bb, ob, rfl, hbl2, hcb⟩ := (hr21.below hbel).at_ hba1
          have hcella : wr.cell? ⟨ba, oa + k, none⟩ = some (.bool (bs.getD k false)) := hca k _ (by rw [List.getElem?_map, List.getElem?_eq_getElem hkl]; simp [List.getD, hkl])
          have hcellb : wr.cell? ⟨bb, ob + k, none⟩ = some (.bool (bs2.getD k false)) := hcb k _ (by rw [List.getElem?_map, List.getElem?_eq_getElem hkl2]; simp [List.getD, hkl2])
          obtain ⟨d0, d1, d2⟩ := (hA01.keep hbel).cell3
          obtain ⟨e0, e1, e2⟩ := (hA11.keep hbel).cell3
          have hcell : wr.cell? ⟨g, k, none⟩ = some (.bool (bs.getD k false)) := by
            rw [hown.cellAt k (by omega), List.getElem?_map, Pl.mix_get HL.out hkl, List.getElem?_eq_getElem hkl]
            simp [List.getD, hkl]
          have hfr := hown.frozenAt k
          have hst := hown.stored k (.bool (orAnd or (bs.getD k false) (bs2.getD k false)))
          have R1 := Lib.hid (hblk.grown hst.2 (by simp; omega))
          have R3 : Hid ((wr.setCell ⟨g, k, none⟩ (.bool (orAnd or (bs.getD k false) (bs2.getD k false)))).ownsRow w1.heap.size 4 1 (.slice (some ⟨g, 0, none⟩) (b * a) c3) (b * a) ((Pl.mix (List.zipWith (orAnd or) bs bs2) bs (k + 1)).map Value.bool)) := by
            have := hst.1
            rw [← List.map_set, Pl.mix_set HL.out hkl (by rw [List.getElem?_zipWith, List.getElem?_eq_getElem hkl, List.getElem?_eq_getElem hkl2]; simp [List.getD, hkl, hkl2])] at this
            exact this
          have R4 := Lib.hid (hbel.setCell (p := ⟨g, k, none⟩) hg1 (.bool (orAnd or (bs.getD k false) (bs2.getD k false))))
          generalize bs.getD k false = p at *
          generalize bs2.getD k false = q at *
          clear hst hblk hown hbel hkl hkl2 hca hcb hA0 hA1 hR0 hB0 hR1 hA01 hA11 hB1 hr hr2 hr1 hr21 hb1 hb2 hown2
          cases or <;> cases p
          all_goals
            simp only [orAnd, Bool.false_eq_true, if_false, if_true, Bool.false_or, Bool.true_or, Bool.false_and, Bool.true_and] at R1 R3 R4
            go_wp2_with fail
            go_region
            all_goals
              go_wp2_with fail
              go_roundw
              case rel => exact ⟨k + 1, by omega, by go_num, R1.out, R3.out, R4.out.drew⟩
              case measure => simp [intOf]; omega
        · have hkk : k = b * a := by omega
          subst hkk
          have hres := hR1.keep hbel
          obtain ⟨r0, r1, r2⟩ := hres.cell3
          obtain ⟨f0, f1, f2⟩ := hres.frozen3
          obtain ⟨q0, q1, q2⟩ := (hres.set3 (.int .i64 a) (.int .i64 b) (.slice (some ⟨g, 0, none⟩) (b * a) c3)).cell3
          go_wp2_with fail
          refine bodyPost_ret (v := .tuple #[.agg #[.int .i64 a, .int .i64 b, .slice (some ⟨g, 0, none⟩) (b * a) c3], .int .i64 0]) (by simp [results, Try.results30, go_sem, q0, q1, q2]) rfl ?_
          refine ⟨some ⟨g, 0, none⟩, b * a, c3, by rw [HC.out], ?_, below_set3 (below_then hB1 hbel) (by omega) _ _ _⟩
          rw [HC.out]
          have e : List.zipWith (orAnd or) bs bs2 = Pl.mix (List.zipWith (orAnd or) bs bs2) bs (b * a) := by rw [← HN.out, Pl.mix_end HL.out]
          simp only
          rw [e]
          exact own_set3 (own_base hown hB1.size) hres (by decide) _ _ _
  · have hcb : (both2 ⟨W, H, bs⟩ ⟨W2, H2, bs2⟩ != 0) = true := by simpa using hc2
    have hbb := both2_both _ _ hc2
    have HC : Hid (joinG (orAnd or) ⟨W, H, bs⟩ ⟨W2, H2, bs2⟩ = (Gd.zero, both2 ⟨W, H, bs⟩ ⟨W2, H2, bs2⟩)) := by
      have := joinG_bad (p := orAnd or) (a := ⟨W, H, bs⟩) (b := ⟨W2, H2, bs2⟩) (by rw [hbb]; exact hc2)
      rw [hbb] at this
      exact this
    clear hc2 hn hn2 hbb
    go_enter Try.func30, Try.ntmps30
    go_wp2_with fail
    refine (HBo.out _).mono ?_
    rintro e w1 ⟨rfl, hb1⟩
    have hR1 := hR0.keep hb1
    have hA01 := hA0.keep hb1
    have hA11 := hA1.keep hb1
    have hB1 := below_then hB0 hb1
    obtain ⟨c0, c1, c2'⟩ := hA01.cell3
    obtain ⟨d0, d1, d2⟩ := hA11.cell3
    go_wp2_with fail
    refine (HBo.out _).mono ?_
    rintro e w2 ⟨rfl, hb2⟩
    have hR2 := hR1.keep hb2
    have hB2 := below_then hB1 hb2
    obtain ⟨r0, r1, r2⟩ := hR2.cell3
    obtain ⟨f0, f1, f2⟩ := hR2.frozen3
    obtain ⟨q0, q1, q2⟩ := (hR2.set3 (.int .i64 0) (.int .i64 0) (.slice none 0 0)).cell3
    go_wp2_with fail
    refine bodyPost_ret (v := .tuple #[.agg #[.int .i64 0, .int .i64 0, .slice none 0 0], .int .i64 (both2 ⟨W, H, bs⟩ ⟨W2, H2, bs2⟩)]) (by simp [results, Try.results30, go_sem, q0, q1, q2]) rfl ?_
    exact bad_ret HC.out (below_set3 hB2 (by omega) _ _ _)

theorem rand_any (g g2 : Gd) (A A2 : Option Addr) (n c n2 c2 : Nat) (w : World) (hr : Rd w A n (g.bits.map Value.bool)) (hr2 : Rd w A2 n2 (g2.bits.map Value.bool)) :
    Calls Try.prog 10 #[.agg #[.int .i64 g.w, .int .i64 g.h, .slice A n c], .agg #[.int .i64 g2.w, .int .i64 g2.h, .slice A2 n2 c2]] w (RetG (joinG (fun p q => p && q) g g2) w) := by
  have hJ : ∀ w, Rd w A n (g.bits.map Value.bool) → Rd w A2 n2 (g2.bits.map Value.bool) →
      Calls Try.prog 30 #[.agg #[.int .i64 g.w, .int .i64 g.h, .slice A n c], .agg #[.int .i64 g2.w, .int .i64 g2.h, .slice A2 n2 c2], .bool false] w (RetG (joinG (fun p q => p && q) g g2) w) :=
    fun w hr hr2 => joined_any g g2 false A A2 n c n2 c2 w hr hr2
  generalize joinG (fun p q => p && q) g g2 = r at *
  obtain ⟨⟨rW, rH, rb⟩, re⟩ := r
  obtain ⟨W, H, bs⟩ := g
  obtain ⟨W2, H2, bs2⟩ := g2
  simp only at hr hr2 hJ ⊢
  have HJ := Lib.hid hJ
  clear hJ
  have hR0 : Blk (((w.alloc (.cells #[.int .i64 W, .int .i64 H, .slice A n c] 24)).alloc (.cells #[.int .i64 W2, .int .i64 H2, .slice A2 n2 c2] 24)).alloc (.cells #[.int .i64 0, .int .i64 0, .slice none 0 0] 24)) (w.heap.size + 1 + 1) 24 #[.int .i64 0, .int .i64 0, .slice none 0 0] := by
    simpa using Blk.new ((w.alloc (.cells #[.int .i64 W, .int .i64 H, .slice A n c] 24)).alloc (.cells #[.int .i64 W2, .int .i64 H2, .slice A2 n2 c2] 24)) 24 #[.int .i64 0, .int .i64 0, .slice none 0 0]
  have hB0 := Joins.below_alloc3 w (.cells #[.int .i64 W, .int .i64 H, .slice A n c] 24) (.cells #[.int .i64 W2, .int .i64 H2, .slice A2 n2 c2] 24) (.cells #[.int .i64 0, .int .i64 0, .slice none 0 0] 24)
  go_enter Try.func10, Try.ntmps10
  go_wp2_with fail
  refine (HJ.out _ (hr.below hB0) (hr2.below hB0)).mono ?_
  rintro e w1 ⟨A3, n3, c3, rfl, hown, hb1⟩
  simp only at hown ⊢
  have hR1 := hR0.keep hb1
  have hB1 := below_then hB0 hb1
  obtain ⟨r0, r1, r2⟩ := hR1.cell3
  obtain ⟨f0, f1, f2⟩ := hR1.frozen3
  obtain ⟨q0, q1, q2⟩ := (hR1.set3 (.int .i64 rW) (.int .i64 rH) (.slice A3 n3 c3)).cell3
  go_wp2_with fail
  refine bodyPost_ret (v := .tuple #[.agg #[.int .i64 rW, .int .i64 rH, .slice A3 n3 c3], .int .i64 re]) (by simp [results, Try.results10, go_sem, q0, q1, q2]) rfl ?_
  exact ⟨A3, n3, c3, rfl, own_set3 (own_base hown hB0.size) hR1 (by decide) _ _ _, below_set3 hB1 (by omega) _ _ _⟩

theorem ror_any (g g2 : Gd) (A A2 : Option Addr) (n c n2 c2 : Nat) (w : World) (hr : Rd w A n (g.bits.map Value.bool)) (hr2 : Rd w A2 n2 (g2.bits.map Value.bool)) :
    Calls Try.prog 12 #[.agg #[.int .i64 g.w, .int .i64 g.h, .slice A n c], .agg #[.int .i64 g2.w, .int .i64 g2.h, .slice A2 n2 c2]] w (RetG (joinG (fun p q => p || q) g g2) w) := by
  have hJ : ∀ w, Rd w A n (g.bits.map Value.bool) → Rd w A2 n2 (g2.bits.map Value.bool) →
      Calls Try.prog 30 #[.agg #[.int .i64 g.w, .int .i64 g.h, .slice A n c], .agg #[.int .i64 g2.w, .int .i64 g2.h, .slice A2 n2 c2], .bool true] w (RetG (joinG (fun p q => p || q) g g2) w) :=
    fun w hr hr2 => joined_any g g2 true A A2 n c n2 c2 w hr hr2
  generalize joinG (fun p q => p || q) g g2 = r at *
  obtain ⟨⟨rW, rH, rb⟩, re⟩ := r
  obtain ⟨W, H, bs⟩ := g
  obtain ⟨W2, H2, bs2⟩ := g2
  simp only at hr hr2 hJ ⊢
  have HJ := Lib.hid hJ
  clear hJ
  have hR0 : Blk (((w.alloc (.cells #[.int .i64 W, .int .i64 H, .slice A n c] 24)).alloc (.cells #[.int .i64 W2, .int .i64 H2, .slice A2 n2 c2] 24)).alloc (.cells #[.int .i64 0, .int .i64 0, .slice none 0 0] 24)) (w.heap.size + 1 + 1) 24 #[.int .i64 0, .int .i64 0, .slice none 0 0] := by
    simpa using Blk.new ((w.alloc (.cells #[.int .i64 W, .int .i64 H, .slice A n c] 24)).alloc (.cells #[.int .i64 W2, .int .i64 H2, .slice A2 n2 c2] 24)) 24 #[.int .i64 0, .int .i64 0, .slice none 0 0]
  have hB0 := Joins.below_alloc3 w (.cells #[.int .i64 W, .int .i64 H, .slice A n c] 24) (.cells #[.int .i64 W2, .int .i64 H2, .slice A2 n2 c2] 24) (.cells #[.int .i64 0, .int .i64 0, .slice none 0 0] 24)
  go_enter Try.func12, Try.ntmps12
  go_wp2_with fail
  refine (HJ.out _ (hr.below hB0) (hr2.below hB0)).mono ?_
  rintro e w1 ⟨A3, n3, c3, rfl, hown, hb1⟩
  simp only at hown ⊢
  have hR1 := hR0.keep hb1
  have hB1 := below_then hB0 hb1
  obtain ⟨r0, r1, r2⟩ := hR1.cell3
  obtain ⟨f0, f1, f2⟩ := hR1.frozen3
  obtain ⟨q0, q1, q2⟩ := (hR1.set3 (.int .i64 rW) (.int .i64 rH) (.slice A3 n3 c3)).cell3
  go_wp2_with fail
  refine bodyPost_ret (v := .tuple #[.agg #[.int .i64 rW, .int .i64 rH, .slice A3 n3 c3], .int .i64 re]) (by simp [results, Try.results12, go_sem, q0, q1, q2]) rfl ?_
  exact ⟨A3, n3, c3, rfl, own_set3 (own_base hown hB0.size) hR1 (by decide) _ _ _, below_set3 hB1 (by omega) _ _ _⟩

end Go.Proofs.Ytebbcpeldncekaa
