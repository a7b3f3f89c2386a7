/- raddleref01.Not gives the grid and the error 'notG', in new memory, for any grid. -/
import Derived.Test.YtliibficmdomjaaMg11z
import Derived.Test.YtliibficmdomjaaMg12z
import Derived.Test.YtliibficmdomjaaMg2z
import Derived.RegionTactic
namespace Go.Proofs.Ytliibficmdomjaa
open Go.RowKit

set_option maxHeartbeats 1600000 in
theorem rnot_any (g : Gd) (A : Option Addr) (n c : Nat) (w : World) (hr : Rd w A n (g.bits.map Value.bool)) :
    Calls Try.prog 48 #[.agg #[.int .i64 g.w, .int .i64 g.h, .slice A n c]] w (RetG (notG g) w) := by
  obtain ⟨W, H, bs⟩ := g
  simp only at hr ⊢
  have hn : bs.length = n := by simpa using hr.len
  have hR0 : Blk ((w.alloc (.cells #[.int .i64 W, .int .i64 H, .slice A n c] 24)).alloc (.cells #[.int .i64 0, .int .i64 0, .slice none 0 0] 24)) (w.heap.size + 1) 24 #[.int .i64 0, .int .i64 0, .slice none 0 0] := by simpa using Blk.new (w.alloc (.cells #[.int .i64 W, .int .i64 H, .slice A n c] 24)) _ _
  have hG0 := (Blk.new w 24 #[.int .i64 W, .int .i64 H, .slice A n c]).alloc (.cells #[.int .i64 0, .int .i64 0, .slice none 0 0] 24)
  have hB0 : Below w.heap.size w ((w.alloc (.cells #[.int .i64 W, .int .i64 H, .slice A n c] 24)).alloc (.cells #[.int .i64 0, .int .i64 0, .slice none 0 0] 24)) := Joins.below_alloc2 w _ _
  by_cases hc : chk W H n = 0
  · obtain ⟨a, b, rfl, rfl, ha1, ha, hb1, hb, rfl⟩ := chk_zero hc
    have hcb : (chk (a : Int) (b : Int) (b * a) != 0) = false := by simpa using hc
    have HC : Hid (notG ⟨a, b, bs⟩ = (⟨a, b, bs.map fun b => !b⟩, 0)) := notG_ok (by unfold chkG; simp only [hn]; exact hc)
    clear hc
    have hba : b * a ≤ 4096 := Nat.mul_le_mul hb ha
    have hba1 : 0 < b * a := Nat.mul_pos hb1 ha1
    have HN := Lib.hid hn; clear hn
    go_enter Try.func48, Try.ntmps48
    go_wp2_with fail
    refine (rcheck_any _ _ _ _ _ _).mono ?_
    rintro e w1 ⟨rfl, hb1⟩
    have hR1 := hR0.keep hb1
    have hG1 := hG0.keep hb1
    have hB1 := below_then hB0 hb1
    have hr1 := hr.below hB1
    obtain ⟨c0, c1, c2⟩ := hG1.cell3
    go_wp2_with fail
    refine (twin_any _ _ _ _ _ _ _ hr1 (by omega)).mono ?_
    rintro e w2 ⟨A2, n2, c2', rfl, hown2, hb2⟩
    simp only at hown2 ⊢
    have hn2 : n2 = b * a := by have h1 := hown2.1; have h2 := HN.out; simp at h1; omega
    subst hn2
    obtain ⟨g, rfl, hg1, hg2, hgc⟩ := own_form hown2 hba1
    have hR2 := hR1.keep hb2
    have hB2 := below_then hB1 hb2
    clear c0 c1 c2
    go_wp2_with fail
    go_loopw [5] (fun i wr => ∃ k : Nat, k ≤ b * a ∧ i = .int .i64 k ∧ Blk wr w2.heap.size 24 #[.int .i64 a, .int .i64 b, .slice (some ⟨g, 0, none⟩) (b * a) c2'] ∧
        Blk wr (w.heap.size + 1) 24 #[.int .i64 0, .int .i64 0, .slice none 0 0] ∧
        wr.ownsRow w1.heap.size 4 1 (.slice (some ⟨g, 0, none⟩) (b * a) c2') (b * a) ((Pl.mix (bs.map fun b => !b) bs k).map Value.bool) ∧ Below w.heap.size w wr)
      (fun i _ => b * a - (intOf i).toNat)
    case atStart => exact ⟨0, Nat.zero_le _, rfl, by simpa using Blk.new _ _ _, hR2.alloc _, by rw [Pl.mix_zero]; exact hown2.alloc _, hB2.alloc hB2.size _⟩
    case round =>
      obtain ⟨k, hk, rfl, hblk, hres, hown, hbel⟩ := hrel
      obtain ⟨c0, c1, c2⟩ := hblk.cell3
      by_cases hlt : k < b * a
      · have hkl : k < bs.length := by rw [HN.out]; exact hlt
        have hcell : wr.cell? ⟨g, k, none⟩ = some (.bool (bs.getD k false)) := by
          rw [hown.cellAt k (by omega), List.getElem?_map, Pl.mix_get (by simp) hkl, List.getElem?_eq_getElem hkl]
          simp [List.getD, hkl]
        have hfr := hown.frozenAt k
        have hst := hown.stored k (.bool (!(bs.getD k false)))
        have hgne : g ≠ w2.heap.size := by omega
        have R1 := Lib.hid (hblk.grown hst.2 (by simp; omega))
        have R2 := Lib.hid (hres.grown hst.2 (own_blk_ne hown hres (by decide)))
        have R3 : Hid ((wr.setCell ⟨g, k, none⟩ (.bool (!(bs.getD k false)))).ownsRow w1.heap.size 4 1 (.slice (some ⟨g, 0, none⟩) (b * a) c2') (b * a) ((Pl.mix (bs.map fun b => !b) bs (k + 1)).map Value.bool)) := by
          have := hst.1
          rw [← List.map_set, Pl.mix_set (by simp) hkl (by simp [List.getD, hkl])] at this
          exact this
        have R4 := Lib.hid (hbel.setCell (p := ⟨g, k, none⟩) (Nat.le_trans hB1.size hg1) (.bool (!(bs.getD k false))))
        generalize bs.getD k false = p at *
        clear hst hblk hres hown hbel hkl
        go_wp2_with fail
        go_region
        all_goals
          go_wp2_with fail
          go_roundw
          case rel => exact ⟨k + 1, by omega, by go_num, R1.out, R2.out, R3.out, R4.out.drew⟩
          case measure => simp [intOf]; omega
      · have hkk : k = b * a := by omega
        subst hkk
        obtain ⟨r0, r1, r2⟩ := hres.cell3
        obtain ⟨f0, f1, f2⟩ := hres.frozen3
        obtain ⟨q0, q1, q2⟩ := (hres.set3 (.int .i64 a) (.int .i64 b) (.slice (some ⟨g, 0, none⟩) (b * a) c2')).cell3
        go_wp2_with fail
        refine bodyPost_ret (v := .tuple #[.agg #[.int .i64 a, .int .i64 b, .slice (some ⟨g, 0, none⟩) (b * a) c2'], .int .i64 0]) (by simp [results, Try.results48, go_sem, q0, q1, q2]) rfl ?_
        refine ⟨some ⟨g, 0, none⟩, b * a, c2', by rw [HC.out], ?_, below_set3 hbel (by omega) _ _ _⟩
        rw [HC.out]
        have e : bs.map (fun b => !b) = Pl.mix (bs.map fun b => !b) bs (b * a) := by rw [← HN.out, Pl.mix_end (by simp)]
        simp only
        rw [e]
        exact own_set3 (own_base hown hB1.size) hres (by decide) _ _ _
  · have hcb : (chk W H n != 0) = true := by simpa using hc
    have HC : Hid (notG ⟨W, H, bs⟩ = (Gd.zero, chk W H n)) := by
      have := notG_bad (g := ⟨W, H, bs⟩) (by unfold chkG; simp only [hn]; exact hc)
      unfold chkG at this
      simp only [hn] at this
      exact this
    clear hc hn
    go_enter Try.func48, Try.ntmps48
    go_wp2_with fail
    refine (rcheck_any _ _ _ _ _ _).mono ?_
    rintro e w1 ⟨rfl, hb1⟩
    have hR1 := hR0.keep hb1
    have hG1 := hG0.keep hb1
    have hB1 := below_then hB0 hb1
    obtain ⟨c0, c1, c2⟩ := hG1.cell3
    go_wp2_with fail
    refine (rcheck_any _ _ _ _ _ _).mono ?_
    rintro e w2 ⟨rfl, hb2⟩
    have hR2 := hR1.keep hb2
    have hB2 := below_then hB1 hb2
    obtain ⟨r0, r1, r2⟩ := hR2.cell3
    obtain ⟨f0, f1, f2⟩ := hR2.frozen3
    obtain ⟨q0, q1, q2⟩ := (hR2.set3 (.int .i64 0) (.int .i64 0) (.slice none 0 0)).cell3
    go_wp2_with fail
    refine bodyPost_ret (v := .tuple #[.agg #[.int .i64 0, .int .i64 0, .slice none 0 0], .int .i64 (chk W H n)]) (by simp [results, Try.results48, go_sem, q0, q1, q2]) rfl ?_
    exact bad_ret HC.out (below_set3 hB2 (by omega) _ _ _)

end Go.Proofs.Ytliibficmdomjaa
