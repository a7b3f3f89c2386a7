/- colour.Equal gives the plain result equalG, in new memory, for any two lists of at most 1,048,576 numbers. -/
import Derived.Test.YtmajmbfbnchbfaaMg11z
import Derived.Test.YtmajmbfbnchbfaaMg3z
namespace Go.Proofs.Ytmajmbfbnchbfaa
open Go.RowKit

theorem equalG_one {p q : List Int} (h : p.length < 1 ∨ 64 < p.length ∨ q.length < 1 ∨ 64 < q.length) : equalG p q = (Gd.zero, 26) := if_pos h
theorem equalG_two {p q : List Int} (h : ¬ (p.length < 1 ∨ 64 < p.length ∨ q.length < 1 ∨ 64 < q.length)) (h2 : fineL p = false ∨ fineL q = false) : equalG p q = (Gd.zero, 8) := by
  unfold equalG
  rw [if_neg h, if_pos h2]

set_option maxHeartbeats 2000000 in
set_option maxRecDepth 100000 in
theorem equal_any (p q : List Int) (Ap Aq : Option Addr) (np cp nq cq : Nat) (w : World) (hrp : Rd w Ap np (p.map (Value.int .i64))) (hrq : Rd w Aq nq (q.map (Value.int .i64))) :
    Calls Try.prog 39 #[.slice Ap np cp, .slice Aq nq cq] w (RetG (equalG p q) w) := by
  obtain ⟨i0, hi, hz0, hz1, hz2⟩ := info_parts Try.infoB
  have lp : p.length = np := by simpa using hrp.len
  have lq : q.length = nq := by simpa using hrq.len
  have S0 := (((St.start w).addRd hrp).addRd hrq).box #[.int .i64 0, .int .i64 0, .slice none 0 0] 25
  simp only [List.nil_append, List.cons_append] at S0
  by_cases h1 : 1 ≤ (np : Int) ∧ (np : Int) ≤ 64
  · have d1 : decide (1 ≤ (np : Int) ∧ (np : Int) ≤ 64) = true := by simpa using h1
    by_cases h2 : 1 ≤ (nq : Int) ∧ (nq : Int) ≤ 64
    · have d2 : decide (1 ≤ (nq : Int) ∧ (nq : Int) ≤ 64) = true := by simpa using h2
      have hpm : np ≤ 1048576 := by omega
      have hqm : nq ≤ 1048576 := by omega
      have hno : ¬ (p.length < 1 ∨ 64 < p.length ∨ q.length < 1 ∨ 64 < q.length) := by omega
      rcases Bool.eq_false_or_eq_true (fineL p) with h3 | h3
      · rcases Bool.eq_false_or_eq_true (fineL q) with h4 | h4
        · have HC := Lib.hid (equalG_mk (by omega) (by omega) (by omega) (by omega) h3 h4)
          rw [lp, lq] at HC
          have LP := Lib.hid lp
          have LQ := Lib.hid lq
          clear lp lq h1 h2 hno
          obtain ⟨h1, h2⟩ : 1 ≤ np ∧ np ≤ 64 := by simp at d1; omega
          obtain ⟨h5, h6⟩ : 1 ≤ nq ∧ nq ≤ 64 := by simp at d2; omega
          go_enter Try.func39, Try.ntmps39
          go_wp2_with fail
          refine (side_any _ _).mono ?_
          rintro e w1 ⟨rfl, hb1⟩
          have S1 := S0.keep hb1
          go_wp2_with fail
          refine (side_any _ _).mono ?_
          rintro e w2 ⟨rfl, hb2⟩
          have S2 := S1.keep hb2
          go_wp2_with fail
          refine (fine_any p _ _ _ _ (S2.rd 0 rfl) hpm).mono ?_
          rintro e w3 ⟨rfl, hb3⟩
          have S3 := S2.keep hb3
          go_wp2_with fail
          refine (fine_any q _ _ _ _ (S3.rd 1 rfl) hqm).mono ?_
          rintro e w4 ⟨rfl, hb4⟩
          have S4 := S3.keep hb4
          have Sg := S4.box #[.int .i64 np, .int .i64 nq, .slice none 0 0] 25
          simp only [List.cons_append, List.nil_append] at Sg
          have ss : w.heap.size < w4.heap.size := (S4.blk 2 rfl).lt
          go_wp2_with fail
          clear S0 S1 S2 S3 hb1 hb2 hb3 hb4 d1 d2 h3 h4
          go_loopw [38] (fun i wr => ∃ (y cg : Nat) (A : Option Addr), y ≤ nq ∧ i = .int .i64 y ∧ Blk wr w4.heap.size 25 #[.int .i64 np, .int .i64 nq, .slice A (y * np) cg] ∧
              wr.ownsRow w.heap.size 4 1 (.slice A (y * np) cg) (y * np) ((Pl.tab np y fun x y => decide (q.getD y 0 = p.getD x 0)).map Value.bool) ∧ Blk wr w.heap.size 25 #[.int .i64 0, .int .i64 0, .slice none 0 0] ∧ Below w.heap.size w wr)
            (fun i _ => nq - (intOf i).toNat)
          case atStart => exact ⟨0, 0, none, Nat.zero_le _, rfl, by simpa using Sg.blk 3 rfl, by simpa [Pl.tab_zero] using World.ownsRow_nil _ _ _ _, (S4.alloc _).blk 2 rfl, (S4.alloc _).below⟩
          case round =>
            clear Sg S4
            obtain ⟨y, cg, A, hy, rfl, hblk, hown, hres, hbel⟩ := hrel
            by_cases hlt : y < nq
            · obtain ⟨bq, oq, hAq, hbq, hcq⟩ := (hrq.below hbel).at_ (by omega)
              have hcellq := int_read LQ.out hlt hcq
              clear hcq hbq
              subst hAq
              have HRQ := Lib.hid hrq
              generalize hv : q.getD y 0 = v at *
              have HV := Lib.hid hv
              clear hv
              go_wp2_with fail
              go_loopw [44] (fun i wr => ∃ (x cg : Nat) (A : Option Addr), x ≤ np ∧ i = .int .i64 x ∧ Blk wr w4.heap.size 25 #[.int .i64 np, .int .i64 nq, .slice A (y * np + x) cg] ∧
                  wr.ownsRow w.heap.size 4 1 (.slice A (y * np + x) cg) (y * np + x) ((Pl.tab np y (fun x y => decide (q.getD y 0 = p.getD x 0)) ++ (List.range x).map fun x => decide (q.getD y 0 = p.getD x 0)).map Value.bool) ∧ Blk wr w.heap.size 25 #[.int .i64 0, .int .i64 0, .slice none 0 0] ∧ Below w.heap.size w wr)
                (fun i _ => np - (intOf i).toNat)
              case atStart => exact ⟨0, cg, A, Nat.zero_le _, rfl, hblk, by simpa using hown, hres, hbel⟩
              case round =>
                clear hblk hown hres hbel hcellq A
                obtain ⟨x, cg, A, hx, rfl, hblk, hown, hres, hbel⟩ := hrel
                by_cases hltx : x < np
                · obtain ⟨bp, op, hAp, hbp, hcp⟩ := (hrp.below hbel).at_ (by omega)
                  have hcellp := int_read LP.out hltx hcp
                  subst hAp
                  generalize hu : p.getD x 0 = u at *
                  have HU := Lib.hid hu
                  clear hu
                  obtain ⟨m0, m1, m2⟩ := hblk.cell3
                  have hfz := hblk.frozen 2
                  have hsx : w.heap.size ≤ wr.heap.size := hbel.size
                  have hsm : y * np + x + 1 ≤ 1048576 := by
                    have e1 := Pl.cell_lt (w := np) (h := nq) hltx hlt
                    have e2 : nq * np ≤ 64 * 64 := Nat.mul_le_mul h6 h2
                    omega
                  clear hcp hbp
                  have hbb : ∃ B : Bool, decide (v = u) = B ∧ (v == u) = B := ⟨decide (v = u), rfl, by rw [Bool.eq_iff_iff]; simp⟩
                  obtain ⟨B, e1, e2⟩ := hbb
                  have hbit : Hid (decide (q.getD y 0 = p.getD x 0) = B) := Lib.hid (by rw [HV.out, HU.out]; exact e1)
                  generalize hxs : List.map Value.bool ((Pl.tab np y fun x y => decide (q.getD y 0 = p.getD x 0)) ++ (List.range x).map fun x => decide (q.getD y 0 = p.getD x 0)) = xs at hown
                  have HXS := Lib.hid hxs
                  have HP := Lib.hid hrp
                  clear hxs hrp
                  go_wp2_with (at_builtin; go_loud (refine wpList_app _ rfl (.tmp 49) (.tmp 53) 23 rfl w.heap.size 4 i0 (.bool false) 1 Try.underlying23 hi hz0 hz1 hz2 rfl (by decide) (.slice A (y * np + x) cg) (y * np + x) _ rfl (hown.alloc _) wr.heap.size (.bool B) rfl ?c1 rfl hsm (size_alloc_le hsx _) ?_))
                  case c1 => exact new_cell wr _ _
                  intro g' cp' w3 hown3 hgr3
                  have hblk3 := (hblk.alloc _).grown hgr3 (own_blk_ne (hown.alloc _) (hblk.alloc (.cells #[.bool B] 4)) (by decide))
                  have hres3 := (hres.alloc _).grown hgr3 (own_blk_ne (hown.alloc _) (hres.alloc (.cells #[.bool B] 4)) (by decide))
                  have hbel3 := (hbel.alloc hbel.size _).grown hgr3 (size_alloc_le hbel.size _) (fun k hk => (hown.lt k hk).1)
                  have hfz3 := hblk3.frozen 2
                  have cc3 := hblk3.cell 2
                  have R1 := Lib.hid (hblk3.set_ 2 (.slice (some ⟨g', 0, none⟩) (y * np + x + 1) cp'))
                  have R2 := Lib.hid (hres3.far (p := ⟨w4.heap.size, 2, none⟩) (by simp; omega) (.slice (some ⟨g', 0, none⟩) (y * np + x + 1) cp'))
                  have R3 := Lib.hid (own_far hown3 (p := ⟨w4.heap.size, 2, none⟩) (own_blk_ne hown3 hblk3 (by decide)) (.slice (some ⟨g', 0, none⟩) (y * np + x + 1) cp'))
                  have R4 := Lib.hid (hbel3.setCell (p := ⟨w4.heap.size, 2, none⟩) (by simp; omega) (.slice (some ⟨g', 0, none⟩) (y * np + x + 1) cp'))
                  clear hblk hown hres hbel hown3 hgr3 hblk3 hres3 hbel3 m0 m1 m2 hfz e1 e2 hcellp
                  go_wp2_with fail
                  go_roundw
                  case rel =>
                    refine ⟨x + 1, cp', some ⟨g', 0, none⟩, by omega, by go_num, by simpa [Nat.add_assoc] using R1.out, ?_, R2.out, R4.out⟩
                    have h3 := R3.out
                    have h4 := HXS.out
                    have h5 := hbit.out
                    rw [← h4, ← h5] at h3
                    simpa [List.range_succ, Nat.add_assoc] using h3
                  case measure => simp [intOf]; omega
                · obtain rfl : x = np := by omega
                  go_wp2_with fail
                  go_roundw
                  case rel => exact ⟨y + 1, cg, A, by omega, by go_num, by simpa [Nat.succ_mul] using hblk, by rw [Pl.tab_succ]; simpa [Nat.succ_mul] using hown, hres, hbel⟩
                  case measure => simp [intOf]; omega
            · obtain rfl : y = nq := by omega
              obtain ⟨m0, m1, m2⟩ := hblk.cell3
              obtain ⟨r0, r1, r2⟩ := hres.cell3
              obtain ⟨f0, f1, f2⟩ := hres.frozen3
              obtain ⟨q0, q1, q2⟩ := (hres.set3 (.int .i64 np) (.int .i64 y) (.slice A (y * np) cg)).cell3
              go_wp2_with fail
              refine bodyPost_ret (v := .tuple #[.agg #[.int .i64 np, .int .i64 y, .slice A (y * np) cg], .int .i64 0]) (by simp [results, Try.results39, go_sem, q0, q1, q2]) rfl ?_
              refine ⟨A, y * np, cg, by rw [HC.out], ?_, below_set3 hbel (by omega) _ _ _⟩
              rw [HC.out]
              exact own_set3 hown hres (by decide) _ _ _
        · have HC := Lib.hid (equalG_two hno (.inr h4))
          clear lp lq h1 h2 hno
          go_enter Try.func39, Try.ntmps39
          go_wp2_with fail
          refine (side_any _ _).mono ?_
          rintro e w1 ⟨rfl, hb1⟩
          have S1 := S0.keep hb1
          go_wp2_with fail
          refine (side_any _ _).mono ?_
          rintro e w2 ⟨rfl, hb2⟩
          have S2 := S1.keep hb2
          go_wp2_with fail
          refine (fine_any p _ _ _ _ (S2.rd 0 rfl) hpm).mono ?_
          rintro e w3 ⟨rfl, hb3⟩
          have S3 := S2.keep hb3
          go_wp2_with fail
          refine (fine_any q _ _ _ _ (S3.rd 1 rfl) hqm).mono ?_
          rintro e w4 ⟨rfl, hb4⟩
          have S4 := S3.keep hb4
          have hR2 := S4.blk 2 rfl
          obtain ⟨r0, r1, r2⟩ := hR2.cell3
          obtain ⟨f0, f1, f2⟩ := hR2.frozen3
          obtain ⟨q0, q1, q2⟩ := (hR2.set3 (.int .i64 0) (.int .i64 0) (.slice none 0 0)).cell3
          go_wp2_with fail
          refine bodyPost_ret (v := .tuple #[.agg #[.int .i64 0, .int .i64 0, .slice none 0 0], .int .i64 8]) (by simp [results, Try.results39, go_sem, q0, q1, q2]) rfl ?_
          exact bad_ret HC.out (below_set3 S4.below (by omega) _ _ _)
      · have HC := Lib.hid (equalG_two hno (.inl h3))
        clear lp lq h1 h2 hno
        go_enter Try.func39, Try.ntmps39
        go_wp2_with fail
        refine (side_any _ _).mono ?_
        rintro e w1 ⟨rfl, hb1⟩
        have S1 := S0.keep hb1
        go_wp2_with fail
        refine (side_any _ _).mono ?_
        rintro e w2 ⟨rfl, hb2⟩
        have S2 := S1.keep hb2
        go_wp2_with fail
        refine (fine_any p _ _ _ _ (S2.rd 0 rfl) hpm).mono ?_
        rintro e w3 ⟨rfl, hb3⟩
        have S3 := S2.keep hb3
        have hR2 := S3.blk 2 rfl
        obtain ⟨r0, r1, r2⟩ := hR2.cell3
        obtain ⟨f0, f1, f2⟩ := hR2.frozen3
        obtain ⟨q0, q1, q2⟩ := (hR2.set3 (.int .i64 0) (.int .i64 0) (.slice none 0 0)).cell3
        go_wp2_with fail
        refine bodyPost_ret (v := .tuple #[.agg #[.int .i64 0, .int .i64 0, .slice none 0 0], .int .i64 8]) (by simp [results, Try.results39, go_sem, q0, q1, q2]) rfl ?_
        exact bad_ret HC.out (below_set3 S3.below (by omega) _ _ _)
    · have d2 : decide (1 ≤ (nq : Int) ∧ (nq : Int) ≤ 64) = false := by simpa using h2
      have HC := Lib.hid (equalG_one (p := p) (q := q) (by omega))
      clear lp lq h1 h2
      go_enter Try.func39, Try.ntmps39
      go_wp2_with fail
      refine (side_any _ _).mono ?_
      rintro e w1 ⟨rfl, hb1⟩
      have S1 := S0.keep hb1
      go_wp2_with fail
      refine (side_any _ _).mono ?_
      rintro e w2 ⟨rfl, hb2⟩
      have S2 := S1.keep hb2
      have hR2 := S2.blk 2 rfl
      obtain ⟨r0, r1, r2⟩ := hR2.cell3
      obtain ⟨f0, f1, f2⟩ := hR2.frozen3
      obtain ⟨q0, q1, q2⟩ := (hR2.set3 (.int .i64 0) (.int .i64 0) (.slice none 0 0)).cell3
      go_wp2_with fail
      refine bodyPost_ret (v := .tuple #[.agg #[.int .i64 0, .int .i64 0, .slice none 0 0], .int .i64 26]) (by simp [results, Try.results39, go_sem, q0, q1, q2]) rfl ?_
      exact bad_ret HC.out (below_set3 S2.below (by omega) _ _ _)
  · have d1 : decide (1 ≤ (np : Int) ∧ (np : Int) ≤ 64) = false := by simpa using h1
    have HC := Lib.hid (equalG_one (p := p) (q := q) (by omega))
    clear lp lq h1
    go_enter Try.func39, Try.ntmps39
    go_wp2_with fail
    refine (side_any _ _).mono ?_
    rintro e w1 ⟨rfl, hb1⟩
    have S1 := S0.keep hb1
    have hR2 := S1.blk 2 rfl
    obtain ⟨r0, r1, r2⟩ := hR2.cell3
    obtain ⟨f0, f1, f2⟩ := hR2.frozen3
    obtain ⟨q0, q1, q2⟩ := (hR2.set3 (.int .i64 0) (.int .i64 0) (.slice none 0 0)).cell3
    go_wp2_with fail
    refine bodyPost_ret (v := .tuple #[.agg #[.int .i64 0, .int .i64 0, .slice none 0 0], .int .i64 26]) (by simp [results, Try.results39, go_sem, q0, q1, q2]) rfl ?_
    exact bad_ret HC.out (below_set3 S1.below (by omega) _ _ _)

end Go.Proofs.Ytmajmbfbnchbfaa
