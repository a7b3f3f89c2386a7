/- raddleref14.Equal gives the plain result equalG, in new memory, for any two lists of numbers. -/
import Derived.Test.YtpfonniepinjnaaEqual
import Derived.Test.YtpfonniepinjnaaRCell
import Derived.Test.YtpfonniepinjnaaFill
namespace Go.Proofs.Ytpfonniepinjnaa
open Go.RowKit

set_option maxHeartbeats 4000000 in
set_option maxRecDepth 100000 in
theorem requal_any (p q : List Int) (Ap Aq : Option Addr) (np cp nq cq : Nat) (w : World) (hrp : Rd w Ap np (p.map (Value.int .i64))) (hrq : Rd w Aq nq (q.map (Value.int .i64))) :
    Calls Try.prog 22 #[.slice Ap np cp, .slice Aq nq cq] w (RetG (equalG p q) w) := by
  have lp : p.length = np := by simpa using hrp.len
  have lq : q.length = nq := by simpa using hrq.len
  have S0 := (((St.start w).addRd hrp).addRd hrq).box #[.int .i64 0, .int .i64 0, .slice none 0 0] 24
  simp only [List.nil_append, List.cons_append] at S0
  by_cases hbad : np < 1 ∨ 64 < np ∨ nq < 1 ∨ 64 < nq
  · have HC := Lib.hid (equalG_one (p := p) (q := q) (by omega))
    clear lp lq hrp hrq
    have hcs : np < 1 ∨ ¬ np < 1 ∧ 64 < np ∨ ¬ np < 1 ∧ ¬ 64 < np ∧ nq < 1 ∨ ¬ np < 1 ∧ ¬ 64 < np ∧ ¬ nq < 1 ∧ 64 < nq := by omega
    clear hbad
    rcases hcs with h1 | ⟨h1, h2⟩ | ⟨h1, h2, h3⟩ | ⟨h1, h2, h3, h4⟩
    all_goals
      go_enter Try.func22, Try.ntmps22
      go_wp2_with fail
      refine bodyPost_ret (v := .tuple #[.agg #[.int .i64 0, .int .i64 0, .slice none 0 0], .int .i64 26]) (by simp [results, Try.results22, go_sem]) rfl ?_
      exact bad_ret HC.out S0.below
  · have hno : ¬ (p.length < 1 ∨ 64 < p.length ∨ q.length < 1 ∨ 64 < q.length) := by omega
    obtain ⟨h1, h2, h3, h4⟩ : ¬ np < 1 ∧ ¬ 64 < np ∧ ¬ nq < 1 ∧ ¬ 64 < nq := by omega
    have hpm : np ≤ 1048576 := by omega
    have hqm : nq ≤ 1048576 := by omega
    clear hbad
    rcases Bool.eq_false_or_eq_true (fineL p) with h5 | h5
    · rcases Bool.eq_false_or_eq_true (fineL q) with h6 | h6
      · have HC := Lib.hid (equalG_mk (by omega) (by omega) (by omega) (by omega) h5 h6)
        rw [lp, lq] at HC
        have LP := Lib.hid lp
        have LQ := Lib.hid lq
        have ha : np ≤ 64 := by omega
        have hb : nq ≤ 64 := by omega
        have ha1 : 1 ≤ np := by omega
        have hb1 : 1 ≤ nq := by omega
        clear lp lq hno
        go_enter Try.func22, Try.ntmps22
        go_wp2_with fail
        refine (rfine_any p _ _ _ _ (S0.rd 0 rfl) hpm).mono ?_
        rintro e w1 ⟨rfl, hb1'⟩
        have S1 := S0.keep hb1'
        go_wp2_with fail
        refine (rfine_any q _ _ _ _ (S1.rd 1 rfl) hqm).mono ?_
        rintro e w2 ⟨rfl, hb2'⟩
        have S2 := S1.keep hb2'
        go_wp2_with fail
        refine (zero_any np nq _ ha hb).mono ?_
        rintro e w3 ⟨A3, n3, c3, rfl, hown3, hb3'⟩
        simp only at hown3 ⊢
        obtain rfl : n3 = nq * np := by have := hown3.1; rw [List.length_map, List.length_replicate] at this; omega
        obtain ⟨g, rfl, hg1, hg2, hgc⟩ := own_form hown3 (Nat.mul_pos hb1 ha1)
        have S3 := (S2.keep hb3').box #[.int .i64 np, .int .i64 nq, .slice (some ⟨g, 0, none⟩) (nq * np) c3] 24
        simp only [List.nil_append, List.cons_append] at S3
        have hown := (own_base hown3 S2.size).alloc (.cells #[.int .i64 np, .int .i64 nq, .slice (some ⟨g, 0, none⟩) (nq * np) c3] 24)
        have ss : w.heap.size < w3.heap.size := ((S2.keep hb3').blk 2 rfl).lt
        go_wp2_with fail
        clear h5 h6 h1 h2 h3 h4 S0 S1 S2 hb1' hb2' hb3' hown3
        go_loopw [7] (fun i wr => ∃ (x : Nat) (l : List Bool), x ≤ np ∧ i = .int .i64 x ∧ Pl.Fill (nq * np) nq (fun x y => y * np + x) (fun x y => decide (q.getD y 0 = p.getD x 0)) l x 0 ∧
            Blk wr w3.heap.size 24 #[.int .i64 np, .int .i64 nq, .slice (some ⟨g, 0, none⟩) (nq * np) c3] ∧ Blk wr w.heap.size 24 #[.int .i64 0, .int .i64 0, .slice none 0 0] ∧
            wr.ownsRow w.heap.size 4 1 (.slice (some ⟨g, 0, none⟩) (nq * np) c3) (nq * np) (l.map Value.bool) ∧ Below w.heap.size w wr) (fun i _ => np - (intOf i).toNat)
        case atStart => exact ⟨0, _, Nat.zero_le _, rfl, Pl.Fill.start (by simp), S3.blk 3 rfl, S3.blk 2 rfl, hown, S3.below⟩
        case round =>
          clear S3 hown
          obtain ⟨x, l, hx, rfl, hfill, hO, hR, hown, hbel⟩ := hrel
          obtain ⟨d0, d1, d2⟩ := hO.cell3
          by_cases hltx : x < np
          · go_wp2_with fail
            go_loopw [8] (fun i wr => ∃ (y : Nat) (l : List Bool), y ≤ nq ∧ i = .int .i64 y ∧ Pl.Fill (nq * np) nq (fun x y => y * np + x) (fun x y => decide (q.getD y 0 = p.getD x 0)) l x y ∧
                Blk wr w3.heap.size 24 #[.int .i64 np, .int .i64 nq, .slice (some ⟨g, 0, none⟩) (nq * np) c3] ∧ Blk wr w.heap.size 24 #[.int .i64 0, .int .i64 0, .slice none 0 0] ∧
                wr.ownsRow w.heap.size 4 1 (.slice (some ⟨g, 0, none⟩) (nq * np) c3) (nq * np) (l.map Value.bool) ∧ Below w.heap.size w wr) (fun i _ => nq - (intOf i).toNat)
            case atStart => exact ⟨0, l, Nat.zero_le _, rfl, hfill, hO, hR, hown, hbel⟩
            case round =>
              clear hfill hO hR hown hbel d0 d1 d2 l
              obtain ⟨y, l, hy, rfl, hfill, hO, hR, hown, hbel⟩ := hrel
              obtain ⟨d0, d1, d2⟩ := hO.cell3
              by_cases hlt : y < nq
              · have hcl := Pl.cell_lt (w := np) (h := nq) hltx hlt
                obtain ⟨bp, op, hAp, hbp, hcp⟩ := (hrp.below hbel).at_ (by omega)
                obtain ⟨bq, oq, hAq, hbq, hcq⟩ := (hrq.below hbel).at_ (by omega)
                subst hAp hAq
                have hcellp := int_read LP.out hltx hcp
                have hcellq := int_read LQ.out hlt hcq
                have hPQ : Hid (∀ wz, Below w.heap.size w wz → wz.cell? ⟨bp, op + x, none⟩ = some (.int .i64 (p.getD x 0)) ∧ wz.cell? ⟨bq, oq + y, none⟩ = some (.int .i64 (q.getD y 0))) := fun wz hz => ⟨int_read LP.out hltx (hrp.below hz).lit, int_read LQ.out hlt (hrq.below hz).lit⟩
                obtain ⟨B, e1, e2⟩ : ∃ B : Bool, decide (q.getD y 0 = p.getD x 0) = B ∧ (p.getD x 0 == q.getD y 0) = B := ⟨decide (q.getD y 0 = p.getD x 0), rfl, by rw [Bool.eq_iff_iff, beq_iff_eq, decide_eq_true_iff]; exact eq_comm⟩
                have HF := Lib.hid (hfill.set (W := np) (u := B) hltx hlt hcl (fun x' y' hx' hy' e => Pl.cell_inj hltx hx' e) e1.symm)
                clear hcp hcq hfill e1 hcl
                generalize p.getD x 0 = u at *
                generalize q.getD y 0 = v at *
                go_wp2_with fail
                go_region_held3 (fun w' => (w'.cell? ⟨w3.heap.size, 0, none⟩ = some (.int .i64 np) ∧ w'.cell? ⟨w3.heap.size, 1, none⟩ = some (.int .i64 nq) ∧ w'.cell? ⟨w3.heap.size, 2, none⟩ = some (.slice (some ⟨g, 0, none⟩) (nq * np) c3)) ∧
                    (w'.cell? ⟨bp, op + x, none⟩ = some (.int .i64 u) ∧ w'.cell? ⟨bq, oq + y, none⟩ = some (.int .i64 v)))
                  (first | exact ⟨hO3.cell3, hPQ.out _ hbel3⟩ | exact ⟨hO.drew.cell3, hPQ.out _ hbel.drew⟩ | go_keep)
                  (first
                    | (go_at_call 17
                       refine (set_any np nq x y _ g c3 l nq B _ ha hb hltx hlt hown.drew).mono ?_
                       rintro e w4 ⟨rfl, hown3, hgr3⟩
                       have hO3 := hO.drew.grown hgr3 (own_blk_ne hown.drew hO.drew (by decide))
                       have hR3 := hR.drew.grown hgr3 (own_blk_ne hown.drew hR.drew (by decide))
                       have hbel3 := hbel.drew.grown hgr3 hbel.size (fun k hk => (hown.lt k hk).1))
                    | fail)
                clear d0 d1 d2 hcellp hcellq e2 hgr3 hO hR hbel hown
                go_wp2_with fail
                go_roundw
                case rel => exact ⟨y + 1, _, by omega, by go_num, HF.out, hO3, hR3, hown3, hbel3⟩
                case measure => simp [intOf]; omega
              · obtain rfl : y = nq := by omega
                go_wp2_with fail
                go_roundw
                case rel => exact ⟨x + 1, l, by omega, by go_num, hfill.col, hO, hR, hown, hbel⟩
                case measure => simp [intOf]; omega
          · obtain rfl : x = np := by omega
            obtain ⟨r0, r1, r2⟩ := hR.cell3
            obtain ⟨f0, f1, f2⟩ := hR.frozen3
            obtain ⟨q0, q1, q2⟩ := (hR.set3 (.int .i64 x) (.int .i64 nq) (.slice (some ⟨g, 0, none⟩) (nq * x) c3)).cell3
            go_wp2_with fail
            refine bodyPost_ret (v := .tuple #[.agg #[.int .i64 x, .int .i64 nq, .slice (some ⟨g, 0, none⟩) (nq * x) c3], .int .i64 0]) (by simp [results, Try.results22, go_sem, q0, q1, q2]) rfl ?_
            refine ⟨_, nq * x, c3, by rw [HC.out], ?_, below_set3 hbel (by omega) _ _ _⟩
            rw [HC.out]
            have := own_set3 hown hR (by decide) (.int .i64 x) (.int .i64 nq) (.slice (some ⟨g, 0, none⟩) (nq * x) c3)
            rw [hfill.tab_] at this
            exact this
      · have HC := Lib.hid (equalG_two hno (.inr h6))
        clear lp lq hrp hrq hno
        go_enter Try.func22, Try.ntmps22
        go_wp2_with fail
        refine (rfine_any p _ _ _ _ (S0.rd 0 rfl) hpm).mono ?_
        rintro e w1 ⟨rfl, hb1'⟩
        have S1 := S0.keep hb1'
        go_wp2_with fail
        refine (rfine_any q _ _ _ _ (S1.rd 1 rfl) hqm).mono ?_
        rintro e w2 ⟨rfl, hb2'⟩
        have S2 := S1.keep hb2'
        have hR2 := S2.blk 2 rfl
        obtain ⟨r0, r1, r2⟩ := hR2.cell3
        obtain ⟨f0, f1, f2⟩ := hR2.frozen3
        obtain ⟨q0, q1, q2⟩ := (hR2.set3 (.int .i64 0) (.int .i64 0) (.slice none 0 0)).cell3
        go_wp2_with fail
        refine bodyPost_ret (v := .tuple #[.agg #[.int .i64 0, .int .i64 0, .slice none 0 0], .int .i64 8]) (by simp [results, Try.results22, go_sem, q0, q1, q2]) rfl ?_
        exact bad_ret HC.out (below_set3 S2.below (by omega) _ _ _)
    · have HC := Lib.hid (equalG_two hno (.inl h5))
      clear lp lq hrp hrq hno
      go_enter Try.func22, Try.ntmps22
      go_wp2_with fail
      refine (rfine_any p _ _ _ _ (S0.rd 0 rfl) hpm).mono ?_
      rintro e w1 ⟨rfl, hb1'⟩
      have S1 := S0.keep hb1'
      have hR2 := S1.blk 2 rfl
      obtain ⟨r0, r1, r2⟩ := hR2.cell3
      obtain ⟨f0, f1, f2⟩ := hR2.frozen3
      obtain ⟨q0, q1, q2⟩ := (hR2.set3 (.int .i64 0) (.int .i64 0) (.slice none 0 0)).cell3
      go_wp2_with fail
      refine bodyPost_ret (v := .tuple #[.agg #[.int .i64 0, .int .i64 0, .slice none 0 0], .int .i64 8]) (by simp [results, Try.results22, go_sem, q0, q1, q2]) rfl ?_
      exact bad_ret HC.out (below_set3 S1.below (by omega) _ _ _)
end Go.Proofs.Ytpfonniepinjnaa
