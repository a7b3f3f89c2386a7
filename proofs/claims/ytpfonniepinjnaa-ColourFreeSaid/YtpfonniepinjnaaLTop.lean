/- The law ColourTop, walked: it answers true and turns nothing that was there, for any grid and thread colours. -/
import Derived.Test.YtpfonniepinjnaaAlive
import Derived.Test.YtpfonniepinjnaaRCell
namespace Go.Proofs.Ytpfonniepinjnaa
open Go.RowKit

theorem back_to {r : Im × Int} (g : Gd) (p q : List Int) (A Ap Aq : Option Addr) (n c np cp nq cq : Nat) (w : World) (h : backI g p q = r) (hr : Rd w A n (g.bits.map Value.bool)) (hrp : Rd w Ap np (p.map (Value.int .i64))) (hrq : Rd w Aq nq (q.map (Value.int .i64))) :
    Calls Try.prog 11 #[.agg #[.int .i64 g.w, .int .i64 g.h, .slice A n c], .slice Ap np cp, .slice Aq nq cq] w (RetI r w) := h ▸ back_any g p q A Ap Aq n c np cp nq cq w hr hrp hrq
theorem rcheckI_to {v : Int} (m : Im) (A : Option Addr) (n c : Nat) (w : World) (h : chkI m = v) (hr : Rd w A n (m.c.map (Value.int .i64))) (hn : n ≤ 1048576) :
    Calls Try.prog 12 #[.agg #[.int .i64 m.w, .int .i64 m.h, .slice A n c]] w fun e w' => e = .returned (.int .i64 v) ∧ Below w.heap.size w w' := h ▸ rcheckI_any m A n c w hr hn
theorem atI_to {v : Int} (a b x y : Nat) (X Y : Int) (l : List Int) (H : Int) (A : Option Addr) (c : Nat) (w : World) (h : l.getD (y * a + x) 0 = v) (hX : X = (x : Int)) (hY : Y = (y : Int)) (ha : a ≤ 64) (hb : b ≤ 64) (hx : x < a) (hy : y < b) (hr : Rd w A (b * a) (l.map (Value.int .i64))) :
    Calls Try.prog 14 #[.agg #[.int .i64 a, .int .i64 H, .slice A (b * a) c], .int .i64 X, .int .i64 Y] w fun e w' => e = .returned (.int .i64 v) ∧ Below w.heap.size w w' := h ▸ atI_any a b x y X Y hX hY l H A c w ha hb hx hy hr
theorem at_to {v : Bool} (a b x y : Nat) (l : List Bool) (H : Int) (A : Option Addr) (c : Nat) (w : World) (h : l.getD (y * a + x) false = v) (ha : a ≤ 64) (hb : b ≤ 64) (hx : x < a) (hy : y < b) (hr : Rd w A (b * a) (l.map Value.bool)) :
    Calls Try.prog 13 #[.agg #[.int .i64 a, .int .i64 H, .slice A (b * a) c], .int .i64 x, .int .i64 y] w fun e w' => e = .returned (.bool v) ∧ Below w.heap.size w w' := h ▸ at_any a b x y l H A c w ha hb hx hy hr

set_option maxHeartbeats 4000000 in
set_option maxRecDepth 100000 in
theorem top_walk (g : Gd) (p q : List Int) (A Ap Aq : Option Addr) (n c np cp nq cq : Nat) (w : World) (hr : Rd w A n (g.bits.map Value.bool)) (hrp : Rd w Ap np (p.map (Value.int .i64))) (hrq : Rd w Aq nq (q.map (Value.int .i64))) :
    Calls Try.prog 3 #[.agg #[.int .i64 g.w, .int .i64 g.h, .slice A n c], .slice Ap np cp, .slice Aq nq cq] w fun e w' => e = .returned (.bool true) ∧ Below w.heap.size w w' := by
  have lb : g.bits.length = n := by simpa using hr.len
  have lp : p.length = np := by simpa using hrp.len
  have lq : q.length = nq := by simpa using hrq.len
  have S0 := ((((St.start w).addRd hr).addRd hrp).addRd hrq).box #[.int .i64 g.w, .int .i64 g.h, .slice A n c] 24
  simp only [List.nil_append, List.cons_append] at S0
  by_cases ht : thr g p q = 0
  · have hd : decide (thr g p q = 0) = true := by simpa using ht
    obtain ⟨a, b, bs, rfl, ha1, ha, hb1, hb, hl, hpa, hqb, fp, fq⟩ := thr_open ht
    have H1 := Lib.hid (frontI_mk ht)
    have H2 := Lib.hid (backI_mk ht)
    have C1 := Lib.hid (chkI_tab ha1 ha hb1 hb fun x y hx hy => frontF_fine (bs := bs) fp fq hpa hqb hx hy)
    have C2 := Lib.hid (chkI_tab ha1 ha hb1 hb fun x y hx hy => backF_fine (bs := bs) fp fq hpa hqb hx hy)
    simp only at lb S0 ⊢
    obtain rfl : n = b * a := by omega
    obtain rfl : np = a := by omega
    obtain rfl : nq = b := by omega
    have LP := Lib.hid lp
    have LQ := Lib.hid lq
    have hsm : nq * np ≤ 64 * 64 := Nat.mul_le_mul hb ha
    clear lb lp lq hr hrp hrq ht hl hpa hqb fp fq
    go_enter Try.func3, Try.ntmps3
    go_wp2_with fail
    refine (alive_any _).mono ?_
    rintro e w1 ⟨rfl, hb1⟩
    have S1 := S0.keep hb1
    obtain ⟨c0, c1, c2⟩ := (S1.blk 3 rfl).cell3
    go_wp2_with fail
    refine (fit_any ⟨np, nq, bs⟩ p q _ _ _ _ _ _ _ _ _ _ (S1.rd 0 rfl) (S1.rd 1 rfl) (S1.rd 2 rfl)).mono ?_
    rintro e w2 ⟨rfl, hb2⟩
    have S2 := S1.keep hb2
    clear c0 c1 c2
    obtain ⟨c0, c1, c2⟩ := (S2.blk 3 rfl).cell3
    go_wp2_with fail
    refine (front_to ⟨np, nq, bs⟩ p q _ _ _ _ _ _ _ _ _ _ H1.out (S2.rd 0 rfl) (S2.rd 1 rfl) (S2.rd 2 rfl)).mono ?_
    rintro e w3 ⟨A3, n3, c3, rfl, hown3, hb3⟩
    simp only at hown3 ⊢
    obtain rfl : n3 = nq * np := by have := hown3.1; rw [List.length_map, Pl.tab_length] at this; omega
    have S3 := ((S2.keep hb3).addRd (rd_of_own hown3)).box #[.int .i64 np, .int .i64 nq, .slice A3 (nq * np) c3] 29
    simp only [List.nil_append, List.cons_append] at S3
    clear c0 c1 c2
    obtain ⟨c0, c1, c2⟩ := (S3.blk 3 rfl).cell3
    go_wp2_with fail
    refine (back_to ⟨np, nq, bs⟩ p q _ _ _ _ _ _ _ _ _ _ H2.out (S3.rd 0 rfl) (S3.rd 1 rfl) (S3.rd 2 rfl)).mono ?_
    rintro e w4 ⟨A4, n4, c4, rfl, hown4, hb4⟩
    simp only at hown4 ⊢
    obtain rfl : n4 = nq * np := by have := hown4.1; rw [List.length_map, Pl.tab_length] at this; omega
    have S4 := ((S3.keep hb4).addRd (rd_of_own hown4)).box #[.int .i64 np, .int .i64 nq, .slice A4 (nq * np) c4] 29
    simp only [List.nil_append, List.cons_append] at S4
    clear c0 c1 c2
    obtain ⟨d0, d1, d2⟩ := (S4.blk 5 rfl).cell3
    go_wp2_with fail
    refine (rcheckI_to _ _ _ _ _ C1.out (S4.rd 4 rfl) (by omega)).mono ?_
    rintro e w5 ⟨rfl, hb5⟩
    have S5 := S4.keep hb5
    clear d0 d1 d2
    obtain ⟨d0, d1, d2⟩ := (S5.blk 7 rfl).cell3
    go_wp2_with fail
    refine (rcheckI_to _ _ _ _ _ C2.out (S5.rd 6 rfl) (by omega)).mono ?_
    rintro e w6 ⟨rfl, hb6⟩
    have S6 := S5.keep hb6
    clear d0 d1 d2
    obtain ⟨c0, c1, c2⟩ := (S6.blk 3 rfl).cell3
    obtain ⟨d0, d1, d2⟩ := (S6.blk 5 rfl).cell3
    obtain ⟨e0, e1, e2⟩ := (S6.blk 7 rfl).cell3
    clear S0 S1 S2 S3 S4 S5 hown3 hown4 hb1 hb2 hb3 hb4 hb5 hb6 H1 H2 C1 C2
    go_wp2_with fail
    go_loopw [12] (fun i wr => ∃ y : Nat, y ≤ nq ∧ i = .int .i64 y ∧ St w [.rd A (nq * np) (bs.map Value.bool), .rd Ap np (p.map (Value.int .i64)), .rd Aq nq (q.map (Value.int .i64)), .blk w.heap.size 24 #[.int .i64 np, .int .i64 nq, .slice A (nq * np) c], .rd A3 (nq * np) ((Pl.tab np nq (frontF np bs p q)).map (Value.int .i64)), .blk w3.heap.size 29 #[.int .i64 np, .int .i64 nq, .slice A3 (nq * np) c3], .rd A4 (nq * np) ((Pl.tab np nq (backF np bs p q)).map (Value.int .i64)), .blk w4.heap.size 29 #[.int .i64 np, .int .i64 nq, .slice A4 (nq * np) c4]] wr) (fun i _ => nq - (intOf i).toNat)
    case atStart => exact ⟨0, Nat.zero_le _, rfl, S6⟩
    case round =>
      clear c0 c1 c2 d0 d1 d2 e0 e1 e2 S6
      obtain ⟨y, hy, rfl, S⟩ := hrel
      obtain ⟨c0, c1, c2⟩ := (S.blk 3 rfl).cell3
      by_cases hlt : y < nq
      · go_wp2_with fail
        go_loopw [13] (fun i wr => ∃ x : Nat, x ≤ np ∧ i = .int .i64 x ∧ St w [.rd A (nq * np) (bs.map Value.bool), .rd Ap np (p.map (Value.int .i64)), .rd Aq nq (q.map (Value.int .i64)), .blk w.heap.size 24 #[.int .i64 np, .int .i64 nq, .slice A (nq * np) c], .rd A3 (nq * np) ((Pl.tab np nq (frontF np bs p q)).map (Value.int .i64)), .blk w3.heap.size 29 #[.int .i64 np, .int .i64 nq, .slice A3 (nq * np) c3], .rd A4 (nq * np) ((Pl.tab np nq (backF np bs p q)).map (Value.int .i64)), .blk w4.heap.size 29 #[.int .i64 np, .int .i64 nq, .slice A4 (nq * np) c4]] wr) (fun i _ => np - (intOf i).toNat)
        case atStart => exact ⟨0, Nat.zero_le _, rfl, S⟩
        case round =>
          clear c0 c1 c2 S
          obtain ⟨x, hx, rfl, S⟩ := hrel
          obtain ⟨c0, c1, c2⟩ := (S.blk 3 rfl).cell3
          by_cases hltx : x < np
          · obtain ⟨bp, op, hAp, hbp, hcp⟩ := (S.rd 1 rfl).at_ (by omega)
            obtain ⟨bq, oq, hAq, hbq, hcq⟩ := (S.rd 2 rfl).at_ (by omega)
            have hcellp := int_read LP.out hltx hcp
            have hcellq := int_read LQ.out hlt hcq
            subst hAp hAq
            have T1 : Hid ((Pl.tab np nq (frontF np bs p q)).getD (y * np + x) 0 = if bs.getD (y * np + x) false then p.getD x 0 else q.getD y 0) := tab_getD _ _ hltx hlt
            have T2 : Hid ((Pl.tab np nq (backF np bs p q)).getD (y * np + (np - 1 - x)) 0 = if bs.getD (y * np + x) false then q.getD y 0 else p.getD x 0) := (tab_getD _ _ (by omega) hlt).trans (backF_mirror hltx)
            clear hcp hcq hbp hbq
            rcases Bool.eq_false_or_eq_true (bs.getD (y * np + x) false) with hbit | hbit
            all_goals
              have HB := Lib.hid hbit
              simp only [hbit, if_true, Bool.false_eq_true, if_false] at T1 T2
              clear hbit
              generalize p.getD x 0 = u at *
              generalize q.getD y 0 = v at *
              have k1 : (u != u) = false := by simp
              have k2 : (v != v) = false := by simp
              go_wp2_with fail
              go_region
            all_goals
              have Sd := S.drew
              clear c0 c1 c2 hcellp hcellq S
              obtain ⟨c0, c1, c2⟩ := (Sd.blk 3 rfl).cell3
              go_wp2_with fail
              refine (at_to np nq x y bs _ _ _ _ HB.out ha hb hltx hlt (Sd.rd 0 rfl)).mono ?_
              rintro e w7 ⟨rfl, hb7⟩
              have S7 := Sd.keep hb7
              clear c0 c1 c2
              obtain ⟨d0, d1, d2⟩ := (S7.blk 5 rfl).cell3
              go_wp2_with fail
              refine (atI_to np nq x y _ _ _ _ _ _ _ T1.out rfl rfl ha hb hltx hlt (S7.rd 4 rfl)).mono ?_
              rintro e w8 ⟨rfl, hb8⟩
              have S8 := S7.keep hb8
              clear d0 d1 d2
              obtain ⟨c0, c1, c2⟩ := (S8.blk 3 rfl).cell3
              obtain ⟨d0, d1, d2⟩ := (S8.blk 7 rfl).cell3
              go_wp2_with fail
              refine (atI_to np nq (np - 1 - x) y _ _ _ _ _ _ _ T2.out (by omega) rfl ha hb (by omega) hlt (S8.rd 6 rfl)).mono ?_
              rintro e w9 ⟨rfl, hb9⟩
              have S9 := S8.keep hb9
              clear c0 c1 c2 d0 d1 d2
              go_wp2_with fail
              go_roundw
              case rel => exact ⟨x + 1, by omega, by go_num, S9⟩
              case measure => simp [intOf]; omega
          · obtain rfl : x = np := by omega
            go_wp2_with fail
            go_roundw
            case rel => exact ⟨y + 1, by omega, by go_num, S⟩
            case measure => simp [intOf]; omega
      · obtain rfl : y = nq := by omega
        go_wp2_with fail
        go_ret
        exact ⟨rfl, S.below⟩
  · have hd : decide (thr g p q = 0) = false := by simpa using ht
    clear lb lp lq hr hrp hrq ht
    go_enter Try.func3, Try.ntmps3
    go_wp2_with fail
    refine (alive_any _).mono ?_
    rintro e w1 ⟨rfl, hb1⟩
    have S1 := S0.keep hb1
    obtain ⟨c0, c1, c2⟩ := (S1.blk 3 rfl).cell3
    go_wp2_with fail
    refine (fit_any g p q _ _ _ _ _ _ _ _ _ _ (S1.rd 0 rfl) (S1.rd 1 rfl) (S1.rd 2 rfl)).mono ?_
    rintro e w2 ⟨rfl, hb2⟩
    have S2 := S1.keep hb2
    go_wp2_with fail
    go_ret
    exact ⟨rfl, S2.below⟩
end Go.Proofs.Ytpfonniepinjnaa
