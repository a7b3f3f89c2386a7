/- The law ColourShows, walked: it answers true and turns nothing that was there, for any grid and lists of numbers. -/
import Derived.Test.YtpfonniepinjnaaRFront
import Derived.Test.YtpfonniepinjnaaREqual
import Derived.Test.YtpfonniepinjnaaFront
import Derived.Test.YtpfonniepinjnaaISame
import Derived.Test.YtpfonniepinjnaaTwin
namespace Go.Proofs.Ytpfonniepinjnaa
open Go.RowKit

theorem same_to {b : Bool} (g g2 : Gd) (h : sameG g g2 = b) (A A2 : Option Addr) (n c n2 c2 : Nat) (w : World) (hr : Rd w A n (g.bits.map Value.bool)) (hr2 : Rd w A2 n2 (g2.bits.map Value.bool)) (hn : n ≤ 1048576) :
    Calls Try.prog 24 #[.agg #[.int .i64 g.w, .int .i64 g.h, .slice A n c], .agg #[.int .i64 g2.w, .int .i64 g2.h, .slice A2 n2 c2]] w fun e w' => e = .returned (.bool b) ∧ Below w.heap.size w w' := h ▸ rsame_any g g2 A A2 n c n2 c2 w hr hr2 hn
theorem sameIm_to {b : Bool} (g g2 : Im) (h : sameI g g2 = b) (A A2 : Option Addr) (n c n2 c2 : Nat) (w : World) (hr : Rd w A n (g.c.map (Value.int .i64))) (hr2 : Rd w A2 n2 (g2.c.map (Value.int .i64))) (hn : n ≤ 1048576) :
    Calls Try.prog 23 #[.agg #[.int .i64 g.w, .int .i64 g.h, .slice A n c], .agg #[.int .i64 g2.w, .int .i64 g2.h, .slice A2 n2 c2]] w fun e w' => e = .returned (.bool b) ∧ Below w.heap.size w w' := h ▸ rsameI_any g g2 A A2 n c n2 c2 w hr hr2 hn
theorem equalG_small (p q : List Int) : (equalG p q).1.bits.length ≤ 4096 := by
  unfold equalG
  split
  · simp [Gd.zero]
  · split
    · simp [Gd.zero]
    · rename_i h _
      unfold tabG
      rw [Pl.tab_length]
      have h1 : q.length * p.length ≤ 64 * 64 := Nat.mul_le_mul (by omega) (by omega)
      exact h1

set_option maxHeartbeats 4000000 in
set_option maxRecDepth 100000 in
theorem shows_walk (g : Gd) (p q : List Int) (A Ap Aq : Option Addr) (n c np cp nq cq : Nat) (w : World) (hr : Rd w A n (g.bits.map Value.bool)) (hrp : Rd w Ap np (p.map (Value.int .i64))) (hrq : Rd w Aq nq (q.map (Value.int .i64))) :
    Calls Try.prog 5 #[.agg #[.int .i64 g.w, .int .i64 g.h, .slice A n c], .slice Ap np cp, .slice Aq nq cq] w fun e w' => e = .returned (.bool true) ∧ Below w.heap.size w w' := by
  have S0 := ((((St.start w).addRd hr).addRd hrp).addRd hrq).box #[.int .i64 g.w, .int .i64 g.h, .slice A n c] 24
  simp only [List.nil_append, List.cons_append] at S0
  obtain ⟨c0, c1, c2⟩ := (S0.blk 3 rfl).cell3
  have H1 := Lib.hid (fun W (A : Option Addr) (n c : Nat) h1 h2 h3 => front_any g p q A Ap Aq n c np cp nq cq W h1 h2 h3)
  have H2 := Lib.hid (fun W (A : Option Addr) (n c : Nat) h1 h2 h3 => rfront_any g p q A Ap Aq n c np cp nq cq W h1 h2 h3)
  have H3 := Lib.hid (fun W (A : Option Addr) (n c : Nat) h1 h2 h3 => back_any g p q A Ap Aq n c np cp nq cq W h1 h2 h3)
  have H4 := Lib.hid (fun W (A : Option Addr) (n c : Nat) h1 h2 h3 => rback_any g p q A Ap Aq n c np cp nq cq W h1 h2 h3)
  have H5 := Lib.hid (fun W h1 h2 => equal_any p q Ap Aq np cp nq cq W h1 h2)
  have H6 := Lib.hid (fun W h1 h2 => requal_any p q Ap Aq np cp nq cq W h1 h2)
  have z1 := frontI_small g p q
  have z2 := backI_small g p q
  have z3 := equalG_small p q
  generalize frontI g p q = r1 at *
  generalize backI g p q = r2 at *
  generalize equalG p q = r3 at *
  obtain ⟨⟨x1, y1, l1⟩, e1⟩ := r1
  obtain ⟨⟨x2, y2, l2⟩, e2⟩ := r2
  obtain ⟨⟨x3, y3, l3⟩, e3⟩ := r3
  obtain ⟨W, H, bs⟩ := g
  simp only at z1 z2 z3 H1 H2 H3 H4 H5 H6 S0 c0 c1 c2 hr ⊢
  clear hr hrp hrq
  by_cases hn : 4200 < n
  · have hd : decide (4200 < n) = true := by simpa using hn
    go_enter Try.func5, Try.ntmps5
    go_wp2_with fail
    refine (great_any _ _ _ _ _ _).mono ?_
    rintro e w1 ⟨rfl, hb1⟩
    have S1 := S0.keep hb1
    go_wp2_with fail
    go_ret
    exact ⟨rfl, S1.below⟩
  have hd : decide (4200 < n) = false := by simpa using hn
  by_cases hp : 100 < np
  · go_enter Try.func5, Try.ntmps5
    go_wp2_with fail
    refine (great_any _ _ _ _ _ _).mono ?_
    rintro e w1 ⟨rfl, hb1⟩
    have S1 := S0.keep hb1
    go_wp2_with fail
    go_ret
    exact ⟨rfl, S1.below⟩
  by_cases hq : 100 < nq
  · go_enter Try.func5, Try.ntmps5
    go_wp2_with fail
    refine (great_any _ _ _ _ _ _).mono ?_
    rintro e w1 ⟨rfl, hb1⟩
    have S1 := S0.keep hb1
    go_wp2_with fail
    go_ret
    exact ⟨rfl, S1.below⟩
  go_enter Try.func5, Try.ntmps5
  go_wp2_with fail
  refine (great_any _ _ _ _ _ _).mono ?_
  rintro e w1 ⟨rfl, hb1⟩
  have S1 := S0.keep hb1
  clear c0 c1 c2
  obtain ⟨c0, c1, c2⟩ := (S1.blk 3 rfl).cell3
  go_wp2_with fail
  refine (twin_any _ _ _ _ _ bs _ (S1.rd 0 rfl) (by omega)).mono ?_
  rintro e w2 ⟨A2, n2, c2', rfl, hown2, hb2⟩
  simp only at hown2 ⊢
  have S2 := ((S1.keep hb2).addRd (rd_of_own hown2)).box #[.int .i64 W, .int .i64 H, .slice A2 n2 c2'] 24
  simp only [List.nil_append, List.cons_append] at S2
  have k2 : n2 ≤ 4200 := by have h1 := hown2.1; have h2 := (S1.rd 0 rfl).len; rw [h1] at h2; omega
  clear c0 c1 c2
  go_wp2_with fail
  refine (H1.out _ _ _ _ (S2.rd 4 rfl) (S2.rd 1 rfl) (S2.rd 2 rfl)).mono ?_
  rintro e w3 ⟨A3, n3, c3, rfl, hown3, hb3⟩
  simp only at hown3 ⊢
  have S3 := ((S2.keep hb3).addRd (rd_of_own hown3)).box #[.int .i64 x1, .int .i64 y1, .slice A3 n3 c3] 29
  simp only [List.nil_append, List.cons_append] at S3
  obtain ⟨c0, c1, c2⟩ := (S3.blk 3 rfl).cell3
  go_wp2_with fail
  refine (H2.out _ _ _ _ (S3.rd 0 rfl) (S3.rd 1 rfl) (S3.rd 2 rfl)).mono ?_
  rintro e w4 ⟨A4, n4, c4, rfl, hown4, hb4⟩
  simp only at hown4 ⊢
  have S4 := ((S3.keep hb4).addRd (rd_of_own hown4)).box #[.int .i64 x1, .int .i64 y1, .slice A4 n4 c4] 29
  simp only [List.nil_append, List.cons_append] at S4
  clear c0 c1 c2
  obtain ⟨c0, c1, c2⟩ := (S4.blk 5 rfl).cell3
  go_wp2_with fail
  refine (H3.out _ _ _ _ (S4.rd 4 rfl) (S4.rd 1 rfl) (S4.rd 2 rfl)).mono ?_
  rintro e w5 ⟨A5, n5, c5, rfl, hown5, hb5⟩
  simp only at hown5 ⊢
  have S5 := ((S4.keep hb5).addRd (rd_of_own hown5)).box #[.int .i64 x2, .int .i64 y2, .slice A5 n5 c5] 29
  simp only [List.nil_append, List.cons_append] at S5
  clear c0 c1 c2
  obtain ⟨c0, c1, c2⟩ := (S5.blk 3 rfl).cell3
  go_wp2_with fail
  refine (H4.out _ _ _ _ (S5.rd 0 rfl) (S5.rd 1 rfl) (S5.rd 2 rfl)).mono ?_
  rintro e w6 ⟨A6, n6, c6, rfl, hown6, hb6⟩
  simp only at hown6 ⊢
  have S6 := ((S5.keep hb6).addRd (rd_of_own hown6)).box #[.int .i64 x2, .int .i64 y2, .slice A6 n6 c6] 29
  simp only [List.nil_append, List.cons_append] at S6
  clear c0 c1 c2
  go_wp2_with fail
  refine (H5.out _ (S6.rd 1 rfl) (S6.rd 2 rfl)).mono ?_
  rintro e w7 ⟨A7, n7, c7, rfl, hown7, hb7⟩
  simp only at hown7 ⊢
  have S7 := ((S6.keep hb7).addRd (rd_of_own hown7)).box #[.int .i64 x3, .int .i64 y3, .slice A7 n7 c7] 24
  simp only [List.nil_append, List.cons_append] at S7
  go_wp2_with fail
  refine (H6.out _ (S7.rd 1 rfl) (S7.rd 2 rfl)).mono ?_
  rintro e w8 ⟨A8, n8, c8, rfl, hown8, hb8⟩
  simp only at hown8 ⊢
  have S8 := ((S7.keep hb8).addRd (rd_of_own hown8)).box #[.int .i64 x3, .int .i64 y3, .slice A8 n8 c8] 24
  simp only [List.nil_append, List.cons_append] at S8
  have k3 : n3 ≤ 4096 := by have := hown3.1; simp at this; omega
  have k5 : n5 ≤ 4096 := by have := hown5.1; simp at this; omega
  have k7 : n7 ≤ 4096 := by have := hown7.1; simp at this; omega
  clear S0 S1 S2 S3 S4 S5 S6 S7 hown2 hown3 hown4 hown5 hown6 hown7 hown8 hb1 hb2 hb3 hb4 hb5 hb6 hb7 hb8 H1 H2 H3 H4 H5 H6 hd
  obtain ⟨c0, c1, c2⟩ := (S8.blk 7 rfl).cell3
  obtain ⟨d0, d1, d2⟩ := (S8.blk 9 rfl).cell3
  go_wp2_with fail
  refine (sameIm_to ⟨x1, y1, l1⟩ ⟨x1, y1, l1⟩ (sameI_self _) _ _ _ _ _ _ _ (S8.rd 6 rfl) (S8.rd 8 rfl) (by omega)).mono ?_
  rintro e w9 ⟨rfl, hb9⟩
  have S9 := S8.keep hb9
  clear c0 c1 c2 d0 d1 d2
  obtain ⟨c0, c1, c2⟩ := (S9.blk 11 rfl).cell3
  obtain ⟨d0, d1, d2⟩ := (S9.blk 13 rfl).cell3
  go_wp2_with fail
  refine (sameIm_to ⟨x2, y2, l2⟩ ⟨x2, y2, l2⟩ (sameI_self _) _ _ _ _ _ _ _ (S9.rd 10 rfl) (S9.rd 12 rfl) (by omega)).mono ?_
  rintro e w10 ⟨rfl, hb10⟩
  have S10 := S9.keep hb10
  clear c0 c1 c2 d0 d1 d2
  obtain ⟨c0, c1, c2⟩ := (S10.blk 15 rfl).cell3
  obtain ⟨d0, d1, d2⟩ := (S10.blk 17 rfl).cell3
  go_wp2_with fail
  refine (same_to ⟨x3, y3, l3⟩ ⟨x3, y3, l3⟩ (sameG_self _) _ _ _ _ _ _ _ (S10.rd 14 rfl) (S10.rd 16 rfl) (by omega)).mono ?_
  rintro e w11 ⟨rfl, hb11⟩
  have S11 := S10.keep hb11
  clear c0 c1 c2 d0 d1 d2
  obtain ⟨c0, c1, c2⟩ := (S11.blk 5 rfl).cell3
  obtain ⟨d0, d1, d2⟩ := (S11.blk 3 rfl).cell3
  go_wp2_with fail
  refine (same_to ⟨W, H, bs⟩ ⟨W, H, bs⟩ (sameG_self _) _ _ _ _ _ _ _ (S11.rd 4 rfl) (S11.rd 0 rfl) (by omega)).mono ?_
  rintro e w12 ⟨rfl, hb12⟩
  have S12 := S11.keep hb12
  go_wp2_with fail
  go_ret
  exact ⟨rfl, S12.below⟩
end Go.Proofs.Ytpfonniepinjnaa
