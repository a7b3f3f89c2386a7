/- The law ColourTurns, walked: it answers true and turns nothing that was there, for any grid and thread colours. -/
import Derived.Test.YtpfonniepinjnaaAlive
import Derived.Test.YtpfonniepinjnaaITurn
import Derived.Test.YtpfonniepinjnaaGTurn
import Derived.Test.YtpfonniepinjnaaNot
namespace Go.Proofs.Ytpfonniepinjnaa
open Go.RowKit

theorem turnG_to {r : Gd × Int} (g : Gd) (A : Option Addr) (n c : Nat) (w : World) (h : turnG g = r) (hr : Rd w A n (g.bits.map Value.bool)) :
    Calls Try.prog 25 #[.agg #[.int .i64 g.w, .int .i64 g.h, .slice A n c]] w (RetG r w) := h ▸ turn_any g A n c w hr
theorem notG_to {r : Gd × Int} (g : Gd) (A : Option Addr) (n c : Nat) (w : World) (h : notG g = r) (hr : Rd w A n (g.bits.map Value.bool)) :
    Calls Try.prog 26 #[.agg #[.int .i64 g.w, .int .i64 g.h, .slice A n c]] w (RetG r w) := h ▸ not_any g A n c w hr
theorem turnI_to {r : Im × Int} (m : Im) (A : Option Addr) (n c : Nat) (w : World) (h : turnI m = r) (hr : Rd w A n (m.c.map (Value.int .i64))) (hn : n ≤ 1048576) :
    Calls Try.prog 27 #[.agg #[.int .i64 m.w, .int .i64 m.h, .slice A n c]] w (RetI r w) := h ▸ turnI_any m A n c w hr hn

set_option maxHeartbeats 4000000 in
set_option maxRecDepth 100000 in
theorem turns_walk (g : Gd) (p q : List Int) (A Ap Aq : Option Addr) (n c np cp nq cq : Nat) (w : World) (hr : Rd w A n (g.bits.map Value.bool)) (hrp : Rd w Ap np (p.map (Value.int .i64))) (hrq : Rd w Aq nq (q.map (Value.int .i64))) :
    Calls Try.prog 6 #[.agg #[.int .i64 g.w, .int .i64 g.h, .slice A n c], .slice Ap np cp, .slice Aq nq cq] w fun e w' => e = .returned (.bool true) ∧ Below w.heap.size w w' := by
  have S0 := ((((St.start w).addRd hr).addRd hrp).addRd hrq).box #[.int .i64 g.w, .int .i64 g.h, .slice A n c] 24
  simp only [List.nil_append, List.cons_append] at S0
  by_cases ht : thr g p q = 0
  · have hd : decide (thr g p q = 0) = true := by simpa using ht
    obtain ⟨h1, h2, h3, h4, h5⟩ := turns_law ht
    have z4 := frontI_small g p q
    have z3 := frontI_small (notG (turnG g).1).1 q p
    rw [h3] at z3
    have HF := Lib.hid (fun W h1 h2 h3 => fit_any g p q A Ap Aq n c np cp nq cq W h1 h2 h3)
    rw [ht] at HF
    generalize (turnI (frontI g p q).1).1 = r5 at *
    generalize (notG (turnG g).1).1 = r2 at *
    generalize (turnG g).1 = r1 at *
    generalize (frontI g p q).1 = r4 at *
    obtain ⟨x1, y1, l1⟩ := r1
    obtain ⟨x2, y2, l2⟩ := r2
    obtain ⟨x4, y4, l4⟩ := r4
    obtain ⟨x5, y5, l5⟩ := r5
    obtain ⟨W, H, bs⟩ := g
    have H1 := Lib.hid h1
    have H2 := Lib.hid h2
    have H3 := Lib.hid h3
    have H4 := Lib.hid h4
    have H5 := Lib.hid h5
    simp only at z3 z4 HF S0 ⊢
    clear h1 h2 h3 h4 h5 ht hd hr hrp hrq
    go_enter Try.func6, Try.ntmps6
    go_wp2_with fail
    refine (alive_any _).mono ?_
    rintro e w1 ⟨rfl, hb1⟩
    have S1 := S0.keep hb1
    obtain ⟨c0, c1, c2⟩ := (S1.blk 3 rfl).cell3
    go_wp2_with fail
    refine (HF.out _ (S1.rd 0 rfl) (S1.rd 1 rfl) (S1.rd 2 rfl)).mono ?_
    rintro e w2 ⟨rfl, hb2⟩
    have S2 := S1.keep hb2
    clear c0 c1 c2
    obtain ⟨c0, c1, c2⟩ := (S2.blk 3 rfl).cell3
    go_wp2_with fail
    refine (turnG_to ⟨W, H, bs⟩ _ _ _ _ H1.out (S2.rd 0 rfl)).mono ?_
    rintro e w3 ⟨A3, n3, c3, rfl, hown3, hb3⟩
    simp only at hown3 ⊢
    have S3 := ((S2.keep hb3).addRd (rd_of_own hown3)).box #[.int .i64 x1, .int .i64 y1, .slice A3 n3 c3] 24
    simp only [List.nil_append, List.cons_append] at S3
    clear c0 c1 c2
    go_wp2_with fail
    refine (notG_to ⟨x1, y1, l1⟩ _ _ _ _ H2.out (S3.rd 4 rfl)).mono ?_
    rintro e w4 ⟨A4, n4, c4, rfl, hown4, hb4⟩
    simp only at hown4 ⊢
    have S4 := ((S3.keep hb4).addRd (rd_of_own hown4)).box #[.int .i64 x2, .int .i64 y2, .slice A4 n4 c4] 24
    simp only [List.nil_append, List.cons_append] at S4
    go_wp2_with fail
    refine (front_to ⟨x2, y2, l2⟩ q p _ _ _ _ _ _ _ _ _ _ H3.out (S4.rd 6 rfl) (S4.rd 2 rfl) (S4.rd 1 rfl)).mono ?_
    rintro e w5 ⟨A5, n5, c5, rfl, hown5, hb5⟩
    simp only at hown5 ⊢
    have S5 := ((S4.keep hb5).addRd (rd_of_own hown5)).box #[.int .i64 x5, .int .i64 y5, .slice A5 n5 c5] 29
    simp only [List.nil_append, List.cons_append] at S5
    obtain ⟨c0, c1, c2⟩ := (S5.blk 3 rfl).cell3
    go_wp2_with fail
    refine (front_to ⟨W, H, bs⟩ p q _ _ _ _ _ _ _ _ _ _ H4.out (S5.rd 0 rfl) (S5.rd 1 rfl) (S5.rd 2 rfl)).mono ?_
    rintro e w6 ⟨A6, n6, c6, rfl, hown6, hb6⟩
    simp only at hown6 ⊢
    have S6 := ((S5.keep hb6).addRd (rd_of_own hown6)).box #[.int .i64 x4, .int .i64 y4, .slice A6 n6 c6] 29
    simp only [List.nil_append, List.cons_append] at S6
    clear c0 c1 c2
    have k6 : n6 ≤ 4096 := by have := hown6.1; simp at this; omega
    have k5 : n5 ≤ 4096 := by have := hown5.1; simp at this; omega
    go_wp2_with fail
    refine (turnI_to ⟨x4, y4, l4⟩ _ _ _ _ H5.out (S6.rd 10 rfl) (by omega)).mono ?_
    rintro e w7 ⟨A7, n7, c7, rfl, hown7, hb7⟩
    simp only at hown7 ⊢
    have S7 := ((S6.keep hb7).addRd (rd_of_own hown7)).box #[.int .i64 x5, .int .i64 y5, .slice A7 n7 c7] 29
    simp only [List.nil_append, List.cons_append] at S7
    obtain ⟨c0, c1, c2⟩ := (S7.blk 9 rfl).cell3
    go_wp2_with fail
    refine (rsameI_to ⟨x5, y5, l5⟩ ⟨x5, y5, l5⟩ (sameI_self _) _ _ _ _ _ _ _ (S7.rd 8 rfl) (S7.rd 12 rfl) (by omega)).mono ?_
    rintro e w8 ⟨rfl, hb8⟩
    have S8 := S7.keep hb8
    clear c0 c1 c2
    go_wp2_with fail
    go_ret
    exact ⟨rfl, S8.below⟩
  · have hd : decide (thr g p q = 0) = false := by simpa using ht
    clear hr hrp hrq ht
    go_enter Try.func6, Try.ntmps6
    go_wp2_with fail
    refine (alive_any _).mono ?_
    rintro e w1 ⟨rfl, hb1⟩
    have S1 := S0.keep hb1
    obtain ⟨c0, c1, c2⟩ := (S1.blk 3 rfl).cell3
    go_wp2_with fail
    refine (fit_any g p q _ _ _ _ _ _ _ _ _ _ (S1.rd 0 rfl) (S1.rd 1 rfl) (S1.rd 2 rfl)).mono ?_
    rintro e w2 ⟨rfl, hb2⟩
    have S2 := S1.keep hb2
    go_wp2_with fail
    go_ret
    exact ⟨rfl, S2.below⟩
end Go.Proofs.Ytpfonniepinjnaa
