/- The examples of layer 14's laws hold: alive answers true. -/
import Derived.Test.YtpfonniepinjnaaDoorFrontF
import Derived.Test.YtpfonniepinjnaaDoorImCk
import Derived.Test.YtpfonniepinjnaaDoorISame
namespace Go.Proofs.YtpfonniepinjnaaDoor
open Go.RowKit

theorem rd_blk {w : World} {g : Nat} {t : TypeId} {cs : Array Value} (h : Blk w g t cs) : Rd w (some ⟨g, 0, none⟩) cs.size cs.toList :=
  ⟨by simp, fun _ => ⟨g, 0, rfl, fun j u hu => by rw [Nat.zero_add, h.cell j]; simpa using hu⟩⟩

/-- What a function that hands back a grid alone gives: a grid that reads as g. -/
def RdT (g : Gd) (w : World) (e : Ending) (w' : World) : Prop :=
  ∃ A n c, e = .returned (.agg #[.int .i64 g.w, .int .i64 g.h, .slice A n c]) ∧ Rd w' A n (g.bits.map Value.bool) ∧ Below w.heap.size w w'
def plainGd : Gd := ⟨2, 2, [true, false, false, true]⟩

theorem plain_any (w : World) : Calls Tryd.prog 20 #[] w (RdT plainGd w) := by
  have S0 := (((St.start w).box #[.int .i64 2, .int .i64 2, .slice (some ⟨w.heap.size + 1, 0, none⟩) 4 4] 46).box #[.bool true, .bool false, .bool false, .bool true] 4)
  simp only [size_alloc1, List.nil_append, List.cons_append] at S0
  go_enter Tryd.func20, Tryd.ntmps20
  go_wp2_with fail
  refine bodyPost_ret (v := .agg #[.int .i64 2, .int .i64 2, .slice (some ⟨w.heap.size + 1, 0, none⟩) 4 4]) (by simp [results, Tryd.results20, go_sem]) rfl ?_
  exact ⟨_, _, _, rfl, rd_blk (S0.blk 1 rfl), S0.below⟩

theorem img_any (A : Option Addr) (n c : Nat) (w : World) : Calls Tryd.prog 18 #[.slice A n c] w fun e w' =>
    e = .returned (.agg #[.int .i64 2, .int .i64 2, .slice A n c]) ∧ Below w.heap.size w w' := by
  go_enter Tryd.func18, Tryd.ntmps18
  go_wp2_with fail
  refine bodyPost_ret (v := .agg #[.int .i64 2, .int .i64 2, .slice A n c]) (by simp [results, Tryd.results18, go_sem]) rfl ?_
  exact ⟨rfl, (Below.refl _ _).alloc (Nat.le_refl _) _⟩
theorem front_to {r : Im × Int} (g : Gd) (p q : List Int) (A Ap Aq : Option Addr) (n c np cp nq cq : Nat) (w : World) (h : frontI g p q = r) (hr : Rd w A n (g.bits.map Value.bool)) (hrp : Rd w Ap np (p.map (Value.int .i64))) (hrq : Rd w Aq nq (q.map (Value.int .i64))) :
    Calls Tryd.prog 19 #[.agg #[.int .i64 g.w, .int .i64 g.h, .slice A n c], .slice Ap np cp, .slice Aq nq cq] w (RetI r w) := h ▸ front_any g p q A Ap Aq n c np cp nq cq w hr hrp hrq
theorem rsameI_to {b : Bool} (g g2 : Im) (h : sameI g g2 = b) (A A2 : Option Addr) (n c n2 c2 : Nat) (w : World) (hr : Rd w A n (g.c.map (Value.int .i64))) (hr2 : Rd w A2 n2 (g2.c.map (Value.int .i64))) (hn : n ≤ 1048576) :
    Calls Tryd.prog 8 #[.agg #[.int .i64 g.w, .int .i64 g.h, .slice A n c], .agg #[.int .i64 g2.w, .int .i64 g2.h, .slice A2 n2 c2]] w fun e w' => e = .returned (.bool b) ∧ Below w.heap.size w w' := h ▸ rsameI_any g g2 A A2 n c n2 c2 w hr hr2 hn

set_option maxHeartbeats 2000000 in
theorem alive_any (w : World) : Calls Tryd.prog 9 #[] w fun e w' => e = .returned (.bool true) ∧ Below w.heap.size w w' := by
  have F1 : frontI plainGd [0, 1] [0, 1] = (⟨2, 2, [0, 0, 1, 1]⟩, 0) := by rfl
  have F2 : frontI plainGd [0, 1] [1, 0] = (⟨2, 2, [0, 1, 0, 1]⟩, 0) := by rfl
  have H1 := Lib.hid F1
  have H2 := Lib.hid F2
  clear F1 F2
  go_enter Tryd.func9, Tryd.ntmps9
  go_wp2_with fail
  refine (plain_any _).mono ?_
  rintro e w1 ⟨A1, n1, c1, rfl, hr1, hb1⟩
  have S1 := ((((St.start w).keep hb1).addRd hr1).box #[.int .i64 0, .int .i64 1] 3).box #[.int .i64 0, .int .i64 1] 3
  simp only [size_alloc1, List.nil_append, List.cons_append] at S1
  go_wp2_with fail
  refine (front_to plainGd [0, 1] [0, 1] _ _ _ _ _ _ _ _ _ _ H1.out (S1.rd 0 rfl) (rd_blk (S1.blk 1 rfl)) (rd_blk (S1.blk 2 rfl))).mono ?_
  rintro e w2 ⟨A2, n2, c2, rfl, hown2, hb2⟩
  simp only at hown2 ⊢
  have S2 := ((S1.keep hb2).addRd (rd_of_own hown2)).box #[.int .i64 2, .int .i64 2, .slice A2 n2 c2] 24
  simp only [List.nil_append, List.cons_append] at S2
  go_wp2_with fail
  refine (plain_any _).mono ?_
  rintro e w3 ⟨A3, n3, c3, rfl, hr3, hb3⟩
  have S3 := (((S2.keep hb3).addRd hr3).box #[.int .i64 0, .int .i64 1] 3).box #[.int .i64 1, .int .i64 0] 3
  simp only [size_alloc1, List.nil_append, List.cons_append] at S3
  go_wp2_with fail
  refine (front_to plainGd [0, 1] [1, 0] _ _ _ _ _ _ _ _ _ _ H2.out (S3.rd 5 rfl) (rd_blk (S3.blk 6 rfl)) (rd_blk (S3.blk 7 rfl))).mono ?_
  rintro e w4 ⟨A4, n4, c4, rfl, hown4, hb4⟩
  simp only at hown4 ⊢
  have S4 := ((S3.keep hb4).addRd (rd_of_own hown4)).box #[.int .i64 2, .int .i64 2, .slice A4 n4 c4] 24
  simp only [List.nil_append, List.cons_append] at S4
  obtain ⟨a0, a1, a2⟩ := (S4.blk 4 rfl).cell3
  obtain ⟨b0, b1, b2⟩ := (S4.blk 9 rfl).cell3
  have tok1 : True := trivial
  have tok2 : True := trivial
  have tok3 : True := trivial
  have hk2 : n2 ≤ 1048576 := by have := hown2.1; simp at this; omega
  have hk4 : n4 ≤ 1048576 := by have := hown4.1; simp at this; omega
  go_wp2_with fail
  go_region_held3 (fun w' => (w'.cell? ⟨w2.heap.size, 0, none⟩ = some (.int .i64 2) ∧ w'.cell? ⟨w2.heap.size, 1, none⟩ = some (.int .i64 2) ∧ w'.cell? ⟨w2.heap.size, 2, none⟩ = some (.slice A2 n2 c2)) ∧
      (w'.cell? ⟨w4.heap.size, 0, none⟩ = some (.int .i64 2) ∧ w'.cell? ⟨w4.heap.size, 1, none⟩ = some (.int .i64 2) ∧ w'.cell? ⟨w4.heap.size, 2, none⟩ = some (.slice A4 n4 c4)))
    (first | exact ⟨(S8.blk 4 rfl).cell3, (S8.blk 9 rfl).cell3⟩ | exact ⟨((S8.alloc _).blk 4 rfl).cell3, ((S8.alloc _).blk 9 rfl).cell3⟩ | exact ⟨(S7.blk 4 rfl).cell3, (S7.blk 9 rfl).cell3⟩ | exact ⟨((S7.alloc _).blk 4 rfl).cell3, ((S7.alloc _).blk 9 rfl).cell3⟩ | exact ⟨(S6.blk 4 rfl).cell3, (S6.blk 9 rfl).cell3⟩ | exact ⟨((S6.alloc _).blk 4 rfl).cell3, ((S6.alloc _).blk 9 rfl).cell3⟩ | exact ⟨(S5.blk 4 rfl).cell3, (S5.blk 9 rfl).cell3⟩ | exact ⟨((S5.alloc _).blk 4 rfl).cell3, ((S5.alloc _).blk 9 rfl).cell3⟩ | exact ⟨((S4.alloc _).drew.blk 4 rfl).cell3, ((S4.alloc _).drew.blk 9 rfl).cell3⟩ | go_keep)
    (first
      | (go_at_call 18; have _t := tok1; refine (img_any _ _ _ _).mono ?_; rintro e w5 ⟨rfl, hb5⟩; clear tok1 _t; have S5 := (S4.box #[.int .i64 0, .int .i64 0, .int .i64 1, .int .i64 1] 3).drew.keep hb5; simp only [size_alloc1, List.nil_append, List.cons_append] at S5)
      | (go_at_call 8; have _t := tok2; refine (rsameI_to ⟨2, 2, [0, 0, 1, 1]⟩ ⟨2, 2, [0, 0, 1, 1]⟩ (sameI_self _) _ _ _ _ _ _ _ (S5.rd 3 rfl) (rd_blk (S5.blk 10 rfl)) hk2).mono ?_; rintro e w6 ⟨rfl, hb6⟩; clear tok2 _t; have S6 := S5.keep hb6)
      | (go_at_call 18; have _t := tok3; refine (img_any _ _ _ _).mono ?_; rintro e w7 ⟨rfl, hb7⟩; clear tok3 _t; have S7 := (S6.box #[.int .i64 0, .int .i64 1, .int .i64 0, .int .i64 1] 3).keep hb7; simp only [List.nil_append, List.cons_append] at S7)
      | (go_at_call 8; refine (rsameI_to ⟨2, 2, [0, 1, 0, 1]⟩ ⟨2, 2, [0, 1, 0, 1]⟩ (sameI_self _) _ _ _ _ _ _ _ (S7.rd 8 rfl) (rd_blk (S7.blk 11 rfl)) hk4).mono ?_; rintro e w8 ⟨rfl, hb8⟩; have S8 := S7.keep hb8)
      | fail)
  go_wp2_with fail
  go_ret
  exact ⟨rfl, S8.below⟩

end Go.Proofs.YtpfonniepinjnaaDoor
