/- The law GridExchange, walked: it answers true and turns nothing that was there, for any grid and steps. -/
import Derived.Test.YtebbcpeldncekaaDoorAlive1
import Derived.Test.YtebbcpeldncekaaDoorGridQ
import Derived.Test.YtebbcpeldncekaaDoorMirror
import Derived.Test.YtebbcpeldncekaaDoorValid1
namespace Go.Proofs.YtebbcpeldncekaaDoor
open Go.RowKit

theorem turn_to {g r : Gd} (h : turnG g = (r, 0)) (A : Option Addr) (n c : Nat) (w : World) (hr : Rd w A n (g.bits.map Value.bool)) : Calls Tryd.prog 22 #[.agg #[.int .i64 g.w, .int .i64 g.h, .slice A n c]] w (RetG (r, 0) w) := h ▸ turn_any g A n c w hr
theorem shift_to {g r : Gd} {dx dy : Int} (h : shiftG g dx dy = (r, 0)) (X Y : Int) (hX : X = dx) (hY : Y = dy) (A : Option Addr) (n c : Nat) (w : World) (hr : Rd w A n (g.bits.map Value.bool)) : Calls Tryd.prog 23 #[.agg #[.int .i64 g.w, .int .i64 g.h, .slice A n c], .int .i64 X, .int .i64 Y] w (RetG (r, 0) w) := by
  subst hX hY
  rw [← h]
  exact shift_any g X Y A n c w hr
theorem mirror_to {g r : Gd} {t : Int} (h : mirG g t = (r, 0)) (X : Int) (hX : X = t) (A : Option Addr) (n c : Nat) (w : World) (hr : Rd w A n (g.bits.map Value.bool)) : Calls Tryd.prog 24 #[.agg #[.int .i64 g.w, .int .i64 g.h, .slice A n c], .int .i64 X] w (RetG (r, 0) w) := by
  subst hX
  rw [← h]
  exact mirror_any g X A n c w hr
theorem same_self (g : Gd) (hs : g.bits.length ≤ 4096) (A A2 : Option Addr) (n c n2 c2 : Nat) (w : World) (hr : Rd w A n (g.bits.map Value.bool)) (hr2 : Rd w A2 n2 (g.bits.map Value.bool)) :
    Calls Tryd.prog 19 #[.agg #[.int .i64 g.w, .int .i64 g.h, .slice A n c], .agg #[.int .i64 g.w, .int .i64 g.h, .slice A2 n2 c2]] w fun e w' => e = .returned (.bool true) ∧ Below w.heap.size w w' := by
  have hl : g.bits.length = n := by simpa using hr.len
  have h := rsame_any g g A A2 n c n2 c2 w hr hr2 (by omega)
  rw [sameG_self] at h
  exact h

set_option maxHeartbeats 4000000 in
set_option maxRecDepth 100000 in
theorem exch_main (a b : Nat) (F : Nat → Nat → Bool) (ha1 : 1 ≤ a) (hb1 : 1 ≤ b) (ha : a ≤ 64) (hb : b ≤ 64) (dx dy : Int) (A0 : Option Addr) (n0 c0 : Nat) (w : World) (hr : Rd w A0 n0 ((tabD a b F).bits.map Value.bool))
    (hx1 : -1000000000 ≤ dx) (hx2 : dx ≤ 1000000000) (hy1 : -1000000000 ≤ dy) (hy2 : dy ≤ 1000000000) :
    Calls Tryd.prog 5 #[.agg #[.int .i64 (tabD a b F).w, .int .i64 (tabD a b F).h, .slice A0 n0 c0], .int .i64 dx, .int .i64 dy] w fun e w' => e = .returned (.bool true) ∧ Below w.heap.size w w' := by
  have hl : (tabD a b F).bits.length = n0 := by simpa using hr.len
  have hba : b * a ≤ 4096 := Nat.mul_le_mul hb ha
  have hab : a * b ≤ 4096 := Nat.mul_le_mul ha hb
  have HV := Lib.hid (fun A n c W h => valid_any (tabD a b F) A n c W h)
  have hv : validB (tabD a b F) = true := by
    unfold validB
    rw [decide_eq_true_eq]
    refine ⟨?_, tabD_chk ha1 hb1 ha hb⟩
    simp only [tabD, tabD_len]; omega
  rw [hv] at HV
  have e1 := turn_t (F := F) ha1 hb1 ha hb
  have e2 := shift_t (F := F) ha1 hb1 ha hb dx dy
  have e3 := exch_turn (F := F) ha1 hb1 ha hb dx dy
  have HX := Lib.hid (fun t ht => exch_mirror (F := F) ha1 hb1 ha hb dx dy (t := t) ht)
  have e4 : turnG (shiftG (tabD a b F) dx dy).1 = ((turnG (shiftG (tabD a b F) dx dy).1).1, 0) := by rw [e2, turn_t ha1 hb1 ha hb]
  have z4 : (turnG (shiftG (tabD a b F) dx dy).1).1.bits.length ≤ 4096 := by rw [e2, turn_t ha1 hb1 ha hb]; simp only [tabD, tabD_len]; omega
  have e1' : turnG (tabD a b F) = ((turnG (tabD a b F)).1, 0) := by rw [e1]
  have e2' : shiftG (tabD a b F) dx dy = ((shiftG (tabD a b F) dx dy).1, 0) := by rw [e2]
  have e5 : shiftG (turnG (tabD a b F)).1 dy dx = ((turnG (shiftG (tabD a b F) dx dy).1).1, 0) := by rw [← e3]; exact e4
  clear e1 e2 e3 hv
  generalize (turnG (shiftG (tabD a b F) dx dy).1).1 = g3 at *
  generalize (turnG (tabD a b F)).1 = g1 at *
  generalize (shiftG (tabD a b F) dx dy).1 = g2 at *
  generalize tabD a b F = g at *
  have HT := Lib.hid (fun A n c W h => turn_to e1' A n c W h)
  have HS := Lib.hid (fun X Y hX hY A n c W h => shift_to e2' X Y hX hY A n c W h)
  have HT2 := Lib.hid (fun A n c W h => turn_to e4 A n c W h)
  have HS2 := Lib.hid (fun X Y hX hY A n c W h => shift_to e5 X Y hX hY A n c W h)
  have HE := Lib.hid (fun A A2 n c n2 c2 W h h2 => same_self g3 z4 A A2 n c n2 c2 W h h2)
  have hwx : IntKind.i64.wrap dx = dx := IntWalk.i64_in _ (by omega)
  have hwy : IntKind.i64.wrap dy = dy := IntWalk.i64_in _ (by omega)
  have hwnx : IntKind.i64.wrap (-dx) = -dx := IntWalk.i64_in _ (by omega)
  have hwny : IntKind.i64.wrap (-dy) = -dy := IntWalk.i64_in _ (by omega)
  have S0 := ((St.start w).addRd hr).box #[.int .i64 g.w, .int .i64 g.h, .slice A0 n0 c0] 24
  simp only [List.nil_append, List.cons_append] at S0
  have hL := Lib.hid hl
  clear e1' e2' e4 e5 hl hr z4 hba hab
  obtain ⟨d0, d1, d2⟩ := (S0.blk 1 rfl).cell3
  go_enter Tryd.func5, Tryd.ntmps5
  go_wp2_with fail
  refine (HV.out _ _ _ _ hL.out).mono ?_
  rintro e w1 ⟨rfl, hb1'⟩
  have S1 := S0.keep hb1'
  clear S0 d0 d1 d2
  obtain ⟨d0, d1, d2⟩ := (S1.blk 1 rfl).cell3
  go_wp2_with fail
  refine (HT.out _ _ _ _ (S1.rd 0 rfl)).mono ?_
  rintro e w2 ⟨A2, n2, cc2, rfl, hown2, hb2⟩
  simp only at hown2 ⊢
  have S2 := ((S1.keep hb2).addRd (rd_of_own hown2)).box #[.int .i64 g1.w, .int .i64 g1.h, .slice A2 n2 cc2] 24
  simp only [List.nil_append, List.cons_append] at S2
  clear S1 hown2 d0 d1 d2
  obtain ⟨d0, d1, d2⟩ := (S2.blk 1 rfl).cell3
  go_wp2_with fail
  refine (HS.out _ _ (by rfl) (by rfl) _ _ _ _ (S2.rd 0 rfl)).mono ?_
  rintro e w3 ⟨A3, n3, cc3, rfl, hown3, hb3⟩
  simp only at hown3 ⊢
  have S3 := ((S2.keep hb3).addRd (rd_of_own hown3)).box #[.int .i64 g2.w, .int .i64 g2.h, .slice A3 n3 cc3] 24
  simp only [List.nil_append, List.cons_append] at S3
  clear S2 hown3 d0 d1 d2
  obtain ⟨d0, d1, d2⟩ := (S3.blk 5 rfl).cell3
  go_wp2_with fail
  refine (HT2.out _ _ _ _ (S3.rd 4 rfl)).mono ?_
  rintro e w4 ⟨A4, n4, cc4, rfl, hown4, hb4⟩
  simp only at hown4 ⊢
  have S4 := ((S3.keep hb4).addRd (rd_of_own hown4)).box #[.int .i64 g3.w, .int .i64 g3.h, .slice A4 n4 cc4] 24
  simp only [List.nil_append, List.cons_append] at S4
  clear S3 hown4 d0 d1 d2
  obtain ⟨d0, d1, d2⟩ := (S4.blk 3 rfl).cell3
  go_wp2_with fail
  refine (HS2.out _ _ (by rfl) (by rfl) _ _ _ _ (S4.rd 2 rfl)).mono ?_
  rintro e w5 ⟨A5, n5, cc5, rfl, hown5, hb5⟩
  simp only at hown5 ⊢
  have S5 := ((S4.keep hb5).addRd (rd_of_own hown5)).box #[.int .i64 g3.w, .int .i64 g3.h, .slice A5 n5 cc5] 24
  simp only [List.nil_append, List.cons_append] at S5
  clear S4 hown5 d0 d1 d2
  obtain ⟨d0, d1, d2⟩ := (S5.blk 7 rfl).cell3
  obtain ⟨e0, e1, e2⟩ := (S5.blk 9 rfl).cell3
  go_wp2_with fail
  refine (HE.out _ _ _ _ _ _ _ (S5.rd 6 rfl) (S5.rd 8 rfl)).mono ?_
  rintro e w6 ⟨rfl, hb6⟩
  have S6 := S5.keep hb6
  clear S5 d0 d1 d2 e0 e1 e2 HT HT2 HS HS2 HE HV
  go_wp2_with fail
  have HSS := Lib.hid S6
  clear S6
  go_loopw [15] (fun i wr => ∃ t : Nat, t ≤ 2 ∧ i = .int .i64 t ∧ Below w6.heap.size w6 wr) (fun i _ => 2 - (intOf i).toNat)
  case atStart => exact ⟨0, by omega, rfl, Below.refl _ _⟩
  case round =>
    obtain ⟨t, ht, rfl, hB⟩ := hrel
    have ht3 : t = 0 ∨ t = 1 ∨ t = 2 := by omega
    rcases ht3 with rfl | rfl | rfl
    · obtain ⟨m, cM, s, q1, q2, q3, q4, q5, z1, z2, z3⟩ := HX.out 0 (by omega)
      have HM := Lib.hid (fun X hX A n c W h => mirror_to q1 X hX A n c W h)
      have HTm := Lib.hid (fun A n c W h => turn_to q2 A n c W h)
      have HM1 := Lib.hid (fun X hX A n c W h => mirror_to q3 X hX A n c W h)
      have HM2 := Lib.hid (fun X hX A n c W h => mirror_to q4 X hX A n c W h)
      have HSm := Lib.hid (fun X Y hX hY A n c W h => shift_to q5 X Y hX hY A n c W h)
      have HE1 := Lib.hid (fun A A2 n c n2 c2 W h h2 => same_self cM z2 A A2 n c n2 c2 W h h2)
      have HE2 := Lib.hid (fun A A2 n c n2 c2 W h h2 => same_self s z3 A A2 n c n2 c2 W h h2)
      have S6 := HSS.out.keep hB
      have T6 : St w6 [] wr := ⟨hB, by simp⟩
      clear q1 q2 q3 q4 q5 z1 z2 z3
      obtain ⟨d0, d1, d2⟩ := (S6.blk 1 rfl).cell3
      go_wp2_with fail
      refine (HM.out _ (by rfl) _ _ _ _ (S6.rd 0 rfl)).mono ?_
      rintro e w7 ⟨A7, n7, cc7, rfl, hown7, hb7⟩
      simp only at hown7 ⊢
      have S7 := ((S6.keep hb7).addRd (rd_of_own hown7)).box #[.int .i64 m.w, .int .i64 m.h, .slice A7 n7 cc7] 24
      simp only [List.nil_append, List.cons_append] at S7
      clear S6 hown7 d0 d1 d2
      have T7 := (T6.keep hb7).alloc (.cells #[.int .i64 m.w, .int .i64 m.h, .slice A7 n7 cc7] 24)
      clear T6
      obtain ⟨d0, d1, d2⟩ := (S7.blk 11 rfl).cell3
      go_wp2_with fail
      refine (HTm.out _ _ _ _ (S7.rd 10 rfl)).mono ?_
      rintro e w8 ⟨A8, n8, cc8, rfl, hown8, hb8⟩
      simp only at hown8 ⊢
      have S8 := ((S7.keep hb8).addRd (rd_of_own hown8)).box #[.int .i64 cM.w, .int .i64 cM.h, .slice A8 n8 cc8] 24
      simp only [List.nil_append, List.cons_append] at S8
      clear S7 hown8 d0 d1 d2
      have T8 := (T7.keep hb8).alloc (.cells #[.int .i64 cM.w, .int .i64 cM.h, .slice A8 n8 cc8] 24)
      clear T7
      obtain ⟨d0, d1, d2⟩ := (S8.blk 3 rfl).cell3
      go_wp2_with fail
      refine (HM1.out _ (by rfl) _ _ _ _ (S8.rd 2 rfl)).mono ?_
      rintro e w9 ⟨A9, n9, cc9, rfl, hown9, hb9⟩
      simp only at hown9 ⊢
      have S9 := ((S8.keep hb9).addRd (rd_of_own hown9)).box #[.int .i64 cM.w, .int .i64 cM.h, .slice A9 n9 cc9] 24
      simp only [List.nil_append, List.cons_append] at S9
      clear S8 hown9 d0 d1 d2
      have T9 := (T8.keep hb9).alloc (.cells #[.int .i64 cM.w, .int .i64 cM.h, .slice A9 n9 cc9] 24)
      clear T8
      obtain ⟨d0, d1, d2⟩ := (S9.blk 5 rfl).cell3
      go_wp2_with fail
      refine (HM2.out _ (by rfl) _ _ _ _ (S9.rd 4 rfl)).mono ?_
      rintro e w10 ⟨A10, n10, cc10, rfl, hown10, hb10⟩
      simp only at hown10 ⊢
      have S10 := ((S9.keep hb10).addRd (rd_of_own hown10)).box #[.int .i64 s.w, .int .i64 s.h, .slice A10 n10 cc10] 24
      simp only [List.nil_append, List.cons_append] at S10
      clear S9 hown10 d0 d1 d2
      have T10 := (T9.keep hb10).alloc (.cells #[.int .i64 s.w, .int .i64 s.h, .slice A10 n10 cc10] 24)
      clear T9
      obtain ⟨d0, d1, d2⟩ := (S10.blk 11 rfl).cell3
      go_wp2_with fail
      refine (HSm.out _ _ (by simp) (by simp) _ _ _ _ (S10.rd 10 rfl)).mono ?_
      rintro e w11 ⟨A11, n11, cc11, rfl, hown11, hb11⟩
      simp only at hown11 ⊢
      have S11 := ((S10.keep hb11).addRd (rd_of_own hown11)).box #[.int .i64 s.w, .int .i64 s.h, .slice A11 n11 cc11] 24
      simp only [List.nil_append, List.cons_append] at S11
      clear S10 hown11 d0 d1 d2
      have T11 := (T10.keep hb11).alloc (.cells #[.int .i64 s.w, .int .i64 s.h, .slice A11 n11 cc11] 24)
      clear T10
      obtain ⟨d0, d1, d2⟩ := (S11.blk 13 rfl).cell3
      obtain ⟨e0, e1, e2⟩ := (S11.blk 15 rfl).cell3
      go_wp2_with fail
      refine (HE1.out _ _ _ _ _ _ _ (S11.rd 12 rfl) (S11.rd 14 rfl)).mono ?_
      rintro e w20 ⟨rfl, hb20⟩
      have S20 := S11.keep hb20
      clear S11 d0 d1 d2 e0 e1 e2
      obtain ⟨d0, d1, d2⟩ := (S20.blk 17 rfl).cell3
      obtain ⟨e0, e1, e2⟩ := (S20.blk 19 rfl).cell3
      go_wp2_with fail
      refine (HE2.out _ _ _ _ _ _ _ (S20.rd 16 rfl) (S20.rd 18 rfl)).mono ?_
      rintro e w21 ⟨rfl, hb21⟩
      have S21 := S20.keep hb21
      clear S20 d0 d1 d2 e0 e1 e2
      have hBF : Below w6.heap.size w6 w21 := ((T11.keep hb20).keep hb21).below
      go_wp2_with fail
      go_roundw
      case rel => exact ⟨1, by omega, rfl, hBF⟩
      case measure => simp [intOf]
    · obtain ⟨m, cM, s, q1, q2, q3, q4, q5, z1, z2, z3⟩ := HX.out 1 (by omega)
      have HM := Lib.hid (fun X hX A n c W h => mirror_to q1 X hX A n c W h)
      have HTm := Lib.hid (fun A n c W h => turn_to q2 A n c W h)
      have HM1 := Lib.hid (fun X hX A n c W h => mirror_to q3 X hX A n c W h)
      have HM2 := Lib.hid (fun X hX A n c W h => mirror_to q4 X hX A n c W h)
      have HSm := Lib.hid (fun X Y hX hY A n c W h => shift_to q5 X Y hX hY A n c W h)
      have HE1 := Lib.hid (fun A A2 n c n2 c2 W h h2 => same_self cM z2 A A2 n c n2 c2 W h h2)
      have HE2 := Lib.hid (fun A A2 n c n2 c2 W h h2 => same_self s z3 A A2 n c n2 c2 W h h2)
      have S6 := HSS.out.keep hB
      have T6 : St w6 [] wr := ⟨hB, by simp⟩
      clear q1 q2 q3 q4 q5 z1 z2 z3
      obtain ⟨d0, d1, d2⟩ := (S6.blk 1 rfl).cell3
      go_wp2_with fail
      refine (HM.out _ (by rfl) _ _ _ _ (S6.rd 0 rfl)).mono ?_
      rintro e w7 ⟨A7, n7, cc7, rfl, hown7, hb7⟩
      simp only at hown7 ⊢
      have S7 := ((S6.keep hb7).addRd (rd_of_own hown7)).box #[.int .i64 m.w, .int .i64 m.h, .slice A7 n7 cc7] 24
      simp only [List.nil_append, List.cons_append] at S7
      clear S6 hown7 d0 d1 d2
      have T7 := (T6.keep hb7).alloc (.cells #[.int .i64 m.w, .int .i64 m.h, .slice A7 n7 cc7] 24)
      clear T6
      obtain ⟨d0, d1, d2⟩ := (S7.blk 11 rfl).cell3
      go_wp2_with fail
      refine (HTm.out _ _ _ _ (S7.rd 10 rfl)).mono ?_
      rintro e w8 ⟨A8, n8, cc8, rfl, hown8, hb8⟩
      simp only at hown8 ⊢
      have S8 := ((S7.keep hb8).addRd (rd_of_own hown8)).box #[.int .i64 cM.w, .int .i64 cM.h, .slice A8 n8 cc8] 24
      simp only [List.nil_append, List.cons_append] at S8
      clear S7 hown8 d0 d1 d2
      have T8 := (T7.keep hb8).alloc (.cells #[.int .i64 cM.w, .int .i64 cM.h, .slice A8 n8 cc8] 24)
      clear T7
      obtain ⟨d0, d1, d2⟩ := (S8.blk 3 rfl).cell3
      go_wp2_with fail
      refine (HM1.out _ (by rfl) _ _ _ _ (S8.rd 2 rfl)).mono ?_
      rintro e w9 ⟨A9, n9, cc9, rfl, hown9, hb9⟩
      simp only at hown9 ⊢
      have S9 := ((S8.keep hb9).addRd (rd_of_own hown9)).box #[.int .i64 cM.w, .int .i64 cM.h, .slice A9 n9 cc9] 24
      simp only [List.nil_append, List.cons_append] at S9
      clear S8 hown9 d0 d1 d2
      have T9 := (T8.keep hb9).alloc (.cells #[.int .i64 cM.w, .int .i64 cM.h, .slice A9 n9 cc9] 24)
      clear T8
      obtain ⟨d0, d1, d2⟩ := (S9.blk 5 rfl).cell3
      go_wp2_with fail
      refine (HM2.out _ (by rfl) _ _ _ _ (S9.rd 4 rfl)).mono ?_
      rintro e w10 ⟨A10, n10, cc10, rfl, hown10, hb10⟩
      simp only at hown10 ⊢
      have S10 := ((S9.keep hb10).addRd (rd_of_own hown10)).box #[.int .i64 s.w, .int .i64 s.h, .slice A10 n10 cc10] 24
      simp only [List.nil_append, List.cons_append] at S10
      clear S9 hown10 d0 d1 d2
      have T10 := (T9.keep hb10).alloc (.cells #[.int .i64 s.w, .int .i64 s.h, .slice A10 n10 cc10] 24)
      clear T9
      obtain ⟨d0, d1, d2⟩ := (S10.blk 11 rfl).cell3
      go_wp2_with fail
      refine (HSm.out _ _ (by simp) (by simp) _ _ _ _ (S10.rd 10 rfl)).mono ?_
      rintro e w11 ⟨A11, n11, cc11, rfl, hown11, hb11⟩
      simp only at hown11 ⊢
      have S11 := ((S10.keep hb11).addRd (rd_of_own hown11)).box #[.int .i64 s.w, .int .i64 s.h, .slice A11 n11 cc11] 24
      simp only [List.nil_append, List.cons_append] at S11
      clear S10 hown11 d0 d1 d2
      have T11 := (T10.keep hb11).alloc (.cells #[.int .i64 s.w, .int .i64 s.h, .slice A11 n11 cc11] 24)
      clear T10
      obtain ⟨d0, d1, d2⟩ := (S11.blk 13 rfl).cell3
      obtain ⟨e0, e1, e2⟩ := (S11.blk 15 rfl).cell3
      go_wp2_with fail
      refine (HE1.out _ _ _ _ _ _ _ (S11.rd 12 rfl) (S11.rd 14 rfl)).mono ?_
      rintro e w20 ⟨rfl, hb20⟩
      have S20 := S11.keep hb20
      clear S11 d0 d1 d2 e0 e1 e2
      obtain ⟨d0, d1, d2⟩ := (S20.blk 17 rfl).cell3
      obtain ⟨e0, e1, e2⟩ := (S20.blk 19 rfl).cell3
      go_wp2_with fail
      refine (HE2.out _ _ _ _ _ _ _ (S20.rd 16 rfl) (S20.rd 18 rfl)).mono ?_
      rintro e w21 ⟨rfl, hb21⟩
      have S21 := S20.keep hb21
      clear S20 d0 d1 d2 e0 e1 e2
      have hBF : Below w6.heap.size w6 w21 := ((T11.keep hb20).keep hb21).below
      go_wp2_with fail
      go_roundw
      case rel => exact ⟨2, by omega, rfl, hBF⟩
      case measure => simp [intOf]
    · go_wp2_with fail
      refine (alive_any _).mono ?_
      rintro e w20 ⟨rfl, hb20⟩
      go_wp2_with fail
      go_ret
      exact ⟨rfl, ((HSS.out.keep hB).keep hb20).below⟩

set_option maxHeartbeats 1000000 in
set_option maxRecDepth 100000 in
theorem exch_walk (g : Gd) (dx dy : Int) (A0 : Option Addr) (n0 c0 : Nat) (w : World) (hr : Rd w A0 n0 (g.bits.map Value.bool)) :
    Calls Tryd.prog 5 #[.agg #[.int .i64 g.w, .int .i64 g.h, .slice A0 n0 c0], .int .i64 dx, .int .i64 dy] w fun e w' => e = .returned (.bool true) ∧ Below w.heap.size w w' := by
  have hl : g.bits.length = n0 := by simpa using hr.len
  by_cases hg : validB g = true ∧ -1000000000 ≤ dx ∧ dx ≤ 1000000000 ∧ -1000000000 ≤ dy ∧ dy ≤ 1000000000
  · obtain ⟨hv, h1, h2, h3, h4⟩ := hg
    unfold validB at hv
    rw [decide_eq_true_eq] at hv
    obtain ⟨W, H, bs⟩ := g
    obtain ⟨a, b, e1, e2, ha1, ha, hb1, hb, hbl⟩ := chk_zero hv.2
    simp only at e1 e2 hbl
    subst e1 e2
    rw [gd_tab hbl] at hr ⊢
    exact exch_main a b _ ha1 hb1 ha hb dx dy A0 n0 c0 w hr h1 h2 h3 h4
  · have HV := Lib.hid (fun A n c W h => valid_any g A n c W h)
    have HG := Lib.hid hg
    have hL := Lib.hid hl
    clear hg hl
    generalize validB g = v at *
    have S0 := (St.start w).box #[.int .i64 g.w, .int .i64 g.h, .slice A0 n0 c0] 24
    simp only [List.nil_append] at S0
    obtain ⟨d0, d1, d2⟩ := (S0.blk 0 rfl).cell3
    cases v with
    | false =>
      clear HG
      go_enter Tryd.func5, Tryd.ntmps5
      go_wp2_with fail
      refine (HV.out _ _ _ _ hL.out).mono ?_
      rintro e w1 ⟨rfl, hb1⟩
      have S1 := S0.keep hb1
      clear d0 d1 d2
      go_wp2_with fail
      refine (alive_any _).mono ?_
      rintro e w2 ⟨rfl, hb2⟩
      go_wp2_with fail
      go_ret
      exact ⟨rfl, (S1.keep hb2).below⟩
    | true =>
      go_enter Tryd.func5, Tryd.ntmps5
      go_wp2_with fail
      refine (HV.out _ _ _ _ hL.out).mono ?_
      rintro e w1 ⟨rfl, hb1⟩
      have S1 := S0.keep hb1
      clear d0 d1 d2
      go_wp2_with fail
      all_goals first
        | (exfalso; exact HG.out ⟨by trivial, by omega, by omega, by omega, by omega⟩)
        | (refine (alive_any _).mono ?_
           rintro e w2 ⟨rfl, hb2⟩
           go_wp2_with fail
           go_ret
           exact ⟨rfl, (S1.keep hb2).below⟩)
end Go.Proofs.YtebbcpeldncekaaDoor
