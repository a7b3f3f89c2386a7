/- The law RepeatNames, walked: it answers true and turns nothing that was there. -/
import Derived.Test.YtkhochbkjhpfgaaDoorRNames6K
namespace Go.Proofs.YtkhochbkjhpfgaaDoor
open Go.RowKit

set_option maxHeartbeats 4000000 in
set_option maxRecDepth 100000 in
theorem rnames6_walk (w : World) : Calls Tryd.prog 7 #[] w fun e w' => e = .returned (.bool true) ∧ Below w.heap.size w w' := by
  have KCgs := Lib.hid (fun W => kc_gs W)
  have KCgx := Lib.hid (fun W => kc_gx W)
  have KCgm := Lib.hid (fun W => kc_gm W)
  have KCga := Lib.hid (fun W => kc_ga W)
  have KCgb := Lib.hid (fun W => kc_gb W)
  have KCgo := Lib.hid (fun W => kc_go W)
  have KO1 := Lib.hid (fun A n c W hr hc => nko1 A n c W hr hc)
  have KR1 := Lib.hid (fun A n c W hr hc => nkr1 A n c W hr hc)
  have KS1 := Lib.hid (fun A n c W hr hc => nks1 A n c W hr hc)
  have KQ1 := Lib.hid (fun A n c W hr hc => nkq1 A n c W hr hc)
  have KO2 := Lib.hid (fun A n c W hr hc => nko2 A n c W hr hc)
  have KS2 := Lib.hid (fun A n c W hr hc => nks2 A n c W hr hc)
  have KS3 := Lib.hid (fun A n c W hr hc => nks3 A n c W hr hc)
  have KS4 := Lib.hid (fun A n c W hr hc => nks4 A n c W hr hc)
  have KT1 := Lib.hid (fun A n c W hr hc => nkt1 A n c W hr hc)
  have KT2 := Lib.hid (fun A n c W hr hc => nkt2 A n c W hr hc)
  have KF2 := Lib.hid (fun A n c W hr hc => nkf2 A n c W hr hc)
  have KI1 := Lib.hid (fun W => nki1 W)
  have KI2 := Lib.hid (fun W => nki2 W)
  have KI3 := Lib.hid (fun W => nki3 W)
  have KQ2 := Lib.hid (fun W => nkq2 W)
  have KO3 := Lib.hid (fun W => nko3 W)
  have KR2 := Lib.hid (fun W => nkr2 W)
  have KL1 := Lib.hid (fun W => nkl1 W)
  have KL2 := Lib.hid (fun W => nkl2 W)
  have KL3 := Lib.hid (fun W => nkl3 W)
  have KL4 := Lib.hid (fun W => nkl4 W)
  have KF1 := Lib.hid (fun A A' n c n' c' W hr hr' hc hc' => nkf1 A A' n c n' c' W hr hr' hc hc')
  generalize gs = gs1 at *
  generalize gx = gx1 at *
  generalize gm = gm1 at *
  generalize ga = ga1 at *
  generalize gb = gb1 at *
  generalize go = go1 at *
  generalize gc = gc1 at *
  have S0 := St.start w
  go_enter Tryd.func7, Tryd.ntmps7
  go_wp2_with fail
  refine (KCgs.out _).mono ?_
  rintro e w1 ⟨A1, n1, cc1, rfl, hown1, hb1⟩
  try simp only at hown1 ⊢
  have hc1 := own_le hown1
  have S1 := ((S0.keep hb1).addRd (rd_of_own hown1)).box #[.int .i64 gs1.w, .int .i64 gs1.h, .slice A1 n1 cc1] 33
  simp only [List.nil_append, List.cons_append] at S1
  clear hown1
  obtain ⟨ca0, ca1, ca2⟩ := (S1.blk 1 rfl).cell3
  go_wp2_with fail
  refine (KO1.out _ _ _ _ (S1.rd 0 rfl) hc1).mono ?_
  rintro e w2 ⟨rfl, hb2⟩
  have S2 := (S1.keep hb2).box #[.int .i64 5, .int .i64 2, .int .i64 1] 23
  simp only [List.nil_append, List.cons_append] at S2
  clear ca0 ca1 ca2 S1
  obtain ⟨ca0, ca1, ca2⟩ := (S2.blk 1 rfl).cell3
  go_wp2_with fail
  refine (KR1.out _ _ _ _ (S2.rd 0 rfl) hc1).mono ?_
  rintro e w3 ⟨rfl, hb3⟩
  have S3 := S2.keep hb3
  clear ca0 ca1 ca2 S2
  go_wp2_with fail
  refine (KCgx.out _).mono ?_
  rintro e w4 ⟨A4, n4, cc4, rfl, hown4, hb4⟩
  have hc4 := own_le hown4
  have S4 := ((S3.keep hb4).addRd (rd_of_own hown4))
  simp only [List.nil_append, List.cons_append] at S4
  clear S3 hown4
  go_wp2_with fail
  refine (KS1.out _ _ _ _ (S4.rd 3 rfl) hc4).mono ?_
  rintro e w5 ⟨A5, n5, cc5, rfl, hown5, hb5⟩
  try simp only at hown5 ⊢
  have hc5 := own_le hown5
  have S5 := ((S4.keep hb5).addRd (rd_of_own hown5)).box #[.int .i64 gc1.w, .int .i64 gc1.h, .slice A5 n5 cc5] 33
  simp only [List.nil_append, List.cons_append] at S5
  clear S4 hown5
  go_wp2_with fail
  refine (KI1.out _).mono ?_
  rintro e w6 ⟨rfl, hb6⟩
  have S6 := S5.keep hb6
  clear S5
  go_wp2_with fail
  refine (KI2.out _).mono ?_
  rintro e w7 ⟨rfl, hb7⟩
  have S7 := S6.keep hb7
  clear S6
  obtain ⟨ca0, ca1, ca2⟩ := (S7.blk 1 rfl).cell3
  go_wp2_with fail
  refine (KQ1.out _ _ _ _ (S7.rd 0 rfl) hc1).mono ?_
  rintro e w8 ⟨rfl, hb8⟩
  have S8 := S7.keep hb8
  clear ca0 ca1 ca2 S7
  go_wp2_with fail
  refine (KCgm.out _).mono ?_
  rintro e w9 ⟨A9, n9, cc9, rfl, hown9, hb9⟩
  have hc9 := own_le hown9
  have S9 := ((S8.keep hb9).addRd (rd_of_own hown9))
  simp only [List.nil_append, List.cons_append] at S9
  clear S8 hown9
  go_wp2_with fail
  refine (KO2.out _ _ _ _ (S9.rd 6 rfl) hc9).mono ?_
  rintro e w10 ⟨rfl, hb10⟩
  have S10 := (S9.keep hb10).box #[.int .i64 3, .int .i64 0, .int .i64 2] 23
  simp only [List.nil_append, List.cons_append] at S10
  clear S9
  obtain ⟨ca0, ca1, ca2⟩ := (S10.blk 2 rfl).cell3
  obtain ⟨cb0, cb1, cb2⟩ := (S10.blk 5 rfl).cell3
  go_wp2_with fail
  refine (KT1.out _ _ _ _ (S10.rd 4 rfl) hc5).mono ?_
  rintro e w11 ⟨rfl, hb11⟩
  have S11 := S10.keep hb11
  clear ca0 ca1 ca2 cb0 cb1 cb2 S10
  obtain ⟨ca0, ca1, ca2⟩ := (S11.blk 5 rfl).cell3
  go_wp2_with fail
  refine (KT2.out _ _ _ _ (S11.rd 4 rfl) hc5).mono ?_
  rintro e w12 ⟨rfl, hb12⟩
  have S12 := S11.keep hb12
  clear ca0 ca1 ca2 S11
  obtain ⟨ca0, ca1, ca2⟩ := (S12.blk 7 rfl).cell3
  go_wp2_with fail
  refine (KCga.out _).mono ?_
  rintro e w13 ⟨A13, n13, cc13, rfl, hown13, hb13⟩
  have hc13 := own_le hown13
  have S13 := ((S12.keep hb13).addRd (rd_of_own hown13))
  simp only [List.nil_append, List.cons_append] at S13
  clear ca0 ca1 ca2 S12 hown13
  go_wp2_with fail
  refine (KCgb.out _).mono ?_
  rintro e w14 ⟨A14, n14, cc14, rfl, hown14, hb14⟩
  have hc14 := own_le hown14
  have S14 := ((S13.keep hb14).addRd (rd_of_own hown14))
  simp only [List.nil_append, List.cons_append] at S14
  clear S13 hown14
  go_wp2_with fail
  refine (KF1.out _ _ _ _ _ _ _ (S14.rd 8 rfl) (S14.rd 9 rfl) hc13 hc14).mono ?_
  rintro e w15 ⟨rfl, hb15⟩
  have S15 := (S14.keep hb15).alloc (.cells #[.int .i64 0, .int .i64 0] 48)
  clear S14
  go_wp2_with fail
  refine (KCgo.out _).mono ?_
  rintro e w16 ⟨A16, n16, cc16, rfl, hown16, hb16⟩
  have hc16 := own_le hown16
  have S16 := ((S15.keep hb16).addRd (rd_of_own hown16))
  simp only [List.nil_append, List.cons_append] at S16
  clear S15 hown16
  go_wp2_with fail
  refine (KF2.out _ _ _ _ (S16.rd 10 rfl) hc16).mono ?_
  rintro e w17 ⟨rfl, hb17⟩
  have S17 := (S16.keep hb17).alloc (.cells #[.int .i64 0, .int .i64 0] 48)
  clear S16
  go_wp2_with fail
  refine (KCga.out _).mono ?_
  rintro e w18 ⟨A18, n18, cc18, rfl, hown18, hb18⟩
  have hc18 := own_le hown18
  have S18 := ((S17.keep hb18).addRd (rd_of_own hown18))
  simp only [List.nil_append, List.cons_append] at S18
  clear S17 hown18
  go_wp2_with fail
  refine (KS2.out _ _ _ _ (S18.rd 11 rfl) hc18).mono ?_
  rintro e w19 ⟨A19, n19, cc19, rfl, hb19⟩
  have S19 := (S18.keep hb19).alloc (.cells #[.int .i64 0, .int .i64 0, .slice A19 n19 cc19] 33)
  clear S18
  go_wp2_with fail
  refine (KCga.out _).mono ?_
  rintro e w20 ⟨A20, n20, cc20, rfl, hown20, hb20⟩
  have hc20 := own_le hown20
  have S20 := ((S19.keep hb20).addRd (rd_of_own hown20))
  simp only [List.nil_append, List.cons_append] at S20
  clear S19 hown20
  go_wp2_with fail
  refine (KS3.out _ _ _ _ (S20.rd 12 rfl) hc20).mono ?_
  rintro e w21 ⟨A21, n21, cc21, rfl, hb21⟩
  have S21 := (S20.keep hb21).alloc (.cells #[.int .i64 0, .int .i64 0, .slice A21 n21 cc21] 33)
  clear S20
  go_wp2_with fail
  refine (KCga.out _).mono ?_
  rintro e w22 ⟨A22, n22, cc22, rfl, hown22, hb22⟩
  have hc22 := own_le hown22
  have S22 := ((S21.keep hb22).addRd (rd_of_own hown22))
  simp only [List.nil_append, List.cons_append] at S22
  clear S21 hown22
  go_wp2_with fail
  refine (KS4.out _ _ _ _ (S22.rd 13 rfl) hc22).mono ?_
  rintro e w23 ⟨A23, n23, cc23, rfl, hb23⟩
  have S23 := (S22.keep hb23).alloc (.cells #[.int .i64 0, .int .i64 0, .slice A23 n23 cc23] 33)
  clear S22
  go_wp2_with fail
  refine (KI3.out _).mono ?_
  rintro e w24 ⟨rfl, hb24⟩
  have S24 := S23.keep hb24
  clear S23
  go_wp2_with fail
  refine (KQ2.out _).mono ?_
  rintro e w25 ⟨rfl, hb25⟩
  have S25 := S24.keep hb25
  clear S24
  go_wp2_with fail
  refine (KO3.out _).mono ?_
  rintro e w26 ⟨rfl, hb26⟩
  have S26 := (S25.keep hb26).alloc (.cells #[.int .i64 0, .int .i64 0, .int .i64 0] 23)
  clear S25
  go_wp2_with fail
  refine (KR2.out _).mono ?_
  rintro e w27 ⟨rfl, hb27⟩
  have S27 := S26.keep hb27
  clear S26
  go_wp2_with fail
  refine (KL1.out _).mono ?_
  rintro e w28 ⟨rfl, hb28⟩
  have S28 := S27.keep hb28
  clear S27
  go_wp2_with fail
  refine (KL2.out _).mono ?_
  rintro e w29 ⟨rfl, hb29⟩
  have S29 := S28.keep hb29
  clear S28
  go_wp2_with fail
  refine (KL3.out _).mono ?_
  rintro e w30 ⟨rfl, hb30⟩
  have S30 := S29.keep hb30
  clear S29
  go_wp2_with fail
  refine (KL4.out _).mono ?_
  rintro e w31 ⟨rfl, hb31⟩
  have S31 := S30.keep hb31
  clear S30
  go_wp2_with fail
  refine (alive_any _).mono ?_
  rintro e w32 ⟨rfl, hb32⟩
  have S32 := S31.keep hb32
  clear S31
  go_wp2_with fail
  go_ret
  exact ⟨rfl, S32.below⟩
end Go.Proofs.YtkhochbkjhpfgaaDoor
