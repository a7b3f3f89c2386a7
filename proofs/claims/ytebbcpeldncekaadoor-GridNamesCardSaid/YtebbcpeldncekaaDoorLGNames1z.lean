/- The law GridNames, walked: it answers true and turns nothing that was there. -/
import Derived.Test.YtebbcpeldncekaaDoorGNames1Kz
import Derived.Test.YtebbcpeldncekaaDoorManz
import Derived.Test.YtebbcpeldncekaaDoorPutz
import Derived.Deep.DeepCutAuto
namespace Go.Proofs.YtebbcpeldncekaaDoor
open Go.RowKit

set_option linter.unusedSimpArgs false in
set_option maxHeartbeats 4000000 in
set_option maxRecDepth 100000 in
theorem gnames1_walk (w : World) : Calls Tryd.prog 8 #[] w fun e w' => e = .returned (.bool true) ∧ Below w.heap.size w w' := by
  have HG := Lib.hid (fun W => given_any W)
  have KgN := Lib.hid (fun A n c W hr hc => kgN A n c W hr hc)
  have KgM := Lib.hid (fun A n c W hr hc => kgM A n c W hr hc)
  have KgO := Lib.hid (fun A n c W hr hc => kgO A n c W hr hc)
  have KgP := Lib.hid (fun A n c W hr hc => kgP A n c W hr hc)
  have KgQ := Lib.hid (fun A n c W hr hc => kgQ A n c W hr hc)
  have KgX := Lib.hid (fun A n c W hr hc => kgX A n c W hr hc)
  have KgR := Lib.hid (fun A A' n c n' c' W hr hr' => kgR A A' n c n' c' W hr hr')
  have KgS := Lib.hid (fun A A' n c n' c' W hr hr' => kgS A A' n c n' c' W hr hr')
  have RgN := Lib.hid (fun A n c W hr hc => rgN A n c W hr hc)
  have RgM := Lib.hid (fun A n c W hr hc => rgM A n c W hr hc)
  have RgO := Lib.hid (fun A n c W hr hc => rgO A n c W hr hc)
  have RgP := Lib.hid (fun A n c W hr hc => rgP A n c W hr hc)
  have RgQ := Lib.hid (fun A n c W hr hc => rgQ A n c W hr hc)
  have RgR := Lib.hid (fun A n c W hr hc => rgR A n c W hr hc)
  have RgS := Lib.hid (fun A n c W hr hc => rgS A n c W hr hc)
  have RgX := Lib.hid (fun A n c W hr hc => rgX A n c W hr hc)
  have KA1 := Lib.hid (fun A n c W hr hc => ka1 A n c W hr hc)
  have KA2 := Lib.hid (fun A n c W hr hc => ka2 A n c W hr hc)
  have KA3 := Lib.hid (fun A n c W hr hc => ka3 A n c W hr hc)
  have KA4 := Lib.hid (fun A n c W hr hc => ka4 A n c W hr hc)
  have KA5 := Lib.hid (fun A n c W hr hc => ka5 A n c W hr hc)
  have KA8 := Lib.hid (fun A n c W hr hc => ka8 A n c W hr hc)
  have KA6 := Lib.hid (fun A A' n c n' c' W hr hr' => ka6 A A' n c n' c' W hr hr')
  have KA7 := Lib.hid (fun A A' n c n' c' W hr hr' => ka7 A A' n c n' c' W hr hr')
  have KF0 := Lib.hid (fun W => kf0 W)
  have KF1 := Lib.hid (fun W => kf1 W)
  have KF2 := Lib.hid (fun W => kf2 W)
  have KF3 := Lib.hid (fun W => kf3 W)
  have KF4 := Lib.hid (fun W => kf4 W)
  have eb1 : gbig.w = 64 := rfl
  have eb2 : gbig.h = 64 := rfl
  have eb3 : gbig.bits = List.replicate 4096 false := rfl
  rw [eb1, eb2, eb3] at KA1
  have eo1 : gor.w = 65 := rfl
  have eo2 : gor.h = 1 := rfl
  have eo3 : gor.bits = List.replicate 65 false := rfl
  rw [eo1, eo2, eo3] at KA7
  clear eb1 eb2 eb3 eo1 eo2 eo3
  have CK0 := Lib.hid (fun A c W => check_to 64 64 0 (n := 4096) (by decide) A c W)
  have CK1 := Lib.hid (fun A c W => check_to 0 0 8 (n := 0) (by decide) A c W)
  have CK2 := Lib.hid (fun A c W => check_to 2 2 8 (n := 3) (by decide) A c W)
  have CK3 := Lib.hid (fun A c W => check_to 65 (-1) 4 (n := 0) (by decide) A c W)
  have CK4 := Lib.hid (fun A c W => check_to (-1) (-1) 8 (n := 1) (by decide) A c W)
  have hmk4096 : ∀ W : World, (Instr.makeSlice 22 (.int .i64 4096) (.int .i64 4096)).run Tryd.prog W = .ok (.slice (some ⟨W.heap.size, 0, none⟩) 4096 4096) (W.alloc (.cells (madeCells #[Value.bool false] 4096) 4)) := fun W => make_b 4096 (by omega) W
  have hmk65 : ∀ W : World, (Instr.makeSlice 22 (.int .i64 65) (.int .i64 65)).run Tryd.prog W = .ok (.slice (some ⟨W.heap.size, 0, none⟩) 65 65) (W.alloc (.cells (madeCells #[Value.bool false] 65) 4)) := fun W => make_b 65 (by omega) W
  have hmk3 : ∀ W : World, (Instr.makeSlice 22 (.int .i64 3) (.int .i64 3)).run Tryd.prog W = .ok (.slice (some ⟨W.heap.size, 0, none⟩) 3 3) (W.alloc (.cells (madeCells #[Value.bool false] 3) 4)) := fun W => make_b 3 (by omega) W
  have hmk1 : ∀ W : World, (Instr.makeSlice 22 (.int .i64 1) (.int .i64 1)).run Tryd.prog W = .ok (.slice (some ⟨W.heap.size, 0, none⟩) 1 1) (W.alloc (.cells (madeCells #[Value.bool false] 1) 4)) := fun W => make_b 1 (by omega) W
  generalize giv = giv1 at *
  generalize gN = gN1 at *
  generalize gM = gM1 at *
  generalize gO = gO1 at *
  generalize gP = gP1 at *
  generalize gQ = gQ1 at *
  generalize gR = gR1 at *
  generalize gS = gS1 at *
  generalize gX = gX1 at *
  have S0 := St.start w
  go_enter Tryd.func8, Tryd.ntmps8
  go_wp2_with fail
  refine (HG.out _).mono ?_
  rintro e w1 ⟨A1, n1, cc1, rfl, hown1, hb1⟩
  try simp only at hown1 ⊢
  have hc1 := own_le hown1
  have S1 := ((S0.keep hb1).addRd (rd_of_own hown1)).box #[.int .i64 giv1.w, .int .i64 giv1.h, .slice A1 n1 cc1] 24
  simp only [List.nil_append, List.cons_append] at S1
  clear hown1
  obtain ⟨ca0, ca1, ca2⟩ := (S1.blk 1 rfl).cell3
  go_wp2_with fail
  refine (KgN.out _ _ _ _ (S1.rd 0 rfl) hc1).mono ?_
  rintro e w2 ⟨A2, n2, cc2, rfl, hown2, hb2⟩
  try simp only at hown2 ⊢
  have hc2 := own_le hown2
  have S2 := ((S1.keep hb2).addRd (rd_of_own hown2)).box #[.int .i64 gN1.w, .int .i64 gN1.h, .slice A2 n2 cc2] 24
  simp only [List.nil_append, List.cons_append] at S2
  clear ca0 ca1 ca2 S1 hown2
  obtain ⟨ca0, ca1, ca2⟩ := (S2.blk 1 rfl).cell3
  go_wp2_with fail
  refine (KgM.out _ _ _ _ (S2.rd 0 rfl) hc1).mono ?_
  rintro e w3 ⟨A3, n3, cc3, rfl, hown3, hb3⟩
  try simp only at hown3 ⊢
  have hc3 := own_le hown3
  have S3 := ((S2.keep hb3).addRd (rd_of_own hown3)).box #[.int .i64 gM1.w, .int .i64 gM1.h, .slice A3 n3 cc3] 24
  simp only [List.nil_append, List.cons_append] at S3
  clear ca0 ca1 ca2 S2 hown3
  obtain ⟨ca0, ca1, ca2⟩ := (S3.blk 1 rfl).cell3
  go_wp2_with fail
  refine (KgO.out _ _ _ _ (S3.rd 0 rfl) hc1).mono ?_
  rintro e w4 ⟨A4, n4, cc4, rfl, hown4, hb4⟩
  try simp only at hown4 ⊢
  have hc4 := own_le hown4
  have S4 := ((S3.keep hb4).addRd (rd_of_own hown4)).box #[.int .i64 gO1.w, .int .i64 gO1.h, .slice A4 n4 cc4] 24
  simp only [List.nil_append, List.cons_append] at S4
  clear ca0 ca1 ca2 S3 hown4
  obtain ⟨ca0, ca1, ca2⟩ := (S4.blk 1 rfl).cell3
  go_wp2_with fail
  refine (KgP.out _ _ _ _ (S4.rd 0 rfl) hc1).mono ?_
  rintro e w5 ⟨A5, n5, cc5, rfl, hown5, hb5⟩
  try simp only at hown5 ⊢
  have hc5 := own_le hown5
  have S5 := ((S4.keep hb5).addRd (rd_of_own hown5)).box #[.int .i64 gP1.w, .int .i64 gP1.h, .slice A5 n5 cc5] 24
  simp only [List.nil_append, List.cons_append] at S5
  clear ca0 ca1 ca2 S4 hown5
  obtain ⟨ca0, ca1, ca2⟩ := (S5.blk 1 rfl).cell3
  go_wp2_with fail
  refine (KgQ.out _ _ _ _ (S5.rd 0 rfl) hc1).mono ?_
  rintro e w6 ⟨A6, n6, cc6, rfl, hown6, hb6⟩
  try simp only at hown6 ⊢
  have hc6 := own_le hown6
  have S6 := ((S5.keep hb6).addRd (rd_of_own hown6)).box #[.int .i64 gQ1.w, .int .i64 gQ1.h, .slice A6 n6 cc6] 24
  simp only [List.nil_append, List.cons_append] at S6
  clear ca0 ca1 ca2 S5 hown6
  obtain ⟨ca0, ca1, ca2⟩ := (S6.blk 1 rfl).cell3
  obtain ⟨cb0, cb1, cb2⟩ := (S6.blk 5 rfl).cell3
  go_wp2_with fail
  refine (KgR.out _ _ _ _ _ _ _ (S6.rd 0 rfl) (S6.rd 4 rfl)).mono ?_
  rintro e w7 ⟨A7, n7, cc7, rfl, hown7, hb7⟩
  try simp only at hown7 ⊢
  have hc7 := own_le hown7
  have S7 := ((S6.keep hb7).addRd (rd_of_own hown7)).box #[.int .i64 gR1.w, .int .i64 gR1.h, .slice A7 n7 cc7] 24
  simp only [List.nil_append, List.cons_append] at S7
  clear ca0 ca1 ca2 cb0 cb1 cb2 S6 hown7
  obtain ⟨ca0, ca1, ca2⟩ := (S7.blk 1 rfl).cell3
  obtain ⟨cb0, cb1, cb2⟩ := (S7.blk 5 rfl).cell3
  go_wp2_with fail
  refine (KgS.out _ _ _ _ _ _ _ (S7.rd 0 rfl) (S7.rd 4 rfl)).mono ?_
  rintro e w8 ⟨A8, n8, cc8, rfl, hown8, hb8⟩
  try simp only at hown8 ⊢
  have hc8 := own_le hown8
  have S8 := ((S7.keep hb8).addRd (rd_of_own hown8)).box #[.int .i64 gS1.w, .int .i64 gS1.h, .slice A8 n8 cc8] 24
  simp only [List.nil_append, List.cons_append] at S8
  clear ca0 ca1 ca2 cb0 cb1 cb2 S7 hown8
  obtain ⟨ca0, ca1, ca2⟩ := (S8.blk 3 rfl).cell3
  go_wp2_with fail
  refine (RgN.out _ _ _ _ (S8.rd 2 rfl) hc2).mono ?_
  rintro e w9 ⟨rfl, hb9⟩
  have S9 := S8.keep hb9
  clear ca0 ca1 ca2 S8
  obtain ⟨ca0, ca1, ca2⟩ := (S9.blk 5 rfl).cell3
  go_wp2_with fail
  refine (RgM.out _ _ _ _ (S9.rd 4 rfl) hc3).mono ?_
  rintro e w10 ⟨rfl, hb10⟩
  have S10 := S9.keep hb10
  clear ca0 ca1 ca2 S9
  obtain ⟨ca0, ca1, ca2⟩ := (S10.blk 7 rfl).cell3
  go_wp2_with fail
  refine (RgO.out _ _ _ _ (S10.rd 6 rfl) hc4).mono ?_
  rintro e w11 ⟨rfl, hb11⟩
  have S11 := S10.keep hb11
  clear ca0 ca1 ca2 S10
  obtain ⟨ca0, ca1, ca2⟩ := (S11.blk 9 rfl).cell3
  go_wp2_with fail
  refine (RgP.out _ _ _ _ (S11.rd 8 rfl) hc5).mono ?_
  rintro e w12 ⟨rfl, hb12⟩
  have S12 := S11.keep hb12
  clear ca0 ca1 ca2 S11
  obtain ⟨ca0, ca1, ca2⟩ := (S12.blk 11 rfl).cell3
  go_wp2_with fail
  refine (RgQ.out _ _ _ _ (S12.rd 10 rfl) hc6).mono ?_
  rintro e w13 ⟨rfl, hb13⟩
  have S13 := S12.keep hb13
  clear ca0 ca1 ca2 S12
  obtain ⟨ca0, ca1, ca2⟩ := (S13.blk 13 rfl).cell3
  go_wp2_with fail
  refine (RgR.out _ _ _ _ (S13.rd 12 rfl) hc7).mono ?_
  rintro e w14 ⟨rfl, hb14⟩
  have S14 := S13.keep hb14
  clear ca0 ca1 ca2 S13
  obtain ⟨ca0, ca1, ca2⟩ := (S14.blk 15 rfl).cell3
  go_wp2_with fail
  refine (RgS.out _ _ _ _ (S14.rd 14 rfl) hc8).mono ?_
  rintro e w15 ⟨rfl, hb15⟩
  have S15 := S14.keep hb15
  clear ca0 ca1 ca2 S14
  have SY := ((S15.box (madeCells #[Value.bool false] 4096) 4).addRd (rd_mk 4096 _)).box #[.int .i64 64, .int .i64 64, .slice (some ⟨w15.heap.size, 0, none⟩) 4096 4096] 24
  simp only [size_alloc1, List.nil_append, List.cons_append] at SY
  clear S15
  obtain ⟨ca0, ca1, ca2⟩ := (SY.blk 18 rfl).cell3
  go_wp2_with fail
  refine (KA1.out _ _ _ _ (SY.rd 17 rfl) (Nat.le_refl _)).mono ?_
  rintro e w16 ⟨A16, n16, cc16, rfl, hb16⟩
  have S16 := (SY.keep hb16).alloc (.cells #[.int .i64 0, .int .i64 0, .slice A16 n16 cc16] 24)
  clear ca0 ca1 ca2 SY
  obtain ⟨ca0, ca1, ca2⟩ := (S16.blk 1 rfl).cell3
  go_wp2_with fail
  refine (KA2.out _ _ _ _ (S16.rd 0 rfl) hc1).mono ?_
  rintro e w17 ⟨A17, n17, cc17, rfl, hb17⟩
  have S17 := (S16.keep hb17).alloc (.cells #[.int .i64 0, .int .i64 0, .slice A17 n17 cc17] 24)
  clear ca0 ca1 ca2 S16
  obtain ⟨ca0, ca1, ca2⟩ := (S17.blk 1 rfl).cell3
  go_wp2_with fail
  refine (KA3.out _ _ _ _ (S17.rd 0 rfl) hc1).mono ?_
  rintro e w18 ⟨A18, n18, cc18, rfl, hb18⟩
  have S18 := (S17.keep hb18).alloc (.cells #[.int .i64 0, .int .i64 0, .slice A18 n18 cc18] 24)
  clear ca0 ca1 ca2 S17
  obtain ⟨ca0, ca1, ca2⟩ := (S18.blk 1 rfl).cell3
  go_wp2_with fail
  refine (KA4.out _ _ _ _ (S18.rd 0 rfl) hc1).mono ?_
  rintro e w19 ⟨A19, n19, cc19, rfl, hb19⟩
  have S19 := (S18.keep hb19).alloc (.cells #[.int .i64 0, .int .i64 0, .slice A19 n19 cc19] 24)
  clear ca0 ca1 ca2 S18
  obtain ⟨ca0, ca1, ca2⟩ := (S19.blk 1 rfl).cell3
  go_wp2_with fail
  refine (KA5.out _ _ _ _ (S19.rd 0 rfl) hc1).mono ?_
  rintro e w20 ⟨A20, n20, cc20, rfl, hb20⟩
  have S20 := (S19.keep hb20).alloc (.cells #[.int .i64 0, .int .i64 0, .slice A20 n20 cc20] 24)
  clear ca0 ca1 ca2 S19
  obtain ⟨ca0, ca1, ca2⟩ := (S20.blk 1 rfl).cell3
  obtain ⟨cb0, cb1, cb2⟩ := (S20.blk 11 rfl).cell3
  go_wp2_with fail
  refine (KA6.out _ _ _ _ _ _ _ (S20.rd 0 rfl) (S20.rd 10 rfl)).mono ?_
  rintro e w21 ⟨A21, n21, cc21, rfl, hb21⟩
  have S21 := (S20.keep hb21).alloc (.cells #[.int .i64 0, .int .i64 0, .slice A21 n21 cc21] 24)
  clear ca0 ca1 ca2 cb0 cb1 cb2 S20
  go_upto_region 17 with fail
  have SX := S21.sub (L' := [.rd A1 n1 (giv1.bits.map Value.bool), .blk w1.heap.size 24 #[.int .i64 giv1.w, .int .i64 giv1.h, .slice A1 n1 cc1], .blk (w15.heap.size + 1) 24 #[.int .i64 64, .int .i64 64, .slice (some ⟨w15.heap.size, 0, none⟩) 4096 4096]]) (by simp)
  clear S21
  go_cut [30, 31] (fun s30 s31 wx => s31 = .int .i64 4 ∧ St w [.rd A1 n1 (giv1.bits.map Value.bool), .blk w1.heap.size 24 #[.int .i64 giv1.w, .int .i64 giv1.h, .slice A1 n1 cc1], .blk (w15.heap.size + 1) 24 #[.int .i64 64, .int .i64 64, .slice (some ⟨w15.heap.size, 0, none⟩) 4096 4096]] wx)
  case first =>
    have SD := SX.drew
    have hx1 := (SX.blk 1 rfl).lt
    have hx2 := (SX.blk 2 rfl).lt
    have hx3 := SX.size
    simp only [size_alloc1] at hx1 hx2 hx3
    refine wp_region_held_drew (S := (fun w' => w'.cell? ⟨w1.heap.size, 0, none⟩ = some (.int .i64 giv1.w) ∧ w'.cell? ⟨w1.heap.size, 1, none⟩ = some (.int .i64 giv1.h) ∧ w'.cell? ⟨w1.heap.size, 2, none⟩ = some (.slice A1 n1 cc1))) (by kernel_rfl) ?_ (fun hHeld => ?_)
    · (try dsimp only); exact (SD.blk 1 rfl).cell3
    refine man_take 0 143 (v := ?_) ⟨_, rfl, rfl⟩ (by kernel_rfl) (by kernel_rfl) (by kernel_rfl) (fun _ _ _ h => h) (by assumption) ?_ ?_
    rotate_left
    · intro oi ho; cases ho; refine ⟨by rfl, ?_⟩; intro w hSw; (try dsimp only at hSw); go_simp; try with_reducible rfl
    (try simp only [Act.put, List.setIfInBounds_toArray, List.set_cons_zero, List.set_cons_succ])
    refine man_two 1 7 rfl rfl (by kernel_rfl) (fun K hK => ?_) (fun K hK => ?_)
    · go_simp
      replace SD := ((SX.box (madeCells #[Value.bool false] 65) 4).addRd (rd_mk 65 _)).drew
      simp only [size_alloc1, List.nil_append, List.cons_append] at SD
      refine hK.out _ _ ?_ (fun hHeld => ?_)
      · (try dsimp only); exact (SD.blk 1 rfl).cell3
      clear hK K
      (try simp only [Act.put, List.setIfInBounds_toArray, List.set_cons_zero, List.set_cons_succ])
      refine man_take 2 145 (v := ?_) ⟨_, rfl, rfl⟩ (by kernel_rfl) (by kernel_rfl) (by kernel_rfl) (fun _ _ _ h => h) (by assumption) ?_ ?_
      rotate_left
      · intro oi ho; cases ho; refine ⟨by rfl, ?_⟩; intro w hSw; (try dsimp only at hSw); go_simp; try with_reducible rfl
      (try simp only [Act.put, List.setIfInBounds_toArray, List.set_cons_zero, List.set_cons_succ])
      refine man_two 3 7 rfl rfl (by kernel_rfl) (fun K hK => ?_) (fun K hK => ?_)
      · go_simp
        refine (KA7.out _ _ _ _ _ _ _ (SD.rd 0 rfl) (SD.rd 4 rfl)).mono ?_
        rintro e w22 ⟨A22, n22, cc22, rfl, hb22⟩
        replace SD := SD.keep hb22
        go_wp2_with fail
        refine hK.out _ _ ?_ (fun hHeld => ?_)
        · (try dsimp only); exact (SD.blk 1 rfl).cell3
        clear hK K
        (try simp only [Act.put, List.setIfInBounds_toArray, List.set_cons_zero, List.set_cons_succ])
        refine man_take 4 142 (v := ?_) ⟨_, rfl, rfl⟩ (by kernel_rfl) (by kernel_rfl) (by kernel_rfl) (fun _ _ _ h => h) (by assumption) ?_ ?_
        rotate_left
        · intro oi ho; cases ho; refine ⟨by rfl, ?_⟩; intro w hSw; (try dsimp only at hSw); go_simp; try with_reducible rfl
        (try simp only [Act.put, List.setIfInBounds_toArray, List.set_cons_zero, List.set_cons_succ])
        refine man_take 5 147 (v := ?_) ⟨_, rfl, rfl⟩ (by kernel_rfl) (by kernel_rfl) (by kernel_rfl) (fun _ _ _ h => h) (by assumption) ?_ ?_
        rotate_left
        · intro oi ho; cases ho; refine ⟨by rfl, ?_⟩; intro w hSw; (try dsimp only at hSw); go_simp; try with_reducible rfl
        (try simp only [Act.put, List.setIfInBounds_toArray, List.set_cons_zero, List.set_cons_succ])
        refine man_take 6 148 (v := ?_) ⟨_, rfl, rfl⟩ (by kernel_rfl) (by kernel_rfl) (by kernel_rfl) (fun _ _ _ h => h) (by assumption) ?_ ?_
        rotate_left
        · intro oi ho; cases ho; refine ⟨by rfl, ?_⟩; intro w hSw; (try dsimp only at hSw); go_simp; try with_reducible rfl
        (try simp only [Act.put, List.setIfInBounds_toArray, List.set_cons_zero, List.set_cons_succ])
        refine man_run 7 rfl (by kernel_rfl) (fun K hK => ?_)
        go_simp
        have SQ := SD
        replace SD := SD.alloc (.cells #[.int .i64 0, .int .i64 0, .slice none 0 0] 24)
        refine hK.out _ _ ?_ (fun hHeld => ?_)
        · (try dsimp only); exact (SD.blk 1 rfl).cell3
        clear hK K
        (try simp only [Act.put, List.setIfInBounds_toArray, List.set_cons_zero, List.set_cons_succ])
        refine man_run 8 rfl (by kernel_rfl) (fun K hK => ?_)
        go_simp
        replace SD := SQ.alloc (.cells #[.int .i64 0, .int .i64 0, .slice A22 n22 cc22] 24)
        refine hK.out _ _ ?_ (fun hHeld => ?_)
        · (try dsimp only); exact (SD.blk 1 rfl).cell3
        clear hK K
        (try simp only [Act.put, List.setIfInBounds_toArray, List.set_cons_zero, List.set_cons_succ])
        refine man_run 9 rfl (by kernel_rfl) (fun K hK => ?_)
        go_simp
        refine hK.out _ _ ?_ (fun hHeld => ?_)
        · (try dsimp only); exact (SD.blk 1 rfl).cell3
        clear hK K
        (try simp only [Act.put, List.setIfInBounds_toArray, List.set_cons_zero, List.set_cons_succ])
        refine wpAnyH_done (by kernel_rfl) ?_ _
        go_wp2_with fail
        go_meet
        exact ⟨rfl, SD.sub (L' := [.rd A1 n1 (giv1.bits.map Value.bool), .blk w1.heap.size 24 #[.int .i64 giv1.w, .int .i64 giv1.h, .slice A1 n1 cc1], .blk (w15.heap.size + 1) 24 #[.int .i64 64, .int .i64 64, .slice (some ⟨w15.heap.size, 0, none⟩) 4096 4096]]) (by simp)⟩
      · go_simp
        replace SD := (((SX.box (madeCells #[Value.bool false] 65) 4).addRd (rd_mk 65 _)).box #[.int .i64 0, .int .i64 0, .slice none 0 0] 24).drew
        simp only [size_alloc1, List.nil_append, List.cons_append] at SD
        refine hK.out _ _ ?_ (fun hHeld => ?_)
        · (try dsimp only); exact (SD.blk 1 rfl).cell3
        clear hK K
        (try simp only [Act.put, List.setIfInBounds_toArray, List.set_cons_zero, List.set_cons_succ])
        refine man_run 3 rfl (by kernel_rfl) (fun K hK => ?_)
        go_simp
        refine (KA7.out _ _ _ _ _ _ _ (SD.rd 0 rfl) (SD.rd 4 rfl)).mono ?_
        rintro e w22 ⟨A22, n22, cc22, rfl, hb22⟩
        replace SD := SD.keep hb22
        go_wp2_with fail
        refine hK.out _ _ ?_ (fun hHeld => ?_)
        · (try dsimp only); exact (SD.blk 1 rfl).cell3
        clear hK K
        (try simp only [Act.put, List.setIfInBounds_toArray, List.set_cons_zero, List.set_cons_succ])
        refine man_take 4 142 (v := ?_) ⟨_, rfl, rfl⟩ (by kernel_rfl) (by kernel_rfl) (by kernel_rfl) (fun _ _ _ h => h) (by assumption) ?_ ?_
        rotate_left
        · intro oi ho; cases ho; refine ⟨by rfl, ?_⟩; intro w hSw; (try dsimp only at hSw); go_simp; try with_reducible rfl
        (try simp only [Act.put, List.setIfInBounds_toArray, List.set_cons_zero, List.set_cons_succ])
        refine man_take 5 147 (v := ?_) ⟨_, rfl, rfl⟩ (by kernel_rfl) (by kernel_rfl) (by kernel_rfl) (fun _ _ _ h => h) (by assumption) ?_ ?_
        rotate_left
        · intro oi ho; cases ho; refine ⟨by rfl, ?_⟩; intro w hSw; (try dsimp only at hSw); go_simp; try with_reducible rfl
        (try simp only [Act.put, List.setIfInBounds_toArray, List.set_cons_zero, List.set_cons_succ])
        refine man_take 6 148 (v := ?_) ⟨_, rfl, rfl⟩ (by kernel_rfl) (by kernel_rfl) (by kernel_rfl) (fun _ _ _ h => h) (by assumption) ?_ ?_
        rotate_left
        · intro oi ho; cases ho; refine ⟨by rfl, ?_⟩; intro w hSw; (try dsimp only at hSw); go_simp; try with_reducible rfl
        (try simp only [Act.put, List.setIfInBounds_toArray, List.set_cons_zero, List.set_cons_succ])
        refine man_run 8 rfl (by kernel_rfl) (fun K hK => ?_)
        have hB := SD.blk 5 rfl
        obtain ⟨z0, z1, z2⟩ := hB.cell3
        obtain ⟨f0, f1, f2⟩ := hB.frozen3
        go_simp
        clear z0 z1 z2 f0 f1 f2
        replace SD := (SD.sub (L' := [.rd A1 n1 (giv1.bits.map Value.bool), .blk w1.heap.size 24 #[.int .i64 giv1.w, .int .i64 giv1.h, .slice A1 n1 cc1], .blk (w15.heap.size + 1) 24 #[.int .i64 64, .int .i64 64, .slice (some ⟨w15.heap.size, 0, none⟩) 4096 4096]]) (by simp)).put3 (bb := w21.heap.size + 1 + 1) (by omega) hB ⟨⟨_, rfl⟩, (by show _ ≠ _; omega), (by show _ ≠ _; omega), trivial⟩ 0 0 A22 n22 cc22
        refine hK.out _ _ ?_ (fun hHeld => ?_)
        · (try dsimp only); exact (SD.blk 1 rfl).cell3
        clear hK K
        (try simp only [Act.put, List.setIfInBounds_toArray, List.set_cons_zero, List.set_cons_succ])
        refine man_run 9 rfl (by kernel_rfl) (fun K hK => ?_)
        go_simp
        refine hK.out _ _ ?_ (fun hHeld => ?_)
        · (try dsimp only); exact (SD.blk 1 rfl).cell3
        clear hK K
        (try simp only [Act.put, List.setIfInBounds_toArray, List.set_cons_zero, List.set_cons_succ])
        refine wpAnyH_done (by kernel_rfl) ?_ _
        go_wp2_with fail
        go_meet
        exact ⟨rfl, SD.sub (L' := [.rd A1 n1 (giv1.bits.map Value.bool), .blk w1.heap.size 24 #[.int .i64 giv1.w, .int .i64 giv1.h, .slice A1 n1 cc1], .blk (w15.heap.size + 1) 24 #[.int .i64 64, .int .i64 64, .slice (some ⟨w15.heap.size, 0, none⟩) 4096 4096]]) (by simp)⟩
    · go_simp
      replace SD := (SX.box #[.int .i64 0, .int .i64 0, .slice none 0 0] 24).drew
      simp only [size_alloc1, List.nil_append, List.cons_append] at SD
      refine hK.out _ _ ?_ (fun hHeld => ?_)
      · (try dsimp only); exact (SD.blk 1 rfl).cell3
      clear hK K
      (try simp only [Act.put, List.setIfInBounds_toArray, List.set_cons_zero, List.set_cons_succ])
      refine man_run 1 rfl (by kernel_rfl) (fun K hK => ?_)
      go_simp
      replace SD := (((SX.box #[.int .i64 0, .int .i64 0, .slice none 0 0] 24).box (madeCells #[Value.bool false] 65) 4).addRd (rd_mk 65 _)).drew
      simp only [size_alloc1, List.nil_append, List.cons_append] at SD
      refine hK.out _ _ ?_ (fun hHeld => ?_)
      · (try dsimp only); exact (SD.blk 1 rfl).cell3
      clear hK K
      (try simp only [Act.put, List.setIfInBounds_toArray, List.set_cons_zero, List.set_cons_succ])
      refine man_take 2 145 (v := ?_) ⟨_, rfl, rfl⟩ (by kernel_rfl) (by kernel_rfl) (by kernel_rfl) (fun _ _ _ h => h) (by assumption) ?_ ?_
      rotate_left
      · intro oi ho; cases ho; refine ⟨by rfl, ?_⟩; intro w hSw; (try dsimp only at hSw); go_simp; try with_reducible rfl
      (try simp only [Act.put, List.setIfInBounds_toArray, List.set_cons_zero, List.set_cons_succ])
      refine man_run 3 rfl (by kernel_rfl) (fun K hK => ?_)
      go_simp
      refine (KA7.out _ _ _ _ _ _ _ (SD.rd 0 rfl) (SD.rd 5 rfl)).mono ?_
      rintro e w22 ⟨A22, n22, cc22, rfl, hb22⟩
      replace SD := SD.keep hb22
      go_wp2_with fail
      refine hK.out _ _ ?_ (fun hHeld => ?_)
      · (try dsimp only); exact (SD.blk 1 rfl).cell3
      clear hK K
      (try simp only [Act.put, List.setIfInBounds_toArray, List.set_cons_zero, List.set_cons_succ])
      refine man_take 4 142 (v := ?_) ⟨_, rfl, rfl⟩ (by kernel_rfl) (by kernel_rfl) (by kernel_rfl) (fun _ _ _ h => h) (by assumption) ?_ ?_
      rotate_left
      · intro oi ho; cases ho; refine ⟨by rfl, ?_⟩; intro w hSw; (try dsimp only at hSw); go_simp; try with_reducible rfl
      (try simp only [Act.put, List.setIfInBounds_toArray, List.set_cons_zero, List.set_cons_succ])
      refine man_take 5 147 (v := ?_) ⟨_, rfl, rfl⟩ (by kernel_rfl) (by kernel_rfl) (by kernel_rfl) (fun _ _ _ h => h) (by assumption) ?_ ?_
      rotate_left
      · intro oi ho; cases ho; refine ⟨by rfl, ?_⟩; intro w hSw; (try dsimp only at hSw); go_simp; try with_reducible rfl
      (try simp only [Act.put, List.setIfInBounds_toArray, List.set_cons_zero, List.set_cons_succ])
      refine man_take 6 148 (v := ?_) ⟨_, rfl, rfl⟩ (by kernel_rfl) (by kernel_rfl) (by kernel_rfl) (fun _ _ _ h => h) (by assumption) ?_ ?_
      rotate_left
      · intro oi ho; cases ho; refine ⟨by rfl, ?_⟩; intro w hSw; (try dsimp only at hSw); go_simp; try with_reducible rfl
      (try simp only [Act.put, List.setIfInBounds_toArray, List.set_cons_zero, List.set_cons_succ])
      refine man_run 8 rfl (by kernel_rfl) (fun K hK => ?_)
      have hB := SD.blk 3 rfl
      obtain ⟨z0, z1, z2⟩ := hB.cell3
      obtain ⟨f0, f1, f2⟩ := hB.frozen3
      go_simp
      clear z0 z1 z2 f0 f1 f2
      replace SD := (SD.sub (L' := [.rd A1 n1 (giv1.bits.map Value.bool), .blk w1.heap.size 24 #[.int .i64 giv1.w, .int .i64 giv1.h, .slice A1 n1 cc1], .blk (w15.heap.size + 1) 24 #[.int .i64 64, .int .i64 64, .slice (some ⟨w15.heap.size, 0, none⟩) 4096 4096]]) (by simp)).put3 (bb := w21.heap.size + 1) (by omega) hB ⟨⟨_, rfl⟩, (by show _ ≠ _; omega), (by show _ ≠ _; omega), trivial⟩ 0 0 A22 n22 cc22
      refine hK.out _ _ ?_ (fun hHeld => ?_)
      · (try dsimp only); exact (SD.blk 1 rfl).cell3
      clear hK K
      (try simp only [Act.put, List.setIfInBounds_toArray, List.set_cons_zero, List.set_cons_succ])
      refine man_run 9 rfl (by kernel_rfl) (fun K hK => ?_)
      go_simp
      refine hK.out _ _ ?_ (fun hHeld => ?_)
      · (try dsimp only); exact (SD.blk 1 rfl).cell3
      clear hK K
      (try simp only [Act.put, List.setIfInBounds_toArray, List.set_cons_zero, List.set_cons_succ])
      refine wpAnyH_done (by kernel_rfl) ?_ _
      go_wp2_with fail
      go_meet
      exact ⟨rfl, SD.sub (L' := [.rd A1 n1 (giv1.bits.map Value.bool), .blk w1.heap.size 24 #[.int .i64 giv1.w, .int .i64 giv1.h, .slice A1 n1 cc1], .blk (w15.heap.size + 1) 24 #[.int .i64 64, .int .i64 64, .slice (some ⟨w15.heap.size, 0, none⟩) 4096 4096]]) (by simp)⟩
  case rest =>
    obtain ⟨rfl, SZ⟩ := hcut
    obtain ⟨ca0, ca1, ca2⟩ := (SZ.blk 1 rfl).cell3
    go_wp2_with fail
    refine (KA8.out _ _ _ _ (SZ.rd 0 rfl) hc1).mono ?_
    rintro e w23 ⟨A23, n23, cc23, rfl, hb23⟩
    have S23 := (SZ.keep hb23).alloc (.cells #[.int .i64 0, .int .i64 0, .slice A23 n23 cc23] 24)
    clear ca0 ca1 ca2 SZ
    obtain ⟨ca0, ca1, ca2⟩ := (S23.blk 1 rfl).cell3
    go_wp2_with fail
    refine (KgX.out _ _ _ _ (S23.rd 0 rfl) hc1).mono ?_
    rintro e w24 ⟨A24, n24, cc24, rfl, hown24, hb24⟩
    try simp only at hown24 ⊢
    have hc24 := own_le hown24
    have S24 := ((S23.keep hb24).addRd (rd_of_own hown24)).box #[.int .i64 gX1.w, .int .i64 gX1.h, .slice A24 n24 cc24] 24
    simp only [List.nil_append, List.cons_append] at S24
    clear ca0 ca1 ca2 S23 hown24
    obtain ⟨ca0, ca1, ca2⟩ := (S24.blk 2 rfl).cell3
    go_wp2_with fail
    refine (CK0.out _ _ _).mono ?_
    rintro e w25 ⟨rfl, hb25⟩
    have S25 := S24.keep hb25
    clear ca0 ca1 ca2 S24
    go_wp2_with fail
    refine (CK1.out _ _ _).mono ?_
    rintro e w26 ⟨rfl, hb26⟩
    have S26 := S25.keep hb26
    clear S25
    have S27 := S26.alloc (.cells (madeCells #[Value.bool false] 3) 4)
    clear S26
    go_wp2_with fail
    refine (CK2.out _ _ _).mono ?_
    rintro e w28 ⟨rfl, hb28⟩
    have S28 := S27.keep hb28
    clear S27
    go_wp2_with fail
    refine (CK3.out _ _ _).mono ?_
    rintro e w29 ⟨rfl, hb29⟩
    have S29 := S28.keep hb29
    clear S28
    have S30 := S29.alloc (.cells (madeCells #[Value.bool false] 1) 4)
    clear S29
    go_wp2_with fail
    refine (CK4.out _ _ _).mono ?_
    rintro e w31 ⟨rfl, hb31⟩
    have S31 := S30.keep hb31
    clear S30
    have S32 := S31.alloc (.cells #[] 4)
    clear S31
    go_wp2_with fail
    refine (gsame_empty _ _ _).mono ?_
    rintro e w33 ⟨rfl, hb33⟩
    have S33 := S32.keep hb33
    clear S32
    obtain ⟨ca0, ca1, ca2⟩ := (S33.blk 4 rfl).cell3
    go_wp2_with fail
    refine (RgX.out _ _ _ _ (S33.rd 3 rfl) hc24).mono ?_
    rintro e w34 ⟨rfl, hb34⟩
    have S34 := S33.keep hb34
    clear ca0 ca1 ca2 S33
    go_wp2_with fail
    refine (KF0.out _).mono ?_
    rintro e w35 ⟨rfl, hb35⟩
    have S35 := S34.keep hb35
    clear S34
    go_wp2_with fail
    refine (KF1.out _).mono ?_
    rintro e w36 ⟨rfl, hb36⟩
    have S36 := S35.keep hb36
    clear S35
    go_wp2_with fail
    refine (KF2.out _).mono ?_
    rintro e w37 ⟨rfl, hb37⟩
    have S37 := S36.keep hb37
    clear S36
    go_wp2_with fail
    refine (KF3.out _).mono ?_
    rintro e w38 ⟨rfl, hb38⟩
    have S38 := S37.keep hb38
    clear S37
    go_wp2_with fail
    refine (KF4.out _).mono ?_
    rintro e w39 ⟨rfl, hb39⟩
    have S39 := S38.keep hb39
    clear S38
    go_wp2_with fail
    refine (alive_any _).mono ?_
    rintro e w40 ⟨rfl, hb40⟩
    have S40 := S39.keep hb40
    clear S39
    go_wp2_with fail
    go_ret
    exact ⟨rfl, S40.below⟩
end Go.Proofs.YtebbcpeldncekaaDoor
