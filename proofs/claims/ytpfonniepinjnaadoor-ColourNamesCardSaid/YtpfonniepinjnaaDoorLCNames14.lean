/- The law ColourNames, walked: it answers true and turns nothing that was there. -/
import Derived.Test.YtpfonniepinjnaaDoorCNames14K
import Derived.Test.YtpfonniepinjnaaDoorMan
import Derived.Deep.DeepCutAuto
namespace Go.Proofs.YtpfonniepinjnaaDoor
open Go.RowKit

set_option linter.unusedVariables false in
set_option linter.unusedSimpArgs false in
set_option maxHeartbeats 40000000 in
set_option maxRecDepth 100000 in
theorem cnames_walk (w : World) : Calls Tryd.prog 5 #[] w fun e w' => e = .returned (.bool true) ∧ Below w.heap.size w w' := by
  have KP := Lib.hid (fun W => plain_any W)
  have KM := Lib.hid (fun A n c W => img_any A n c W)
  have KA := Lib.hid (fun W => alive_any W)
  have KC0 := Lib.hid (fun W => kc0 W)
  have KF0 := Lib.hid (fun W => kf0 W)
  have KPG := Lib.hid (fun W => kp_good W)
  have KPB := Lib.hid (fun k hk W => kp_bad k hk W)
  have KT := Lib.hid (fun A W h => kt A W h)
  have KN := Lib.hid (fun A n c W h => kn A n c W h)
  have KC1 := Lib.hid (fun A n c W h => kc1 A n c W h)
  have KC2 := Lib.hid (fun A n c W h => kc2 A n c W h)
  have KC3 := Lib.hid (fun A n c W h => kc3 A n c W h)
  have KC4 := Lib.hid (fun A n c W h => kc4 A n c W h)
  have KC5 := Lib.hid (fun A n c W h => kc5 A n c W h)
  have KB1 := Lib.hid (fun A Ap Aq n c np cp nq cq W h1 h2 h3 => kb1 A Ap Aq n c np cp nq cq W h1 h2 h3)
  have KB2 := Lib.hid (fun A Ap Aq n c np cp nq cq W h1 h2 h3 => kb2 A Ap Aq n c np cp nq cq W h1 h2 h3)
  have KB3 := Lib.hid (fun A Ap Aq n c np cp nq cq W h1 h2 h3 => kb3 A Ap Aq n c np cp nq cq W h1 h2 h3)
  have KB4 := Lib.hid (fun A Ap Aq n c np cp nq cq W h1 h2 h3 => kb4 A Ap Aq n c np cp nq cq W h1 h2 h3)
  have KE1 := Lib.hid (fun Aq nq cq W h => ke1 Aq nq cq W h)
  have KE2 := Lib.hid (fun Ap Aq np cp nq cq W h1 h2 => ke2 Ap Aq np cp nq cq W h1 h2)
  have KE3 := Lib.hid (fun Ap Aq np cp nq cq W h1 h2 => ke3 Ap Aq np cp nq cq W h1 h2)
  have KS1 := Lib.hid (fun A A2 n c n2 c2 W h1 h2 => ks1 A A2 n c n2 c2 W h1 h2)
  have KS2 := Lib.hid (fun A A2 n c n2 c2 W h1 h2 => ks2 A A2 n c n2 c2 W h1 h2)
  have hmk65 : ∀ W : World, (Instr.makeSlice 22 (.int .i64 65) (.int .i64 65)).run Tryd.prog W = .ok (.slice (some ⟨W.heap.size, 0, none⟩) 65 65) (W.alloc (.cells (madeCells #[Value.int .i64 0] 65) 3)) := fun W => make_i 65 (by omega) W
  have hmk4096 : ∀ W : World, (Instr.makeSlice 22 (.int .i64 4096) (.int .i64 4096)).run Tryd.prog W = .ok (.slice (some ⟨W.heap.size, 0, none⟩) 4096 4096) (W.alloc (.cells (madeCells #[Value.int .i64 0] 4096) 3)) := fun W => make_i 4096 (by omega) W
  have S0 := St.start w
  go_enter Tryd.func5, Tryd.ntmps5
  go_wp2_with fail
  refine (KC0.out _).mono ?_
  rintro e w1 ⟨rfl, hb1⟩
  have S1 := S0.keep hb1
  have S2 := (S1.box #[.int .i64 0, .int .i64 0, .int .i64 0] 3).addRd (n := 3) (xs := ([0, 0, 0] : List Int).map (Value.int .i64)) (rd_of_blk (Blk.new _ 3 #[.int .i64 0, .int .i64 0, .int .i64 0]))
  simp only [List.nil_append, List.cons_append] at S2
  clear S1
  go_wp2_with fail
  refine (KM.out _ _ _ _).mono ?_
  rintro e w3 ⟨rfl, hb3⟩
  have S3 := S2.keep hb3
  clear S2
  go_wp2_with fail
  refine (KC1.out _ _ _ _ (S3.rd 1 rfl)).mono ?_
  rintro e w4 ⟨rfl, hb4⟩
  have S4 := S3.keep hb4
  clear S3
  have S5 := (S4.box #[.int .i64 0, .int .i64 0, .int .i64 0, .int .i64 16] 3).addRd (n := 4) (xs := ([0, 0, 0, 16] : List Int).map (Value.int .i64)) (rd_of_blk (Blk.new _ 3 #[.int .i64 0, .int .i64 0, .int .i64 0, .int .i64 16]))
  simp only [List.nil_append, List.cons_append] at S5
  clear S4
  go_wp2_with fail
  refine (KM.out _ _ _ _).mono ?_
  rintro e w6 ⟨rfl, hb6⟩
  have S6 := S5.keep hb6
  clear S5
  go_wp2_with fail
  refine (KC2.out _ _ _ _ (S6.rd 3 rfl)).mono ?_
  rintro e w7 ⟨rfl, hb7⟩
  have S7 := S6.keep hb7
  clear S6
  have S8 := (S7.box #[.int .i64 0, .int .i64 (-1), .int .i64 0, .int .i64 0] 3).addRd (n := 4) (xs := ([0, -1, 0, 0] : List Int).map (Value.int .i64)) (rd_of_blk (Blk.new _ 3 #[.int .i64 0, .int .i64 (-1), .int .i64 0, .int .i64 0]))
  simp only [List.nil_append, List.cons_append] at S8
  clear S7
  go_wp2_with fail
  refine (KM.out _ _ _ _).mono ?_
  rintro e w9 ⟨rfl, hb9⟩
  have S9 := S8.keep hb9
  clear S8
  go_wp2_with fail
  refine (KC3.out _ _ _ _ (S9.rd 5 rfl)).mono ?_
  rintro e w10 ⟨rfl, hb10⟩
  have S10 := S9.keep hb10
  clear S9
  have S11 := (S10.box (madeCells #[Value.int .i64 0] 65) 3).addRd (rdi_mk 65 _)
  simp only [List.nil_append, List.cons_append] at S11
  clear S10
  go_wp2_with fail
  refine (KC4.out _ _ _ _ (S11.rd 7 rfl)).mono ?_
  rintro e w12 ⟨rfl, hb12⟩
  have S12 := S11.keep hb12
  clear S11
  have S13 := (S12.box (madeCells #[Value.int .i64 0] 4096) 3).addRd (rdi_mk 4096 _)
  simp only [List.nil_append, List.cons_append] at S13
  clear S12
  go_wp2_with fail
  refine (KC5.out _ _ _ _ (S13.rd 9 rfl)).mono ?_
  rintro e w14 ⟨rfl, hb14⟩
  have S14 := S13.keep hb14
  clear S13
  have S15 := (show St w [] _ from ⟨S14.1, by simp⟩)
  clear S14
  go_wp2_with fail
  refine (KF0.out _).mono ?_
  rintro e w16 ⟨A16, n16, cc16, rfl, hb16⟩
  have S16 := (S15.keep hb16).alloc (.cells #[.int .i64 0, .int .i64 0, .slice A16 n16 cc16] 24)
  clear S15
  go_wp2_with fail
  refine (KP.out _).mono ?_
  rintro e w17 ⟨A17, n17, cc17, rfl, hr17, hb17⟩
  have S17 := (S16.keep hb17).addRd hr17
  clear hr17 S16
  simp only [List.nil_append, List.cons_append] at S17
  have S18 := (S17.box #[.int .i64 0] 3).addRd (n := 1) (xs := ([0] : List Int).map (Value.int .i64)) (rd_of_blk (Blk.new _ 3 #[.int .i64 0]))
  simp only [List.nil_append, List.cons_append] at S18
  clear S17
  have S19 := (S18.box #[.int .i64 0, .int .i64 1] 3).addRd (n := 2) (xs := ([0, 1] : List Int).map (Value.int .i64)) (rd_of_blk (Blk.new _ 3 #[.int .i64 0, .int .i64 1]))
  simp only [size_alloc1, List.nil_append, List.cons_append] at S19
  clear S18
  go_wp2_with fail
  refine (KB1.out _ _ _ _ _ _ _ _ _ _ (S19.rd 0 rfl) (S19.rd 2 rfl) (S19.rd 4 rfl)).mono ?_
  rintro e w20 ⟨A20, n20, cc20, rfl, hb20⟩
  have S20 := (S19.keep hb20).alloc (.cells #[.int .i64 0, .int .i64 0, .slice A20 n20 cc20] 24)
  clear S19
  have S21 := (show St w [] _ from ⟨S20.1, by simp⟩)
  clear S20
  go_wp2_with fail
  refine (KP.out _).mono ?_
  rintro e w22 ⟨A22, n22, cc22, rfl, hr22, hb22⟩
  have S22 := (S21.keep hb22).addRd hr22
  clear hr22 S21
  simp only [List.nil_append, List.cons_append] at S22
  have S23 := (S22.box #[.int .i64 0, .int .i64 16] 3).addRd (n := 2) (xs := ([0, 16] : List Int).map (Value.int .i64)) (rd_of_blk (Blk.new _ 3 #[.int .i64 0, .int .i64 16]))
  simp only [List.nil_append, List.cons_append] at S23
  clear S22
  have S24 := (S23.box #[.int .i64 0, .int .i64 1] 3).addRd (n := 2) (xs := ([0, 1] : List Int).map (Value.int .i64)) (rd_of_blk (Blk.new _ 3 #[.int .i64 0, .int .i64 1]))
  simp only [size_alloc1, List.nil_append, List.cons_append] at S24
  clear S23
  go_wp2_with fail
  refine (KB2.out _ _ _ _ _ _ _ _ _ _ (S24.rd 0 rfl) (S24.rd 2 rfl) (S24.rd 4 rfl)).mono ?_
  rintro e w25 ⟨A25, n25, cc25, rfl, hb25⟩
  have S25 := (S24.keep hb25).alloc (.cells #[.int .i64 0, .int .i64 0, .slice A25 n25 cc25] 24)
  clear S24
  have S26 := (show St w [] _ from ⟨S25.1, by simp⟩)
  clear S25
  go_wp2_with fail
  refine (KP.out _).mono ?_
  rintro e w27 ⟨A27, n27, cc27, rfl, hr27, hb27⟩
  have S27 := (S26.keep hb27).addRd hr27
  clear hr27 S26
  simp only [List.nil_append, List.cons_append] at S27
  have S28 := (S27.box #[.int .i64 0, .int .i64 16] 3).addRd (n := 2) (xs := ([0, 16] : List Int).map (Value.int .i64)) (rd_of_blk (Blk.new _ 3 #[.int .i64 0, .int .i64 16]))
  simp only [List.nil_append, List.cons_append] at S28
  clear S27
  have S29 := (S28.box #[.int .i64 0] 3).addRd (n := 1) (xs := ([0] : List Int).map (Value.int .i64)) (rd_of_blk (Blk.new _ 3 #[.int .i64 0]))
  simp only [size_alloc1, List.nil_append, List.cons_append] at S29
  clear S28
  go_wp2_with fail
  refine (KB3.out _ _ _ _ _ _ _ _ _ _ (S29.rd 0 rfl) (S29.rd 2 rfl) (S29.rd 4 rfl)).mono ?_
  rintro e w30 ⟨A30, n30, cc30, rfl, hb30⟩
  have S30 := (S29.keep hb30).alloc (.cells #[.int .i64 0, .int .i64 0, .slice A30 n30 cc30] 24)
  clear S29
  have S31 := (show St w [] _ from ⟨S30.1, by simp⟩)
  clear S30
  have S32 := (S31.box #[.int .i64 0] 3).addRd (n := 1) (xs := ([0] : List Int).map (Value.int .i64)) (rd_of_blk (Blk.new _ 3 #[.int .i64 0]))
  simp only [size_alloc1, List.nil_append, List.cons_append] at S32
  clear S31
  go_wp2_with fail
  refine (KE1.out _ _ _ _ (S32.rd 1 rfl)).mono ?_
  rintro e w33 ⟨A33, n33, cc33, rfl, hb33⟩
  have S33 := (S32.keep hb33).alloc (.cells #[.int .i64 0, .int .i64 0, .slice A33 n33 cc33] 46)
  clear S32
  have S34 := (show St w [] _ from ⟨S33.1, by simp⟩)
  clear S33
  have S35 := (S34.box #[.int .i64 16] 3).addRd (n := 1) (xs := ([16] : List Int).map (Value.int .i64)) (rd_of_blk (Blk.new _ 3 #[.int .i64 16]))
  simp only [size_alloc1, List.nil_append, List.cons_append] at S35
  clear S34
  have S36 := (S35.box (madeCells #[Value.int .i64 0] 65) 3).addRd (rdi_mk 65 _)
  simp only [size_alloc1, List.nil_append, List.cons_append] at S36
  clear S35
  go_wp2_with fail
  refine (KE2.out _ _ _ _ _ _ _ (S36.rd 1 rfl) (S36.rd 3 rfl)).mono ?_
  rintro e w37 ⟨A37, n37, cc37, rfl, hb37⟩
  have S37 := (S36.keep hb37).alloc (.cells #[.int .i64 0, .int .i64 0, .slice A37 n37 cc37] 46)
  clear S36
  have S38 := (show St w [] _ from ⟨S37.1, by simp⟩)
  clear S37
  have S39 := (S38.box #[.int .i64 16] 3).addRd (n := 1) (xs := ([16] : List Int).map (Value.int .i64)) (rd_of_blk (Blk.new _ 3 #[.int .i64 16]))
  simp only [size_alloc1, List.nil_append, List.cons_append] at S39
  clear S38
  have S40 := (S39.box #[.int .i64 0] 3).addRd (n := 1) (xs := ([0] : List Int).map (Value.int .i64)) (rd_of_blk (Blk.new _ 3 #[.int .i64 0]))
  simp only [size_alloc1, List.nil_append, List.cons_append] at S40
  clear S39
  go_wp2_with fail
  refine (KE3.out _ _ _ _ _ _ _ (S40.rd 1 rfl) (S40.rd 3 rfl)).mono ?_
  rintro e w41 ⟨A41, n41, cc41, rfl, hb41⟩
  have S41 := (S40.keep hb41).alloc (.cells #[.int .i64 0, .int .i64 0, .slice A41 n41 cc41] 46)
  clear S40
  have S42 := (show St w [] _ from ⟨S41.1, by simp⟩)
  clear S41
  go_wp2_with fail
  refine (KP.out _).mono ?_
  rintro e w43 ⟨A43, n43, cc43, rfl, hr43, hb43⟩
  have S43 := (S42.keep hb43).addRd hr43
  clear hr43 S42
  simp only [List.nil_append, List.cons_append] at S43
  have S44 := (S43.box #[.int .i64 0, .int .i64 1] 3).addRd (n := 2) (xs := ([0, 1] : List Int).map (Value.int .i64)) (rd_of_blk (Blk.new _ 3 #[.int .i64 0, .int .i64 1]))
  simp only [List.nil_append, List.cons_append] at S44
  clear S43
  have S45 := (S44.box #[.int .i64 2, .int .i64 3] 3).addRd (n := 2) (xs := ([2, 3] : List Int).map (Value.int .i64)) (rd_of_blk (Blk.new _ 3 #[.int .i64 2, .int .i64 3]))
  simp only [size_alloc1, List.nil_append, List.cons_append] at S45
  clear S44
  go_wp2_with fail
  refine (KB4.out _ _ _ _ _ _ _ _ _ _ (S45.rd 0 rfl) (S45.rd 2 rfl) (S45.rd 4 rfl)).mono ?_
  rintro e w46 ⟨A46, n46, cc46, rfl, hown46, hb46⟩
  simp only at hown46 ⊢
  have S46 := ((S45.keep hb46).addRd (rd_of_own hown46)).box #[.int .i64 2, .int .i64 2, .slice A46 n46 cc46] 24
  clear hown46 S45
  simp only [List.nil_append, List.cons_append] at S46
  have S47 := (((show St w [] _ from ⟨S46.1, by simp⟩)).addRd (S46.rd 5 rfl)).addBlk (S46.blk 6 rfl)
  simp only [List.nil_append, List.cons_append] at S47
  clear S46
  go_wp2_with fail
  have SU := S47.box (txts.map str).toArray 9
  simp only [size_alloc1, List.nil_append, List.cons_append] at SU
  clear S47
  have SV : St w [.rd A46 n46 (([1, 2, 3, 0] : List Int).map (Value.int .i64)), .blk w46.heap.size 24 #[.int .i64 2, .int .i64 2, .slice A46 n46 cc46], .blk (w46.heap.size + 1) 9 (txts.map str).toArray] _ := SU
  clear SU
  go_loopw [19] (fun v wr => ∃ k : Nat, k ≤ 8 ∧ v = .int .i64 k ∧ St w [.rd A46 n46 (([1, 2, 3, 0] : List Int).map (Value.int .i64)), .blk w46.heap.size 24 #[.int .i64 2, .int .i64 2, .slice A46 n46 cc46], .blk (w46.heap.size + 1) 9 (txts.map str).toArray] wr) (fun v _ => 8 - (intOf v).toNat)
  case atStart => exact ⟨0, by omega, rfl, SV⟩
  case round =>
    clear SV
    obtain ⟨k, hk, rfl, SL⟩ := hrel
    by_cases hlt : k < 8
    · have hcell : wr.cell? ⟨w46.heap.size + 1, k, none⟩ = some (str (txts.getD k [])) := by
        rw [(SL.blk 2 rfl).cell k]
        have : k < txts.length := hlt
        simp [List.getD_eq_getElem?_getD, this]
      have HK := Lib.hid (KPB.out k hlt)
      generalize txts.getD k [] = tx at *
      have hk1 : (k : Int) < 8 := by omega
      go_wp2_with fail
      refine (HK.out _).mono ?_
      rintro e wx ⟨Ax, nx, cx, rfl, hbx⟩
      have SX := (SL.keep hbx).alloc (.cells #[.int .i64 0, .int .i64 0, .slice Ax nx cx] 24)
      go_wp2_with fail
      go_roundw
      case rel => exact ⟨k + 1, by omega, by push_cast; rfl, SX⟩
      case measure => simp [intOf]; omega
    · obtain rfl : k = 8 := by omega
      go_wp2_with fail
      refine (KPG.out _).mono ?_
      rintro e w48 ⟨A48, n48, cc48, rfl, hown48, hb48⟩
      simp only at hown48 ⊢
      have S48 := ((SL.keep hb48).addRd (rd_of_own hown48)).box #[.int .i64 2, .int .i64 2, .slice A48 n48 cc48] 24
      clear hown48 SL
      simp only [List.nil_append, List.cons_append] at S48
      have S49 := (S48.box #[.int .i64 1, .int .i64 2, .int .i64 15, .int .i64 0] 3).addRd (n := 4) (xs := ([1, 2, 15, 0] : List Int).map (Value.int .i64)) (rd_of_blk (Blk.new _ 3 #[.int .i64 1, .int .i64 2, .int .i64 15, .int .i64 0]))
      simp only [size_alloc1, List.nil_append, List.cons_append] at S49
      clear S48
      go_wp2_with fail
      refine (KM.out _ _ _ _).mono ?_
      rintro e w50 ⟨rfl, hb50⟩
      have S50 := S49.keep hb50
      clear S49
      go_wp2_with fail
      refine (KT.out _ _ (S50.rd 6 rfl)).mono ?_
      rintro e w51 ⟨rfl, hb51⟩
      have S51 := S50.keep hb51
      clear S50
      have S52 := (S51.box #[.int .i64 1, .int .i64 2, .int .i64 15, .int .i64 1] 3).addRd (n := 4) (xs := ([1, 2, 15, 1] : List Int).map (Value.int .i64)) (rd_of_blk (Blk.new _ 3 #[.int .i64 1, .int .i64 2, .int .i64 15, .int .i64 1]))
      simp only [List.nil_append, List.cons_append] at S52
      clear S51
      go_wp2_with fail
      refine (KM.out _ _ _ _).mono ?_
      rintro e w53 ⟨rfl, hb53⟩
      have S53 := S52.keep hb53
      clear S52
      go_wp2_with fail
      refine (KN.out _ _ _ _ (S53.rd 8 rfl)).mono ?_
      rintro e w54 ⟨A54, n54, cc54, rfl, hown54, hb54⟩
      simp only at hown54 ⊢
      obtain rfl : n54 = 16 := by have := hown54.1; simpa using this.symm
      have S54 := (S53.keep hb54).addRd (rd_of_own hown54)
      simp only [List.nil_append, List.cons_append] at S54
      clear S53
      obtain ⟨gb, go, hAk, hgl, hgc⟩ := (S54.rd 9 rfl).at_ (by omega)
      subst hAk
      clear hgl hgc hown54
      have S55 := ((((((show St w [] _ from ⟨S54.1, by simp⟩)).addRd (S54.rd 0 rfl)).addBlk (S54.blk 1 rfl)).addRd (S54.rd 3 rfl)).addBlk (S54.blk 4 rfl)).addRd (S54.rd 9 rfl)
      simp only [List.nil_append, List.cons_append] at S55
      clear S54
      have SD := S55.drew
      clear S55
      go_upto_region 20 with fail
      refine wp_region_held_drew (S := (fun w' => w'.cell? ⟨w46.heap.size, 0, none⟩ = some (.int .i64 2) ∧ w'.cell? ⟨w46.heap.size, 1, none⟩ = some (.int .i64 2) ∧ w'.cell? ⟨w46.heap.size, 2, none⟩ = some (.slice A46 n46 cc46) ∧ w'.cell? ⟨w48.heap.size, 0, none⟩ = some (.int .i64 2) ∧ w'.cell? ⟨w48.heap.size, 1, none⟩ = some (.int .i64 2) ∧ w'.cell? ⟨w48.heap.size, 2, none⟩ = some (.slice A48 n48 cc48) ∧ w'.cell? ⟨gb, go + 1, none⟩ = some (.int .i64 2) ∧ w'.cell? ⟨gb, go + 2, none⟩ = some (.int .i64 1) ∧ w'.cell? ⟨gb, go + 15, none⟩ = some (.int .i64 1) ∧ w'.cell? ⟨gb, go, none⟩ = some (.int .i64 0))) (by kernel_rfl) ?_ (fun hHeld => ?_)
      · (try dsimp only); exact ⟨(SD.blk 1 rfl).cell3.1, (SD.blk 1 rfl).cell3.2.1, (SD.blk 1 rfl).cell3.2.2, (SD.blk 3 rfl).cell3.1, (SD.blk 3 rfl).cell3.2.1, (SD.blk 3 rfl).cell3.2.2, (SD.rd 4 rfl).lit 1 _ rfl, (SD.rd 4 rfl).lit 2 _ rfl, (SD.rd 4 rfl).lit 15 _ rfl, (SD.rd 4 rfl).lit 0 _ rfl⟩
      refine man_take 0 144 (v := ?_) ⟨_, rfl, rfl⟩ (by as_aux_lemma => kernel_rfl) (by as_aux_lemma => kernel_rfl) (by as_aux_lemma => kernel_rfl) (fun _ _ _ h => h) (by assumption) ?_ ?_
      rotate_left
      · intro oi ho; cases ho; refine ⟨by rfl, ?_⟩; intro w hSw; (try dsimp only at hSw); go_simp; try with_reducible rfl
      (try simp only [Act.put, List.setIfInBounds_toArray, List.set_cons_zero, List.set_cons_succ])
      refine man_run 1 rfl (by as_aux_lemma => kernel_rfl) (fun K hK => ?_)
      go_simp
      refine (KA.out _).mono ?_
      rintro e w901 ⟨rfl, hb901⟩
      replace SD := SD.keep hb901
      go_wp2_with fail
      refine hK.out _ _ ?_ (fun hHeld => ?_)
      · (try dsimp only); exact ⟨(SD.blk 1 rfl).cell3.1, (SD.blk 1 rfl).cell3.2.1, (SD.blk 1 rfl).cell3.2.2, (SD.blk 3 rfl).cell3.1, (SD.blk 3 rfl).cell3.2.1, (SD.blk 3 rfl).cell3.2.2, (SD.rd 4 rfl).lit 1 _ rfl, (SD.rd 4 rfl).lit 2 _ rfl, (SD.rd 4 rfl).lit 15 _ rfl, (SD.rd 4 rfl).lit 0 _ rfl⟩
      clear hK K
      (try simp only [Act.put, List.setIfInBounds_toArray, List.set_cons_zero, List.set_cons_succ])
      refine man_take 2 146 (v := ?_) ⟨_, rfl, rfl⟩ (by as_aux_lemma => kernel_rfl) (by as_aux_lemma => kernel_rfl) (by as_aux_lemma => kernel_rfl) (fun _ _ _ h => h) (by assumption) ?_ ?_
      rotate_left
      · intro oi ho; cases ho; refine ⟨by rfl, ?_⟩; intro w hSw; (try dsimp only at hSw); go_simp; try with_reducible rfl
      (try simp only [Act.put, List.setIfInBounds_toArray, List.set_cons_zero, List.set_cons_succ])
      refine man_take 3 147 (v := ?_) ⟨_, rfl, rfl⟩ (by as_aux_lemma => kernel_rfl) (by as_aux_lemma => kernel_rfl) (by as_aux_lemma => kernel_rfl) (fun _ _ _ h => h) (by assumption) ?_ ?_
      rotate_left
      · intro oi ho; cases ho; refine ⟨by rfl, ?_⟩; intro w hSw; (try dsimp only at hSw); go_simp; try with_reducible rfl
      (try simp only [Act.put, List.setIfInBounds_toArray, List.set_cons_zero, List.set_cons_succ])
      refine man_take 4 148 (v := ?_) ⟨_, rfl, rfl⟩ (by as_aux_lemma => kernel_rfl) (by as_aux_lemma => kernel_rfl) (by as_aux_lemma => kernel_rfl) (fun _ _ _ h => h) (by assumption) ?_ ?_
      rotate_left
      · intro oi ho; cases ho; refine ⟨by rfl, ?_⟩; intro w hSw; (try dsimp only at hSw); go_simp; try with_reducible rfl
      (try simp only [Act.put, List.setIfInBounds_toArray, List.set_cons_zero, List.set_cons_succ])
      refine man_take 5 149 (v := ?_) ⟨_, rfl, rfl⟩ (by as_aux_lemma => kernel_rfl) (by as_aux_lemma => kernel_rfl) (by as_aux_lemma => kernel_rfl) (fun _ _ _ h => h) (by assumption) ?_ ?_
      rotate_left
      · intro oi ho; cases ho; refine ⟨by rfl, ?_⟩; intro w hSw; (try dsimp only at hSw); go_simp; try with_reducible rfl
      (try simp only [Act.put, List.setIfInBounds_toArray, List.set_cons_zero, List.set_cons_succ])
      refine man_take 6 150 (v := ?_) ⟨_, rfl, rfl⟩ (by as_aux_lemma => kernel_rfl) (by as_aux_lemma => kernel_rfl) (by as_aux_lemma => kernel_rfl) (fun _ _ _ h => h) (by assumption) ?_ ?_
      rotate_left
      · intro oi ho; cases ho; refine ⟨by rfl, ?_⟩; intro w hSw; (try dsimp only at hSw); go_simp; try with_reducible rfl
      (try simp only [Act.put, List.setIfInBounds_toArray, List.set_cons_zero, List.set_cons_succ])
      refine man_take 7 151 (v := ?_) ⟨_, rfl, rfl⟩ (by as_aux_lemma => kernel_rfl) (by as_aux_lemma => kernel_rfl) (by as_aux_lemma => kernel_rfl) (fun _ _ _ h => h) (by assumption) ?_ ?_
      rotate_left
      · intro oi ho; cases ho; refine ⟨by rfl, ?_⟩; intro w hSw; (try dsimp only at hSw); go_simp; try with_reducible rfl
      (try simp only [Act.put, List.setIfInBounds_toArray, List.set_cons_zero, List.set_cons_succ])
      refine man_take 8 152 (v := ?_) ⟨_, rfl, rfl⟩ (by as_aux_lemma => kernel_rfl) (by as_aux_lemma => kernel_rfl) (by as_aux_lemma => kernel_rfl) (fun _ _ _ h => h) (by assumption) ?_ ?_
      rotate_left
      · intro oi ho; cases ho; refine ⟨by rfl, ?_⟩; intro w hSw; (try dsimp only at hSw); go_simp; try with_reducible rfl
      (try simp only [Act.put, List.setIfInBounds_toArray, List.set_cons_zero, List.set_cons_succ])
      refine man_take 9 153 (v := ?_) ⟨_, rfl, rfl⟩ (by as_aux_lemma => kernel_rfl) (by as_aux_lemma => kernel_rfl) (by as_aux_lemma => kernel_rfl) (fun _ _ _ h => h) (by assumption) ?_ ?_
      rotate_left
      · intro oi ho; cases ho; refine ⟨by rfl, ?_⟩; intro w hSw; (try dsimp only at hSw); go_simp; try with_reducible rfl
      (try simp only [Act.put, List.setIfInBounds_toArray, List.set_cons_zero, List.set_cons_succ])
      refine man_take 10 154 (v := ?_) ⟨_, rfl, rfl⟩ (by as_aux_lemma => kernel_rfl) (by as_aux_lemma => kernel_rfl) (by as_aux_lemma => kernel_rfl) (fun _ _ _ h => h) (by assumption) ?_ ?_
      rotate_left
      · intro oi ho; cases ho; refine ⟨by rfl, ?_⟩; intro w hSw; (try dsimp only at hSw); go_simp; try with_reducible rfl
      (try simp only [Act.put, List.setIfInBounds_toArray, List.set_cons_zero, List.set_cons_succ])
      refine man_take 11 155 (v := ?_) ⟨_, rfl, rfl⟩ (by as_aux_lemma => kernel_rfl) (by as_aux_lemma => kernel_rfl) (by as_aux_lemma => kernel_rfl) (fun _ _ _ h => h) (by assumption) ?_ ?_
      rotate_left
      · intro oi ho; cases ho; refine ⟨by rfl, ?_⟩; intro w hSw; (try dsimp only at hSw); go_simp; try with_reducible rfl
      (try simp only [Act.put, List.setIfInBounds_toArray, List.set_cons_zero, List.set_cons_succ])
      refine man_take 12 156 (v := ?_) ⟨_, rfl, rfl⟩ (by as_aux_lemma => kernel_rfl) (by as_aux_lemma => kernel_rfl) (by as_aux_lemma => kernel_rfl) (fun _ _ _ h => h) (by assumption) ?_ ?_
      rotate_left
      · intro oi ho; cases ho; refine ⟨by rfl, ?_⟩; intro w hSw; (try dsimp only at hSw); go_simp; try with_reducible rfl
      (try simp only [Act.put, List.setIfInBounds_toArray, List.set_cons_zero, List.set_cons_succ])
      refine man_take 13 157 (v := ?_) ⟨_, rfl, rfl⟩ (by as_aux_lemma => kernel_rfl) (by as_aux_lemma => kernel_rfl) (by as_aux_lemma => kernel_rfl) (fun _ _ _ h => h) (by assumption) ?_ ?_
      rotate_left
      · intro oi ho; cases ho; refine ⟨by rfl, ?_⟩; intro w hSw; (try dsimp only at hSw); go_simp; try with_reducible rfl
      (try simp only [Act.put, List.setIfInBounds_toArray, List.set_cons_zero, List.set_cons_succ])
      refine man_take 14 158 (v := ?_) ⟨_, rfl, rfl⟩ (by as_aux_lemma => kernel_rfl) (by as_aux_lemma => kernel_rfl) (by as_aux_lemma => kernel_rfl) (fun _ _ _ h => h) (by assumption) ?_ ?_
      rotate_left
      · intro oi ho; cases ho; refine ⟨by rfl, ?_⟩; intro w hSw; (try dsimp only at hSw); go_simp; try with_reducible rfl
      (try simp only [Act.put, List.setIfInBounds_toArray, List.set_cons_zero, List.set_cons_succ])
      refine man_take 15 159 (v := ?_) ⟨_, rfl, rfl⟩ (by as_aux_lemma => kernel_rfl) (by as_aux_lemma => kernel_rfl) (by as_aux_lemma => kernel_rfl) (fun _ _ _ h => h) (by assumption) ?_ ?_
      rotate_left
      · intro oi ho; cases ho; refine ⟨by rfl, ?_⟩; intro w hSw; (try dsimp only at hSw); go_simp; try with_reducible rfl
      (try simp only [Act.put, List.setIfInBounds_toArray, List.set_cons_zero, List.set_cons_succ])
      refine man_take 16 160 (v := ?_) ⟨_, rfl, rfl⟩ (by as_aux_lemma => kernel_rfl) (by as_aux_lemma => kernel_rfl) (by as_aux_lemma => kernel_rfl) (fun _ _ _ h => h) (by assumption) ?_ ?_
      rotate_left
      · intro oi ho; cases ho; refine ⟨by rfl, ?_⟩; intro w hSw; (try dsimp only at hSw); go_simp; try with_reducible rfl
      (try simp only [Act.put, List.setIfInBounds_toArray, List.set_cons_zero, List.set_cons_succ])
      refine man_take 17 161 (v := ?_) ⟨_, rfl, rfl⟩ (by as_aux_lemma => kernel_rfl) (by as_aux_lemma => kernel_rfl) (by as_aux_lemma => kernel_rfl) (fun _ _ _ h => h) (by assumption) ?_ ?_
      rotate_left
      · intro oi ho; cases ho; refine ⟨by rfl, ?_⟩; intro w hSw; (try dsimp only at hSw); go_simp; try with_reducible rfl
      (try simp only [Act.put, List.setIfInBounds_toArray, List.set_cons_zero, List.set_cons_succ])
      refine man_take 18 162 (v := ?_) ⟨_, rfl, rfl⟩ (by as_aux_lemma => kernel_rfl) (by as_aux_lemma => kernel_rfl) (by as_aux_lemma => kernel_rfl) (fun _ _ _ h => h) (by assumption) ?_ ?_
      rotate_left
      · intro oi ho; cases ho; refine ⟨by rfl, ?_⟩; intro w hSw; (try dsimp only at hSw); go_simp; try with_reducible rfl
      (try simp only [Act.put, List.setIfInBounds_toArray, List.set_cons_zero, List.set_cons_succ])
      refine man_take 19 163 (v := ?_) ⟨_, rfl, rfl⟩ (by as_aux_lemma => kernel_rfl) (by as_aux_lemma => kernel_rfl) (by as_aux_lemma => kernel_rfl) (fun _ _ _ h => h) (by assumption) ?_ ?_
      rotate_left
      · intro oi ho; cases ho; refine ⟨by rfl, ?_⟩; intro w hSw; (try dsimp only at hSw); go_simp; try with_reducible rfl
      (try simp only [Act.put, List.setIfInBounds_toArray, List.set_cons_zero, List.set_cons_succ])
      refine man_take 20 164 (v := ?_) ⟨_, rfl, rfl⟩ (by as_aux_lemma => kernel_rfl) (by as_aux_lemma => kernel_rfl) (by as_aux_lemma => kernel_rfl) (fun _ _ _ h => h) (by assumption) ?_ ?_
      rotate_left
      · intro oi ho; cases ho; refine ⟨by rfl, ?_⟩; intro w hSw; (try dsimp only at hSw); go_simp; try with_reducible rfl
      (try simp only [Act.put, List.setIfInBounds_toArray, List.set_cons_zero, List.set_cons_succ])
      refine man_take 21 165 (v := ?_) ⟨_, rfl, rfl⟩ (by as_aux_lemma => kernel_rfl) (by as_aux_lemma => kernel_rfl) (by as_aux_lemma => kernel_rfl) (fun _ _ _ h => h) (by assumption) ?_ ?_
      rotate_left
      · intro oi ho; cases ho; refine ⟨by rfl, ?_⟩; intro w hSw; (try dsimp only at hSw); go_simp; try with_reducible rfl
      (try simp only [Act.put, List.setIfInBounds_toArray, List.set_cons_zero, List.set_cons_succ])
      refine man_take 22 166 (v := ?_) ⟨_, rfl, rfl⟩ (by as_aux_lemma => kernel_rfl) (by as_aux_lemma => kernel_rfl) (by as_aux_lemma => kernel_rfl) (fun _ _ _ h => h) (by assumption) ?_ ?_
      rotate_left
      · intro oi ho; cases ho; refine ⟨by rfl, ?_⟩; intro w hSw; (try dsimp only at hSw); go_simp; try with_reducible rfl
      (try simp only [Act.put, List.setIfInBounds_toArray, List.set_cons_zero, List.set_cons_succ])
      refine man_take 23 167 (v := ?_) ⟨_, rfl, rfl⟩ (by as_aux_lemma => kernel_rfl) (by as_aux_lemma => kernel_rfl) (by as_aux_lemma => kernel_rfl) (fun _ _ _ h => h) (by assumption) ?_ ?_
      rotate_left
      · intro oi ho; cases ho; refine ⟨by rfl, ?_⟩; intro w hSw; (try dsimp only at hSw); go_simp; try with_reducible rfl
      (try simp only [Act.put, List.setIfInBounds_toArray, List.set_cons_zero, List.set_cons_succ])
      refine man_take 24 168 (v := ?_) ⟨_, rfl, rfl⟩ (by as_aux_lemma => kernel_rfl) (by as_aux_lemma => kernel_rfl) (by as_aux_lemma => kernel_rfl) (fun _ _ _ h => h) (by assumption) ?_ ?_
      rotate_left
      · intro oi ho; cases ho; refine ⟨by rfl, ?_⟩; intro w hSw; (try dsimp only at hSw); go_simp; try with_reducible rfl
      (try simp only [Act.put, List.setIfInBounds_toArray, List.set_cons_zero, List.set_cons_succ])
      refine man_take 25 169 (v := ?_) ⟨_, rfl, rfl⟩ (by as_aux_lemma => kernel_rfl) (by as_aux_lemma => kernel_rfl) (by as_aux_lemma => kernel_rfl) (fun _ _ _ h => h) (by assumption) ?_ ?_
      rotate_left
      · intro oi ho; cases ho; refine ⟨by rfl, ?_⟩; intro w hSw; (try dsimp only at hSw); go_simp; try with_reducible rfl
      (try simp only [Act.put, List.setIfInBounds_toArray, List.set_cons_zero, List.set_cons_succ])
      refine man_take 26 170 (v := ?_) ⟨_, rfl, rfl⟩ (by as_aux_lemma => kernel_rfl) (by as_aux_lemma => kernel_rfl) (by as_aux_lemma => kernel_rfl) (fun _ _ _ h => h) (by assumption) ?_ ?_
      rotate_left
      · intro oi ho; cases ho; refine ⟨by rfl, ?_⟩; intro w hSw; (try dsimp only at hSw); go_simp; try with_reducible rfl
      (try simp only [Act.put, List.setIfInBounds_toArray, List.set_cons_zero, List.set_cons_succ])
      refine man_take 27 171 (v := ?_) ⟨_, rfl, rfl⟩ (by as_aux_lemma => kernel_rfl) (by as_aux_lemma => kernel_rfl) (by as_aux_lemma => kernel_rfl) (fun _ _ _ h => h) (by assumption) ?_ ?_
      rotate_left
      · intro oi ho; cases ho; refine ⟨by rfl, ?_⟩; intro w hSw; (try dsimp only at hSw); go_simp; try with_reducible rfl
      (try simp only [Act.put, List.setIfInBounds_toArray, List.set_cons_zero, List.set_cons_succ])
      refine man_take 28 172 (v := ?_) ⟨_, rfl, rfl⟩ (by as_aux_lemma => kernel_rfl) (by as_aux_lemma => kernel_rfl) (by as_aux_lemma => kernel_rfl) (fun _ _ _ h => h) (by assumption) ?_ ?_
      rotate_left
      · intro oi ho; cases ho; refine ⟨by rfl, ?_⟩; intro w hSw; (try dsimp only at hSw); go_simp; try with_reducible rfl
      (try simp only [Act.put, List.setIfInBounds_toArray, List.set_cons_zero, List.set_cons_succ])
      refine man_take 29 173 (v := ?_) ⟨_, rfl, rfl⟩ (by as_aux_lemma => kernel_rfl) (by as_aux_lemma => kernel_rfl) (by as_aux_lemma => kernel_rfl) (fun _ _ _ h => h) (by assumption) ?_ ?_
      rotate_left
      · intro oi ho; cases ho; refine ⟨by rfl, ?_⟩; intro w hSw; (try dsimp only at hSw); go_simp; try with_reducible rfl
      (try simp only [Act.put, List.setIfInBounds_toArray, List.set_cons_zero, List.set_cons_succ])
      refine man_take 30 174 (v := ?_) ⟨_, rfl, rfl⟩ (by as_aux_lemma => kernel_rfl) (by as_aux_lemma => kernel_rfl) (by as_aux_lemma => kernel_rfl) (fun _ _ _ h => h) (by assumption) ?_ ?_
      rotate_left
      · intro oi ho; cases ho; refine ⟨by rfl, ?_⟩; intro w hSw; (try dsimp only at hSw); go_simp; try with_reducible rfl
      (try simp only [Act.put, List.setIfInBounds_toArray, List.set_cons_zero, List.set_cons_succ])
      refine man_take 31 175 (v := ?_) ⟨_, rfl, rfl⟩ (by as_aux_lemma => kernel_rfl) (by as_aux_lemma => kernel_rfl) (by as_aux_lemma => kernel_rfl) (fun _ _ _ h => h) (by assumption) ?_ ?_
      rotate_left
      · intro oi ho; cases ho; refine ⟨by rfl, ?_⟩; intro w hSw; (try dsimp only at hSw); go_simp; try with_reducible rfl
      (try simp only [Act.put, List.setIfInBounds_toArray, List.set_cons_zero, List.set_cons_succ])
      refine man_take 32 176 (v := ?_) ⟨_, rfl, rfl⟩ (by as_aux_lemma => kernel_rfl) (by as_aux_lemma => kernel_rfl) (by as_aux_lemma => kernel_rfl) (fun _ _ _ h => h) (by assumption) ?_ ?_
      rotate_left
      · intro oi ho; cases ho; refine ⟨by rfl, ?_⟩; intro w hSw; (try dsimp only at hSw); go_simp; try with_reducible rfl
      (try simp only [Act.put, List.setIfInBounds_toArray, List.set_cons_zero, List.set_cons_succ])
      refine man_take 33 177 (v := ?_) ⟨_, rfl, rfl⟩ (by as_aux_lemma => kernel_rfl) (by as_aux_lemma => kernel_rfl) (by as_aux_lemma => kernel_rfl) (fun _ _ _ h => h) (by assumption) ?_ ?_
      rotate_left
      · intro oi ho; cases ho; refine ⟨by rfl, ?_⟩; intro w hSw; (try dsimp only at hSw); go_simp; try with_reducible rfl
      (try simp only [Act.put, List.setIfInBounds_toArray, List.set_cons_zero, List.set_cons_succ])
      refine man_take 34 178 (v := ?_) ⟨_, rfl, rfl⟩ (by as_aux_lemma => kernel_rfl) (by as_aux_lemma => kernel_rfl) (by as_aux_lemma => kernel_rfl) (fun _ _ _ h => h) (by assumption) ?_ ?_
      rotate_left
      · intro oi ho; cases ho; refine ⟨by rfl, ?_⟩; intro w hSw; (try dsimp only at hSw); go_simp; try with_reducible rfl
      (try simp only [Act.put, List.setIfInBounds_toArray, List.set_cons_zero, List.set_cons_succ])
      refine man_take 35 179 (v := ?_) ⟨_, rfl, rfl⟩ (by as_aux_lemma => kernel_rfl) (by as_aux_lemma => kernel_rfl) (by as_aux_lemma => kernel_rfl) (fun _ _ _ h => h) (by assumption) ?_ ?_
      rotate_left
      · intro oi ho; cases ho; refine ⟨by rfl, ?_⟩; intro w hSw; (try dsimp only at hSw); go_simp; try with_reducible rfl
      (try simp only [Act.put, List.setIfInBounds_toArray, List.set_cons_zero, List.set_cons_succ])
      refine man_take 36 180 (v := ?_) ⟨_, rfl, rfl⟩ (by as_aux_lemma => kernel_rfl) (by as_aux_lemma => kernel_rfl) (by as_aux_lemma => kernel_rfl) (fun _ _ _ h => h) (by assumption) ?_ ?_
      rotate_left
      · intro oi ho; cases ho; refine ⟨by rfl, ?_⟩; intro w hSw; (try dsimp only at hSw); go_simp; try with_reducible rfl
      (try simp only [Act.put, List.setIfInBounds_toArray, List.set_cons_zero, List.set_cons_succ])
      refine man_take 37 181 (v := ?_) ⟨_, rfl, rfl⟩ (by as_aux_lemma => kernel_rfl) (by as_aux_lemma => kernel_rfl) (by as_aux_lemma => kernel_rfl) (fun _ _ _ h => h) (by assumption) ?_ ?_
      rotate_left
      · intro oi ho; cases ho; refine ⟨by rfl, ?_⟩; intro w hSw; (try dsimp only at hSw); go_simp; try with_reducible rfl
      (try simp only [Act.put, List.setIfInBounds_toArray, List.set_cons_zero, List.set_cons_succ])
      refine man_take 38 182 (v := ?_) ⟨_, rfl, rfl⟩ (by as_aux_lemma => kernel_rfl) (by as_aux_lemma => kernel_rfl) (by as_aux_lemma => kernel_rfl) (fun _ _ _ h => h) (by assumption) ?_ ?_
      rotate_left
      · intro oi ho; cases ho; refine ⟨by rfl, ?_⟩; intro w hSw; (try dsimp only at hSw); go_simp; try with_reducible rfl
      (try simp only [Act.put, List.setIfInBounds_toArray, List.set_cons_zero, List.set_cons_succ])
      refine man_take 39 183 (v := ?_) ⟨_, rfl, rfl⟩ (by as_aux_lemma => kernel_rfl) (by as_aux_lemma => kernel_rfl) (by as_aux_lemma => kernel_rfl) (fun _ _ _ h => h) (by assumption) ?_ ?_
      rotate_left
      · intro oi ho; cases ho; refine ⟨by rfl, ?_⟩; intro w hSw; (try dsimp only at hSw); go_simp; try with_reducible rfl
      (try simp only [Act.put, List.setIfInBounds_toArray, List.set_cons_zero, List.set_cons_succ])
      refine man_run 40 rfl (by as_aux_lemma => kernel_rfl) (fun K hK => ?_)
      go_simp
      replace SD := ((SD.box #[.int .i64 1, .int .i64 2, .int .i64 3, .int .i64 0] 3).addRd (n := 4) (xs := (([1, 2, 3, 0] : List Int).map (Value.int .i64))) (rd_of_blk (Blk.new _ 3 #[.int .i64 1, .int .i64 2, .int .i64 3, .int .i64 0])))
      simp only [size_alloc1, List.nil_append, List.cons_append] at SD
      refine hK.out _ _ ?_ (fun hHeld => ?_)
      · (try dsimp only); exact ⟨(SD.blk 1 rfl).cell3.1, (SD.blk 1 rfl).cell3.2.1, (SD.blk 1 rfl).cell3.2.2, (SD.blk 3 rfl).cell3.1, (SD.blk 3 rfl).cell3.2.1, (SD.blk 3 rfl).cell3.2.2, (SD.rd 4 rfl).lit 1 _ rfl, (SD.rd 4 rfl).lit 2 _ rfl, (SD.rd 4 rfl).lit 15 _ rfl, (SD.rd 4 rfl).lit 0 _ rfl⟩
      clear hK K
      (try simp only [Act.put, List.setIfInBounds_toArray, List.set_cons_zero, List.set_cons_succ])
      refine man_run 41 rfl (by as_aux_lemma => kernel_rfl) (fun K hK => ?_)
      go_simp
      refine (KM.out _ _ _ _).mono ?_
      rintro e w902 ⟨rfl, hb902⟩
      replace SD := SD.keep hb902
      go_wp2_with fail
      refine hK.out _ _ ?_ (fun hHeld => ?_)
      · (try dsimp only); exact ⟨(SD.blk 1 rfl).cell3.1, (SD.blk 1 rfl).cell3.2.1, (SD.blk 1 rfl).cell3.2.2, (SD.blk 3 rfl).cell3.1, (SD.blk 3 rfl).cell3.2.1, (SD.blk 3 rfl).cell3.2.2, (SD.rd 4 rfl).lit 1 _ rfl, (SD.rd 4 rfl).lit 2 _ rfl, (SD.rd 4 rfl).lit 15 _ rfl, (SD.rd 4 rfl).lit 0 _ rfl⟩
      clear hK K
      (try simp only [Act.put, List.setIfInBounds_toArray, List.set_cons_zero, List.set_cons_succ])
      refine man_run 42 rfl (by as_aux_lemma => kernel_rfl) (fun K hK => ?_)
      go_simp
      refine (KS1.out _ _ _ _ _ _ _ (SD.rd 0 rfl) (SD.rd 6 rfl)).mono ?_
      rintro e w903 ⟨rfl, hb903⟩
      replace SD := SD.keep hb903
      go_wp2_with fail
      refine hK.out _ _ ?_ (fun hHeld => ?_)
      · (try dsimp only); exact ⟨(SD.blk 1 rfl).cell3.1, (SD.blk 1 rfl).cell3.2.1, (SD.blk 1 rfl).cell3.2.2, (SD.blk 3 rfl).cell3.1, (SD.blk 3 rfl).cell3.2.1, (SD.blk 3 rfl).cell3.2.2, (SD.rd 4 rfl).lit 1 _ rfl, (SD.rd 4 rfl).lit 2 _ rfl, (SD.rd 4 rfl).lit 15 _ rfl, (SD.rd 4 rfl).lit 0 _ rfl⟩
      clear hK K
      (try simp only [Act.put, List.setIfInBounds_toArray, List.set_cons_zero, List.set_cons_succ])
      refine man_take 43 187 (v := ?_) ⟨_, rfl, rfl⟩ (by as_aux_lemma => kernel_rfl) (by as_aux_lemma => kernel_rfl) (by as_aux_lemma => kernel_rfl) (fun _ _ _ h => h) (by assumption) ?_ ?_
      rotate_left
      · intro oi ho; cases ho; refine ⟨by rfl, ?_⟩; intro w hSw; (try dsimp only at hSw); go_simp; try with_reducible rfl
      (try simp only [Act.put, List.setIfInBounds_toArray, List.set_cons_zero, List.set_cons_succ])
      refine man_take 44 188 (v := ?_) ⟨_, rfl, rfl⟩ (by as_aux_lemma => kernel_rfl) (by as_aux_lemma => kernel_rfl) (by as_aux_lemma => kernel_rfl) (fun _ _ _ h => h) (by assumption) ?_ ?_
      rotate_left
      · intro oi ho; cases ho; refine ⟨by rfl, ?_⟩; intro w hSw; (try dsimp only at hSw); go_simp; try with_reducible rfl
      (try simp only [Act.put, List.setIfInBounds_toArray, List.set_cons_zero, List.set_cons_succ])
      refine man_take 45 189 (v := ?_) ⟨_, rfl, rfl⟩ (by as_aux_lemma => kernel_rfl) (by as_aux_lemma => kernel_rfl) (by as_aux_lemma => kernel_rfl) (fun _ _ _ h => h) (by assumption) ?_ ?_
      rotate_left
      · intro oi ho; cases ho; refine ⟨by rfl, ?_⟩; intro w hSw; (try dsimp only at hSw); go_simp; try with_reducible rfl
      (try simp only [Act.put, List.setIfInBounds_toArray, List.set_cons_zero, List.set_cons_succ])
      refine man_take 46 190 (v := ?_) ⟨_, rfl, rfl⟩ (by as_aux_lemma => kernel_rfl) (by as_aux_lemma => kernel_rfl) (by as_aux_lemma => kernel_rfl) (fun _ _ _ h => h) (by assumption) ?_ ?_
      rotate_left
      · intro oi ho; cases ho; refine ⟨by rfl, ?_⟩; intro w hSw; (try dsimp only at hSw); go_simp; try with_reducible rfl
      (try simp only [Act.put, List.setIfInBounds_toArray, List.set_cons_zero, List.set_cons_succ])
      refine man_take 47 191 (v := ?_) ⟨_, rfl, rfl⟩ (by as_aux_lemma => kernel_rfl) (by as_aux_lemma => kernel_rfl) (by as_aux_lemma => kernel_rfl) (fun _ _ _ h => h) (by assumption) ?_ ?_
      rotate_left
      · intro oi ho; cases ho; refine ⟨by rfl, ?_⟩; intro w hSw; (try dsimp only at hSw); go_simp; try with_reducible rfl
      (try simp only [Act.put, List.setIfInBounds_toArray, List.set_cons_zero, List.set_cons_succ])
      refine man_take 48 192 (v := ?_) ⟨_, rfl, rfl⟩ (by as_aux_lemma => kernel_rfl) (by as_aux_lemma => kernel_rfl) (by as_aux_lemma => kernel_rfl) (fun _ _ _ h => h) (by assumption) ?_ ?_
      rotate_left
      · intro oi ho; cases ho; refine ⟨by rfl, ?_⟩; intro w hSw; (try dsimp only at hSw); go_simp; try with_reducible rfl
      (try simp only [Act.put, List.setIfInBounds_toArray, List.set_cons_zero, List.set_cons_succ])
      refine man_take 49 193 (v := ?_) ⟨_, rfl, rfl⟩ (by as_aux_lemma => kernel_rfl) (by as_aux_lemma => kernel_rfl) (by as_aux_lemma => kernel_rfl) (fun _ _ _ h => h) (by assumption) ?_ ?_
      rotate_left
      · intro oi ho; cases ho; refine ⟨by rfl, ?_⟩; intro w hSw; (try dsimp only at hSw); go_simp; try with_reducible rfl
      (try simp only [Act.put, List.setIfInBounds_toArray, List.set_cons_zero, List.set_cons_succ])
      refine man_run 50 rfl (by as_aux_lemma => kernel_rfl) (fun K hK => ?_)
      go_simp
      replace SD := ((SD.box #[.int .i64 1, .int .i64 2, .int .i64 15, .int .i64 0] 3).addRd (n := 4) (xs := (([1, 2, 15, 0] : List Int).map (Value.int .i64))) (rd_of_blk (Blk.new _ 3 #[.int .i64 1, .int .i64 2, .int .i64 15, .int .i64 0])))
      simp only [size_alloc1, List.nil_append, List.cons_append] at SD
      refine hK.out _ _ ?_ (fun hHeld => ?_)
      · (try dsimp only); exact ⟨(SD.blk 1 rfl).cell3.1, (SD.blk 1 rfl).cell3.2.1, (SD.blk 1 rfl).cell3.2.2, (SD.blk 3 rfl).cell3.1, (SD.blk 3 rfl).cell3.2.1, (SD.blk 3 rfl).cell3.2.2, (SD.rd 4 rfl).lit 1 _ rfl, (SD.rd 4 rfl).lit 2 _ rfl, (SD.rd 4 rfl).lit 15 _ rfl, (SD.rd 4 rfl).lit 0 _ rfl⟩
      clear hK K
      (try simp only [Act.put, List.setIfInBounds_toArray, List.set_cons_zero, List.set_cons_succ])
      refine man_run 51 rfl (by as_aux_lemma => kernel_rfl) (fun K hK => ?_)
      go_simp
      refine (KM.out _ _ _ _).mono ?_
      rintro e w904 ⟨rfl, hb904⟩
      replace SD := SD.keep hb904
      go_wp2_with fail
      refine hK.out _ _ ?_ (fun hHeld => ?_)
      · (try dsimp only); exact ⟨(SD.blk 1 rfl).cell3.1, (SD.blk 1 rfl).cell3.2.1, (SD.blk 1 rfl).cell3.2.2, (SD.blk 3 rfl).cell3.1, (SD.blk 3 rfl).cell3.2.1, (SD.blk 3 rfl).cell3.2.2, (SD.rd 4 rfl).lit 1 _ rfl, (SD.rd 4 rfl).lit 2 _ rfl, (SD.rd 4 rfl).lit 15 _ rfl, (SD.rd 4 rfl).lit 0 _ rfl⟩
      clear hK K
      (try simp only [Act.put, List.setIfInBounds_toArray, List.set_cons_zero, List.set_cons_succ])
      refine man_run 52 rfl (by as_aux_lemma => kernel_rfl) (fun K hK => ?_)
      go_simp
      refine (KS2.out _ _ _ _ _ _ _ (SD.rd 2 rfl) (SD.rd 8 rfl)).mono ?_
      rintro e w905 ⟨rfl, hb905⟩
      replace SD := SD.keep hb905
      go_wp2_with fail
      refine hK.out _ _ ?_ (fun hHeld => ?_)
      · (try dsimp only); exact ⟨(SD.blk 1 rfl).cell3.1, (SD.blk 1 rfl).cell3.2.1, (SD.blk 1 rfl).cell3.2.2, (SD.blk 3 rfl).cell3.1, (SD.blk 3 rfl).cell3.2.1, (SD.blk 3 rfl).cell3.2.2, (SD.rd 4 rfl).lit 1 _ rfl, (SD.rd 4 rfl).lit 2 _ rfl, (SD.rd 4 rfl).lit 15 _ rfl, (SD.rd 4 rfl).lit 0 _ rfl⟩
      clear hK K
      (try simp only [Act.put, List.setIfInBounds_toArray, List.set_cons_zero, List.set_cons_succ])
      refine man_take 53 197 (v := ?_) ⟨_, rfl, rfl⟩ (by as_aux_lemma => kernel_rfl) (by as_aux_lemma => kernel_rfl) (by as_aux_lemma => kernel_rfl) (fun _ _ _ h => h) (by assumption) ?_ ?_
      rotate_left
      · intro oi ho; cases ho; refine ⟨by rfl, ?_⟩; intro w hSw; (try dsimp only at hSw); go_simp; try with_reducible rfl
      (try simp only [Act.put, List.setIfInBounds_toArray, List.set_cons_zero, List.set_cons_succ])
      refine man_take 54 198 (v := ?_) ⟨_, rfl, rfl⟩ (by as_aux_lemma => kernel_rfl) (by as_aux_lemma => kernel_rfl) (by as_aux_lemma => kernel_rfl) (fun _ _ _ h => h) (by assumption) ?_ ?_
      rotate_left
      · intro oi ho; cases ho; refine ⟨by rfl, ?_⟩; intro w hSw; (try dsimp only at hSw); go_simp; try with_reducible rfl
      (try simp only [Act.put, List.setIfInBounds_toArray, List.set_cons_zero, List.set_cons_succ])
      refine man_take 55 199 (v := ?_) ⟨_, rfl, rfl⟩ (by as_aux_lemma => kernel_rfl) (by as_aux_lemma => kernel_rfl) (by as_aux_lemma => kernel_rfl) (fun _ _ _ h => h) (by assumption) ?_ ?_
      rotate_left
      · intro oi ho; cases ho; refine ⟨by rfl, ?_⟩; intro w hSw; (try dsimp only at hSw); go_simp; try with_reducible rfl
      (try simp only [Act.put, List.setIfInBounds_toArray, List.set_cons_zero, List.set_cons_succ])
      refine man_take 56 200 (v := ?_) ⟨_, rfl, rfl⟩ (by as_aux_lemma => kernel_rfl) (by as_aux_lemma => kernel_rfl) (by as_aux_lemma => kernel_rfl) (fun _ _ _ h => h) (by assumption) ?_ ?_
      rotate_left
      · intro oi ho; cases ho; refine ⟨by rfl, ?_⟩; intro w hSw; (try dsimp only at hSw); go_simp; try with_reducible rfl
      (try simp only [Act.put, List.setIfInBounds_toArray, List.set_cons_zero, List.set_cons_succ])
      refine man_take 57 201 (v := ?_) ⟨_, rfl, rfl⟩ (by as_aux_lemma => kernel_rfl) (by as_aux_lemma => kernel_rfl) (by as_aux_lemma => kernel_rfl) (fun _ _ _ h => h) (by assumption) ?_ ?_
      rotate_left
      · intro oi ho; cases ho; refine ⟨by rfl, ?_⟩; intro w hSw; (try dsimp only at hSw); go_simp; try with_reducible rfl
      (try simp only [Act.put, List.setIfInBounds_toArray, List.set_cons_zero, List.set_cons_succ])
      refine man_take 58 202 (v := ?_) ⟨_, rfl, rfl⟩ (by as_aux_lemma => kernel_rfl) (by as_aux_lemma => kernel_rfl) (by as_aux_lemma => kernel_rfl) (fun _ _ _ h => h) (by assumption) ?_ ?_
      rotate_left
      · intro oi ho; cases ho; refine ⟨by rfl, ?_⟩; intro w hSw; (try dsimp only at hSw); go_simp; try with_reducible rfl
      (try simp only [Act.put, List.setIfInBounds_toArray, List.set_cons_zero, List.set_cons_succ])
      refine man_take 59 203 (v := ?_) ⟨_, rfl, rfl⟩ (by as_aux_lemma => kernel_rfl) (by as_aux_lemma => kernel_rfl) (by as_aux_lemma => kernel_rfl) (fun _ _ _ h => h) (by assumption) ?_ ?_
      rotate_left
      · intro oi ho; cases ho; refine ⟨by rfl, ?_⟩; intro w hSw; (try dsimp only at hSw); go_simp; try with_reducible rfl
      (try simp only [Act.put, List.setIfInBounds_toArray, List.set_cons_zero, List.set_cons_succ])
      refine man_take 60 204 (v := ?_) ⟨_, rfl, rfl⟩ (by as_aux_lemma => kernel_rfl) (by as_aux_lemma => kernel_rfl) (by as_aux_lemma => kernel_rfl) (fun _ _ _ h => h) (by assumption) ?_ ?_
      rotate_left
      · intro oi ho; cases ho; refine ⟨by rfl, ?_⟩; intro w hSw; (try dsimp only at hSw); go_simp; try with_reducible rfl
      (try simp only [Act.put, List.setIfInBounds_toArray, List.set_cons_zero, List.set_cons_succ])
      refine man_take 61 205 (v := ?_) ⟨_, rfl, rfl⟩ (by as_aux_lemma => kernel_rfl) (by as_aux_lemma => kernel_rfl) (by as_aux_lemma => kernel_rfl) (fun _ _ _ h => h) (by assumption) ?_ ?_
      rotate_left
      · intro oi ho; cases ho; refine ⟨by rfl, ?_⟩; intro w hSw; (try dsimp only at hSw); go_simp; try with_reducible rfl
      (try simp only [Act.put, List.setIfInBounds_toArray, List.set_cons_zero, List.set_cons_succ])
      refine man_take 62 206 (v := ?_) ⟨_, rfl, rfl⟩ (by as_aux_lemma => kernel_rfl) (by as_aux_lemma => kernel_rfl) (by as_aux_lemma => kernel_rfl) (fun _ _ _ h => h) (by assumption) ?_ ?_
      rotate_left
      · intro oi ho; cases ho; refine ⟨by rfl, ?_⟩; intro w hSw; (try dsimp only at hSw); go_simp; try with_reducible rfl
      (try simp only [Act.put, List.setIfInBounds_toArray, List.set_cons_zero, List.set_cons_succ])
      refine man_take 63 207 (v := ?_) ⟨_, rfl, rfl⟩ (by as_aux_lemma => kernel_rfl) (by as_aux_lemma => kernel_rfl) (by as_aux_lemma => kernel_rfl) (fun _ _ _ h => h) (by assumption) ?_ ?_
      rotate_left
      · intro oi ho; cases ho; refine ⟨by rfl, ?_⟩; intro w hSw; (try dsimp only at hSw); go_simp; try with_reducible rfl
      (try simp only [Act.put, List.setIfInBounds_toArray, List.set_cons_zero, List.set_cons_succ])
      refine man_take 64 208 (v := ?_) ⟨_, rfl, rfl⟩ (by as_aux_lemma => kernel_rfl) (by as_aux_lemma => kernel_rfl) (by as_aux_lemma => kernel_rfl) (fun _ _ _ h => h) (by assumption) ?_ ?_
      rotate_left
      · intro oi ho; cases ho; refine ⟨by rfl, ?_⟩; intro w hSw; (try dsimp only at hSw); go_simp; try with_reducible rfl
      (try simp only [Act.put, List.setIfInBounds_toArray, List.set_cons_zero, List.set_cons_succ])
      refine man_take 65 209 (v := ?_) ⟨_, rfl, rfl⟩ (by as_aux_lemma => kernel_rfl) (by as_aux_lemma => kernel_rfl) (by as_aux_lemma => kernel_rfl) (fun _ _ _ h => h) (by assumption) ?_ ?_
      rotate_left
      · intro oi ho; cases ho; refine ⟨by rfl, ?_⟩; intro w hSw; (try dsimp only at hSw); go_simp; try with_reducible rfl
      (try simp only [Act.put, List.setIfInBounds_toArray, List.set_cons_zero, List.set_cons_succ])
      refine man_take 66 210 (v := ?_) ⟨_, rfl, rfl⟩ (by as_aux_lemma => kernel_rfl) (by as_aux_lemma => kernel_rfl) (by as_aux_lemma => kernel_rfl) (fun _ _ _ h => h) (by assumption) ?_ ?_
      rotate_left
      · intro oi ho; cases ho; refine ⟨by rfl, ?_⟩; intro w hSw; (try dsimp only at hSw); go_simp; try with_reducible rfl
      (try simp only [Act.put, List.setIfInBounds_toArray, List.set_cons_zero, List.set_cons_succ])
      refine man_take 67 211 (v := ?_) ⟨_, rfl, rfl⟩ (by as_aux_lemma => kernel_rfl) (by as_aux_lemma => kernel_rfl) (by as_aux_lemma => kernel_rfl) (fun _ _ _ h => h) (by assumption) ?_ ?_
      rotate_left
      · intro oi ho; cases ho; refine ⟨by rfl, ?_⟩; intro w hSw; (try dsimp only at hSw); go_simp; try with_reducible rfl
      (try simp only [Act.put, List.setIfInBounds_toArray, List.set_cons_zero, List.set_cons_succ])
      refine man_take 68 212 (v := ?_) ⟨_, rfl, rfl⟩ (by as_aux_lemma => kernel_rfl) (by as_aux_lemma => kernel_rfl) (by as_aux_lemma => kernel_rfl) (fun _ _ _ h => h) (by assumption) ?_ ?_
      rotate_left
      · intro oi ho; cases ho; refine ⟨by rfl, ?_⟩; intro w hSw; (try dsimp only at hSw); go_simp; try with_reducible rfl
      (try simp only [Act.put, List.setIfInBounds_toArray, List.set_cons_zero, List.set_cons_succ])
      refine man_take 69 213 (v := ?_) ⟨_, rfl, rfl⟩ (by as_aux_lemma => kernel_rfl) (by as_aux_lemma => kernel_rfl) (by as_aux_lemma => kernel_rfl) (fun _ _ _ h => h) (by assumption) ?_ ?_
      rotate_left
      · intro oi ho; cases ho; refine ⟨by rfl, ?_⟩; intro w hSw; (try dsimp only at hSw); go_simp; try with_reducible rfl
      (try simp only [Act.put, List.setIfInBounds_toArray, List.set_cons_zero, List.set_cons_succ])
      refine man_take 70 214 (v := ?_) ⟨_, rfl, rfl⟩ (by as_aux_lemma => kernel_rfl) (by as_aux_lemma => kernel_rfl) (by as_aux_lemma => kernel_rfl) (fun _ _ _ h => h) (by assumption) ?_ ?_
      rotate_left
      · intro oi ho; cases ho; refine ⟨by rfl, ?_⟩; intro w hSw; (try dsimp only at hSw); go_simp; try with_reducible rfl
      (try simp only [Act.put, List.setIfInBounds_toArray, List.set_cons_zero, List.set_cons_succ])
      refine man_take 71 215 (v := ?_) ⟨_, rfl, rfl⟩ (by as_aux_lemma => kernel_rfl) (by as_aux_lemma => kernel_rfl) (by as_aux_lemma => kernel_rfl) (fun _ _ _ h => h) (by assumption) ?_ ?_
      rotate_left
      · intro oi ho; cases ho; refine ⟨by rfl, ?_⟩; intro w hSw; (try dsimp only at hSw); go_simp; try with_reducible rfl
      (try simp only [Act.put, List.setIfInBounds_toArray, List.set_cons_zero, List.set_cons_succ])
      refine man_take 72 216 (v := ?_) ⟨_, rfl, rfl⟩ (by as_aux_lemma => kernel_rfl) (by as_aux_lemma => kernel_rfl) (by as_aux_lemma => kernel_rfl) (fun _ _ _ h => h) (by assumption) ?_ ?_
      rotate_left
      · intro oi ho; cases ho; refine ⟨by rfl, ?_⟩; intro w hSw; (try dsimp only at hSw); go_simp; try with_reducible rfl
      (try simp only [Act.put, List.setIfInBounds_toArray, List.set_cons_zero, List.set_cons_succ])
      refine man_take 73 217 (v := ?_) ⟨_, rfl, rfl⟩ (by as_aux_lemma => kernel_rfl) (by as_aux_lemma => kernel_rfl) (by as_aux_lemma => kernel_rfl) (fun _ _ _ h => h) (by assumption) ?_ ?_
      rotate_left
      · intro oi ho; cases ho; refine ⟨by rfl, ?_⟩; intro w hSw; (try dsimp only at hSw); go_simp; try with_reducible rfl
      (try simp only [Act.put, List.setIfInBounds_toArray, List.set_cons_zero, List.set_cons_succ])
      refine man_take 74 218 (v := ?_) ⟨_, rfl, rfl⟩ (by as_aux_lemma => kernel_rfl) (by as_aux_lemma => kernel_rfl) (by as_aux_lemma => kernel_rfl) (fun _ _ _ h => h) (by assumption) ?_ ?_
      rotate_left
      · intro oi ho; cases ho; refine ⟨by rfl, ?_⟩; intro w hSw; (try dsimp only at hSw); go_simp; try with_reducible rfl
      (try simp only [Act.put, List.setIfInBounds_toArray, List.set_cons_zero, List.set_cons_succ])
      refine man_take 75 219 (v := ?_) ⟨_, rfl, rfl⟩ (by as_aux_lemma => kernel_rfl) (by as_aux_lemma => kernel_rfl) (by as_aux_lemma => kernel_rfl) (fun _ _ _ h => h) (by assumption) ?_ ?_
      rotate_left
      · intro oi ho; cases ho; refine ⟨by rfl, ?_⟩; intro w hSw; (try dsimp only at hSw); go_simp; try with_reducible rfl
      (try simp only [Act.put, List.setIfInBounds_toArray, List.set_cons_zero, List.set_cons_succ])
      refine man_take 76 220 (v := ?_) ⟨_, rfl, rfl⟩ (by as_aux_lemma => kernel_rfl) (by as_aux_lemma => kernel_rfl) (by as_aux_lemma => kernel_rfl) (fun _ _ _ h => h) (by assumption) ?_ ?_
      rotate_left
      · intro oi ho; cases ho; refine ⟨by rfl, ?_⟩; intro w hSw; (try dsimp only at hSw); go_simp; try with_reducible rfl
      (try simp only [Act.put, List.setIfInBounds_toArray, List.set_cons_zero, List.set_cons_succ])
      refine man_take 77 221 (v := ?_) ⟨_, rfl, rfl⟩ (by as_aux_lemma => kernel_rfl) (by as_aux_lemma => kernel_rfl) (by as_aux_lemma => kernel_rfl) (fun _ _ _ h => h) (by assumption) ?_ ?_
      rotate_left
      · intro oi ho; cases ho; refine ⟨by rfl, ?_⟩; intro w hSw; (try dsimp only at hSw); go_simp; try with_reducible rfl
      (try simp only [Act.put, List.setIfInBounds_toArray, List.set_cons_zero, List.set_cons_succ])
      refine man_take 78 222 (v := ?_) ⟨_, rfl, rfl⟩ (by as_aux_lemma => kernel_rfl) (by as_aux_lemma => kernel_rfl) (by as_aux_lemma => kernel_rfl) (fun _ _ _ h => h) (by assumption) ?_ ?_
      rotate_left
      · intro oi ho; cases ho; refine ⟨by rfl, ?_⟩; intro w hSw; (try dsimp only at hSw); go_simp; try with_reducible rfl
      (try simp only [Act.put, List.setIfInBounds_toArray, List.set_cons_zero, List.set_cons_succ])
      refine man_take 79 223 (v := ?_) ⟨_, rfl, rfl⟩ (by as_aux_lemma => kernel_rfl) (by as_aux_lemma => kernel_rfl) (by as_aux_lemma => kernel_rfl) (fun _ _ _ h => h) (by assumption) ?_ ?_
      rotate_left
      · intro oi ho; cases ho; refine ⟨by rfl, ?_⟩; intro w hSw; (try dsimp only at hSw); go_simp; try with_reducible rfl
      (try simp only [Act.put, List.setIfInBounds_toArray, List.set_cons_zero, List.set_cons_succ])
      refine man_take 80 224 (v := ?_) ⟨_, rfl, rfl⟩ (by as_aux_lemma => kernel_rfl) (by as_aux_lemma => kernel_rfl) (by as_aux_lemma => kernel_rfl) (fun _ _ _ h => h) (by assumption) ?_ ?_
      rotate_left
      · intro oi ho; cases ho; refine ⟨by rfl, ?_⟩; intro w hSw; (try dsimp only at hSw); go_simp; try with_reducible rfl
      (try simp only [Act.put, List.setIfInBounds_toArray, List.set_cons_zero, List.set_cons_succ])
      refine man_take 81 225 (v := ?_) ⟨_, rfl, rfl⟩ (by as_aux_lemma => kernel_rfl) (by as_aux_lemma => kernel_rfl) (by as_aux_lemma => kernel_rfl) (fun _ _ _ h => h) (by assumption) ?_ ?_
      rotate_left
      · intro oi ho; cases ho; refine ⟨by rfl, ?_⟩; intro w hSw; (try dsimp only at hSw); go_simp; try with_reducible rfl
      (try simp only [Act.put, List.setIfInBounds_toArray, List.set_cons_zero, List.set_cons_succ])
      refine man_take 82 226 (v := ?_) ⟨_, rfl, rfl⟩ (by as_aux_lemma => kernel_rfl) (by as_aux_lemma => kernel_rfl) (by as_aux_lemma => kernel_rfl) (fun _ _ _ h => h) (by assumption) ?_ ?_
      rotate_left
      · intro oi ho; cases ho; refine ⟨by rfl, ?_⟩; intro w hSw; (try dsimp only at hSw); go_simp; try with_reducible rfl
      (try simp only [Act.put, List.setIfInBounds_toArray, List.set_cons_zero, List.set_cons_succ])
      refine man_take 83 227 (v := ?_) ⟨_, rfl, rfl⟩ (by as_aux_lemma => kernel_rfl) (by as_aux_lemma => kernel_rfl) (by as_aux_lemma => kernel_rfl) (fun _ _ _ h => h) (by assumption) ?_ ?_
      rotate_left
      · intro oi ho; cases ho; refine ⟨by rfl, ?_⟩; intro w hSw; (try dsimp only at hSw); go_simp; try with_reducible rfl
      (try simp only [Act.put, List.setIfInBounds_toArray, List.set_cons_zero, List.set_cons_succ])
      refine man_take 84 228 (v := ?_) ⟨_, rfl, rfl⟩ (by as_aux_lemma => kernel_rfl) (by as_aux_lemma => kernel_rfl) (by as_aux_lemma => kernel_rfl) (fun _ _ _ h => h) (by assumption) ?_ ?_
      rotate_left
      · intro oi ho; cases ho; refine ⟨by rfl, ?_⟩; intro w hSw; (try dsimp only at hSw); go_simp; try with_reducible rfl
      (try simp only [Act.put, List.setIfInBounds_toArray, List.set_cons_zero, List.set_cons_succ])
      refine man_take 85 229 (v := ?_) ⟨_, rfl, rfl⟩ (by as_aux_lemma => kernel_rfl) (by as_aux_lemma => kernel_rfl) (by as_aux_lemma => kernel_rfl) (fun _ _ _ h => h) (by assumption) ?_ ?_
      rotate_left
      · intro oi ho; cases ho; refine ⟨by rfl, ?_⟩; intro w hSw; (try dsimp only at hSw); go_simp; try with_reducible rfl
      (try simp only [Act.put, List.setIfInBounds_toArray, List.set_cons_zero, List.set_cons_succ])
      refine man_take 86 230 (v := ?_) ⟨_, rfl, rfl⟩ (by as_aux_lemma => kernel_rfl) (by as_aux_lemma => kernel_rfl) (by as_aux_lemma => kernel_rfl) (fun _ _ _ h => h) (by assumption) ?_ ?_
      rotate_left
      · intro oi ho; cases ho; refine ⟨by rfl, ?_⟩; intro w hSw; (try dsimp only at hSw); go_simp; try with_reducible rfl
      (try simp only [Act.put, List.setIfInBounds_toArray, List.set_cons_zero, List.set_cons_succ])
      refine man_take 87 231 (v := ?_) ⟨_, rfl, rfl⟩ (by as_aux_lemma => kernel_rfl) (by as_aux_lemma => kernel_rfl) (by as_aux_lemma => kernel_rfl) (fun _ _ _ h => h) (by assumption) ?_ ?_
      rotate_left
      · intro oi ho; cases ho; refine ⟨by rfl, ?_⟩; intro w hSw; (try dsimp only at hSw); go_simp; try with_reducible rfl
      (try simp only [Act.put, List.setIfInBounds_toArray, List.set_cons_zero, List.set_cons_succ])
      refine man_take 88 232 (v := ?_) ⟨_, rfl, rfl⟩ (by as_aux_lemma => kernel_rfl) (by as_aux_lemma => kernel_rfl) (by as_aux_lemma => kernel_rfl) (fun _ _ _ h => h) (by assumption) ?_ ?_
      rotate_left
      · intro oi ho; cases ho; refine ⟨by rfl, ?_⟩; intro w hSw; (try dsimp only at hSw); go_simp; try with_reducible rfl
      (try simp only [Act.put, List.setIfInBounds_toArray, List.set_cons_zero, List.set_cons_succ])
      refine man_take 89 233 (v := ?_) ⟨_, rfl, rfl⟩ (by as_aux_lemma => kernel_rfl) (by as_aux_lemma => kernel_rfl) (by as_aux_lemma => kernel_rfl) (fun _ _ _ h => h) (by assumption) ?_ ?_
      rotate_left
      · intro oi ho; cases ho; refine ⟨by rfl, ?_⟩; intro w hSw; (try dsimp only at hSw); go_simp; try with_reducible rfl
      (try simp only [Act.put, List.setIfInBounds_toArray, List.set_cons_zero, List.set_cons_succ])
      refine man_take 90 234 (v := ?_) ⟨_, rfl, rfl⟩ (by as_aux_lemma => kernel_rfl) (by as_aux_lemma => kernel_rfl) (by as_aux_lemma => kernel_rfl) (fun _ _ _ h => h) (by assumption) ?_ ?_
      rotate_left
      · intro oi ho; cases ho; refine ⟨by rfl, ?_⟩; intro w hSw; (try dsimp only at hSw); go_simp; try with_reducible rfl
      (try simp only [Act.put, List.setIfInBounds_toArray, List.set_cons_zero, List.set_cons_succ])
      refine man_take 91 235 (v := ?_) ⟨_, rfl, rfl⟩ (by as_aux_lemma => kernel_rfl) (by as_aux_lemma => kernel_rfl) (by as_aux_lemma => kernel_rfl) (fun _ _ _ h => h) (by assumption) ?_ ?_
      rotate_left
      · intro oi ho; cases ho; refine ⟨by rfl, ?_⟩; intro w hSw; (try dsimp only at hSw); go_simp; try with_reducible rfl
      (try simp only [Act.put, List.setIfInBounds_toArray, List.set_cons_zero, List.set_cons_succ])
      refine man_take 92 236 (v := ?_) ⟨_, rfl, rfl⟩ (by as_aux_lemma => kernel_rfl) (by as_aux_lemma => kernel_rfl) (by as_aux_lemma => kernel_rfl) (fun _ _ _ h => h) (by assumption) ?_ ?_
      rotate_left
      · intro oi ho; cases ho; refine ⟨by rfl, ?_⟩; intro w hSw; (try dsimp only at hSw); go_simp; try with_reducible rfl
      (try simp only [Act.put, List.setIfInBounds_toArray, List.set_cons_zero, List.set_cons_succ])
      refine man_take 93 237 (v := ?_) ⟨_, rfl, rfl⟩ (by as_aux_lemma => kernel_rfl) (by as_aux_lemma => kernel_rfl) (by as_aux_lemma => kernel_rfl) (fun _ _ _ h => h) (by assumption) ?_ ?_
      rotate_left
      · intro oi ho; cases ho; refine ⟨by rfl, ?_⟩; intro w hSw; (try dsimp only at hSw); go_simp; try with_reducible rfl
      (try simp only [Act.put, List.setIfInBounds_toArray, List.set_cons_zero, List.set_cons_succ])
      refine man_take 94 238 (v := ?_) ⟨_, rfl, rfl⟩ (by as_aux_lemma => kernel_rfl) (by as_aux_lemma => kernel_rfl) (by as_aux_lemma => kernel_rfl) (fun _ _ _ h => h) (by assumption) ?_ ?_
      rotate_left
      · intro oi ho; cases ho; refine ⟨by rfl, ?_⟩; intro w hSw; (try dsimp only at hSw); go_simp; try with_reducible rfl
      (try simp only [Act.put, List.setIfInBounds_toArray, List.set_cons_zero, List.set_cons_succ])
      refine man_take 95 0 (v := ?_) ⟨_, rfl, rfl⟩ (by as_aux_lemma => kernel_rfl) (by as_aux_lemma => kernel_rfl) (by as_aux_lemma => kernel_rfl) (fun _ _ _ h => h) (by assumption) ?_ ?_
      rotate_left
      · intro oi ho; cases ho; refine ⟨by rfl, ?_⟩; intro w hSw; (try dsimp only at hSw); go_simp; try with_reducible rfl
      (try simp only [Act.put, List.setIfInBounds_toArray, List.set_cons_zero, List.set_cons_succ])
      refine wpAnyH_done (by kernel_rfl) ?_ _
      go_wp2_with fail
      go_ret
      exact ⟨by trivial, SD.below⟩
end Go.Proofs.YtpfonniepinjnaaDoor
