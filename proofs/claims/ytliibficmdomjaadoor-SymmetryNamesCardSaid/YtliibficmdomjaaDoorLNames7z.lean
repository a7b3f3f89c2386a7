/- The law SymmetryNames, walked: it answers true and turns nothing that was there. -/
import Derived.Test.YtliibficmdomjaaDoorNames7Kz
import Derived.Test.YtliibficmdomjaaDoorMg8z
namespace Go.Proofs.YtliibficmdomjaaDoor
open Go.RowKit

set_option linter.unusedSimpArgs false in
set_option maxHeartbeats 4000000 in
set_option maxRecDepth 100000 in
theorem names7_walk (w : World) : Calls Tryd.prog 7 #[] w fun e w' => e = .returned (.bool true) ∧ Below w.heap.size w w' := by
  have KCnr := Lib.hid (fun W => kc_nr W)
  have KCna := Lib.hid (fun W => kc_na W)
  have KCnc := Lib.hid (fun W => kc_nc W)
  have KCnq := Lib.hid (fun W => kc_nq W)
  have KCnd := Lib.hid (fun W => kc_nd W)
  have KTW := Lib.hid (fun W => twill_to W)
  have KH8 := Lib.hid (fun A n c W hr hc => kh8 A n c W hr hc)
  have KH1 := Lib.hid (fun A n c W hr hc => kh1 A n c W hr hc)
  have KHM := Lib.hid (fun A n c W hr hc => khm A n c W hr hc)
  have KABIG := Lib.hid (fun A n c W hr hc => kabig A n c W hr hc)
  have KALBIG := Lib.hid (fun A n c W hr hc => kalbig A n c W hr hc)
  have KLBIG := Lib.hid (fun A n c W hr hc => klbig A n c W hr hc)
  have KT16 := Lib.hid (fun A n c W hr hc => kt16 A n c W hr hc)
  have KTX := Lib.hid (fun A n c W hr hc => ktx A n c W hr hc)
  have KZ0 := Lib.hid (fun W => kz0 W)
  have KCO1 := Lib.hid (fun W => kco1 W)
  have KCO2 := Lib.hid (fun W => kco2 W)
  have KIN := Lib.hid (fun W => kin W)
  have KA1 := Lib.hid (fun A n c W hr hc => all_to nr nr_s nr_l A n c W hr hc)
  have KA2 := Lib.hid (fun A A' n c n' c' W h h' hc' => alikes_to twG nc tw_s nc_s nc_l A A' n c n' c' W h h' hc')
  have KAP := Lib.hid (fun A n c W h => apply_to na 13 nb_e A n c W h)
  have KL := Lib.hid (fun A n c W hr hc => least_to (o := 8) nq nq_l rfl A n c W hr hc)
  have KS := Lib.hid (fun A A2 n c n2 c2 W h h2 => same_self nd (by decide) A A2 n c n2 c2 W h h2)
  have KLS1 := Lib.hid (fun A A' n' c c' W h h' => lsame_any [0, 1, 2, 3, 8, 9, 10, 11] A A' 8 n' c c' W h h' (by decide))
  have KLS2 := Lib.hid (fun A A' n' c c' W h h' => lsame_any [1, 2, 5, 6, 9, 10, 13, 14] A A' 8 n' c c' W h h' (by decide))
  generalize nr = nr1 at *
  generalize na = na1 at *
  generalize nc = nc1 at *
  generalize nq = nq1 at *
  generalize nd = nd1 at *
  generalize nb = nb1 at *
  generalize twG = twG1 at *
  have eb1 : nbig.w = 17 := rfl
  have eb2 : nbig.h = 1 := rfl
  have eb3 : nbig.bits = List.replicate 17 false := rfl
  rw [eb1, eb2, eb3] at KABIG KALBIG KLBIG
  have S0 := St.start w
  go_enter Tryd.func7, Tryd.ntmps7
  go_wp2_with fail
  refine (KCnr.out _).mono ?_
  rintro e w1 ⟨A1, n1, cc1, rfl, hown1, hb1⟩
  try simp only at hown1 ⊢
  have hc1 := own_le hown1
  have S1 := ((S0.keep hb1).addRd (rd_of_own hown1)).box #[.int .i64 nr1.w, .int .i64 nr1.h, .slice A1 n1 cc1] 24
  simp only [List.nil_append, List.cons_append] at S1
  clear hown1
  obtain ⟨ca0, ca1, ca2⟩ := (S1.blk 1 rfl).cell3
  go_wp2_with fail
  refine (KA1.out _ _ _ _ (S1.rd 0 rfl) hc1).mono ?_
  rintro e w2 ⟨A2, n2, cc2, rfl, hown2, hb2⟩
  obtain rfl : n2 = 8 := by have := hown2.1; simp at this; omega
  have hc2 := own_le hown2
  have S2 := (S1.keep hb2).addRd (rd_of_own hown2)
  simp only [List.nil_append, List.cons_append] at S2
  clear ca0 ca1 ca2 S1 hown2
  go_wp2_with fail
  refine (KCna.out _).mono ?_
  rintro e w3 ⟨A3, n3, cc3, rfl, hown3, hb3⟩
  have hc3 := own_le hown3
  have S3 := ((S2.keep hb3).addRd (rd_of_own hown3))
  simp only [List.nil_append, List.cons_append] at S3
  clear S2 hown3
  go_wp2_with fail
  refine (KAP.out _ _ _ _ (S3.rd 3 rfl)).mono ?_
  rintro e w4 ⟨A4, n4, cc4, rfl, hown4, hb4⟩
  try simp only at hown4 ⊢
  have hc4 := own_le hown4
  have S4 := ((S3.keep hb4).addRd (rd_of_own hown4)).box #[.int .i64 nb1.w, .int .i64 nb1.h, .slice A4 n4 cc4] 24
  simp only [List.nil_append, List.cons_append] at S4
  clear S3 hown4
  go_wp2_with fail
  refine (KTW.out _).mono ?_
  rintro e w5 ⟨A5, n5, cc5, rfl, hown5, hb5⟩
  have hc5 := own_le hown5
  have S5 := ((S4.keep hb5).addRd (rd_of_own hown5))
  simp only [List.nil_append, List.cons_append] at S5
  clear S4 hown5
  go_wp2_with fail
  refine (KH8.out _ _ _ _ (S5.rd 6 rfl) hc5).mono ?_
  rintro e w6 ⟨rfl, hb6⟩
  have S6 := (S5.keep hb6).box #[.int .i64 2, .int .i64 0] 43
  simp only [List.nil_append, List.cons_append] at S6
  clear S5
  go_wp2_with fail
  refine (KTW.out _).mono ?_
  rintro e w7 ⟨A7, n7, cc7, rfl, hown7, hb7⟩
  have hc7 := own_le hown7
  have S7 := ((S6.keep hb7).addRd (rd_of_own hown7))
  simp only [List.nil_append, List.cons_append] at S7
  clear S6 hown7
  go_wp2_with fail
  refine (KH1.out _ _ _ _ (S7.rd 8 rfl) hc7).mono ?_
  rintro e w8 ⟨rfl, hb8⟩
  have S8 := (S7.keep hb8).box #[.int .i64 0, .int .i64 0] 43
  simp only [List.nil_append, List.cons_append] at S8
  clear S7
  go_wp2_with fail
  refine (KTW.out _).mono ?_
  rintro e w9 ⟨A9, n9, cc9, rfl, hown9, hb9⟩
  have hc9 := own_le hown9
  have S9 := ((S8.keep hb9).addRd (rd_of_own hown9))
  simp only [List.nil_append, List.cons_append] at S9
  clear S8 hown9
  go_wp2_with fail
  refine (KCnc.out _).mono ?_
  rintro e w10 ⟨A10, n10, cc10, rfl, hown10, hb10⟩
  have hc10 := own_le hown10
  have S10 := ((S9.keep hb10).addRd (rd_of_own hown10))
  simp only [List.nil_append, List.cons_append] at S10
  clear S9 hown10
  go_wp2_with fail
  refine (KA2.out _ _ _ _ _ _ _ (S10.rd 10 rfl) (S10.rd 11 rfl) hc10).mono ?_
  rintro e w11 ⟨A11, n11, cc11, rfl, hown11, hb11⟩
  obtain rfl : n11 = 8 := by have := hown11.1; simp at this; omega
  have hc11 := own_le hown11
  have S11 := (S10.keep hb11).addRd (rd_of_own hown11)
  simp only [List.nil_append, List.cons_append] at S11
  clear S10 hown11
  go_wp2_with fail
  refine (KCnq.out _).mono ?_
  rintro e w12 ⟨A12, n12, cc12, rfl, hown12, hb12⟩
  have hc12 := own_le hown12
  have S12 := ((S11.keep hb12).addRd (rd_of_own hown12))
  simp only [List.nil_append, List.cons_append] at S12
  clear S11 hown12
  go_wp2_with fail
  refine (KL.out _ _ _ _ (S12.rd 13 rfl) hc12).mono ?_
  rintro e w13 ⟨A13, n13, cc13, rfl, hown13, hb13⟩
  try simp only at hown13 ⊢
  have hc13 := own_le hown13
  have S13 := ((S12.keep hb13).addRd (rd_of_own hown13)).box #[.int .i64 nd1.w, .int .i64 nd1.h, .slice A13 n13 cc13] 24
  simp only [List.nil_append, List.cons_append] at S13
  clear S12 hown13
  obtain ⟨ca0, ca1, ca2⟩ := (S13.blk 5 rfl).cell3
  go_wp2_with fail
  refine (KTX.out _ _ _ _ (S13.rd 4 rfl) hc4).mono ?_
  rintro e w14 ⟨rfl, hb14⟩
  have S14 := S13.keep hb14
  clear ca0 ca1 ca2 S13
  go_wp2_with fail
  have SD := S14.drew
  refine wp_region_held_drew (S := (fun w' => (w'.cell? ⟨w6.heap.size, 0, none⟩ = some (.int .i64 2) ∧ w'.cell? ⟨w6.heap.size, 1, none⟩ = some (.int .i64 0)) ∧ (w'.cell? ⟨w8.heap.size, 0, none⟩ = some (.int .i64 0) ∧ w'.cell? ⟨w8.heap.size, 1, none⟩ = some (.int .i64 0)) ∧ (w'.cell? ⟨w13.heap.size, 0, none⟩ = some (.int .i64 nd1.w) ∧ w'.cell? ⟨w13.heap.size, 1, none⟩ = some (.int .i64 nd1.h) ∧ w'.cell? ⟨w13.heap.size, 2, none⟩ = some (.slice A13 n13 cc13)))) (by kernel_rfl) ?_ (fun hHeld => ?_)
  · (try dsimp only); exact ⟨(SD.blk 7 rfl).cellP, (SD.blk 9 rfl).cellP, (SD.blk 15 rfl).cell3⟩
  refine man_take 0 82 (v := ?_) ⟨_, rfl, rfl⟩ (by kernel_rfl) (by kernel_rfl) (by kernel_rfl) (fun _ _ _ h => h) (by assumption) ?_ ?_
  rotate_left
  · intro oi ho; cases ho; refine ⟨by rfl, ?_⟩; intro w hSw; (try dsimp only at hSw); go_simp; try with_reducible rfl
  (try simp only [Act.put, List.setIfInBounds_toArray, List.set_cons_zero, List.set_cons_succ])
  refine man_take 1 83 (v := ?_) ⟨_, rfl, rfl⟩ (by kernel_rfl) (by kernel_rfl) (by kernel_rfl) (fun _ _ _ h => h) (by assumption) ?_ ?_
  rotate_left
  · intro oi ho; cases ho; refine ⟨by rfl, ?_⟩; intro w hSw; (try dsimp only at hSw); go_simp; try with_reducible rfl
  (try simp only [Act.put, List.setIfInBounds_toArray, List.set_cons_zero, List.set_cons_succ])
  refine man_take 2 84 (v := ?_) ⟨_, rfl, rfl⟩ (by kernel_rfl) (by kernel_rfl) (by kernel_rfl) (fun _ _ _ h => h) (by assumption) ?_ ?_
  rotate_left
  · intro oi ho; cases ho; refine ⟨by rfl, ?_⟩; intro w hSw; (try dsimp only at hSw); go_simp; try with_reducible rfl
  (try simp only [Act.put, List.setIfInBounds_toArray, List.set_cons_zero, List.set_cons_succ])
  refine man_take 3 85 (v := ?_) ⟨_, rfl, rfl⟩ (by kernel_rfl) (by kernel_rfl) (by kernel_rfl) (fun _ _ _ h => h) (by assumption) ?_ ?_
  rotate_left
  · intro oi ho; cases ho; refine ⟨by rfl, ?_⟩; intro w hSw; (try dsimp only at hSw); go_simp; try with_reducible rfl
  (try simp only [Act.put, List.setIfInBounds_toArray, List.set_cons_zero, List.set_cons_succ])
  refine man_run 4 rfl (by kernel_rfl) (fun K hK => ?_)
  go_simp
  replace SD := ((S14.box #[.int .i64 0, .int .i64 1, .int .i64 2, .int .i64 3, .int .i64 8, .int .i64 9, .int .i64 10, .int .i64 11] 3).addRd (n := 8) (xs := ([0, 1, 2, 3, 8, 9, 10, 11] : List Int).map (Value.int .i64)) (rd_of_blk (Blk.new _ 3 #[.int .i64 0, .int .i64 1, .int .i64 2, .int .i64 3, .int .i64 8, .int .i64 9, .int .i64 10, .int .i64 11]))).drew
  simp only [List.nil_append, List.cons_append] at SD
  refine hK.out _ _ ?_ (fun hHeld => ?_)
  · (try dsimp only); exact ⟨(SD.blk 7 rfl).cellP, (SD.blk 9 rfl).cellP, (SD.blk 15 rfl).cell3⟩
  clear hK K
  (try simp only [Act.put, List.setIfInBounds_toArray, List.set_cons_zero, List.set_cons_succ])
  refine man_run 5 rfl (by kernel_rfl) (fun K hK => ?_)
  go_simp
  refine (KLS1.out _ _ _ _ _ _ (SD.rd 2 rfl) (SD.rd 17 rfl)).mono ?_
  rintro e w50 ⟨rfl, hb50⟩
  replace SD := SD.keep hb50
  go_wp2_with fail
  refine hK.out _ _ ?_ (fun hHeld => ?_)
  · (try dsimp only); exact ⟨(SD.blk 7 rfl).cellP, (SD.blk 9 rfl).cellP, (SD.blk 15 rfl).cell3⟩
  clear hK K
  (try simp only [Act.put, List.setIfInBounds_toArray, List.set_cons_zero, List.set_cons_succ])
  refine man_take 6 88 (v := ?_) ⟨_, rfl, rfl⟩ (by kernel_rfl) (by kernel_rfl) (by kernel_rfl) (fun _ _ _ h => h) (by assumption) ?_ ?_
  rotate_left
  · intro oi ho; cases ho; refine ⟨by rfl, ?_⟩; intro w hSw; (try dsimp only at hSw); go_simp; try with_reducible rfl
  (try simp only [Act.put, List.setIfInBounds_toArray, List.set_cons_zero, List.set_cons_succ])
  refine man_take 7 89 (v := ?_) ⟨_, rfl, rfl⟩ (by kernel_rfl) (by kernel_rfl) (by kernel_rfl) (fun _ _ _ h => h) (by assumption) ?_ ?_
  rotate_left
  · intro oi ho; cases ho; refine ⟨by rfl, ?_⟩; intro w hSw; (try dsimp only at hSw); go_simp; try with_reducible rfl
  (try simp only [Act.put, List.setIfInBounds_toArray, List.set_cons_zero, List.set_cons_succ])
  refine man_take 8 90 (v := ?_) ⟨_, rfl, rfl⟩ (by kernel_rfl) (by kernel_rfl) (by kernel_rfl) (fun _ _ _ h => h) (by assumption) ?_ ?_
  rotate_left
  · intro oi ho; cases ho; refine ⟨by rfl, ?_⟩; intro w hSw; (try dsimp only at hSw); go_simp; try with_reducible rfl
  (try simp only [Act.put, List.setIfInBounds_toArray, List.set_cons_zero, List.set_cons_succ])
  refine man_take 9 91 (v := ?_) ⟨_, rfl, rfl⟩ (by kernel_rfl) (by kernel_rfl) (by kernel_rfl) (fun _ _ _ h => h) (by assumption) ?_ ?_
  rotate_left
  · intro oi ho; cases ho; refine ⟨by rfl, ?_⟩; intro w hSw; (try dsimp only at hSw); go_simp; try with_reducible rfl
  (try simp only [Act.put, List.setIfInBounds_toArray, List.set_cons_zero, List.set_cons_succ])
  refine man_take 10 92 (v := ?_) ⟨_, rfl, rfl⟩ (by kernel_rfl) (by kernel_rfl) (by kernel_rfl) (fun _ _ _ h => h) (by assumption) ?_ ?_
  rotate_left
  · intro oi ho; cases ho; refine ⟨by rfl, ?_⟩; intro w hSw; (try dsimp only at hSw); go_simp; try with_reducible rfl
  (try simp only [Act.put, List.setIfInBounds_toArray, List.set_cons_zero, List.set_cons_succ])
  refine man_take 11 93 (v := ?_) ⟨_, rfl, rfl⟩ (by kernel_rfl) (by kernel_rfl) (by kernel_rfl) (fun _ _ _ h => h) (by assumption) ?_ ?_
  rotate_left
  · intro oi ho; cases ho; refine ⟨by rfl, ?_⟩; intro w hSw; (try dsimp only at hSw); go_simp; try with_reducible rfl
  (try simp only [Act.put, List.setIfInBounds_toArray, List.set_cons_zero, List.set_cons_succ])
  refine man_take 12 94 (v := ?_) ⟨_, rfl, rfl⟩ (by kernel_rfl) (by kernel_rfl) (by kernel_rfl) (fun _ _ _ h => h) (by assumption) ?_ ?_
  rotate_left
  · intro oi ho; cases ho; refine ⟨by rfl, ?_⟩; intro w hSw; (try dsimp only at hSw); go_simp; try with_reducible rfl
  (try simp only [Act.put, List.setIfInBounds_toArray, List.set_cons_zero, List.set_cons_succ])
  refine man_take 13 95 (v := ?_) ⟨_, rfl, rfl⟩ (by kernel_rfl) (by kernel_rfl) (by kernel_rfl) (fun _ _ _ h => h) (by assumption) ?_ ?_
  rotate_left
  · intro oi ho; cases ho; refine ⟨by rfl, ?_⟩; intro w hSw; (try dsimp only at hSw); go_simp; try with_reducible rfl
  (try simp only [Act.put, List.setIfInBounds_toArray, List.set_cons_zero, List.set_cons_succ])
  refine man_take 14 96 (v := ?_) ⟨_, rfl, rfl⟩ (by kernel_rfl) (by kernel_rfl) (by kernel_rfl) (fun _ _ _ h => h) (by assumption) ?_ ?_
  rotate_left
  · intro oi ho; cases ho; refine ⟨by rfl, ?_⟩; intro w hSw; (try dsimp only at hSw); go_simp; try with_reducible rfl
  (try simp only [Act.put, List.setIfInBounds_toArray, List.set_cons_zero, List.set_cons_succ])
  refine man_take 15 97 (v := ?_) ⟨_, rfl, rfl⟩ (by kernel_rfl) (by kernel_rfl) (by kernel_rfl) (fun _ _ _ h => h) (by assumption) ?_ ?_
  rotate_left
  · intro oi ho; cases ho; refine ⟨by rfl, ?_⟩; intro w hSw; (try dsimp only at hSw); go_simp; try with_reducible rfl
  (try simp only [Act.put, List.setIfInBounds_toArray, List.set_cons_zero, List.set_cons_succ])
  refine man_take 16 98 (v := ?_) ⟨_, rfl, rfl⟩ (by kernel_rfl) (by kernel_rfl) (by kernel_rfl) (fun _ _ _ h => h) (by assumption) ?_ ?_
  rotate_left
  · intro oi ho; cases ho; refine ⟨by rfl, ?_⟩; intro w hSw; (try dsimp only at hSw); go_simp; try with_reducible rfl
  (try simp only [Act.put, List.setIfInBounds_toArray, List.set_cons_zero, List.set_cons_succ])
  refine man_take 17 99 (v := ?_) ⟨_, rfl, rfl⟩ (by kernel_rfl) (by kernel_rfl) (by kernel_rfl) (fun _ _ _ h => h) (by assumption) ?_ ?_
  rotate_left
  · intro oi ho; cases ho; refine ⟨by rfl, ?_⟩; intro w hSw; (try dsimp only at hSw); go_simp; try with_reducible rfl
  (try simp only [Act.put, List.setIfInBounds_toArray, List.set_cons_zero, List.set_cons_succ])
  refine man_take 18 100 (v := ?_) ⟨_, rfl, rfl⟩ (by kernel_rfl) (by kernel_rfl) (by kernel_rfl) (fun _ _ _ h => h) (by assumption) ?_ ?_
  rotate_left
  · intro oi ho; cases ho; refine ⟨by rfl, ?_⟩; intro w hSw; (try dsimp only at hSw); go_simp; try with_reducible rfl
  (try simp only [Act.put, List.setIfInBounds_toArray, List.set_cons_zero, List.set_cons_succ])
  refine man_take 19 101 (v := ?_) ⟨_, rfl, rfl⟩ (by kernel_rfl) (by kernel_rfl) (by kernel_rfl) (fun _ _ _ h => h) (by assumption) ?_ ?_
  rotate_left
  · intro oi ho; cases ho; refine ⟨by rfl, ?_⟩; intro w hSw; (try dsimp only at hSw); go_simp; try with_reducible rfl
  (try simp only [Act.put, List.setIfInBounds_toArray, List.set_cons_zero, List.set_cons_succ])
  refine man_take 20 102 (v := ?_) ⟨_, rfl, rfl⟩ (by kernel_rfl) (by kernel_rfl) (by kernel_rfl) (fun _ _ _ h => h) (by assumption) ?_ ?_
  rotate_left
  · intro oi ho; cases ho; refine ⟨by rfl, ?_⟩; intro w hSw; (try dsimp only at hSw); go_simp; try with_reducible rfl
  (try simp only [Act.put, List.setIfInBounds_toArray, List.set_cons_zero, List.set_cons_succ])
  refine man_take 21 103 (v := ?_) ⟨_, rfl, rfl⟩ (by kernel_rfl) (by kernel_rfl) (by kernel_rfl) (fun _ _ _ h => h) (by assumption) ?_ ?_
  rotate_left
  · intro oi ho; cases ho; refine ⟨by rfl, ?_⟩; intro w hSw; (try dsimp only at hSw); go_simp; try with_reducible rfl
  (try simp only [Act.put, List.setIfInBounds_toArray, List.set_cons_zero, List.set_cons_succ])
  refine man_take 22 104 (v := ?_) ⟨_, rfl, rfl⟩ (by kernel_rfl) (by kernel_rfl) (by kernel_rfl) (fun _ _ _ h => h) (by assumption) ?_ ?_
  rotate_left
  · intro oi ho; cases ho; refine ⟨by rfl, ?_⟩; intro w hSw; (try dsimp only at hSw); go_simp; try with_reducible rfl
  (try simp only [Act.put, List.setIfInBounds_toArray, List.set_cons_zero, List.set_cons_succ])
  refine man_take 23 105 (v := ?_) ⟨_, rfl, rfl⟩ (by kernel_rfl) (by kernel_rfl) (by kernel_rfl) (fun _ _ _ h => h) (by assumption) ?_ ?_
  rotate_left
  · intro oi ho; cases ho; refine ⟨by rfl, ?_⟩; intro w hSw; (try dsimp only at hSw); go_simp; try with_reducible rfl
  (try simp only [Act.put, List.setIfInBounds_toArray, List.set_cons_zero, List.set_cons_succ])
  refine man_take 24 106 (v := ?_) ⟨_, rfl, rfl⟩ (by kernel_rfl) (by kernel_rfl) (by kernel_rfl) (fun _ _ _ h => h) (by assumption) ?_ ?_
  rotate_left
  · intro oi ho; cases ho; refine ⟨by rfl, ?_⟩; intro w hSw; (try dsimp only at hSw); go_simp; try with_reducible rfl
  (try simp only [Act.put, List.setIfInBounds_toArray, List.set_cons_zero, List.set_cons_succ])
  refine man_take 25 107 (v := ?_) ⟨_, rfl, rfl⟩ (by kernel_rfl) (by kernel_rfl) (by kernel_rfl) (fun _ _ _ h => h) (by assumption) ?_ ?_
  rotate_left
  · intro oi ho; cases ho; refine ⟨by rfl, ?_⟩; intro w hSw; (try dsimp only at hSw); go_simp; try with_reducible rfl
  (try simp only [Act.put, List.setIfInBounds_toArray, List.set_cons_zero, List.set_cons_succ])
  refine man_take 26 108 (v := ?_) ⟨_, rfl, rfl⟩ (by kernel_rfl) (by kernel_rfl) (by kernel_rfl) (fun _ _ _ h => h) (by assumption) ?_ ?_
  rotate_left
  · intro oi ho; cases ho; refine ⟨by rfl, ?_⟩; intro w hSw; (try dsimp only at hSw); go_simp; try with_reducible rfl
  (try simp only [Act.put, List.setIfInBounds_toArray, List.set_cons_zero, List.set_cons_succ])
  refine man_take 27 109 (v := ?_) ⟨_, rfl, rfl⟩ (by kernel_rfl) (by kernel_rfl) (by kernel_rfl) (fun _ _ _ h => h) (by assumption) ?_ ?_
  rotate_left
  · intro oi ho; cases ho; refine ⟨by rfl, ?_⟩; intro w hSw; (try dsimp only at hSw); go_simp; try with_reducible rfl
  (try simp only [Act.put, List.setIfInBounds_toArray, List.set_cons_zero, List.set_cons_succ])
  refine man_take 28 110 (v := ?_) ⟨_, rfl, rfl⟩ (by kernel_rfl) (by kernel_rfl) (by kernel_rfl) (fun _ _ _ h => h) (by assumption) ?_ ?_
  rotate_left
  · intro oi ho; cases ho; refine ⟨by rfl, ?_⟩; intro w hSw; (try dsimp only at hSw); go_simp; try with_reducible rfl
  (try simp only [Act.put, List.setIfInBounds_toArray, List.set_cons_zero, List.set_cons_succ])
  refine man_take 29 111 (v := ?_) ⟨_, rfl, rfl⟩ (by kernel_rfl) (by kernel_rfl) (by kernel_rfl) (fun _ _ _ h => h) (by assumption) ?_ ?_
  rotate_left
  · intro oi ho; cases ho; refine ⟨by rfl, ?_⟩; intro w hSw; (try dsimp only at hSw); go_simp; try with_reducible rfl
  (try simp only [Act.put, List.setIfInBounds_toArray, List.set_cons_zero, List.set_cons_succ])
  refine man_take 30 112 (v := ?_) ⟨_, rfl, rfl⟩ (by kernel_rfl) (by kernel_rfl) (by kernel_rfl) (fun _ _ _ h => h) (by assumption) ?_ ?_
  rotate_left
  · intro oi ho; cases ho; refine ⟨by rfl, ?_⟩; intro w hSw; (try dsimp only at hSw); go_simp; try with_reducible rfl
  (try simp only [Act.put, List.setIfInBounds_toArray, List.set_cons_zero, List.set_cons_succ])
  refine man_take 31 113 (v := ?_) ⟨_, rfl, rfl⟩ (by kernel_rfl) (by kernel_rfl) (by kernel_rfl) (fun _ _ _ h => h) (by assumption) ?_ ?_
  rotate_left
  · intro oi ho; cases ho; refine ⟨by rfl, ?_⟩; intro w hSw; (try dsimp only at hSw); go_simp; try with_reducible rfl
  (try simp only [Act.put, List.setIfInBounds_toArray, List.set_cons_zero, List.set_cons_succ])
  refine man_take 32 114 (v := ?_) ⟨_, rfl, rfl⟩ (by kernel_rfl) (by kernel_rfl) (by kernel_rfl) (fun _ _ _ h => h) (by assumption) ?_ ?_
  rotate_left
  · intro oi ho; cases ho; refine ⟨by rfl, ?_⟩; intro w hSw; (try dsimp only at hSw); go_simp; try with_reducible rfl
  (try simp only [Act.put, List.setIfInBounds_toArray, List.set_cons_zero, List.set_cons_succ])
  refine man_take 33 115 (v := ?_) ⟨_, rfl, rfl⟩ (by kernel_rfl) (by kernel_rfl) (by kernel_rfl) (fun _ _ _ h => h) (by assumption) ?_ ?_
  rotate_left
  · intro oi ho; cases ho; refine ⟨by rfl, ?_⟩; intro w hSw; (try dsimp only at hSw); go_simp; try with_reducible rfl
  (try simp only [Act.put, List.setIfInBounds_toArray, List.set_cons_zero, List.set_cons_succ])
  refine man_take 34 116 (v := ?_) ⟨_, rfl, rfl⟩ (by kernel_rfl) (by kernel_rfl) (by kernel_rfl) (fun _ _ _ h => h) (by assumption) ?_ ?_
  rotate_left
  · intro oi ho; cases ho; refine ⟨by rfl, ?_⟩; intro w hSw; (try dsimp only at hSw); go_simp; try with_reducible rfl
  (try simp only [Act.put, List.setIfInBounds_toArray, List.set_cons_zero, List.set_cons_succ])
  refine man_take 35 117 (v := ?_) ⟨_, rfl, rfl⟩ (by kernel_rfl) (by kernel_rfl) (by kernel_rfl) (fun _ _ _ h => h) (by assumption) ?_ ?_
  rotate_left
  · intro oi ho; cases ho; refine ⟨by rfl, ?_⟩; intro w hSw; (try dsimp only at hSw); go_simp; try with_reducible rfl
  (try simp only [Act.put, List.setIfInBounds_toArray, List.set_cons_zero, List.set_cons_succ])
  refine man_take 36 118 (v := ?_) ⟨_, rfl, rfl⟩ (by kernel_rfl) (by kernel_rfl) (by kernel_rfl) (fun _ _ _ h => h) (by assumption) ?_ ?_
  rotate_left
  · intro oi ho; cases ho; refine ⟨by rfl, ?_⟩; intro w hSw; (try dsimp only at hSw); go_simp; try with_reducible rfl
  (try simp only [Act.put, List.setIfInBounds_toArray, List.set_cons_zero, List.set_cons_succ])
  refine man_take 37 119 (v := ?_) ⟨_, rfl, rfl⟩ (by kernel_rfl) (by kernel_rfl) (by kernel_rfl) (fun _ _ _ h => h) (by assumption) ?_ ?_
  rotate_left
  · intro oi ho; cases ho; refine ⟨by rfl, ?_⟩; intro w hSw; (try dsimp only at hSw); go_simp; try with_reducible rfl
  (try simp only [Act.put, List.setIfInBounds_toArray, List.set_cons_zero, List.set_cons_succ])
  refine man_take 38 120 (v := ?_) ⟨_, rfl, rfl⟩ (by kernel_rfl) (by kernel_rfl) (by kernel_rfl) (fun _ _ _ h => h) (by assumption) ?_ ?_
  rotate_left
  · intro oi ho; cases ho; refine ⟨by rfl, ?_⟩; intro w hSw; (try dsimp only at hSw); go_simp; try with_reducible rfl
  (try simp only [Act.put, List.setIfInBounds_toArray, List.set_cons_zero, List.set_cons_succ])
  refine man_take 39 121 (v := ?_) ⟨_, rfl, rfl⟩ (by kernel_rfl) (by kernel_rfl) (by kernel_rfl) (fun _ _ _ h => h) (by assumption) ?_ ?_
  rotate_left
  · intro oi ho; cases ho; refine ⟨by rfl, ?_⟩; intro w hSw; (try dsimp only at hSw); go_simp; try with_reducible rfl
  (try simp only [Act.put, List.setIfInBounds_toArray, List.set_cons_zero, List.set_cons_succ])
  refine man_take 40 122 (v := ?_) ⟨_, rfl, rfl⟩ (by kernel_rfl) (by kernel_rfl) (by kernel_rfl) (fun _ _ _ h => h) (by assumption) ?_ ?_
  rotate_left
  · intro oi ho; cases ho; refine ⟨by rfl, ?_⟩; intro w hSw; (try dsimp only at hSw); go_simp; try with_reducible rfl
  (try simp only [Act.put, List.setIfInBounds_toArray, List.set_cons_zero, List.set_cons_succ])
  refine man_take 41 123 (v := ?_) ⟨_, rfl, rfl⟩ (by kernel_rfl) (by kernel_rfl) (by kernel_rfl) (fun _ _ _ h => h) (by assumption) ?_ ?_
  rotate_left
  · intro oi ho; cases ho; refine ⟨by rfl, ?_⟩; intro w hSw; (try dsimp only at hSw); go_simp; try with_reducible rfl
  (try simp only [Act.put, List.setIfInBounds_toArray, List.set_cons_zero, List.set_cons_succ])
  refine man_take 42 124 (v := ?_) ⟨_, rfl, rfl⟩ (by kernel_rfl) (by kernel_rfl) (by kernel_rfl) (fun _ _ _ h => h) (by assumption) ?_ ?_
  rotate_left
  · intro oi ho; cases ho; refine ⟨by rfl, ?_⟩; intro w hSw; (try dsimp only at hSw); go_simp; try with_reducible rfl
  (try simp only [Act.put, List.setIfInBounds_toArray, List.set_cons_zero, List.set_cons_succ])
  refine man_take 43 125 (v := ?_) ⟨_, rfl, rfl⟩ (by kernel_rfl) (by kernel_rfl) (by kernel_rfl) (fun _ _ _ h => h) (by assumption) ?_ ?_
  rotate_left
  · intro oi ho; cases ho; refine ⟨by rfl, ?_⟩; intro w hSw; (try dsimp only at hSw); go_simp; try with_reducible rfl
  (try simp only [Act.put, List.setIfInBounds_toArray, List.set_cons_zero, List.set_cons_succ])
  refine man_take 44 126 (v := ?_) ⟨_, rfl, rfl⟩ (by kernel_rfl) (by kernel_rfl) (by kernel_rfl) (fun _ _ _ h => h) (by assumption) ?_ ?_
  rotate_left
  · intro oi ho; cases ho; refine ⟨by rfl, ?_⟩; intro w hSw; (try dsimp only at hSw); go_simp; try with_reducible rfl
  (try simp only [Act.put, List.setIfInBounds_toArray, List.set_cons_zero, List.set_cons_succ])
  refine man_take 45 127 (v := ?_) ⟨_, rfl, rfl⟩ (by kernel_rfl) (by kernel_rfl) (by kernel_rfl) (fun _ _ _ h => h) (by assumption) ?_ ?_
  rotate_left
  · intro oi ho; cases ho; refine ⟨by rfl, ?_⟩; intro w hSw; (try dsimp only at hSw); go_simp; try with_reducible rfl
  (try simp only [Act.put, List.setIfInBounds_toArray, List.set_cons_zero, List.set_cons_succ])
  refine man_take 46 128 (v := ?_) ⟨_, rfl, rfl⟩ (by kernel_rfl) (by kernel_rfl) (by kernel_rfl) (fun _ _ _ h => h) (by assumption) ?_ ?_
  rotate_left
  · intro oi ho; cases ho; refine ⟨by rfl, ?_⟩; intro w hSw; (try dsimp only at hSw); go_simp; try with_reducible rfl
  (try simp only [Act.put, List.setIfInBounds_toArray, List.set_cons_zero, List.set_cons_succ])
  refine man_take 47 129 (v := ?_) ⟨_, rfl, rfl⟩ (by kernel_rfl) (by kernel_rfl) (by kernel_rfl) (fun _ _ _ h => h) (by assumption) ?_ ?_
  rotate_left
  · intro oi ho; cases ho; refine ⟨by rfl, ?_⟩; intro w hSw; (try dsimp only at hSw); go_simp; try with_reducible rfl
  (try simp only [Act.put, List.setIfInBounds_toArray, List.set_cons_zero, List.set_cons_succ])
  refine man_take 48 130 (v := ?_) ⟨_, rfl, rfl⟩ (by kernel_rfl) (by kernel_rfl) (by kernel_rfl) (fun _ _ _ h => h) (by assumption) ?_ ?_
  rotate_left
  · intro oi ho; cases ho; refine ⟨by rfl, ?_⟩; intro w hSw; (try dsimp only at hSw); go_simp; try with_reducible rfl
  (try simp only [Act.put, List.setIfInBounds_toArray, List.set_cons_zero, List.set_cons_succ])
  refine man_take 49 131 (v := ?_) ⟨_, rfl, rfl⟩ (by kernel_rfl) (by kernel_rfl) (by kernel_rfl) (fun _ _ _ h => h) (by assumption) ?_ ?_
  rotate_left
  · intro oi ho; cases ho; refine ⟨by rfl, ?_⟩; intro w hSw; (try dsimp only at hSw); go_simp; try with_reducible rfl
  (try simp only [Act.put, List.setIfInBounds_toArray, List.set_cons_zero, List.set_cons_succ])
  refine man_run 50 rfl (by kernel_rfl) (fun K hK => ?_)
  go_simp
  replace SD := (SD.box #[.int .i64 1, .int .i64 2, .int .i64 5, .int .i64 6, .int .i64 9, .int .i64 10, .int .i64 13, .int .i64 14] 3).addRd (n := 8) (xs := ([1, 2, 5, 6, 9, 10, 13, 14] : List Int).map (Value.int .i64)) (rd_of_blk (Blk.new _ 3 #[.int .i64 1, .int .i64 2, .int .i64 5, .int .i64 6, .int .i64 9, .int .i64 10, .int .i64 13, .int .i64 14]))
  simp only [List.nil_append, List.cons_append] at SD
  refine hK.out _ _ ?_ (fun hHeld => ?_)
  · (try dsimp only); exact ⟨(SD.blk 7 rfl).cellP, (SD.blk 9 rfl).cellP, (SD.blk 15 rfl).cell3⟩
  clear hK K
  (try simp only [Act.put, List.setIfInBounds_toArray, List.set_cons_zero, List.set_cons_succ])
  refine man_run 51 rfl (by kernel_rfl) (fun K hK => ?_)
  go_simp
  refine (KLS2.out _ _ _ _ _ _ (SD.rd 12 rfl) (SD.rd 19 rfl)).mono ?_
  rintro e w51 ⟨rfl, hb51⟩
  replace SD := SD.keep hb51
  go_wp2_with fail
  refine hK.out _ _ ?_ (fun hHeld => ?_)
  · (try dsimp only); exact ⟨(SD.blk 7 rfl).cellP, (SD.blk 9 rfl).cellP, (SD.blk 15 rfl).cell3⟩
  clear hK K
  (try simp only [Act.put, List.setIfInBounds_toArray, List.set_cons_zero, List.set_cons_succ])
  refine man_take 52 134 (v := ?_) ⟨_, rfl, rfl⟩ (by kernel_rfl) (by kernel_rfl) (by kernel_rfl) (fun _ _ _ h => h) (by assumption) ?_ ?_
  rotate_left
  · intro oi ho; cases ho; refine ⟨by rfl, ?_⟩; intro w hSw; (try dsimp only at hSw); go_simp; try with_reducible rfl
  (try simp only [Act.put, List.setIfInBounds_toArray, List.set_cons_zero, List.set_cons_succ])
  refine man_take 53 135 (v := ?_) ⟨_, rfl, rfl⟩ (by kernel_rfl) (by kernel_rfl) (by kernel_rfl) (fun _ _ _ h => h) (by assumption) ?_ ?_
  rotate_left
  · intro oi ho; cases ho; refine ⟨by rfl, ?_⟩; intro w hSw; (try dsimp only at hSw); go_simp; try with_reducible rfl
  (try simp only [Act.put, List.setIfInBounds_toArray, List.set_cons_zero, List.set_cons_succ])
  refine man_take 54 136 (v := ?_) ⟨_, rfl, rfl⟩ (by kernel_rfl) (by kernel_rfl) (by kernel_rfl) (fun _ _ _ h => h) (by assumption) ?_ ?_
  rotate_left
  · intro oi ho; cases ho; refine ⟨by rfl, ?_⟩; intro w hSw; (try dsimp only at hSw); go_simp; try with_reducible rfl
  (try simp only [Act.put, List.setIfInBounds_toArray, List.set_cons_zero, List.set_cons_succ])
  refine man_take 55 137 (v := ?_) ⟨_, rfl, rfl⟩ (by kernel_rfl) (by kernel_rfl) (by kernel_rfl) (fun _ _ _ h => h) (by assumption) ?_ ?_
  rotate_left
  · intro oi ho; cases ho; refine ⟨by rfl, ?_⟩; intro w hSw; (try dsimp only at hSw); go_simp; try with_reducible rfl
  (try simp only [Act.put, List.setIfInBounds_toArray, List.set_cons_zero, List.set_cons_succ])
  refine man_take 56 138 (v := ?_) ⟨_, rfl, rfl⟩ (by kernel_rfl) (by kernel_rfl) (by kernel_rfl) (fun _ _ _ h => h) (by assumption) ?_ ?_
  rotate_left
  · intro oi ho; cases ho; refine ⟨by rfl, ?_⟩; intro w hSw; (try dsimp only at hSw); go_simp; try with_reducible rfl
  (try simp only [Act.put, List.setIfInBounds_toArray, List.set_cons_zero, List.set_cons_succ])
  refine man_take 57 139 (v := ?_) ⟨_, rfl, rfl⟩ (by kernel_rfl) (by kernel_rfl) (by kernel_rfl) (fun _ _ _ h => h) (by assumption) ?_ ?_
  rotate_left
  · intro oi ho; cases ho; refine ⟨by rfl, ?_⟩; intro w hSw; (try dsimp only at hSw); go_simp; try with_reducible rfl
  (try simp only [Act.put, List.setIfInBounds_toArray, List.set_cons_zero, List.set_cons_succ])
  refine man_take 58 140 (v := ?_) ⟨_, rfl, rfl⟩ (by kernel_rfl) (by kernel_rfl) (by kernel_rfl) (fun _ _ _ h => h) (by assumption) ?_ ?_
  rotate_left
  · intro oi ho; cases ho; refine ⟨by rfl, ?_⟩; intro w hSw; (try dsimp only at hSw); go_simp; try with_reducible rfl
  (try simp only [Act.put, List.setIfInBounds_toArray, List.set_cons_zero, List.set_cons_succ])
  refine man_take 59 141 (v := ?_) ⟨_, rfl, rfl⟩ (by kernel_rfl) (by kernel_rfl) (by kernel_rfl) (fun _ _ _ h => h) (by assumption) ?_ ?_
  rotate_left
  · intro oi ho; cases ho; refine ⟨by rfl, ?_⟩; intro w hSw; (try dsimp only at hSw); go_simp; try with_reducible rfl
  (try simp only [Act.put, List.setIfInBounds_toArray, List.set_cons_zero, List.set_cons_succ])
  refine man_take 60 142 (v := ?_) ⟨_, rfl, rfl⟩ (by kernel_rfl) (by kernel_rfl) (by kernel_rfl) (fun _ _ _ h => h) (by assumption) ?_ ?_
  rotate_left
  · intro oi ho; cases ho; refine ⟨by rfl, ?_⟩; intro w hSw; (try dsimp only at hSw); go_simp; try with_reducible rfl
  (try simp only [Act.put, List.setIfInBounds_toArray, List.set_cons_zero, List.set_cons_succ])
  refine man_take 61 143 (v := ?_) ⟨_, rfl, rfl⟩ (by kernel_rfl) (by kernel_rfl) (by kernel_rfl) (fun _ _ _ h => h) (by assumption) ?_ ?_
  rotate_left
  · intro oi ho; cases ho; refine ⟨by rfl, ?_⟩; intro w hSw; (try dsimp only at hSw); go_simp; try with_reducible rfl
  (try simp only [Act.put, List.setIfInBounds_toArray, List.set_cons_zero, List.set_cons_succ])
  refine man_take 62 144 (v := ?_) ⟨_, rfl, rfl⟩ (by kernel_rfl) (by kernel_rfl) (by kernel_rfl) (fun _ _ _ h => h) (by assumption) ?_ ?_
  rotate_left
  · intro oi ho; cases ho; refine ⟨by rfl, ?_⟩; intro w hSw; (try dsimp only at hSw); go_simp; try with_reducible rfl
  (try simp only [Act.put, List.setIfInBounds_toArray, List.set_cons_zero, List.set_cons_succ])
  refine man_run 63 rfl (by kernel_rfl) (fun K hK => ?_)
  go_simp
  refine (KCnd.out _).mono ?_
  rintro e w52 ⟨A52, n52, cc52, rfl, hown52, hb52⟩
  replace SD := (SD.keep hb52).addRd (rd_of_own hown52)
  simp only [List.nil_append, List.cons_append] at SD
  go_wp2_with fail
  refine hK.out _ _ ?_ (fun hHeld => ?_)
  · (try dsimp only); exact ⟨(SD.blk 7 rfl).cellP, (SD.blk 9 rfl).cellP, (SD.blk 15 rfl).cell3⟩
  clear hK K
  (try simp only [Act.put, List.setIfInBounds_toArray, List.set_cons_zero, List.set_cons_succ])
  refine man_run 64 rfl (by kernel_rfl) (fun K hK => ?_)
  go_simp
  refine (KS.out _ _ _ _ _ _ _ (SD.rd 14 rfl) (SD.rd 20 rfl)).mono ?_
  rintro e w53 ⟨rfl, hb53⟩
  replace SD := SD.keep hb53
  go_wp2_with fail
  refine hK.out _ _ ?_ (fun hHeld => ?_)
  · (try dsimp only); exact ⟨(SD.blk 7 rfl).cellP, (SD.blk 9 rfl).cellP, (SD.blk 15 rfl).cell3⟩
  clear hK K
  (try simp only [Act.put, List.setIfInBounds_toArray, List.set_cons_zero, List.set_cons_succ])
  refine man_take 65 147 (v := ?_) ⟨_, rfl, rfl⟩ (by kernel_rfl) (by kernel_rfl) (by kernel_rfl) (fun _ _ _ h => h) (by assumption) ?_ ?_
  rotate_left
  · intro oi ho; cases ho; refine ⟨by rfl, ?_⟩; intro w hSw; (try dsimp only at hSw); go_simp; try with_reducible rfl
  (try simp only [Act.put, List.setIfInBounds_toArray, List.set_cons_zero, List.set_cons_succ])
  refine man_take 66 19 (v := ?_) ⟨_, rfl, rfl⟩ (by kernel_rfl) (by kernel_rfl) (by kernel_rfl) (fun _ _ _ h => h) (by assumption) ?_ ?_
  rotate_left
  · intro oi ho; cases ho; refine ⟨by rfl, ?_⟩; intro w hSw; (try dsimp only at hSw); go_simp; try with_reducible rfl
  (try simp only [Act.put, List.setIfInBounds_toArray, List.set_cons_zero, List.set_cons_succ])
  refine wpAnyH_done (by kernel_rfl) ?_ _
  have SZ : St w [] w53 := ⟨SD.1, by simp⟩
  clear SD S14
  have SY := (((SZ.box (madeCells #[Value.bool false] 17) 4).addRd (rd17 _)).box #[.int .i64 17, .int .i64 1, .slice (some ⟨w53.heap.size, 0, none⟩) 17 17] 24)
  simp only [size_alloc1, List.nil_append, List.cons_append] at SY
  clear SZ
  have hmk : ∀ W : World, (Instr.makeSlice 22 (.int .i64 17) (.int .i64 17)).run Tryd.prog W = .ok (.slice (some ⟨W.heap.size, 0, none⟩) 17 17) (W.alloc (.cells (madeCells #[Value.bool false] 17) 4)) := fun W => run_make_row' (P := Tryd.prog) 22 4 (.bool false) 1 Tryd.underlying22 Tryd.infoB rfl .i64 .i64 17 (by omega) (by omega) W
  obtain ⟨ca0, ca1, ca2⟩ := (SY.blk 2 rfl).cell3
  go_wp2_with fail
  refine (KABIG.out _ _ _ _ (SY.rd 1 rfl) (Nat.le_refl _)).mono ?_
  rintro e w15 ⟨A15, n15, cc15, rfl, hown15, hb15⟩
  have S15 := SY.keep hb15
  clear hmk
  clear ca0 ca1 ca2 SY hown15
  go_wp2_with fail
  refine (KTW.out _).mono ?_
  rintro e w16 ⟨A16, n16, cc16, rfl, hown16, hb16⟩
  have hc16 := own_le hown16
  have S16 := ((S15.keep hb16).addRd (rd_of_own hown16))
  simp only [List.nil_append, List.cons_append] at S16
  clear S15 hown16
  go_wp2_with fail
  refine (KT16.out _ _ _ _ (S16.rd 3 rfl) hc16).mono ?_
  rintro e w17 ⟨A17, n17, cc17, rfl, hb17⟩
  have S17 := (S16.keep hb17).alloc (.cells #[.int .i64 0, .int .i64 0, .slice A17 n17 cc17] 24)
  clear S16
  go_wp2_with fail
  refine (KZ0.out _).mono ?_
  rintro e w18 ⟨A18, n18, cc18, rfl, hb18⟩
  have S18 := (S17.keep hb18).alloc (.cells #[.int .i64 0, .int .i64 0, .slice A18 n18 cc18] 24)
  clear S17
  go_wp2_with fail
  refine (KCO1.out _).mono ?_
  rintro e w19 ⟨rfl, hb19⟩
  have S19 := S18.keep hb19
  clear S18
  go_wp2_with fail
  refine (KCO2.out _).mono ?_
  rintro e w20 ⟨rfl, hb20⟩
  have S20 := S19.keep hb20
  clear S19
  go_wp2_with fail
  refine (KIN.out _).mono ?_
  rintro e w21 ⟨rfl, hb21⟩
  have S21 := S20.keep hb21
  clear S20
  obtain ⟨ca0, ca1, ca2⟩ := (S21.blk 2 rfl).cell3
  go_wp2_with fail
  refine (KALBIG.out _ _ _ _ (S21.rd 1 rfl) (Nat.le_refl _)).mono ?_
  rintro e w22 ⟨A22, n22, cc22, rfl, hown22, hb22⟩
  have S22 := S21.keep hb22
  clear ca0 ca1 ca2 S21 hown22
  go_wp2_with fail
  refine (KTW.out _).mono ?_
  rintro e w23 ⟨A23, n23, cc23, rfl, hown23, hb23⟩
  have hc23 := own_le hown23
  have S23 := ((S22.keep hb23).addRd (rd_of_own hown23))
  simp only [List.nil_append, List.cons_append] at S23
  clear S22 hown23
  go_wp2_with fail
  refine (KHM.out _ _ _ _ (S23.rd 4 rfl) hc23).mono ?_
  rintro e w24 ⟨rfl, hb24⟩
  have S24 := (S23.keep hb24).alloc (.cells #[.int .i64 0, .int .i64 0] 43)
  clear S23
  obtain ⟨ca0, ca1, ca2⟩ := (S24.blk 2 rfl).cell3
  go_wp2_with fail
  refine (KLBIG.out _ _ _ _ (S24.rd 1 rfl) (Nat.le_refl _)).mono ?_
  rintro e w25 ⟨A25, n25, cc25, rfl, hb25⟩
  have S25 := (S24.keep hb25).alloc (.cells #[.int .i64 0, .int .i64 0, .slice A25 n25 cc25] 24)
  clear ca0 ca1 ca2 S24
  go_wp2_with fail
  refine (alive_any _).mono ?_
  rintro e w26 ⟨rfl, hb26⟩
  have S26 := S25.keep hb26
  clear S25
  go_wp2_with fail
  go_ret
  exact ⟨rfl, S26.below⟩
end Go.Proofs.YtliibficmdomjaaDoor
