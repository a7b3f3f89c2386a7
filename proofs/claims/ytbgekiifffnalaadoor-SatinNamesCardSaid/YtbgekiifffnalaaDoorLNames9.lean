/- The law SatinNames, walked: it answers true and turns nothing that was there. -/
import Derived.Test.YtbgekiifffnalaaDoorNames9K
namespace Go.Proofs.YtbgekiifffnalaaDoor
open Go.RowKit

set_option maxHeartbeats 4000000 in
set_option maxRecDepth 100000 in
theorem names9_walk (w : World) : Calls Tryd.prog 3 #[] w fun e w' => e = .returned (.bool true) ∧ Below w.heap.size w w' := by
  have K1 := Lib.hid (fun A n c W hr hn => k1 A n c W hr hn)
  have K2 := Lib.hid (fun A n c W hr hn => k2 A n c W hr hn)
  have K3 := Lib.hid (fun W => k3 W)
  have K4 := Lib.hid (fun W => k4 W)
  have K5 := Lib.hid (fun A n c W hr hc => k5 A n c W hr hc)
  have K6 := Lib.hid (fun A n c W hr hc => k6 A n c W hr hc)
  have K7 := Lib.hid (fun A n c W hr hc => k7 A n c W hr hc)
  have K8 := Lib.hid (fun A n c W hr hc => k8 A n c W hr hc)
  have K9 := Lib.hid (fun W => k9 W)
  have K10 := Lib.hid (fun A n c W hr hc => k10 A n c W hr hc)
  have K12 := Lib.hid (fun W => k12 W)
  have K13 := Lib.hid (fun W => k13 W)
  have K14 := Lib.hid (fun W => k14 W)
  have K15 := Lib.hid (fun W => k15 W)
  have K16 := Lib.hid (fun A n c W hr hn => k16 A n c W hr hn)
  have K17 := Lib.hid (fun A n c W hr hn => k17 A n c W hr hn)
  have K18 := Lib.hid (fun A n c W hr hn => k18 A n c W hr hn)
  have K19 := Lib.hid (fun A n c W hr hn => k19 A n c W hr hn)
  have K20 := Lib.hid (fun A n c W hr hn => k20 A n c W hr hn)
  have K21 := Lib.hid (fun A n c W hr hn => k21 A n c W hr hn)
  have K22 := Lib.hid (fun A n c W hr hc => k22 A n c W hr hc)
  have K23 := Lib.hid (fun W => k23 W)
  have K24 := Lib.hid (fun A n c W hr hn => k24 A n c W hr hn)
  have T1 := Lib.hid (fun A n c W hr hc => kt1 A n c W hr hc)
  have T2 := Lib.hid (fun A n c W hr hc => kt2 A n c W hr hc)
  unfold txA at T1
  unfold txB at T2
  have l0 : cL.length = 30 := nm3l
  have l1 := nm3a
  have l2 := nm3b
  generalize gA = ga at *
  generalize gB = gb at *
  generalize gS = gs at *
  generalize gO = go at *
  generalize gN = gn at *
  generalize cL = cl at *
  obtain ⟨i0, hi, hz0, hz1, hz2⟩ := info_parts Tryd.infoB
  have S0 := St.start w
  go_enter Tryd.func3, Tryd.ntmps3
  have S1b := (S0.box #[.int .i64 1, .int .i64 2, .int .i64 2, .int .i64 1] 3).addRd (n := 4) (xs := ([1, 2, 2, 1] : List Int).map (Value.int .i64)) (rd_of_blk (Blk.new _ 3 #[.int .i64 1, .int .i64 2, .int .i64 2, .int .i64 1]))
  simp only [List.nil_append, List.cons_append] at S1b
  go_wp2_with fail
  refine (K1.out _ _ _ _ (S1b.rd 1 rfl) (by omega)).mono ?_
  rintro e w2 ⟨A2, n2, cc2, rfl, hown2, hb2⟩
  simp only at hown2 ⊢
  have hc2 := own_le hown2
  have S2 := ((S1b.keep hb2).addRd (rd_of_own hown2)).box #[.int .i64 ga.w, .int .i64 ga.h, .slice A2 n2 cc2] 24
  simp only [List.nil_append, List.cons_append] at S2
  clear S1b hown2
  have S3b := (S2.box #[.int .i64 3, .int .i64 1] 3).addRd (n := 2) (xs := ([3, 1] : List Int).map (Value.int .i64)) (rd_of_blk (Blk.new _ 3 #[.int .i64 3, .int .i64 1]))
  simp only [size_alloc1, List.nil_append, List.cons_append] at S3b
  clear S2
  go_wp2_with fail
  refine (K2.out _ _ _ _ (S3b.rd 5 rfl) (by omega)).mono ?_
  rintro e w4 ⟨A4, n4, cc4, rfl, hown4, hb4⟩
  simp only at hown4 ⊢
  have hc4 := own_le hown4
  have S4 := ((S3b.keep hb4).addRd (rd_of_own hown4)).box #[.int .i64 gb.w, .int .i64 gb.h, .slice A4 n4 cc4] 24
  simp only [List.nil_append, List.cons_append] at S4
  clear S3b hown4
  go_wp2_with fail
  refine (K3.out _).mono ?_
  rintro e w5 ⟨A5, n5, cc5, rfl, hown5, hb5⟩
  obtain rfl : n5 = 30 := by have := hown5.1; simp [l0] at this; omega
  have S5 := (S4.keep hb5).addRd (rd_of_own hown5)
  simp only [List.nil_append, List.cons_append] at S5
  clear S4
  obtain ⟨g5, rfl, _⟩ := own_form hown5 (by omega)
  clear hown5
  go_wp2_with fail
  refine (K4.out _).mono ?_
  rintro e w6 ⟨A6, n6, cc6, rfl, hown6, hb6⟩
  simp only at hown6 ⊢
  have hc6 := own_le hown6
  have S6 := ((S5.keep hb6).addRd (rd_of_own hown6)).box #[.int .i64 gs.w, .int .i64 gs.h, .slice A6 n6 cc6] 24
  simp only [List.nil_append, List.cons_append] at S6
  clear S5 hown6
  obtain ⟨c0, c1, c2⟩ := (S6.blk 10 rfl).cell3
  go_wp2_with fail
  refine (K5.out _ _ _ _ (S6.rd 9 rfl) hc6).mono ?_
  rintro e w7 ⟨A7, n7, cc7, rfl, hown7, hb7⟩
  simp only at hown7 ⊢
  have hc7 := own_le hown7
  have S7 := ((S6.keep hb7).addRd (rd_of_own hown7)).box #[.int .i64 go.w, .int .i64 go.h, .slice A7 n7 cc7] 24
  simp only [List.nil_append, List.cons_append] at S7
  clear c0 c1 c2
  clear S6 hown7
  obtain ⟨c0, c1, c2⟩ := (S7.blk 12 rfl).cell3
  go_wp2_with fail
  refine (K6.out _ _ _ _ (S7.rd 11 rfl) hc7).mono ?_
  rintro e w8 ⟨rfl, hb8⟩
  have S8 := S7.keep hb8
  clear c0 c1 c2
  clear S7
  obtain ⟨c0, c1, c2⟩ := (S8.blk 3 rfl).cell3
  go_wp2_with fail
  refine (K7.out _ _ _ _ (S8.rd 2 rfl) hc2).mono ?_
  rintro e w9 ⟨A9, n9, cc9, rfl, hown9, hb9⟩
  obtain rfl : n9 = 1 := by have := hown9.1; simp at this; omega
  have S9 := (S8.keep hb9).addRd (rd_of_own hown9)
  simp only [List.nil_append, List.cons_append] at S9
  clear c0 c1 c2
  clear S8 hown9
  obtain ⟨c0, c1, c2⟩ := (S9.blk 10 rfl).cell3
  go_wp2_with fail
  refine (K8.out _ _ _ _ (S9.rd 9 rfl) hc6).mono ?_
  rintro e w10 ⟨A10, n10, cc10, rfl, hown10, hb10⟩
  obtain rfl : n10 = 1 := by have := hown10.1; simp at this; omega
  have S10 := (S9.keep hb10).addRd (rd_of_own hown10)
  simp only [List.nil_append, List.cons_append] at S10
  clear c0 c1 c2
  clear S9 hown10
  go_wp2_with fail
  refine (K9.out _).mono ?_
  rintro e w11 ⟨A11, n11, cc11, rfl, hown11, hb11⟩
  simp only at hown11 ⊢
  have hc11 := own_le hown11
  have S11 := ((S10.keep hb11).addRd (rd_of_own hown11)).box #[.int .i64 gn.w, .int .i64 gn.h, .slice A11 n11 cc11] 24
  simp only [List.nil_append, List.cons_append] at S11
  clear S10 hown11
  obtain ⟨c0, c1, c2⟩ := (S11.blk 16 rfl).cell3
  go_wp2_with fail
  refine (K10.out _ _ _ _ (S11.rd 15 rfl) hc11).mono ?_
  rintro e w12 ⟨A12, n12, cc12, rfl, hown12, hb12⟩
  obtain rfl : n12 = 0 := by have := hown12.1; simp at this; omega
  have S12 := (S11.keep hb12).addRd (rd_of_own hown12)
  simp only [List.nil_append, List.cons_append] at S12
  clear c0 c1 c2
  clear S11 hown12
  obtain ⟨c0, c1, c2⟩ := (S12.blk 3 rfl).cell3
  go_wp2_with fail
  refine (T1.out _ _ _ _ (S12.rd 2 rfl) hc2).mono ?_
  rintro e w13 ⟨rfl, hb13⟩
  have S13 := S12.keep hb13
  clear c0 c1 c2
  clear S12
  obtain ⟨c0, c1, c2⟩ := (S13.blk 7 rfl).cell3
  go_wp2_with fail
  refine (T2.out _ _ _ _ (S13.rd 6 rfl) hc4).mono ?_
  rintro e w14 ⟨rfl, hb14⟩
  have S14 := S13.keep hb14
  clear c0 c1 c2
  clear S13
  have d0 := (S14.rd 8 rfl).lit 0 (.int .i64 3) (by rw [List.getElem?_map, l1]; rfl)
  have d1 := (S14.rd 8 rfl).lit 29 (.int .i64 61) (by rw [List.getElem?_map, l2]; rfl)
  simp only [Nat.zero_add, Nat.add_zero] at d0 d1
  have S15b := (S14.box #[.int .i64 2] 3).addRd (n := 1) (xs := ([2] : List Int).map (Value.int .i64)) (rd_of_blk (Blk.new _ 3 #[.int .i64 2]))
  simp only [List.nil_append, List.cons_append] at S15b
  clear S14
  go_wp2_with fail
  refine (lsame_any [2] _ _ _ _ _ _ _ (S15b.rd 13 rfl) (S15b.rd 19 rfl) (by omega)).mono ?_
  rintro e w16 ⟨rfl, hb16⟩
  have S16 := S15b.keep hb16
  clear d0 d1
  clear S15b
  have S17b := (S16.box #[.int .i64 3] 3).addRd (n := 1) (xs := ([3] : List Int).map (Value.int .i64)) (rd_of_blk (Blk.new _ 3 #[.int .i64 3]))
  simp only [List.nil_append, List.cons_append] at S17b
  clear S16
  go_wp2_with fail
  refine (lsame_any [3] _ _ _ _ _ _ _ (S17b.rd 14 rfl) (S17b.rd 21 rfl) (by omega)).mono ?_
  rintro e w18 ⟨rfl, hb18⟩
  have S18 := S17b.keep hb18
  clear S17b
  have SZ : St w [] w18 := ⟨S18.1, by simp⟩
  have SA := (SZ.addRd (S18.rd 2 rfl)).addBlk (S18.blk 3 rfl)
  simp only [List.nil_append, List.cons_append] at SA
  clear S18 SZ
  go_wp2_with fail
  refine (K12.out _).mono ?_
  rintro e w19 ⟨A19, n19, cc19, rfl, hown19, hb19⟩
  have S19 := SA.keep hb19
  clear SA hown19
  go_wp2_with fail
  refine (K13.out _).mono ?_
  rintro e w20 ⟨A20, n20, cc20, rfl, hown20, hb20⟩
  have S20 := S19.keep hb20
  clear S19 hown20
  go_wp2_with fail
  refine (K14.out _).mono ?_
  rintro e w21 ⟨A21, n21, cc21, rfl, hb21⟩
  have S21 := (S20.keep hb21).alloc (.cells #[.int .i64 0, .int .i64 0, .slice A21 n21 cc21] 24)
  clear S20
  go_wp2_with fail
  refine (K15.out _).mono ?_
  rintro e w22 ⟨A22, n22, cc22, rfl, hb22⟩
  have S22 := (S21.keep hb22).alloc (.cells #[.int .i64 0, .int .i64 0, .slice A22 n22 cc22] 24)
  clear S21
  have S23b := (S22.box #[.int .i64 1, .int .i64 2, .int .i64 1] 3).addRd (n := 3) (xs := ([1, 2, 1] : List Int).map (Value.int .i64)) (rd_of_blk (Blk.new _ 3 #[.int .i64 1, .int .i64 2, .int .i64 1]))
  simp only [size_alloc1, List.nil_append, List.cons_append] at S23b
  clear S22
  go_wp2_with fail
  refine (K16.out _ _ _ _ (S23b.rd 3 rfl) (by omega)).mono ?_
  rintro e w24 ⟨A24, n24, cc24, rfl, hb24⟩
  have S24 := (S23b.keep hb24).alloc (.cells #[.int .i64 0, .int .i64 0, .slice A24 n24 cc24] 24)
  clear S23b
  have S25b := (S24.box #[.int .i64 60, .int .i64 5] 3).addRd (n := 2) (xs := ([60, 5] : List Int).map (Value.int .i64)) (rd_of_blk (Blk.new _ 3 #[.int .i64 60, .int .i64 5]))
  simp only [size_alloc1, List.nil_append, List.cons_append] at S25b
  clear S24
  go_wp2_with fail
  refine (K17.out _ _ _ _ (S25b.rd 5 rfl) (by omega)).mono ?_
  rintro e w26 ⟨A26, n26, cc26, rfl, hb26⟩
  have S26 := (S25b.keep hb26).alloc (.cells #[.int .i64 0, .int .i64 0, .slice A26 n26 cc26] 24)
  clear S25b
  have S27b := (S26.box #[.int .i64 1, .int .i64 0] 3).addRd (n := 2) (xs := ([1, 0] : List Int).map (Value.int .i64)) (rd_of_blk (Blk.new _ 3 #[.int .i64 1, .int .i64 0]))
  simp only [size_alloc1, List.nil_append, List.cons_append] at S27b
  clear S26
  go_wp2_with fail
  refine (K18.out _ _ _ _ (S27b.rd 7 rfl) (by omega)).mono ?_
  rintro e w28 ⟨A28, n28, cc28, rfl, hb28⟩
  have S28 := (S27b.keep hb28).alloc (.cells #[.int .i64 0, .int .i64 0, .slice A28 n28 cc28] 24)
  clear S27b
  have hsz := S28.size
  go_wp2_with (at_make; go_loud (refine wpList_make_full _ rfl _ _ 22 rfl w.heap.size 4 i0 (.bool false) 1 Tryd.underlying22 hi hz0 hz1 _ _ _ _ 65 rfl rfl ?c1 ?c1' ?c2 ?c3 ?c4 ?_))
  case c1 => rfl
  case c1' => rfl
  case c2 => rw [hz2]; omega
  case c3 => unfold maxLen; omega
  case c4 => exact hsz
  intro w29 hown29 hg29
  have hb29 := (Below.refl _ _).grown hg29 (Nat.le_refl _) (fun _ h => by cases h)
  have e29 : (madeCells #[Value.bool false] 65).toList = (List.replicate 65 false).map Value.bool := by rw [toList_madeCells_one, List.map_replicate]
  rw [e29] at hown29
  have S29 := (S28.keep hb29).addRd (rd_of_own hown29)
  simp only [List.nil_append, List.cons_append] at S29
  clear S28 hown29 hg29 hb29 e29 hsz
  go_wp2_with fail
  refine (K19.out _ _ _ _ (S29.rd 8 rfl) (by omega)).mono ?_
  rintro e w30 ⟨A30, n30, cc30, rfl, hown30, hb30⟩
  have S30 := S29.keep hb30
  clear S29 hown30
  have S31b := (S30.box #[.bool true, .bool true] 4).addRd (n := 2) (xs := ([true, true] : List Bool).map Value.bool) (rd_of_blk (Blk.new _ 4 #[.bool true, .bool true]))
  simp only [List.nil_append, List.cons_append] at S31b
  clear S30
  go_wp2_with fail
  refine (K20.out _ _ _ _ (S31b.rd 10 rfl) (by omega)).mono ?_
  rintro e w32 ⟨A32, n32, cc32, rfl, hown32, hb32⟩
  have S32 := S31b.keep hb32
  clear S31b hown32
  go_wp2_with fail
  refine (K21.out _ _ _ _ (rd_none rfl rfl) (by omega)).mono ?_
  rintro e w33 ⟨A33, n33, cc33, rfl, hown33, hb33⟩
  have S33 := S32.keep hb33
  clear S32 hown33
  obtain ⟨c0, c1, c2⟩ := (S33.blk 1 rfl).cell3
  go_wp2_with fail
  refine (K22.out _ _ _ _ (S33.rd 0 rfl) hc2).mono ?_
  rintro e w34 ⟨rfl, hb34⟩
  have S34 := S33.keep hb34
  clear c0 c1 c2
  clear S33
  go_wp2_with fail
  refine (K23.out _).mono ?_
  rintro e w35 ⟨rfl, hb35⟩
  have S35 := S34.keep hb35
  clear S34
  go_wp2_with fail
  refine (K24.out none 0 0 _ ⟨rfl, fun h => absurd h (Nat.lt_irrefl _)⟩ (Nat.zero_le _)).mono ?_
  rintro e w36 ⟨A36, n36, cc36, rfl, hb36⟩
  have S36 := (S35.keep hb36).alloc (.cells #[.int .i64 0, .int .i64 0, .slice A36 n36 cc36] 24)
  clear S35
  go_wp2_with fail
  refine (alive_any _).mono ?_
  rintro e w37 ⟨rfl, hb37⟩
  have S37 := S36.keep hb37
  clear S36
  go_wp2_with fail
  go_ret
  exact ⟨rfl, S37.below⟩
end Go.Proofs.YtbgekiifffnalaaDoor
