/- The law GridUndo, walked: it answers true and turns nothing that was there, for any grid, steps and numbers. -/
import Derived.Test.YtebbcpeldncekaaDoorAlive1z
import Derived.Test.YtebbcpeldncekaaDoorUndoPz
import Derived.Test.YtebbcpeldncekaaDoorPutz
import Derived.Test.YtebbcpeldncekaaDoorOps1z
import Derived.Test.YtebbcpeldncekaaDoorPartz
import Derived.Test.YtebbcpeldncekaaDoorTileAz
import Derived.Test.YtebbcpeldncekaaDoorValid1z
namespace Go.Proofs.YtebbcpeldncekaaDoor
open Go.RowKit

theorem tile_to1 {g r : Gd} {nx ny k : Int} (h : tileG g nx ny = (r, k)) (A : Option Addr) (n c : Nat) (w : World) (hr : Rd w A n (g.bits.map Value.bool)) : Calls Tryd.prog 28 #[.agg #[.int .i64 g.w, .int .i64 g.h, .slice A n c], .int .i64 nx, .int .i64 ny] w (RetG (r, k) w) := h ▸ tile_any g nx ny A n c w hr
theorem part_to1 {g r : Gd} {x y p q : Int} (h : partG g x y p q = (r, 0)) (X Y : Int) (hX : X = x) (hY : Y = y) (A : Option Addr) (n c : Nat) (w : World) (hr : Rd w A n (g.bits.map Value.bool)) : Calls Tryd.prog 29 #[.agg #[.int .i64 g.w, .int .i64 g.h, .slice A n c], .int .i64 X, .int .i64 Y, .int .i64 p, .int .i64 q] w (RetG (r, 0) w) := by
  subst hX hY
  rw [← h]
  exact part_any g X Y p q A n c w hr

set_option linter.unusedVariables false in
set_option maxHeartbeats 4000000 in
set_option maxRecDepth 100000 in
theorem undo_ok (a b : Nat) (bs : List Bool) (F : Nat → Nat → Bool) (ha1 : 1 ≤ a) (hb1 : 1 ≤ b) (ha : a ≤ 64) (hb : b ≤ 64) (hgt : (⟨a, b, bs⟩ : Gd) = tabD a b F) (dx dy : Int) (A0 : Option Addr) (n0 c0 : Nat) (w : World) (hr : Rd w A0 n0 (bs.map Value.bool)) (hx1 : -1000000000 ≤ dx) (hx2 : dx ≤ 1000000000) (hy1 : -1000000000 ≤ dy) (hy2 : dy ≤ 1000000000) (m n : Nat) (hm1 : 1 ≤ m) (hn1 : 1 ≤ n) (hm : m ≤ 64 / a) (hn : n ≤ 64 / b) :
    Calls Tryd.prog 7 #[.agg #[.int .i64 a, .int .i64 b, .slice A0 n0 c0], .int .i64 dx, .int .i64 dy, .int .i64 m, .int .i64 n] w fun e w' => e = .returned (.bool true) ∧ Below w.heap.size w w' := by
  have hl : bs.length = n0 := by simpa using hr.len
  have hba : b * a ≤ 4096 := Nat.mul_le_mul hb ha
  have hbl : bs.length = b * a := by
    have q := congrArg Gd.bits hgt
    have q2 : bs = Pl.tab a b F := q
    rw [q2]
    exact tabD_len
  have HV := Lib.hid (fun A n c W h => valid_any ⟨a, b, bs⟩ A n c W h)
  have hv : validB ⟨a, b, bs⟩ = true := by
    unfold validB
    rw [decide_eq_true_eq]
    exact ⟨by show bs.length ≤ 4200; omega, by rw [hgt]; exact tabD_chk ha1 hb1 ha hb⟩
  rw [hv] at HV
  obtain ⟨r1, e1, e1'⟩ := undo_turn (F := F) ha1 hb1 ha hb
  obtain ⟨r2, e2, e2'⟩ := undo_not (F := F) ha1 hb1 ha hb
  obtain ⟨r3, e3, e3'⟩ := undo_shift (F := F) ha1 hb1 ha hb dx dy
  have HMi := Lib.hid (fun t ht => undo_mir (F := F) ha1 hb1 ha hb t ht)
  have HZ := same_self ⟨a, b, bs⟩ (by show bs.length ≤ 4096; omega)
  obtain ⟨T, eT, hTw, hTh, k1, k2, k3, k4, zT, eP, eQ, eS⟩ := undo_tile (F := F) ha1 hb1 ha hb hm1 hn1 hm hn
  rw [← hgt] at e1 e1' e2 e2' e3 e3' HMi eT eP eQ
  have HT := Lib.hid (fun A n c W h => turn_to e1 A n c W h)
  have HT2 := Lib.hid (fun A n c W h => turn_to e1' A n c W h)
  have HN := Lib.hid (fun A n c W h => not_to e2 A n c W h)
  have HN2 := Lib.hid (fun A n c W h => not_to e2' A n c W h)
  have HS := Lib.hid (fun X Y hX hY A n c W h => shift_to e3 X Y hX hY A n c W h)
  have HS2 := Lib.hid (fun X Y hX hY A n c W h => shift_to e3' X Y hX hY A n c W h)
  have HE := Lib.hid (fun A A2 n c n2 c2 W h h2 => HZ A A2 n c n2 c2 W h h2)
  have HTi := Lib.hid (fun A n c W h => tile_to1 eT A n c W h)
  have HP := Lib.hid (fun X Y hX hY A n c W h => part_to1 eP X Y hX hY A n c W h)
  have HQ := Lib.hid (fun A n c W h => part_to1 eQ 0 0 rfl rfl A n c W h)
  have HSt := Lib.hid (fun X Y hX hY A n c W h => shift_to eS X Y hX hY A n c W h)
  have HET := Lib.hid (fun A A2 n c n2 c2 W h h2 => same_self T zT A A2 n c n2 c2 W h h2)
  obtain ⟨TW, TH, tb⟩ := T
  simp only at hTw hTh
  subst hTw hTh
  generalize m * a = P at *
  generalize n * b = Q at *
  have hwx : IntKind.i64.wrap dx = dx := IntWalk.i64_in _ (by omega)
  have hwy : IntKind.i64.wrap dy = dy := IntWalk.i64_in _ (by omega)
  have hwnx : IntKind.i64.wrap (-dx) = -dx := IntWalk.i64_in _ (by omega)
  have hwny : IntKind.i64.wrap (-dy) = -dy := IntWalk.i64_in _ (by omega)
  have hL := Lib.hid hl
  clear hl hba hbl hv
  have S0 := ((St.start w).addRd hr).box #[.int .i64 a, .int .i64 b, .slice A0 n0 c0] 24
  simp only [List.nil_append, List.cons_append] at S0
  simp only at HV HE
  clear hr
  go_enter Tryd.func7, Tryd.ntmps7
  obtain ⟨ca0, ca1, ca2⟩ := (S0.blk 1 rfl).cell3
  go_wp2_with fail
  refine (HV.out _ _ _ _ hL.out).mono ?_
  rintro e w1 ⟨rfl, hb1⟩
  have S1 := S0.keep hb1
  clear ca0 ca1 ca2
  obtain ⟨ca0, ca1, ca2⟩ := (S1.blk 1 rfl).cell3
  go_wp2_with fail
  refine (HT.out _ _ _ _ (S1.rd 0 rfl)).mono ?_
  rintro e w2 ⟨A2, n2, cc2, rfl, hown2, hb2⟩
  try simp only at hown2 ⊢
  have hc2 := own_le hown2
  have lt2 := (S1.keep hb2).size
  have lt2g := ((S1.keep hb2).blk 1 rfl).lt
  have S2 := ((S1.keep hb2).addRd (rd_of_own hown2)).box #[.int .i64 r1.w, .int .i64 r1.h, .slice A2 n2 cc2] 24
  simp only [List.nil_append, List.cons_append] at S2
  clear ca0 ca1 ca2 S1 hown2
  obtain ⟨ca0, ca1, ca2⟩ := (S2.blk 3 rfl).cell3
  go_wp2_with fail
  refine (HT2.out _ _ _ _ (S2.rd 2 rfl)).mono ?_
  rintro e w3 ⟨A3, n3, cc3, rfl, hown3, hb3⟩
  try simp only at hown3 ⊢
  have hc3 := own_le hown3
  have Q3 := S2.keep hb3
  have hB3 := Q3.blk 3 rfl
  obtain ⟨z0, z1, z2⟩ := hB3.cell3
  obtain ⟨f0, f1, f2⟩ := hB3.frozen3
  have S3 := (((Q3.sub (L' := [.rd A0 n0 (bs.map Value.bool), .blk w.heap.size 24 #[.int .i64 a, .int .i64 b, .slice A0 n0 c0]]) (by simp)).put3 (bb := w2.heap.size) (by omega) hB3 ⟨⟨_, rfl⟩, (by show _ ≠ _; omega), trivial⟩ a b A3 n3 cc3).addRd (rd_of_own (own_set3 hown3 hB3 (by decide) (.int .i64 a) (.int .i64 b) (.slice A3 n3 cc3)))).addBlk (hB3.set3 (.int .i64 a) (.int .i64 b) (.slice A3 n3 cc3))
  simp only [List.nil_append, List.cons_append] at S3
  clear ca0 ca1 ca2 S2 Q3 hB3 hown3
  obtain ⟨ca0, ca1, ca2⟩ := (S3.blk 1 rfl).cell3
  go_wp2_with fail
  refine (HN.out _ _ _ _ (S3.rd 0 rfl)).mono ?_
  rintro e w4 ⟨A4, n4, cc4, rfl, hown4, hb4⟩
  try simp only at hown4 ⊢
  have hc4 := own_le hown4
  have lt4 := (S3.keep hb4).size
  have lt4g := ((S3.keep hb4).blk 1 rfl).lt
  have lt4a := ((S3.keep hb4).blk 3 rfl).lt
  have S4 := ((S3.keep hb4).addRd (rd_of_own hown4)).box #[.int .i64 r2.w, .int .i64 r2.h, .slice A4 n4 cc4] 24
  simp only [List.nil_append, List.cons_append] at S4
  clear z0 z1 z2 f0 f1 f2 ca0 ca1 ca2 S3 hown4
  obtain ⟨ca0, ca1, ca2⟩ := (S4.blk 5 rfl).cell3
  go_wp2_with fail
  refine (HN2.out _ _ _ _ (S4.rd 4 rfl)).mono ?_
  rintro e w5 ⟨A5, n5, cc5, rfl, hown5, hb5⟩
  try simp only at hown5 ⊢
  have hc5 := own_le hown5
  have Q5 := S4.keep hb5
  have hB5 := Q5.blk 5 rfl
  obtain ⟨z0, z1, z2⟩ := hB5.cell3
  obtain ⟨f0, f1, f2⟩ := hB5.frozen3
  have S5 := (((Q5.sub (L' := [.rd A0 n0 (bs.map Value.bool), .blk w.heap.size 24 #[.int .i64 a, .int .i64 b, .slice A0 n0 c0], .rd A3 n3 (bs.map Value.bool), .blk w2.heap.size 24 #[.int .i64 a, .int .i64 b, .slice A3 n3 cc3]]) (by simp)).put3 (bb := w4.heap.size) (by omega) hB5 ⟨⟨_, rfl⟩, (by show _ ≠ _; omega), ⟨_, rfl⟩, (by show _ ≠ _; omega), trivial⟩ a b A5 n5 cc5).addRd (rd_of_own (own_set3 hown5 hB5 (by decide) (.int .i64 a) (.int .i64 b) (.slice A5 n5 cc5)))).addBlk (hB5.set3 (.int .i64 a) (.int .i64 b) (.slice A5 n5 cc5))
  simp only [List.nil_append, List.cons_append] at S5
  clear ca0 ca1 ca2 S4 Q5 hB5 hown5
  obtain ⟨ca0, ca1, ca2⟩ := (S5.blk 1 rfl).cell3
  go_wp2_with fail
  refine (HS.out _ _ (by rfl) (by rfl) _ _ _ _ (S5.rd 0 rfl)).mono ?_
  rintro e w6 ⟨A6, n6, cc6, rfl, hown6, hb6⟩
  try simp only at hown6 ⊢
  have hc6 := own_le hown6
  have lt6 := (S5.keep hb6).size
  have lt6g := ((S5.keep hb6).blk 1 rfl).lt
  have lt6a := ((S5.keep hb6).blk 3 rfl).lt
  have lt6b := ((S5.keep hb6).blk 5 rfl).lt
  have S6 := ((S5.keep hb6).addRd (rd_of_own hown6)).box #[.int .i64 r3.w, .int .i64 r3.h, .slice A6 n6 cc6] 24
  simp only [List.nil_append, List.cons_append] at S6
  clear z0 z1 z2 f0 f1 f2 ca0 ca1 ca2 S5 hown6
  obtain ⟨ca0, ca1, ca2⟩ := (S6.blk 7 rfl).cell3
  go_wp2_with fail
  refine (HS2.out _ _ (by rfl) (by rfl) _ _ _ _ (S6.rd 6 rfl)).mono ?_
  rintro e w7 ⟨A7, n7, cc7, rfl, hown7, hb7⟩
  try simp only at hown7 ⊢
  have hc7 := own_le hown7
  have Q7 := S6.keep hb7
  have hB7 := Q7.blk 7 rfl
  obtain ⟨z0, z1, z2⟩ := hB7.cell3
  obtain ⟨f0, f1, f2⟩ := hB7.frozen3
  have S7 := (((Q7.sub (L' := [.rd A0 n0 (bs.map Value.bool), .blk w.heap.size 24 #[.int .i64 a, .int .i64 b, .slice A0 n0 c0], .rd A3 n3 (bs.map Value.bool), .blk w2.heap.size 24 #[.int .i64 a, .int .i64 b, .slice A3 n3 cc3], .rd A5 n5 (bs.map Value.bool), .blk w4.heap.size 24 #[.int .i64 a, .int .i64 b, .slice A5 n5 cc5]]) (by simp)).put3 (bb := w6.heap.size) (by omega) hB7 ⟨⟨_, rfl⟩, (by show _ ≠ _; omega), ⟨_, rfl⟩, (by show _ ≠ _; omega), ⟨_, rfl⟩, (by show _ ≠ _; omega), trivial⟩ a b A7 n7 cc7).addRd (rd_of_own (own_set3 hown7 hB7 (by decide) (.int .i64 a) (.int .i64 b) (.slice A7 n7 cc7)))).addBlk (hB7.set3 (.int .i64 a) (.int .i64 b) (.slice A7 n7 cc7))
  simp only [List.nil_append, List.cons_append] at S7
  clear ca0 ca1 ca2 S6 Q7 hB7 hown7
  obtain ⟨ca0, ca1, ca2⟩ := (S7.blk 3 rfl).cell3
  obtain ⟨da0, da1, da2⟩ := (S7.blk 1 rfl).cell3
  go_wp2_with fail
  refine (HE.out _ _ _ _ _ _ _ (S7.rd 2 rfl) (S7.rd 0 rfl)).mono ?_
  rintro e w8 ⟨rfl, hb8⟩
  have S8 := S7.keep hb8
  clear z0 z1 z2 f0 f1 f2 ca0 ca1 ca2 da0 da1 da2 S7
  obtain ⟨ca0, ca1, ca2⟩ := (S8.blk 5 rfl).cell3
  obtain ⟨da0, da1, da2⟩ := (S8.blk 1 rfl).cell3
  go_wp2_with fail
  refine (HE.out _ _ _ _ _ _ _ (S8.rd 4 rfl) (S8.rd 0 rfl)).mono ?_
  rintro e w9 ⟨rfl, hb9⟩
  have S9 := S8.keep hb9
  clear ca0 ca1 ca2 da0 da1 da2 S8
  obtain ⟨ca0, ca1, ca2⟩ := (S9.blk 7 rfl).cell3
  obtain ⟨da0, da1, da2⟩ := (S9.blk 1 rfl).cell3
  go_wp2_with fail
  refine (HE.out _ _ _ _ _ _ _ (S9.rd 6 rfl) (S9.rd 0 rfl)).mono ?_
  rintro e w10 ⟨rfl, hb10⟩
  have S10 := S9.keep hb10
  clear ca0 ca1 ca2 da0 da1 da2 S9
  go_wp2_with fail
  have SA := S10.sub (L' := [.rd A0 n0 (bs.map Value.bool), .blk w.heap.size 24 #[.int .i64 a, .int .i64 b, .slice A0 n0 c0]]) (by simp)
  clear S10
  go_loopw [20] (fun i wr => ∃ t : Nat, t ≤ 2 ∧ i = .int .i64 t ∧ St w [.rd A0 n0 (bs.map Value.bool), .blk w.heap.size 24 #[.int .i64 a, .int .i64 b, .slice A0 n0 c0]] wr) (fun i _ => 2 - (intOf i).toNat)
  case atStart => exact ⟨0, by omega, rfl, SA⟩
  case round =>
    clear SA
    obtain ⟨t, ht, rfl, S⟩ := hrel
    by_cases hlt : t < 2
    · obtain ⟨r4, e4, e4'⟩ := HMi.out t hlt
      have HM := Lib.hid (fun X hX A n c W h => mirror_to e4 X hX A n c W h)
      have HM2 := Lib.hid (fun X hX A n c W h => mirror_to e4' X hX A n c W h)
      clear e4 e4'
      obtain ⟨ca0, ca1, ca2⟩ := (S.blk 1 rfl).cell3
      go_wp2_with fail
      refine (HM.out _ (by rfl) _ _ _ _ (S.rd 0 rfl)).mono ?_
      rintro e w31 ⟨A31, n31, cc31, rfl, hown31, hb31⟩
      try simp only at hown31 ⊢
      have hc31 := own_le hown31
      have lt31 := (S.keep hb31).size
      have lt31g := ((S.keep hb31).blk 1 rfl).lt
      have S31 := ((S.keep hb31).addRd (rd_of_own hown31)).box #[.int .i64 r4.w, .int .i64 r4.h, .slice A31 n31 cc31] 24
      simp only [List.nil_append, List.cons_append] at S31
      clear ca0 ca1 ca2 S hown31
      obtain ⟨ca0, ca1, ca2⟩ := (S31.blk 3 rfl).cell3
      go_wp2_with fail
      refine (HM2.out _ (by rfl) _ _ _ _ (S31.rd 2 rfl)).mono ?_
      rintro e w32 ⟨A32, n32, cc32, rfl, hown32, hb32⟩
      try simp only at hown32 ⊢
      have hc32 := own_le hown32
      have Q32 := S31.keep hb32
      have hB32 := Q32.blk 3 rfl
      obtain ⟨z0, z1, z2⟩ := hB32.cell3
      obtain ⟨f0, f1, f2⟩ := hB32.frozen3
      have S32 := (((Q32.sub (L' := [.rd A0 n0 (bs.map Value.bool), .blk w.heap.size 24 #[.int .i64 a, .int .i64 b, .slice A0 n0 c0]]) (by simp)).put3 (bb := w31.heap.size) (by omega) hB32 ⟨⟨_, rfl⟩, (by show _ ≠ _; omega), trivial⟩ a b A32 n32 cc32).addRd (rd_of_own (own_set3 hown32 hB32 (by decide) (.int .i64 a) (.int .i64 b) (.slice A32 n32 cc32)))).addBlk (hB32.set3 (.int .i64 a) (.int .i64 b) (.slice A32 n32 cc32))
      simp only [List.nil_append, List.cons_append] at S32
      clear ca0 ca1 ca2 S31 Q32 hB32 hown32
      obtain ⟨ca0, ca1, ca2⟩ := (S32.blk 3 rfl).cell3
      obtain ⟨da0, da1, da2⟩ := (S32.blk 1 rfl).cell3
      go_wp2_with fail
      refine (HE.out _ _ _ _ _ _ _ (S32.rd 2 rfl) (S32.rd 0 rfl)).mono ?_
      rintro e w33 ⟨rfl, hb33⟩
      have S33 := S32.keep hb33
      clear z0 z1 z2 f0 f1 f2 ca0 ca1 ca2 da0 da1 da2 S32
      go_wp2_with fail
      go_roundw
      case rel => exact ⟨t + 1, by omega, by go_num, S33.sub (by simp)⟩
      case measure => simp [intOf]; omega
    · have ht2 : t = 2 := by omega
      subst ht2
      obtain ⟨ca0, ca1, ca2⟩ := (S.blk 1 rfl).cell3
      go_wp2_with fail
      refine (HTi.out _ _ _ _ (S.rd 0 rfl)).mono ?_
      rintro e w51 ⟨A51, n51, cc51, rfl, hown51, hb51⟩
      try simp only at hown51 ⊢
      have hc51 := own_le hown51
      have lt51 := (S.keep hb51).size
      have lt51g := ((S.keep hb51).blk 1 rfl).lt
      have S51 := ((S.keep hb51).addRd (rd_of_own hown51)).box #[.int .i64 P, .int .i64 Q, .slice A51 n51 cc51] 24
      simp only [List.nil_append, List.cons_append] at S51
      clear ca0 ca1 ca2 S hown51
      obtain ⟨ca0, ca1, ca2⟩ := (S51.blk 3 rfl).cell3
      obtain ⟨da0, da1, da2⟩ := (S51.blk 1 rfl).cell3
      go_wp2_with fail
      refine (HP.out _ _ (by omega) (by omega) _ _ _ _ (S51.rd 2 rfl)).mono ?_
      rintro e w52 ⟨A52, n52, cc52, rfl, hown52, hb52⟩
      try simp only at hown52 ⊢
      have hc52 := own_le hown52
      have lt52 := (S51.keep hb52).size
      have lt52g := ((S51.keep hb52).blk 1 rfl).lt
      have lt52t := ((S51.keep hb52).blk 3 rfl).lt
      have S52 := ((S51.keep hb52).addRd (rd_of_own hown52)).box #[.int .i64 a, .int .i64 b, .slice A52 n52 cc52] 24
      simp only [List.nil_append, List.cons_append] at S52
      clear ca0 ca1 ca2 da0 da1 da2 S51 hown52
      obtain ⟨ca0, ca1, ca2⟩ := (S52.blk 3 rfl).cell3
      obtain ⟨da0, da1, da2⟩ := (S52.blk 1 rfl).cell3
      go_wp2_with fail
      refine (HQ.out _ _ _ _ (S52.rd 2 rfl)).mono ?_
      rintro e w53 ⟨A53, n53, cc53, rfl, hown53, hb53⟩
      try simp only at hown53 ⊢
      have hc53 := own_le hown53
      have lt53 := (S52.keep hb53).size
      have lt53g := ((S52.keep hb53).blk 1 rfl).lt
      have lt53t := ((S52.keep hb53).blk 3 rfl).lt
      have lt53p := ((S52.keep hb53).blk 5 rfl).lt
      have S53 := ((S52.keep hb53).addRd (rd_of_own hown53)).box #[.int .i64 a, .int .i64 b, .slice A53 n53 cc53] 24
      simp only [List.nil_append, List.cons_append] at S53
      clear ca0 ca1 ca2 da0 da1 da2 S52 hown53
      obtain ⟨ca0, ca1, ca2⟩ := (S53.blk 3 rfl).cell3
      obtain ⟨da0, da1, da2⟩ := (S53.blk 1 rfl).cell3
      go_wp2_with fail
      refine (HSt.out _ _ (by rfl) (by rfl) _ _ _ _ (S53.rd 2 rfl)).mono ?_
      rintro e w54 ⟨A54, n54, cc54, rfl, hown54, hb54⟩
      try simp only at hown54 ⊢
      have hc54 := own_le hown54
      have lt54 := (S53.keep hb54).size
      have lt54g := ((S53.keep hb54).blk 1 rfl).lt
      have lt54t := ((S53.keep hb54).blk 3 rfl).lt
      have lt54p := ((S53.keep hb54).blk 5 rfl).lt
      have lt54q := ((S53.keep hb54).blk 7 rfl).lt
      have S54 := ((S53.keep hb54).addRd (rd_of_own hown54)).box #[.int .i64 P, .int .i64 Q, .slice A54 n54 cc54] 24
      simp only [List.nil_append, List.cons_append] at S54
      clear ca0 ca1 ca2 da0 da1 da2 S53 hown54
      obtain ⟨ca0, ca1, ca2⟩ := (S54.blk 5 rfl).cell3
      obtain ⟨da0, da1, da2⟩ := (S54.blk 1 rfl).cell3
      go_wp2_with fail
      refine (HE.out _ _ _ _ _ _ _ (S54.rd 4 rfl) (S54.rd 0 rfl)).mono ?_
      rintro e w55 ⟨rfl, hb55⟩
      have S55 := S54.keep hb55
      clear ca0 ca1 ca2 da0 da1 da2 S54
      obtain ⟨ca0, ca1, ca2⟩ := (S55.blk 7 rfl).cell3
      obtain ⟨da0, da1, da2⟩ := (S55.blk 1 rfl).cell3
      go_wp2_with fail
      refine (HE.out _ _ _ _ _ _ _ (S55.rd 6 rfl) (S55.rd 0 rfl)).mono ?_
      rintro e w56 ⟨rfl, hb56⟩
      have S56 := S55.keep hb56
      clear ca0 ca1 ca2 da0 da1 da2 S55
      obtain ⟨ca0, ca1, ca2⟩ := (S56.blk 9 rfl).cell3
      obtain ⟨da0, da1, da2⟩ := (S56.blk 3 rfl).cell3
      go_wp2_with fail
      refine (HET.out _ _ _ _ _ _ _ (S56.rd 8 rfl) (S56.rd 2 rfl)).mono ?_
      rintro e w57 ⟨rfl, hb57⟩
      have S57 := S56.keep hb57
      clear ca0 ca1 ca2 da0 da1 da2 S56
      go_wp2_with fail
      refine (alive_any _).mono ?_
      rintro e w58 ⟨rfl, hb58⟩
      have S58 := S57.keep hb58
      clear S57
      go_wp2_with fail
      go_ret
      exact ⟨rfl, S58.below⟩

set_option linter.unusedVariables false in
set_option maxHeartbeats 4000000 in
set_option maxRecDepth 100000 in
theorem undo_bad1 (a b : Nat) (bs : List Bool) (F : Nat → Nat → Bool) (ha1 : 1 ≤ a) (hb1 : 1 ≤ b) (ha : a ≤ 64) (hb : b ≤ 64) (hgt : (⟨a, b, bs⟩ : Gd) = tabD a b F) (dx dy : Int) (A0 : Option Addr) (n0 c0 : Nat) (w : World) (hr : Rd w A0 n0 (bs.map Value.bool)) (hx1 : -1000000000 ≤ dx) (hx2 : dx ≤ 1000000000) (hy1 : -1000000000 ≤ dy) (hy2 : dy ≤ 1000000000) (nx ny : Int) (hb1' : nx < 1) :
    Calls Tryd.prog 7 #[.agg #[.int .i64 a, .int .i64 b, .slice A0 n0 c0], .int .i64 dx, .int .i64 dy, .int .i64 nx, .int .i64 ny] w fun e w' => e = .returned (.bool true) ∧ Below w.heap.size w w' := by
  have hl : bs.length = n0 := by simpa using hr.len
  have hba : b * a ≤ 4096 := Nat.mul_le_mul hb ha
  have hbl : bs.length = b * a := by
    have q := congrArg Gd.bits hgt
    have q2 : bs = Pl.tab a b F := q
    rw [q2]
    exact tabD_len
  have HV := Lib.hid (fun A n c W h => valid_any ⟨a, b, bs⟩ A n c W h)
  have hv : validB ⟨a, b, bs⟩ = true := by
    unfold validB
    rw [decide_eq_true_eq]
    exact ⟨by show bs.length ≤ 4200; omega, by rw [hgt]; exact tabD_chk ha1 hb1 ha hb⟩
  rw [hv] at HV
  obtain ⟨r1, e1, e1'⟩ := undo_turn (F := F) ha1 hb1 ha hb
  obtain ⟨r2, e2, e2'⟩ := undo_not (F := F) ha1 hb1 ha hb
  obtain ⟨r3, e3, e3'⟩ := undo_shift (F := F) ha1 hb1 ha hb dx dy
  have HMi := Lib.hid (fun t ht => undo_mir (F := F) ha1 hb1 ha hb t ht)
  have HZ := same_self ⟨a, b, bs⟩ (by show bs.length ≤ 4096; omega)
  obtain ⟨tt, eT, htt⟩ := tile_none (F := F) (nx := nx) (ny := ny) ha1 hb1 ha hb (.inl hb1')
  rw [← hgt] at e1 e1' e2 e2' e3 e3' HMi eT
  have HT := Lib.hid (fun A n c W h => turn_to e1 A n c W h)
  have HT2 := Lib.hid (fun A n c W h => turn_to e1' A n c W h)
  have HN := Lib.hid (fun A n c W h => not_to e2 A n c W h)
  have HN2 := Lib.hid (fun A n c W h => not_to e2' A n c W h)
  have HS := Lib.hid (fun X Y hX hY A n c W h => shift_to e3 X Y hX hY A n c W h)
  have HS2 := Lib.hid (fun X Y hX hY A n c W h => shift_to e3' X Y hX hY A n c W h)
  have HE := Lib.hid (fun A A2 n c n2 c2 W h h2 => HZ A A2 n c n2 c2 W h h2)
  have HTi := Lib.hid (fun A n c W h => tile_to1 eT A n c W h)
  have htb : (tt != 0) = true := by simpa using htt
  have HTT := Lib.hid htt
  have hwx : IntKind.i64.wrap dx = dx := IntWalk.i64_in _ (by omega)
  have hwy : IntKind.i64.wrap dy = dy := IntWalk.i64_in _ (by omega)
  have hwnx : IntKind.i64.wrap (-dx) = -dx := IntWalk.i64_in _ (by omega)
  have hwny : IntKind.i64.wrap (-dy) = -dy := IntWalk.i64_in _ (by omega)
  have hL := Lib.hid hl
  clear hl hba hbl hv
  have S0 := ((St.start w).addRd hr).box #[.int .i64 a, .int .i64 b, .slice A0 n0 c0] 24
  simp only [List.nil_append, List.cons_append] at S0
  simp only at HV HE
  clear hr
  go_enter Tryd.func7, Tryd.ntmps7
  obtain ⟨ca0, ca1, ca2⟩ := (S0.blk 1 rfl).cell3
  go_wp2_with fail
  refine (HV.out _ _ _ _ hL.out).mono ?_
  rintro e w1 ⟨rfl, hb1⟩
  have S1 := S0.keep hb1
  clear ca0 ca1 ca2
  obtain ⟨ca0, ca1, ca2⟩ := (S1.blk 1 rfl).cell3
  go_wp2_with fail
  refine (HT.out _ _ _ _ (S1.rd 0 rfl)).mono ?_
  rintro e w2 ⟨A2, n2, cc2, rfl, hown2, hb2⟩
  try simp only at hown2 ⊢
  have hc2 := own_le hown2
  have lt2 := (S1.keep hb2).size
  have lt2g := ((S1.keep hb2).blk 1 rfl).lt
  have S2 := ((S1.keep hb2).addRd (rd_of_own hown2)).box #[.int .i64 r1.w, .int .i64 r1.h, .slice A2 n2 cc2] 24
  simp only [List.nil_append, List.cons_append] at S2
  clear ca0 ca1 ca2 S1 hown2
  obtain ⟨ca0, ca1, ca2⟩ := (S2.blk 3 rfl).cell3
  go_wp2_with fail
  refine (HT2.out _ _ _ _ (S2.rd 2 rfl)).mono ?_
  rintro e w3 ⟨A3, n3, cc3, rfl, hown3, hb3⟩
  try simp only at hown3 ⊢
  have hc3 := own_le hown3
  have Q3 := S2.keep hb3
  have hB3 := Q3.blk 3 rfl
  obtain ⟨z0, z1, z2⟩ := hB3.cell3
  obtain ⟨f0, f1, f2⟩ := hB3.frozen3
  have S3 := (((Q3.sub (L' := [.rd A0 n0 (bs.map Value.bool), .blk w.heap.size 24 #[.int .i64 a, .int .i64 b, .slice A0 n0 c0]]) (by simp)).put3 (bb := w2.heap.size) (by omega) hB3 ⟨⟨_, rfl⟩, (by show _ ≠ _; omega), trivial⟩ a b A3 n3 cc3).addRd (rd_of_own (own_set3 hown3 hB3 (by decide) (.int .i64 a) (.int .i64 b) (.slice A3 n3 cc3)))).addBlk (hB3.set3 (.int .i64 a) (.int .i64 b) (.slice A3 n3 cc3))
  simp only [List.nil_append, List.cons_append] at S3
  clear ca0 ca1 ca2 S2 Q3 hB3 hown3
  obtain ⟨ca0, ca1, ca2⟩ := (S3.blk 1 rfl).cell3
  go_wp2_with fail
  refine (HN.out _ _ _ _ (S3.rd 0 rfl)).mono ?_
  rintro e w4 ⟨A4, n4, cc4, rfl, hown4, hb4⟩
  try simp only at hown4 ⊢
  have hc4 := own_le hown4
  have lt4 := (S3.keep hb4).size
  have lt4g := ((S3.keep hb4).blk 1 rfl).lt
  have lt4a := ((S3.keep hb4).blk 3 rfl).lt
  have S4 := ((S3.keep hb4).addRd (rd_of_own hown4)).box #[.int .i64 r2.w, .int .i64 r2.h, .slice A4 n4 cc4] 24
  simp only [List.nil_append, List.cons_append] at S4
  clear z0 z1 z2 f0 f1 f2 ca0 ca1 ca2 S3 hown4
  obtain ⟨ca0, ca1, ca2⟩ := (S4.blk 5 rfl).cell3
  go_wp2_with fail
  refine (HN2.out _ _ _ _ (S4.rd 4 rfl)).mono ?_
  rintro e w5 ⟨A5, n5, cc5, rfl, hown5, hb5⟩
  try simp only at hown5 ⊢
  have hc5 := own_le hown5
  have Q5 := S4.keep hb5
  have hB5 := Q5.blk 5 rfl
  obtain ⟨z0, z1, z2⟩ := hB5.cell3
  obtain ⟨f0, f1, f2⟩ := hB5.frozen3
  have S5 := (((Q5.sub (L' := [.rd A0 n0 (bs.map Value.bool), .blk w.heap.size 24 #[.int .i64 a, .int .i64 b, .slice A0 n0 c0], .rd A3 n3 (bs.map Value.bool), .blk w2.heap.size 24 #[.int .i64 a, .int .i64 b, .slice A3 n3 cc3]]) (by simp)).put3 (bb := w4.heap.size) (by omega) hB5 ⟨⟨_, rfl⟩, (by show _ ≠ _; omega), ⟨_, rfl⟩, (by show _ ≠ _; omega), trivial⟩ a b A5 n5 cc5).addRd (rd_of_own (own_set3 hown5 hB5 (by decide) (.int .i64 a) (.int .i64 b) (.slice A5 n5 cc5)))).addBlk (hB5.set3 (.int .i64 a) (.int .i64 b) (.slice A5 n5 cc5))
  simp only [List.nil_append, List.cons_append] at S5
  clear ca0 ca1 ca2 S4 Q5 hB5 hown5
  obtain ⟨ca0, ca1, ca2⟩ := (S5.blk 1 rfl).cell3
  go_wp2_with fail
  refine (HS.out _ _ (by rfl) (by rfl) _ _ _ _ (S5.rd 0 rfl)).mono ?_
  rintro e w6 ⟨A6, n6, cc6, rfl, hown6, hb6⟩
  try simp only at hown6 ⊢
  have hc6 := own_le hown6
  have lt6 := (S5.keep hb6).size
  have lt6g := ((S5.keep hb6).blk 1 rfl).lt
  have lt6a := ((S5.keep hb6).blk 3 rfl).lt
  have lt6b := ((S5.keep hb6).blk 5 rfl).lt
  have S6 := ((S5.keep hb6).addRd (rd_of_own hown6)).box #[.int .i64 r3.w, .int .i64 r3.h, .slice A6 n6 cc6] 24
  simp only [List.nil_append, List.cons_append] at S6
  clear z0 z1 z2 f0 f1 f2 ca0 ca1 ca2 S5 hown6
  obtain ⟨ca0, ca1, ca2⟩ := (S6.blk 7 rfl).cell3
  go_wp2_with fail
  refine (HS2.out _ _ (by rfl) (by rfl) _ _ _ _ (S6.rd 6 rfl)).mono ?_
  rintro e w7 ⟨A7, n7, cc7, rfl, hown7, hb7⟩
  try simp only at hown7 ⊢
  have hc7 := own_le hown7
  have Q7 := S6.keep hb7
  have hB7 := Q7.blk 7 rfl
  obtain ⟨z0, z1, z2⟩ := hB7.cell3
  obtain ⟨f0, f1, f2⟩ := hB7.frozen3
  have S7 := (((Q7.sub (L' := [.rd A0 n0 (bs.map Value.bool), .blk w.heap.size 24 #[.int .i64 a, .int .i64 b, .slice A0 n0 c0], .rd A3 n3 (bs.map Value.bool), .blk w2.heap.size 24 #[.int .i64 a, .int .i64 b, .slice A3 n3 cc3], .rd A5 n5 (bs.map Value.bool), .blk w4.heap.size 24 #[.int .i64 a, .int .i64 b, .slice A5 n5 cc5]]) (by simp)).put3 (bb := w6.heap.size) (by omega) hB7 ⟨⟨_, rfl⟩, (by show _ ≠ _; omega), ⟨_, rfl⟩, (by show _ ≠ _; omega), ⟨_, rfl⟩, (by show _ ≠ _; omega), trivial⟩ a b A7 n7 cc7).addRd (rd_of_own (own_set3 hown7 hB7 (by decide) (.int .i64 a) (.int .i64 b) (.slice A7 n7 cc7)))).addBlk (hB7.set3 (.int .i64 a) (.int .i64 b) (.slice A7 n7 cc7))
  simp only [List.nil_append, List.cons_append] at S7
  clear ca0 ca1 ca2 S6 Q7 hB7 hown7
  obtain ⟨ca0, ca1, ca2⟩ := (S7.blk 3 rfl).cell3
  obtain ⟨da0, da1, da2⟩ := (S7.blk 1 rfl).cell3
  go_wp2_with fail
  refine (HE.out _ _ _ _ _ _ _ (S7.rd 2 rfl) (S7.rd 0 rfl)).mono ?_
  rintro e w8 ⟨rfl, hb8⟩
  have S8 := S7.keep hb8
  clear z0 z1 z2 f0 f1 f2 ca0 ca1 ca2 da0 da1 da2 S7
  obtain ⟨ca0, ca1, ca2⟩ := (S8.blk 5 rfl).cell3
  obtain ⟨da0, da1, da2⟩ := (S8.blk 1 rfl).cell3
  go_wp2_with fail
  refine (HE.out _ _ _ _ _ _ _ (S8.rd 4 rfl) (S8.rd 0 rfl)).mono ?_
  rintro e w9 ⟨rfl, hb9⟩
  have S9 := S8.keep hb9
  clear ca0 ca1 ca2 da0 da1 da2 S8
  obtain ⟨ca0, ca1, ca2⟩ := (S9.blk 7 rfl).cell3
  obtain ⟨da0, da1, da2⟩ := (S9.blk 1 rfl).cell3
  go_wp2_with fail
  refine (HE.out _ _ _ _ _ _ _ (S9.rd 6 rfl) (S9.rd 0 rfl)).mono ?_
  rintro e w10 ⟨rfl, hb10⟩
  have S10 := S9.keep hb10
  clear ca0 ca1 ca2 da0 da1 da2 S9
  go_wp2_with fail
  have SA := S10.sub (L' := [.rd A0 n0 (bs.map Value.bool), .blk w.heap.size 24 #[.int .i64 a, .int .i64 b, .slice A0 n0 c0]]) (by simp)
  clear S10
  go_loopw [20] (fun i wr => ∃ t : Nat, t ≤ 2 ∧ i = .int .i64 t ∧ St w [.rd A0 n0 (bs.map Value.bool), .blk w.heap.size 24 #[.int .i64 a, .int .i64 b, .slice A0 n0 c0]] wr) (fun i _ => 2 - (intOf i).toNat)
  case atStart => exact ⟨0, by omega, rfl, SA⟩
  case round =>
    clear SA
    obtain ⟨t, ht, rfl, S⟩ := hrel
    by_cases hlt : t < 2
    · obtain ⟨r4, e4, e4'⟩ := HMi.out t hlt
      have HM := Lib.hid (fun X hX A n c W h => mirror_to e4 X hX A n c W h)
      have HM2 := Lib.hid (fun X hX A n c W h => mirror_to e4' X hX A n c W h)
      clear e4 e4'
      obtain ⟨ca0, ca1, ca2⟩ := (S.blk 1 rfl).cell3
      go_wp2_with fail
      refine (HM.out _ (by rfl) _ _ _ _ (S.rd 0 rfl)).mono ?_
      rintro e w31 ⟨A31, n31, cc31, rfl, hown31, hb31⟩
      try simp only at hown31 ⊢
      have hc31 := own_le hown31
      have lt31 := (S.keep hb31).size
      have lt31g := ((S.keep hb31).blk 1 rfl).lt
      have S31 := ((S.keep hb31).addRd (rd_of_own hown31)).box #[.int .i64 r4.w, .int .i64 r4.h, .slice A31 n31 cc31] 24
      simp only [List.nil_append, List.cons_append] at S31
      clear ca0 ca1 ca2 S hown31
      obtain ⟨ca0, ca1, ca2⟩ := (S31.blk 3 rfl).cell3
      go_wp2_with fail
      refine (HM2.out _ (by rfl) _ _ _ _ (S31.rd 2 rfl)).mono ?_
      rintro e w32 ⟨A32, n32, cc32, rfl, hown32, hb32⟩
      try simp only at hown32 ⊢
      have hc32 := own_le hown32
      have Q32 := S31.keep hb32
      have hB32 := Q32.blk 3 rfl
      obtain ⟨z0, z1, z2⟩ := hB32.cell3
      obtain ⟨f0, f1, f2⟩ := hB32.frozen3
      have S32 := (((Q32.sub (L' := [.rd A0 n0 (bs.map Value.bool), .blk w.heap.size 24 #[.int .i64 a, .int .i64 b, .slice A0 n0 c0]]) (by simp)).put3 (bb := w31.heap.size) (by omega) hB32 ⟨⟨_, rfl⟩, (by show _ ≠ _; omega), trivial⟩ a b A32 n32 cc32).addRd (rd_of_own (own_set3 hown32 hB32 (by decide) (.int .i64 a) (.int .i64 b) (.slice A32 n32 cc32)))).addBlk (hB32.set3 (.int .i64 a) (.int .i64 b) (.slice A32 n32 cc32))
      simp only [List.nil_append, List.cons_append] at S32
      clear ca0 ca1 ca2 S31 Q32 hB32 hown32
      obtain ⟨ca0, ca1, ca2⟩ := (S32.blk 3 rfl).cell3
      obtain ⟨da0, da1, da2⟩ := (S32.blk 1 rfl).cell3
      go_wp2_with fail
      refine (HE.out _ _ _ _ _ _ _ (S32.rd 2 rfl) (S32.rd 0 rfl)).mono ?_
      rintro e w33 ⟨rfl, hb33⟩
      have S33 := S32.keep hb33
      clear z0 z1 z2 f0 f1 f2 ca0 ca1 ca2 da0 da1 da2 S32
      go_wp2_with fail
      go_roundw
      case rel => exact ⟨t + 1, by omega, by go_num, S33.sub (by simp)⟩
      case measure => simp [intOf]; omega
    · have ht2 : t = 2 := by omega
      subst ht2
      obtain ⟨ca0, ca1, ca2⟩ := (S.blk 1 rfl).cell3
      go_wp2_with fail
      refine (HTi.out _ _ _ _ (S.rd 0 rfl)).mono ?_
      rintro e w51 ⟨A51, n51, cc51, rfl, hown51, hb51⟩
      have S51 := (S.keep hb51).alloc (.cells #[.int .i64 Gd.zero.w, .int .i64 Gd.zero.h, .slice A51 n51 cc51] 24)
      clear S hown51 hb51
      clear ca0 ca1 ca2
      obtain ⟨ca0, ca1, ca2⟩ := (S51.blk 1 rfl).cell3
      have d1 : (64 : Int).tdiv (a : Int) = ((64 / a : Nat) : Int) := by rw [Int.tdiv_eq_ediv_of_nonneg (by omega), Int.natCast_ediv]; rfl
      have d2 : (64 : Int).tdiv (b : Int) = ((64 / b : Nat) : Int) := by rw [Int.tdiv_eq_ediv_of_nonneg (by omega), Int.natCast_ediv]; rfl
      have d3 : (64 : Int) / (a : Int) = ((64 / a : Nat) : Int) := by rw [Int.natCast_ediv]; rfl
      have d4 : (64 : Int) / (b : Int) = ((64 / b : Nat) : Int) := by rw [Int.natCast_ediv]; rfl
      have d5 : 64 / a ≤ 64 := Nat.div_le_self _ _
      have d6 : 64 / b ≤ 64 := Nat.div_le_self _ _
      have z1 : ¬ (a : Int) = 0 := by omega
      have z2 : ¬ (b : Int) = 0 := by omega
      have z3 : ¬ a = 0 := by omega
      have z4 : ¬ b = 0 := by omega
      generalize 64 / a = ka at *
      generalize 64 / b = kb at *
      have d7 : IntKind.i64.wrap (ka : Int) = (ka : Int) := IntWalk.i64_in _ (by omega)
      have d8 : IntKind.i64.wrap (kb : Int) = (kb : Int) := IntWalk.i64_in _ (by omega)
      have q1 : nx < 1 := hb1'
      go_wp2_with fail
      refine (alive_any _).mono ?_
      rintro e w60 ⟨rfl, hb60⟩
      go_wp2_with fail
      go_ret
      exact ⟨rfl, (S51.keep hb60).below⟩

set_option linter.unusedVariables false in
set_option maxHeartbeats 4000000 in
set_option maxRecDepth 100000 in
theorem undo_bad2 (a b : Nat) (bs : List Bool) (F : Nat → Nat → Bool) (ha1 : 1 ≤ a) (hb1 : 1 ≤ b) (ha : a ≤ 64) (hb : b ≤ 64) (hgt : (⟨a, b, bs⟩ : Gd) = tabD a b F) (dx dy : Int) (A0 : Option Addr) (n0 c0 : Nat) (w : World) (hr : Rd w A0 n0 (bs.map Value.bool)) (hx1 : -1000000000 ≤ dx) (hx2 : dx ≤ 1000000000) (hy1 : -1000000000 ≤ dy) (hy2 : dy ≤ 1000000000) (nx ny : Int) (hb1' : 1 ≤ nx) (hb2' : ny < 1) :
    Calls Tryd.prog 7 #[.agg #[.int .i64 a, .int .i64 b, .slice A0 n0 c0], .int .i64 dx, .int .i64 dy, .int .i64 nx, .int .i64 ny] w fun e w' => e = .returned (.bool true) ∧ Below w.heap.size w w' := by
  have hl : bs.length = n0 := by simpa using hr.len
  have hba : b * a ≤ 4096 := Nat.mul_le_mul hb ha
  have hbl : bs.length = b * a := by
    have q := congrArg Gd.bits hgt
    have q2 : bs = Pl.tab a b F := q
    rw [q2]
    exact tabD_len
  have HV := Lib.hid (fun A n c W h => valid_any ⟨a, b, bs⟩ A n c W h)
  have hv : validB ⟨a, b, bs⟩ = true := by
    unfold validB
    rw [decide_eq_true_eq]
    exact ⟨by show bs.length ≤ 4200; omega, by rw [hgt]; exact tabD_chk ha1 hb1 ha hb⟩
  rw [hv] at HV
  obtain ⟨r1, e1, e1'⟩ := undo_turn (F := F) ha1 hb1 ha hb
  obtain ⟨r2, e2, e2'⟩ := undo_not (F := F) ha1 hb1 ha hb
  obtain ⟨r3, e3, e3'⟩ := undo_shift (F := F) ha1 hb1 ha hb dx dy
  have HMi := Lib.hid (fun t ht => undo_mir (F := F) ha1 hb1 ha hb t ht)
  have HZ := same_self ⟨a, b, bs⟩ (by show bs.length ≤ 4096; omega)
  obtain ⟨tt, eT, htt⟩ := tile_none (F := F) (nx := nx) (ny := ny) ha1 hb1 ha hb (.inr (.inl hb2'))
  rw [← hgt] at e1 e1' e2 e2' e3 e3' HMi eT
  have HT := Lib.hid (fun A n c W h => turn_to e1 A n c W h)
  have HT2 := Lib.hid (fun A n c W h => turn_to e1' A n c W h)
  have HN := Lib.hid (fun A n c W h => not_to e2 A n c W h)
  have HN2 := Lib.hid (fun A n c W h => not_to e2' A n c W h)
  have HS := Lib.hid (fun X Y hX hY A n c W h => shift_to e3 X Y hX hY A n c W h)
  have HS2 := Lib.hid (fun X Y hX hY A n c W h => shift_to e3' X Y hX hY A n c W h)
  have HE := Lib.hid (fun A A2 n c n2 c2 W h h2 => HZ A A2 n c n2 c2 W h h2)
  have HTi := Lib.hid (fun A n c W h => tile_to1 eT A n c W h)
  have htb : (tt != 0) = true := by simpa using htt
  have HTT := Lib.hid htt
  have hwx : IntKind.i64.wrap dx = dx := IntWalk.i64_in _ (by omega)
  have hwy : IntKind.i64.wrap dy = dy := IntWalk.i64_in _ (by omega)
  have hwnx : IntKind.i64.wrap (-dx) = -dx := IntWalk.i64_in _ (by omega)
  have hwny : IntKind.i64.wrap (-dy) = -dy := IntWalk.i64_in _ (by omega)
  have hL := Lib.hid hl
  clear hl hba hbl hv
  have S0 := ((St.start w).addRd hr).box #[.int .i64 a, .int .i64 b, .slice A0 n0 c0] 24
  simp only [List.nil_append, List.cons_append] at S0
  simp only at HV HE
  clear hr
  go_enter Tryd.func7, Tryd.ntmps7
  obtain ⟨ca0, ca1, ca2⟩ := (S0.blk 1 rfl).cell3
  go_wp2_with fail
  refine (HV.out _ _ _ _ hL.out).mono ?_
  rintro e w1 ⟨rfl, hb1⟩
  have S1 := S0.keep hb1
  clear ca0 ca1 ca2
  obtain ⟨ca0, ca1, ca2⟩ := (S1.blk 1 rfl).cell3
  go_wp2_with fail
  refine (HT.out _ _ _ _ (S1.rd 0 rfl)).mono ?_
  rintro e w2 ⟨A2, n2, cc2, rfl, hown2, hb2⟩
  try simp only at hown2 ⊢
  have hc2 := own_le hown2
  have lt2 := (S1.keep hb2).size
  have lt2g := ((S1.keep hb2).blk 1 rfl).lt
  have S2 := ((S1.keep hb2).addRd (rd_of_own hown2)).box #[.int .i64 r1.w, .int .i64 r1.h, .slice A2 n2 cc2] 24
  simp only [List.nil_append, List.cons_append] at S2
  clear ca0 ca1 ca2 S1 hown2
  obtain ⟨ca0, ca1, ca2⟩ := (S2.blk 3 rfl).cell3
  go_wp2_with fail
  refine (HT2.out _ _ _ _ (S2.rd 2 rfl)).mono ?_
  rintro e w3 ⟨A3, n3, cc3, rfl, hown3, hb3⟩
  try simp only at hown3 ⊢
  have hc3 := own_le hown3
  have Q3 := S2.keep hb3
  have hB3 := Q3.blk 3 rfl
  obtain ⟨z0, z1, z2⟩ := hB3.cell3
  obtain ⟨f0, f1, f2⟩ := hB3.frozen3
  have S3 := (((Q3.sub (L' := [.rd A0 n0 (bs.map Value.bool), .blk w.heap.size 24 #[.int .i64 a, .int .i64 b, .slice A0 n0 c0]]) (by simp)).put3 (bb := w2.heap.size) (by omega) hB3 ⟨⟨_, rfl⟩, (by show _ ≠ _; omega), trivial⟩ a b A3 n3 cc3).addRd (rd_of_own (own_set3 hown3 hB3 (by decide) (.int .i64 a) (.int .i64 b) (.slice A3 n3 cc3)))).addBlk (hB3.set3 (.int .i64 a) (.int .i64 b) (.slice A3 n3 cc3))
  simp only [List.nil_append, List.cons_append] at S3
  clear ca0 ca1 ca2 S2 Q3 hB3 hown3
  obtain ⟨ca0, ca1, ca2⟩ := (S3.blk 1 rfl).cell3
  go_wp2_with fail
  refine (HN.out _ _ _ _ (S3.rd 0 rfl)).mono ?_
  rintro e w4 ⟨A4, n4, cc4, rfl, hown4, hb4⟩
  try simp only at hown4 ⊢
  have hc4 := own_le hown4
  have lt4 := (S3.keep hb4).size
  have lt4g := ((S3.keep hb4).blk 1 rfl).lt
  have lt4a := ((S3.keep hb4).blk 3 rfl).lt
  have S4 := ((S3.keep hb4).addRd (rd_of_own hown4)).box #[.int .i64 r2.w, .int .i64 r2.h, .slice A4 n4 cc4] 24
  simp only [List.nil_append, List.cons_append] at S4
  clear z0 z1 z2 f0 f1 f2 ca0 ca1 ca2 S3 hown4
  obtain ⟨ca0, ca1, ca2⟩ := (S4.blk 5 rfl).cell3
  go_wp2_with fail
  refine (HN2.out _ _ _ _ (S4.rd 4 rfl)).mono ?_
  rintro e w5 ⟨A5, n5, cc5, rfl, hown5, hb5⟩
  try simp only at hown5 ⊢
  have hc5 := own_le hown5
  have Q5 := S4.keep hb5
  have hB5 := Q5.blk 5 rfl
  obtain ⟨z0, z1, z2⟩ := hB5.cell3
  obtain ⟨f0, f1, f2⟩ := hB5.frozen3
  have S5 := (((Q5.sub (L' := [.rd A0 n0 (bs.map Value.bool), .blk w.heap.size 24 #[.int .i64 a, .int .i64 b, .slice A0 n0 c0], .rd A3 n3 (bs.map Value.bool), .blk w2.heap.size 24 #[.int .i64 a, .int .i64 b, .slice A3 n3 cc3]]) (by simp)).put3 (bb := w4.heap.size) (by omega) hB5 ⟨⟨_, rfl⟩, (by show _ ≠ _; omega), ⟨_, rfl⟩, (by show _ ≠ _; omega), trivial⟩ a b A5 n5 cc5).addRd (rd_of_own (own_set3 hown5 hB5 (by decide) (.int .i64 a) (.int .i64 b) (.slice A5 n5 cc5)))).addBlk (hB5.set3 (.int .i64 a) (.int .i64 b) (.slice A5 n5 cc5))
  simp only [List.nil_append, List.cons_append] at S5
  clear ca0 ca1 ca2 S4 Q5 hB5 hown5
  obtain ⟨ca0, ca1, ca2⟩ := (S5.blk 1 rfl).cell3
  go_wp2_with fail
  refine (HS.out _ _ (by rfl) (by rfl) _ _ _ _ (S5.rd 0 rfl)).mono ?_
  rintro e w6 ⟨A6, n6, cc6, rfl, hown6, hb6⟩
  try simp only at hown6 ⊢
  have hc6 := own_le hown6
  have lt6 := (S5.keep hb6).size
  have lt6g := ((S5.keep hb6).blk 1 rfl).lt
  have lt6a := ((S5.keep hb6).blk 3 rfl).lt
  have lt6b := ((S5.keep hb6).blk 5 rfl).lt
  have S6 := ((S5.keep hb6).addRd (rd_of_own hown6)).box #[.int .i64 r3.w, .int .i64 r3.h, .slice A6 n6 cc6] 24
  simp only [List.nil_append, List.cons_append] at S6
  clear z0 z1 z2 f0 f1 f2 ca0 ca1 ca2 S5 hown6
  obtain ⟨ca0, ca1, ca2⟩ := (S6.blk 7 rfl).cell3
  go_wp2_with fail
  refine (HS2.out _ _ (by rfl) (by rfl) _ _ _ _ (S6.rd 6 rfl)).mono ?_
  rintro e w7 ⟨A7, n7, cc7, rfl, hown7, hb7⟩
  try simp only at hown7 ⊢
  have hc7 := own_le hown7
  have Q7 := S6.keep hb7
  have hB7 := Q7.blk 7 rfl
  obtain ⟨z0, z1, z2⟩ := hB7.cell3
  obtain ⟨f0, f1, f2⟩ := hB7.frozen3
  have S7 := (((Q7.sub (L' := [.rd A0 n0 (bs.map Value.bool), .blk w.heap.size 24 #[.int .i64 a, .int .i64 b, .slice A0 n0 c0], .rd A3 n3 (bs.map Value.bool), .blk w2.heap.size 24 #[.int .i64 a, .int .i64 b, .slice A3 n3 cc3], .rd A5 n5 (bs.map Value.bool), .blk w4.heap.size 24 #[.int .i64 a, .int .i64 b, .slice A5 n5 cc5]]) (by simp)).put3 (bb := w6.heap.size) (by omega) hB7 ⟨⟨_, rfl⟩, (by show _ ≠ _; omega), ⟨_, rfl⟩, (by show _ ≠ _; omega), ⟨_, rfl⟩, (by show _ ≠ _; omega), trivial⟩ a b A7 n7 cc7).addRd (rd_of_own (own_set3 hown7 hB7 (by decide) (.int .i64 a) (.int .i64 b) (.slice A7 n7 cc7)))).addBlk (hB7.set3 (.int .i64 a) (.int .i64 b) (.slice A7 n7 cc7))
  simp only [List.nil_append, List.cons_append] at S7
  clear ca0 ca1 ca2 S6 Q7 hB7 hown7
  obtain ⟨ca0, ca1, ca2⟩ := (S7.blk 3 rfl).cell3
  obtain ⟨da0, da1, da2⟩ := (S7.blk 1 rfl).cell3
  go_wp2_with fail
  refine (HE.out _ _ _ _ _ _ _ (S7.rd 2 rfl) (S7.rd 0 rfl)).mono ?_
  rintro e w8 ⟨rfl, hb8⟩
  have S8 := S7.keep hb8
  clear z0 z1 z2 f0 f1 f2 ca0 ca1 ca2 da0 da1 da2 S7
  obtain ⟨ca0, ca1, ca2⟩ := (S8.blk 5 rfl).cell3
  obtain ⟨da0, da1, da2⟩ := (S8.blk 1 rfl).cell3
  go_wp2_with fail
  refine (HE.out _ _ _ _ _ _ _ (S8.rd 4 rfl) (S8.rd 0 rfl)).mono ?_
  rintro e w9 ⟨rfl, hb9⟩
  have S9 := S8.keep hb9
  clear ca0 ca1 ca2 da0 da1 da2 S8
  obtain ⟨ca0, ca1, ca2⟩ := (S9.blk 7 rfl).cell3
  obtain ⟨da0, da1, da2⟩ := (S9.blk 1 rfl).cell3
  go_wp2_with fail
  refine (HE.out _ _ _ _ _ _ _ (S9.rd 6 rfl) (S9.rd 0 rfl)).mono ?_
  rintro e w10 ⟨rfl, hb10⟩
  have S10 := S9.keep hb10
  clear ca0 ca1 ca2 da0 da1 da2 S9
  go_wp2_with fail
  have SA := S10.sub (L' := [.rd A0 n0 (bs.map Value.bool), .blk w.heap.size 24 #[.int .i64 a, .int .i64 b, .slice A0 n0 c0]]) (by simp)
  clear S10
  go_loopw [20] (fun i wr => ∃ t : Nat, t ≤ 2 ∧ i = .int .i64 t ∧ St w [.rd A0 n0 (bs.map Value.bool), .blk w.heap.size 24 #[.int .i64 a, .int .i64 b, .slice A0 n0 c0]] wr) (fun i _ => 2 - (intOf i).toNat)
  case atStart => exact ⟨0, by omega, rfl, SA⟩
  case round =>
    clear SA
    obtain ⟨t, ht, rfl, S⟩ := hrel
    by_cases hlt : t < 2
    · obtain ⟨r4, e4, e4'⟩ := HMi.out t hlt
      have HM := Lib.hid (fun X hX A n c W h => mirror_to e4 X hX A n c W h)
      have HM2 := Lib.hid (fun X hX A n c W h => mirror_to e4' X hX A n c W h)
      clear e4 e4'
      obtain ⟨ca0, ca1, ca2⟩ := (S.blk 1 rfl).cell3
      go_wp2_with fail
      refine (HM.out _ (by rfl) _ _ _ _ (S.rd 0 rfl)).mono ?_
      rintro e w31 ⟨A31, n31, cc31, rfl, hown31, hb31⟩
      try simp only at hown31 ⊢
      have hc31 := own_le hown31
      have lt31 := (S.keep hb31).size
      have lt31g := ((S.keep hb31).blk 1 rfl).lt
      have S31 := ((S.keep hb31).addRd (rd_of_own hown31)).box #[.int .i64 r4.w, .int .i64 r4.h, .slice A31 n31 cc31] 24
      simp only [List.nil_append, List.cons_append] at S31
      clear ca0 ca1 ca2 S hown31
      obtain ⟨ca0, ca1, ca2⟩ := (S31.blk 3 rfl).cell3
      go_wp2_with fail
      refine (HM2.out _ (by rfl) _ _ _ _ (S31.rd 2 rfl)).mono ?_
      rintro e w32 ⟨A32, n32, cc32, rfl, hown32, hb32⟩
      try simp only at hown32 ⊢
      have hc32 := own_le hown32
      have Q32 := S31.keep hb32
      have hB32 := Q32.blk 3 rfl
      obtain ⟨z0, z1, z2⟩ := hB32.cell3
      obtain ⟨f0, f1, f2⟩ := hB32.frozen3
      have S32 := (((Q32.sub (L' := [.rd A0 n0 (bs.map Value.bool), .blk w.heap.size 24 #[.int .i64 a, .int .i64 b, .slice A0 n0 c0]]) (by simp)).put3 (bb := w31.heap.size) (by omega) hB32 ⟨⟨_, rfl⟩, (by show _ ≠ _; omega), trivial⟩ a b A32 n32 cc32).addRd (rd_of_own (own_set3 hown32 hB32 (by decide) (.int .i64 a) (.int .i64 b) (.slice A32 n32 cc32)))).addBlk (hB32.set3 (.int .i64 a) (.int .i64 b) (.slice A32 n32 cc32))
      simp only [List.nil_append, List.cons_append] at S32
      clear ca0 ca1 ca2 S31 Q32 hB32 hown32
      obtain ⟨ca0, ca1, ca2⟩ := (S32.blk 3 rfl).cell3
      obtain ⟨da0, da1, da2⟩ := (S32.blk 1 rfl).cell3
      go_wp2_with fail
      refine (HE.out _ _ _ _ _ _ _ (S32.rd 2 rfl) (S32.rd 0 rfl)).mono ?_
      rintro e w33 ⟨rfl, hb33⟩
      have S33 := S32.keep hb33
      clear z0 z1 z2 f0 f1 f2 ca0 ca1 ca2 da0 da1 da2 S32
      go_wp2_with fail
      go_roundw
      case rel => exact ⟨t + 1, by omega, by go_num, S33.sub (by simp)⟩
      case measure => simp [intOf]; omega
    · have ht2 : t = 2 := by omega
      subst ht2
      obtain ⟨ca0, ca1, ca2⟩ := (S.blk 1 rfl).cell3
      go_wp2_with fail
      refine (HTi.out _ _ _ _ (S.rd 0 rfl)).mono ?_
      rintro e w51 ⟨A51, n51, cc51, rfl, hown51, hb51⟩
      have S51 := (S.keep hb51).alloc (.cells #[.int .i64 Gd.zero.w, .int .i64 Gd.zero.h, .slice A51 n51 cc51] 24)
      clear S hown51 hb51
      clear ca0 ca1 ca2
      obtain ⟨ca0, ca1, ca2⟩ := (S51.blk 1 rfl).cell3
      have d1 : (64 : Int).tdiv (a : Int) = ((64 / a : Nat) : Int) := by rw [Int.tdiv_eq_ediv_of_nonneg (by omega), Int.natCast_ediv]; rfl
      have d2 : (64 : Int).tdiv (b : Int) = ((64 / b : Nat) : Int) := by rw [Int.tdiv_eq_ediv_of_nonneg (by omega), Int.natCast_ediv]; rfl
      have d3 : (64 : Int) / (a : Int) = ((64 / a : Nat) : Int) := by rw [Int.natCast_ediv]; rfl
      have d4 : (64 : Int) / (b : Int) = ((64 / b : Nat) : Int) := by rw [Int.natCast_ediv]; rfl
      have d5 : 64 / a ≤ 64 := Nat.div_le_self _ _
      have d6 : 64 / b ≤ 64 := Nat.div_le_self _ _
      have z1 : ¬ (a : Int) = 0 := by omega
      have z2 : ¬ (b : Int) = 0 := by omega
      have z3 : ¬ a = 0 := by omega
      have z4 : ¬ b = 0 := by omega
      generalize 64 / a = ka at *
      generalize 64 / b = kb at *
      have d7 : IntKind.i64.wrap (ka : Int) = (ka : Int) := IntWalk.i64_in _ (by omega)
      have d8 : IntKind.i64.wrap (kb : Int) = (kb : Int) := IntWalk.i64_in _ (by omega)
      have q1 : ¬ nx < 1 := by omega
      go_wp2_with fail
      refine (alive_any _).mono ?_
      rintro e w60 ⟨rfl, hb60⟩
      go_wp2_with fail
      go_ret
      exact ⟨rfl, (S51.keep hb60).below⟩

set_option linter.unusedVariables false in
set_option maxHeartbeats 4000000 in
set_option maxRecDepth 100000 in
theorem undo_bad3 (a b : Nat) (bs : List Bool) (F : Nat → Nat → Bool) (ha1 : 1 ≤ a) (hb1 : 1 ≤ b) (ha : a ≤ 64) (hb : b ≤ 64) (hgt : (⟨a, b, bs⟩ : Gd) = tabD a b F) (dx dy : Int) (A0 : Option Addr) (n0 c0 : Nat) (w : World) (hr : Rd w A0 n0 (bs.map Value.bool)) (hx1 : -1000000000 ≤ dx) (hx2 : dx ≤ 1000000000) (hy1 : -1000000000 ≤ dy) (hy2 : dy ≤ 1000000000) (nx ny : Int) (hb1' : 1 ≤ nx) (hb2' : 1 ≤ ny) (hb3' : ((64 / a : Nat) : Int) < nx) :
    Calls Tryd.prog 7 #[.agg #[.int .i64 a, .int .i64 b, .slice A0 n0 c0], .int .i64 dx, .int .i64 dy, .int .i64 nx, .int .i64 ny] w fun e w' => e = .returned (.bool true) ∧ Below w.heap.size w w' := by
  have hl : bs.length = n0 := by simpa using hr.len
  have hba : b * a ≤ 4096 := Nat.mul_le_mul hb ha
  have hbl : bs.length = b * a := by
    have q := congrArg Gd.bits hgt
    have q2 : bs = Pl.tab a b F := q
    rw [q2]
    exact tabD_len
  have HV := Lib.hid (fun A n c W h => valid_any ⟨a, b, bs⟩ A n c W h)
  have hv : validB ⟨a, b, bs⟩ = true := by
    unfold validB
    rw [decide_eq_true_eq]
    exact ⟨by show bs.length ≤ 4200; omega, by rw [hgt]; exact tabD_chk ha1 hb1 ha hb⟩
  rw [hv] at HV
  obtain ⟨r1, e1, e1'⟩ := undo_turn (F := F) ha1 hb1 ha hb
  obtain ⟨r2, e2, e2'⟩ := undo_not (F := F) ha1 hb1 ha hb
  obtain ⟨r3, e3, e3'⟩ := undo_shift (F := F) ha1 hb1 ha hb dx dy
  have HMi := Lib.hid (fun t ht => undo_mir (F := F) ha1 hb1 ha hb t ht)
  have HZ := same_self ⟨a, b, bs⟩ (by show bs.length ≤ 4096; omega)
  obtain ⟨tt, eT, htt⟩ := tile_none (F := F) (nx := nx) (ny := ny) ha1 hb1 ha hb (.inr (.inr (.inl hb3')))
  rw [← hgt] at e1 e1' e2 e2' e3 e3' HMi eT
  have HT := Lib.hid (fun A n c W h => turn_to e1 A n c W h)
  have HT2 := Lib.hid (fun A n c W h => turn_to e1' A n c W h)
  have HN := Lib.hid (fun A n c W h => not_to e2 A n c W h)
  have HN2 := Lib.hid (fun A n c W h => not_to e2' A n c W h)
  have HS := Lib.hid (fun X Y hX hY A n c W h => shift_to e3 X Y hX hY A n c W h)
  have HS2 := Lib.hid (fun X Y hX hY A n c W h => shift_to e3' X Y hX hY A n c W h)
  have HE := Lib.hid (fun A A2 n c n2 c2 W h h2 => HZ A A2 n c n2 c2 W h h2)
  have HTi := Lib.hid (fun A n c W h => tile_to1 eT A n c W h)
  have htb : (tt != 0) = true := by simpa using htt
  have HTT := Lib.hid htt
  have hwx : IntKind.i64.wrap dx = dx := IntWalk.i64_in _ (by omega)
  have hwy : IntKind.i64.wrap dy = dy := IntWalk.i64_in _ (by omega)
  have hwnx : IntKind.i64.wrap (-dx) = -dx := IntWalk.i64_in _ (by omega)
  have hwny : IntKind.i64.wrap (-dy) = -dy := IntWalk.i64_in _ (by omega)
  have hL := Lib.hid hl
  clear hl hba hbl hv
  have S0 := ((St.start w).addRd hr).box #[.int .i64 a, .int .i64 b, .slice A0 n0 c0] 24
  simp only [List.nil_append, List.cons_append] at S0
  simp only at HV HE
  clear hr
  go_enter Tryd.func7, Tryd.ntmps7
  obtain ⟨ca0, ca1, ca2⟩ := (S0.blk 1 rfl).cell3
  go_wp2_with fail
  refine (HV.out _ _ _ _ hL.out).mono ?_
  rintro e w1 ⟨rfl, hb1⟩
  have S1 := S0.keep hb1
  clear ca0 ca1 ca2
  obtain ⟨ca0, ca1, ca2⟩ := (S1.blk 1 rfl).cell3
  go_wp2_with fail
  refine (HT.out _ _ _ _ (S1.rd 0 rfl)).mono ?_
  rintro e w2 ⟨A2, n2, cc2, rfl, hown2, hb2⟩
  try simp only at hown2 ⊢
  have hc2 := own_le hown2
  have lt2 := (S1.keep hb2).size
  have lt2g := ((S1.keep hb2).blk 1 rfl).lt
  have S2 := ((S1.keep hb2).addRd (rd_of_own hown2)).box #[.int .i64 r1.w, .int .i64 r1.h, .slice A2 n2 cc2] 24
  simp only [List.nil_append, List.cons_append] at S2
  clear ca0 ca1 ca2 S1 hown2
  obtain ⟨ca0, ca1, ca2⟩ := (S2.blk 3 rfl).cell3
  go_wp2_with fail
  refine (HT2.out _ _ _ _ (S2.rd 2 rfl)).mono ?_
  rintro e w3 ⟨A3, n3, cc3, rfl, hown3, hb3⟩
  try simp only at hown3 ⊢
  have hc3 := own_le hown3
  have Q3 := S2.keep hb3
  have hB3 := Q3.blk 3 rfl
  obtain ⟨z0, z1, z2⟩ := hB3.cell3
  obtain ⟨f0, f1, f2⟩ := hB3.frozen3
  have S3 := (((Q3.sub (L' := [.rd A0 n0 (bs.map Value.bool), .blk w.heap.size 24 #[.int .i64 a, .int .i64 b, .slice A0 n0 c0]]) (by simp)).put3 (bb := w2.heap.size) (by omega) hB3 ⟨⟨_, rfl⟩, (by show _ ≠ _; omega), trivial⟩ a b A3 n3 cc3).addRd (rd_of_own (own_set3 hown3 hB3 (by decide) (.int .i64 a) (.int .i64 b) (.slice A3 n3 cc3)))).addBlk (hB3.set3 (.int .i64 a) (.int .i64 b) (.slice A3 n3 cc3))
  simp only [List.nil_append, List.cons_append] at S3
  clear ca0 ca1 ca2 S2 Q3 hB3 hown3
  obtain ⟨ca0, ca1, ca2⟩ := (S3.blk 1 rfl).cell3
  go_wp2_with fail
  refine (HN.out _ _ _ _ (S3.rd 0 rfl)).mono ?_
  rintro e w4 ⟨A4, n4, cc4, rfl, hown4, hb4⟩
  try simp only at hown4 ⊢
  have hc4 := own_le hown4
  have lt4 := (S3.keep hb4).size
  have lt4g := ((S3.keep hb4).blk 1 rfl).lt
  have lt4a := ((S3.keep hb4).blk 3 rfl).lt
  have S4 := ((S3.keep hb4).addRd (rd_of_own hown4)).box #[.int .i64 r2.w, .int .i64 r2.h, .slice A4 n4 cc4] 24
  simp only [List.nil_append, List.cons_append] at S4
  clear z0 z1 z2 f0 f1 f2 ca0 ca1 ca2 S3 hown4
  obtain ⟨ca0, ca1, ca2⟩ := (S4.blk 5 rfl).cell3
  go_wp2_with fail
  refine (HN2.out _ _ _ _ (S4.rd 4 rfl)).mono ?_
  rintro e w5 ⟨A5, n5, cc5, rfl, hown5, hb5⟩
  try simp only at hown5 ⊢
  have hc5 := own_le hown5
  have Q5 := S4.keep hb5
  have hB5 := Q5.blk 5 rfl
  obtain ⟨z0, z1, z2⟩ := hB5.cell3
  obtain ⟨f0, f1, f2⟩ := hB5.frozen3
  have S5 := (((Q5.sub (L' := [.rd A0 n0 (bs.map Value.bool), .blk w.heap.size 24 #[.int .i64 a, .int .i64 b, .slice A0 n0 c0], .rd A3 n3 (bs.map Value.bool), .blk w2.heap.size 24 #[.int .i64 a, .int .i64 b, .slice A3 n3 cc3]]) (by simp)).put3 (bb := w4.heap.size) (by omega) hB5 ⟨⟨_, rfl⟩, (by show _ ≠ _; omega), ⟨_, rfl⟩, (by show _ ≠ _; omega), trivial⟩ a b A5 n5 cc5).addRd (rd_of_own (own_set3 hown5 hB5 (by decide) (.int .i64 a) (.int .i64 b) (.slice A5 n5 cc5)))).addBlk (hB5.set3 (.int .i64 a) (.int .i64 b) (.slice A5 n5 cc5))
  simp only [List.nil_append, List.cons_append] at S5
  clear ca0 ca1 ca2 S4 Q5 hB5 hown5
  obtain ⟨ca0, ca1, ca2⟩ := (S5.blk 1 rfl).cell3
  go_wp2_with fail
  refine (HS.out _ _ (by rfl) (by rfl) _ _ _ _ (S5.rd 0 rfl)).mono ?_
  rintro e w6 ⟨A6, n6, cc6, rfl, hown6, hb6⟩
  try simp only at hown6 ⊢
  have hc6 := own_le hown6
  have lt6 := (S5.keep hb6).size
  have lt6g := ((S5.keep hb6).blk 1 rfl).lt
  have lt6a := ((S5.keep hb6).blk 3 rfl).lt
  have lt6b := ((S5.keep hb6).blk 5 rfl).lt
  have S6 := ((S5.keep hb6).addRd (rd_of_own hown6)).box #[.int .i64 r3.w, .int .i64 r3.h, .slice A6 n6 cc6] 24
  simp only [List.nil_append, List.cons_append] at S6
  clear z0 z1 z2 f0 f1 f2 ca0 ca1 ca2 S5 hown6
  obtain ⟨ca0, ca1, ca2⟩ := (S6.blk 7 rfl).cell3
  go_wp2_with fail
  refine (HS2.out _ _ (by rfl) (by rfl) _ _ _ _ (S6.rd 6 rfl)).mono ?_
  rintro e w7 ⟨A7, n7, cc7, rfl, hown7, hb7⟩
  try simp only at hown7 ⊢
  have hc7 := own_le hown7
  have Q7 := S6.keep hb7
  have hB7 := Q7.blk 7 rfl
  obtain ⟨z0, z1, z2⟩ := hB7.cell3
  obtain ⟨f0, f1, f2⟩ := hB7.frozen3
  have S7 := (((Q7.sub (L' := [.rd A0 n0 (bs.map Value.bool), .blk w.heap.size 24 #[.int .i64 a, .int .i64 b, .slice A0 n0 c0], .rd A3 n3 (bs.map Value.bool), .blk w2.heap.size 24 #[.int .i64 a, .int .i64 b, .slice A3 n3 cc3], .rd A5 n5 (bs.map Value.bool), .blk w4.heap.size 24 #[.int .i64 a, .int .i64 b, .slice A5 n5 cc5]]) (by simp)).put3 (bb := w6.heap.size) (by omega) hB7 ⟨⟨_, rfl⟩, (by show _ ≠ _; omega), ⟨_, rfl⟩, (by show _ ≠ _; omega), ⟨_, rfl⟩, (by show _ ≠ _; omega), trivial⟩ a b A7 n7 cc7).addRd (rd_of_own (own_set3 hown7 hB7 (by decide) (.int .i64 a) (.int .i64 b) (.slice A7 n7 cc7)))).addBlk (hB7.set3 (.int .i64 a) (.int .i64 b) (.slice A7 n7 cc7))
  simp only [List.nil_append, List.cons_append] at S7
  clear ca0 ca1 ca2 S6 Q7 hB7 hown7
  obtain ⟨ca0, ca1, ca2⟩ := (S7.blk 3 rfl).cell3
  obtain ⟨da0, da1, da2⟩ := (S7.blk 1 rfl).cell3
  go_wp2_with fail
  refine (HE.out _ _ _ _ _ _ _ (S7.rd 2 rfl) (S7.rd 0 rfl)).mono ?_
  rintro e w8 ⟨rfl, hb8⟩
  have S8 := S7.keep hb8
  clear z0 z1 z2 f0 f1 f2 ca0 ca1 ca2 da0 da1 da2 S7
  obtain ⟨ca0, ca1, ca2⟩ := (S8.blk 5 rfl).cell3
  obtain ⟨da0, da1, da2⟩ := (S8.blk 1 rfl).cell3
  go_wp2_with fail
  refine (HE.out _ _ _ _ _ _ _ (S8.rd 4 rfl) (S8.rd 0 rfl)).mono ?_
  rintro e w9 ⟨rfl, hb9⟩
  have S9 := S8.keep hb9
  clear ca0 ca1 ca2 da0 da1 da2 S8
  obtain ⟨ca0, ca1, ca2⟩ := (S9.blk 7 rfl).cell3
  obtain ⟨da0, da1, da2⟩ := (S9.blk 1 rfl).cell3
  go_wp2_with fail
  refine (HE.out _ _ _ _ _ _ _ (S9.rd 6 rfl) (S9.rd 0 rfl)).mono ?_
  rintro e w10 ⟨rfl, hb10⟩
  have S10 := S9.keep hb10
  clear ca0 ca1 ca2 da0 da1 da2 S9
  go_wp2_with fail
  have SA := S10.sub (L' := [.rd A0 n0 (bs.map Value.bool), .blk w.heap.size 24 #[.int .i64 a, .int .i64 b, .slice A0 n0 c0]]) (by simp)
  clear S10
  go_loopw [20] (fun i wr => ∃ t : Nat, t ≤ 2 ∧ i = .int .i64 t ∧ St w [.rd A0 n0 (bs.map Value.bool), .blk w.heap.size 24 #[.int .i64 a, .int .i64 b, .slice A0 n0 c0]] wr) (fun i _ => 2 - (intOf i).toNat)
  case atStart => exact ⟨0, by omega, rfl, SA⟩
  case round =>
    clear SA
    obtain ⟨t, ht, rfl, S⟩ := hrel
    by_cases hlt : t < 2
    · obtain ⟨r4, e4, e4'⟩ := HMi.out t hlt
      have HM := Lib.hid (fun X hX A n c W h => mirror_to e4 X hX A n c W h)
      have HM2 := Lib.hid (fun X hX A n c W h => mirror_to e4' X hX A n c W h)
      clear e4 e4'
      obtain ⟨ca0, ca1, ca2⟩ := (S.blk 1 rfl).cell3
      go_wp2_with fail
      refine (HM.out _ (by rfl) _ _ _ _ (S.rd 0 rfl)).mono ?_
      rintro e w31 ⟨A31, n31, cc31, rfl, hown31, hb31⟩
      try simp only at hown31 ⊢
      have hc31 := own_le hown31
      have lt31 := (S.keep hb31).size
      have lt31g := ((S.keep hb31).blk 1 rfl).lt
      have S31 := ((S.keep hb31).addRd (rd_of_own hown31)).box #[.int .i64 r4.w, .int .i64 r4.h, .slice A31 n31 cc31] 24
      simp only [List.nil_append, List.cons_append] at S31
      clear ca0 ca1 ca2 S hown31
      obtain ⟨ca0, ca1, ca2⟩ := (S31.blk 3 rfl).cell3
      go_wp2_with fail
      refine (HM2.out _ (by rfl) _ _ _ _ (S31.rd 2 rfl)).mono ?_
      rintro e w32 ⟨A32, n32, cc32, rfl, hown32, hb32⟩
      try simp only at hown32 ⊢
      have hc32 := own_le hown32
      have Q32 := S31.keep hb32
      have hB32 := Q32.blk 3 rfl
      obtain ⟨z0, z1, z2⟩ := hB32.cell3
      obtain ⟨f0, f1, f2⟩ := hB32.frozen3
      have S32 := (((Q32.sub (L' := [.rd A0 n0 (bs.map Value.bool), .blk w.heap.size 24 #[.int .i64 a, .int .i64 b, .slice A0 n0 c0]]) (by simp)).put3 (bb := w31.heap.size) (by omega) hB32 ⟨⟨_, rfl⟩, (by show _ ≠ _; omega), trivial⟩ a b A32 n32 cc32).addRd (rd_of_own (own_set3 hown32 hB32 (by decide) (.int .i64 a) (.int .i64 b) (.slice A32 n32 cc32)))).addBlk (hB32.set3 (.int .i64 a) (.int .i64 b) (.slice A32 n32 cc32))
      simp only [List.nil_append, List.cons_append] at S32
      clear ca0 ca1 ca2 S31 Q32 hB32 hown32
      obtain ⟨ca0, ca1, ca2⟩ := (S32.blk 3 rfl).cell3
      obtain ⟨da0, da1, da2⟩ := (S32.blk 1 rfl).cell3
      go_wp2_with fail
      refine (HE.out _ _ _ _ _ _ _ (S32.rd 2 rfl) (S32.rd 0 rfl)).mono ?_
      rintro e w33 ⟨rfl, hb33⟩
      have S33 := S32.keep hb33
      clear z0 z1 z2 f0 f1 f2 ca0 ca1 ca2 da0 da1 da2 S32
      go_wp2_with fail
      go_roundw
      case rel => exact ⟨t + 1, by omega, by go_num, S33.sub (by simp)⟩
      case measure => simp [intOf]; omega
    · have ht2 : t = 2 := by omega
      subst ht2
      obtain ⟨ca0, ca1, ca2⟩ := (S.blk 1 rfl).cell3
      go_wp2_with fail
      refine (HTi.out _ _ _ _ (S.rd 0 rfl)).mono ?_
      rintro e w51 ⟨A51, n51, cc51, rfl, hown51, hb51⟩
      have S51 := (S.keep hb51).alloc (.cells #[.int .i64 Gd.zero.w, .int .i64 Gd.zero.h, .slice A51 n51 cc51] 24)
      clear S hown51 hb51
      clear ca0 ca1 ca2
      obtain ⟨ca0, ca1, ca2⟩ := (S51.blk 1 rfl).cell3
      have d1 : (64 : Int).tdiv (a : Int) = ((64 / a : Nat) : Int) := by rw [Int.tdiv_eq_ediv_of_nonneg (by omega), Int.natCast_ediv]; rfl
      have d2 : (64 : Int).tdiv (b : Int) = ((64 / b : Nat) : Int) := by rw [Int.tdiv_eq_ediv_of_nonneg (by omega), Int.natCast_ediv]; rfl
      have d3 : (64 : Int) / (a : Int) = ((64 / a : Nat) : Int) := by rw [Int.natCast_ediv]; rfl
      have d4 : (64 : Int) / (b : Int) = ((64 / b : Nat) : Int) := by rw [Int.natCast_ediv]; rfl
      have d5 : 64 / a ≤ 64 := Nat.div_le_self _ _
      have d6 : 64 / b ≤ 64 := Nat.div_le_self _ _
      have z1 : ¬ (a : Int) = 0 := by omega
      have z2 : ¬ (b : Int) = 0 := by omega
      have z3 : ¬ a = 0 := by omega
      have z4 : ¬ b = 0 := by omega
      generalize 64 / a = ka at *
      generalize 64 / b = kb at *
      have d7 : IntKind.i64.wrap (ka : Int) = (ka : Int) := IntWalk.i64_in _ (by omega)
      have d8 : IntKind.i64.wrap (kb : Int) = (kb : Int) := IntWalk.i64_in _ (by omega)
      have q1 : ¬ nx < 1 := by omega
      have q2 : ¬ ny < 1 := by omega
      go_wp2_with fail
      refine (alive_any _).mono ?_
      rintro e w60 ⟨rfl, hb60⟩
      go_wp2_with fail
      go_ret
      exact ⟨rfl, (S51.keep hb60).below⟩

set_option linter.unusedVariables false in
set_option maxHeartbeats 4000000 in
set_option maxRecDepth 100000 in
theorem undo_bad4 (a b : Nat) (bs : List Bool) (F : Nat → Nat → Bool) (ha1 : 1 ≤ a) (hb1 : 1 ≤ b) (ha : a ≤ 64) (hb : b ≤ 64) (hgt : (⟨a, b, bs⟩ : Gd) = tabD a b F) (dx dy : Int) (A0 : Option Addr) (n0 c0 : Nat) (w : World) (hr : Rd w A0 n0 (bs.map Value.bool)) (hx1 : -1000000000 ≤ dx) (hx2 : dx ≤ 1000000000) (hy1 : -1000000000 ≤ dy) (hy2 : dy ≤ 1000000000) (nx ny : Int) (hb1' : 1 ≤ nx) (hb2' : 1 ≤ ny) (hb3' : ¬ ((64 / a : Nat) : Int) < nx) (hb4' : ((64 / b : Nat) : Int) < ny) :
    Calls Tryd.prog 7 #[.agg #[.int .i64 a, .int .i64 b, .slice A0 n0 c0], .int .i64 dx, .int .i64 dy, .int .i64 nx, .int .i64 ny] w fun e w' => e = .returned (.bool true) ∧ Below w.heap.size w w' := by
  have hl : bs.length = n0 := by simpa using hr.len
  have hba : b * a ≤ 4096 := Nat.mul_le_mul hb ha
  have hbl : bs.length = b * a := by
    have q := congrArg Gd.bits hgt
    have q2 : bs = Pl.tab a b F := q
    rw [q2]
    exact tabD_len
  have HV := Lib.hid (fun A n c W h => valid_any ⟨a, b, bs⟩ A n c W h)
  have hv : validB ⟨a, b, bs⟩ = true := by
    unfold validB
    rw [decide_eq_true_eq]
    exact ⟨by show bs.length ≤ 4200; omega, by rw [hgt]; exact tabD_chk ha1 hb1 ha hb⟩
  rw [hv] at HV
  obtain ⟨r1, e1, e1'⟩ := undo_turn (F := F) ha1 hb1 ha hb
  obtain ⟨r2, e2, e2'⟩ := undo_not (F := F) ha1 hb1 ha hb
  obtain ⟨r3, e3, e3'⟩ := undo_shift (F := F) ha1 hb1 ha hb dx dy
  have HMi := Lib.hid (fun t ht => undo_mir (F := F) ha1 hb1 ha hb t ht)
  have HZ := same_self ⟨a, b, bs⟩ (by show bs.length ≤ 4096; omega)
  obtain ⟨tt, eT, htt⟩ := tile_none (F := F) (nx := nx) (ny := ny) ha1 hb1 ha hb (.inr (.inr (.inr hb4')))
  rw [← hgt] at e1 e1' e2 e2' e3 e3' HMi eT
  have HT := Lib.hid (fun A n c W h => turn_to e1 A n c W h)
  have HT2 := Lib.hid (fun A n c W h => turn_to e1' A n c W h)
  have HN := Lib.hid (fun A n c W h => not_to e2 A n c W h)
  have HN2 := Lib.hid (fun A n c W h => not_to e2' A n c W h)
  have HS := Lib.hid (fun X Y hX hY A n c W h => shift_to e3 X Y hX hY A n c W h)
  have HS2 := Lib.hid (fun X Y hX hY A n c W h => shift_to e3' X Y hX hY A n c W h)
  have HE := Lib.hid (fun A A2 n c n2 c2 W h h2 => HZ A A2 n c n2 c2 W h h2)
  have HTi := Lib.hid (fun A n c W h => tile_to1 eT A n c W h)
  have htb : (tt != 0) = true := by simpa using htt
  have HTT := Lib.hid htt
  have hwx : IntKind.i64.wrap dx = dx := IntWalk.i64_in _ (by omega)
  have hwy : IntKind.i64.wrap dy = dy := IntWalk.i64_in _ (by omega)
  have hwnx : IntKind.i64.wrap (-dx) = -dx := IntWalk.i64_in _ (by omega)
  have hwny : IntKind.i64.wrap (-dy) = -dy := IntWalk.i64_in _ (by omega)
  have hL := Lib.hid hl
  clear hl hba hbl hv
  have S0 := ((St.start w).addRd hr).box #[.int .i64 a, .int .i64 b, .slice A0 n0 c0] 24
  simp only [List.nil_append, List.cons_append] at S0
  simp only at HV HE
  clear hr
  go_enter Tryd.func7, Tryd.ntmps7
  obtain ⟨ca0, ca1, ca2⟩ := (S0.blk 1 rfl).cell3
  go_wp2_with fail
  refine (HV.out _ _ _ _ hL.out).mono ?_
  rintro e w1 ⟨rfl, hb1⟩
  have S1 := S0.keep hb1
  clear ca0 ca1 ca2
  obtain ⟨ca0, ca1, ca2⟩ := (S1.blk 1 rfl).cell3
  go_wp2_with fail
  refine (HT.out _ _ _ _ (S1.rd 0 rfl)).mono ?_
  rintro e w2 ⟨A2, n2, cc2, rfl, hown2, hb2⟩
  try simp only at hown2 ⊢
  have hc2 := own_le hown2
  have lt2 := (S1.keep hb2).size
  have lt2g := ((S1.keep hb2).blk 1 rfl).lt
  have S2 := ((S1.keep hb2).addRd (rd_of_own hown2)).box #[.int .i64 r1.w, .int .i64 r1.h, .slice A2 n2 cc2] 24
  simp only [List.nil_append, List.cons_append] at S2
  clear ca0 ca1 ca2 S1 hown2
  obtain ⟨ca0, ca1, ca2⟩ := (S2.blk 3 rfl).cell3
  go_wp2_with fail
  refine (HT2.out _ _ _ _ (S2.rd 2 rfl)).mono ?_
  rintro e w3 ⟨A3, n3, cc3, rfl, hown3, hb3⟩
  try simp only at hown3 ⊢
  have hc3 := own_le hown3
  have Q3 := S2.keep hb3
  have hB3 := Q3.blk 3 rfl
  obtain ⟨z0, z1, z2⟩ := hB3.cell3
  obtain ⟨f0, f1, f2⟩ := hB3.frozen3
  have S3 := (((Q3.sub (L' := [.rd A0 n0 (bs.map Value.bool), .blk w.heap.size 24 #[.int .i64 a, .int .i64 b, .slice A0 n0 c0]]) (by simp)).put3 (bb := w2.heap.size) (by omega) hB3 ⟨⟨_, rfl⟩, (by show _ ≠ _; omega), trivial⟩ a b A3 n3 cc3).addRd (rd_of_own (own_set3 hown3 hB3 (by decide) (.int .i64 a) (.int .i64 b) (.slice A3 n3 cc3)))).addBlk (hB3.set3 (.int .i64 a) (.int .i64 b) (.slice A3 n3 cc3))
  simp only [List.nil_append, List.cons_append] at S3
  clear ca0 ca1 ca2 S2 Q3 hB3 hown3
  obtain ⟨ca0, ca1, ca2⟩ := (S3.blk 1 rfl).cell3
  go_wp2_with fail
  refine (HN.out _ _ _ _ (S3.rd 0 rfl)).mono ?_
  rintro e w4 ⟨A4, n4, cc4, rfl, hown4, hb4⟩
  try simp only at hown4 ⊢
  have hc4 := own_le hown4
  have lt4 := (S3.keep hb4).size
  have lt4g := ((S3.keep hb4).blk 1 rfl).lt
  have lt4a := ((S3.keep hb4).blk 3 rfl).lt
  have S4 := ((S3.keep hb4).addRd (rd_of_own hown4)).box #[.int .i64 r2.w, .int .i64 r2.h, .slice A4 n4 cc4] 24
  simp only [List.nil_append, List.cons_append] at S4
  clear z0 z1 z2 f0 f1 f2 ca0 ca1 ca2 S3 hown4
  obtain ⟨ca0, ca1, ca2⟩ := (S4.blk 5 rfl).cell3
  go_wp2_with fail
  refine (HN2.out _ _ _ _ (S4.rd 4 rfl)).mono ?_
  rintro e w5 ⟨A5, n5, cc5, rfl, hown5, hb5⟩
  try simp only at hown5 ⊢
  have hc5 := own_le hown5
  have Q5 := S4.keep hb5
  have hB5 := Q5.blk 5 rfl
  obtain ⟨z0, z1, z2⟩ := hB5.cell3
  obtain ⟨f0, f1, f2⟩ := hB5.frozen3
  have S5 := (((Q5.sub (L' := [.rd A0 n0 (bs.map Value.bool), .blk w.heap.size 24 #[.int .i64 a, .int .i64 b, .slice A0 n0 c0], .rd A3 n3 (bs.map Value.bool), .blk w2.heap.size 24 #[.int .i64 a, .int .i64 b, .slice A3 n3 cc3]]) (by simp)).put3 (bb := w4.heap.size) (by omega) hB5 ⟨⟨_, rfl⟩, (by show _ ≠ _; omega), ⟨_, rfl⟩, (by show _ ≠ _; omega), trivial⟩ a b A5 n5 cc5).addRd (rd_of_own (own_set3 hown5 hB5 (by decide) (.int .i64 a) (.int .i64 b) (.slice A5 n5 cc5)))).addBlk (hB5.set3 (.int .i64 a) (.int .i64 b) (.slice A5 n5 cc5))
  simp only [List.nil_append, List.cons_append] at S5
  clear ca0 ca1 ca2 S4 Q5 hB5 hown5
  obtain ⟨ca0, ca1, ca2⟩ := (S5.blk 1 rfl).cell3
  go_wp2_with fail
  refine (HS.out _ _ (by rfl) (by rfl) _ _ _ _ (S5.rd 0 rfl)).mono ?_
  rintro e w6 ⟨A6, n6, cc6, rfl, hown6, hb6⟩
  try simp only at hown6 ⊢
  have hc6 := own_le hown6
  have lt6 := (S5.keep hb6).size
  have lt6g := ((S5.keep hb6).blk 1 rfl).lt
  have lt6a := ((S5.keep hb6).blk 3 rfl).lt
  have lt6b := ((S5.keep hb6).blk 5 rfl).lt
  have S6 := ((S5.keep hb6).addRd (rd_of_own hown6)).box #[.int .i64 r3.w, .int .i64 r3.h, .slice A6 n6 cc6] 24
  simp only [List.nil_append, List.cons_append] at S6
  clear z0 z1 z2 f0 f1 f2 ca0 ca1 ca2 S5 hown6
  obtain ⟨ca0, ca1, ca2⟩ := (S6.blk 7 rfl).cell3
  go_wp2_with fail
  refine (HS2.out _ _ (by rfl) (by rfl) _ _ _ _ (S6.rd 6 rfl)).mono ?_
  rintro e w7 ⟨A7, n7, cc7, rfl, hown7, hb7⟩
  try simp only at hown7 ⊢
  have hc7 := own_le hown7
  have Q7 := S6.keep hb7
  have hB7 := Q7.blk 7 rfl
  obtain ⟨z0, z1, z2⟩ := hB7.cell3
  obtain ⟨f0, f1, f2⟩ := hB7.frozen3
  have S7 := (((Q7.sub (L' := [.rd A0 n0 (bs.map Value.bool), .blk w.heap.size 24 #[.int .i64 a, .int .i64 b, .slice A0 n0 c0], .rd A3 n3 (bs.map Value.bool), .blk w2.heap.size 24 #[.int .i64 a, .int .i64 b, .slice A3 n3 cc3], .rd A5 n5 (bs.map Value.bool), .blk w4.heap.size 24 #[.int .i64 a, .int .i64 b, .slice A5 n5 cc5]]) (by simp)).put3 (bb := w6.heap.size) (by omega) hB7 ⟨⟨_, rfl⟩, (by show _ ≠ _; omega), ⟨_, rfl⟩, (by show _ ≠ _; omega), ⟨_, rfl⟩, (by show _ ≠ _; omega), trivial⟩ a b A7 n7 cc7).addRd (rd_of_own (own_set3 hown7 hB7 (by decide) (.int .i64 a) (.int .i64 b) (.slice A7 n7 cc7)))).addBlk (hB7.set3 (.int .i64 a) (.int .i64 b) (.slice A7 n7 cc7))
  simp only [List.nil_append, List.cons_append] at S7
  clear ca0 ca1 ca2 S6 Q7 hB7 hown7
  obtain ⟨ca0, ca1, ca2⟩ := (S7.blk 3 rfl).cell3
  obtain ⟨da0, da1, da2⟩ := (S7.blk 1 rfl).cell3
  go_wp2_with fail
  refine (HE.out _ _ _ _ _ _ _ (S7.rd 2 rfl) (S7.rd 0 rfl)).mono ?_
  rintro e w8 ⟨rfl, hb8⟩
  have S8 := S7.keep hb8
  clear z0 z1 z2 f0 f1 f2 ca0 ca1 ca2 da0 da1 da2 S7
  obtain ⟨ca0, ca1, ca2⟩ := (S8.blk 5 rfl).cell3
  obtain ⟨da0, da1, da2⟩ := (S8.blk 1 rfl).cell3
  go_wp2_with fail
  refine (HE.out _ _ _ _ _ _ _ (S8.rd 4 rfl) (S8.rd 0 rfl)).mono ?_
  rintro e w9 ⟨rfl, hb9⟩
  have S9 := S8.keep hb9
  clear ca0 ca1 ca2 da0 da1 da2 S8
  obtain ⟨ca0, ca1, ca2⟩ := (S9.blk 7 rfl).cell3
  obtain ⟨da0, da1, da2⟩ := (S9.blk 1 rfl).cell3
  go_wp2_with fail
  refine (HE.out _ _ _ _ _ _ _ (S9.rd 6 rfl) (S9.rd 0 rfl)).mono ?_
  rintro e w10 ⟨rfl, hb10⟩
  have S10 := S9.keep hb10
  clear ca0 ca1 ca2 da0 da1 da2 S9
  go_wp2_with fail
  have SA := S10.sub (L' := [.rd A0 n0 (bs.map Value.bool), .blk w.heap.size 24 #[.int .i64 a, .int .i64 b, .slice A0 n0 c0]]) (by simp)
  clear S10
  go_loopw [20] (fun i wr => ∃ t : Nat, t ≤ 2 ∧ i = .int .i64 t ∧ St w [.rd A0 n0 (bs.map Value.bool), .blk w.heap.size 24 #[.int .i64 a, .int .i64 b, .slice A0 n0 c0]] wr) (fun i _ => 2 - (intOf i).toNat)
  case atStart => exact ⟨0, by omega, rfl, SA⟩
  case round =>
    clear SA
    obtain ⟨t, ht, rfl, S⟩ := hrel
    by_cases hlt : t < 2
    · obtain ⟨r4, e4, e4'⟩ := HMi.out t hlt
      have HM := Lib.hid (fun X hX A n c W h => mirror_to e4 X hX A n c W h)
      have HM2 := Lib.hid (fun X hX A n c W h => mirror_to e4' X hX A n c W h)
      clear e4 e4'
      obtain ⟨ca0, ca1, ca2⟩ := (S.blk 1 rfl).cell3
      go_wp2_with fail
      refine (HM.out _ (by rfl) _ _ _ _ (S.rd 0 rfl)).mono ?_
      rintro e w31 ⟨A31, n31, cc31, rfl, hown31, hb31⟩
      try simp only at hown31 ⊢
      have hc31 := own_le hown31
      have lt31 := (S.keep hb31).size
      have lt31g := ((S.keep hb31).blk 1 rfl).lt
      have S31 := ((S.keep hb31).addRd (rd_of_own hown31)).box #[.int .i64 r4.w, .int .i64 r4.h, .slice A31 n31 cc31] 24
      simp only [List.nil_append, List.cons_append] at S31
      clear ca0 ca1 ca2 S hown31
      obtain ⟨ca0, ca1, ca2⟩ := (S31.blk 3 rfl).cell3
      go_wp2_with fail
      refine (HM2.out _ (by rfl) _ _ _ _ (S31.rd 2 rfl)).mono ?_
      rintro e w32 ⟨A32, n32, cc32, rfl, hown32, hb32⟩
      try simp only at hown32 ⊢
      have hc32 := own_le hown32
      have Q32 := S31.keep hb32
      have hB32 := Q32.blk 3 rfl
      obtain ⟨z0, z1, z2⟩ := hB32.cell3
      obtain ⟨f0, f1, f2⟩ := hB32.frozen3
      have S32 := (((Q32.sub (L' := [.rd A0 n0 (bs.map Value.bool), .blk w.heap.size 24 #[.int .i64 a, .int .i64 b, .slice A0 n0 c0]]) (by simp)).put3 (bb := w31.heap.size) (by omega) hB32 ⟨⟨_, rfl⟩, (by show _ ≠ _; omega), trivial⟩ a b A32 n32 cc32).addRd (rd_of_own (own_set3 hown32 hB32 (by decide) (.int .i64 a) (.int .i64 b) (.slice A32 n32 cc32)))).addBlk (hB32.set3 (.int .i64 a) (.int .i64 b) (.slice A32 n32 cc32))
      simp only [List.nil_append, List.cons_append] at S32
      clear ca0 ca1 ca2 S31 Q32 hB32 hown32
      obtain ⟨ca0, ca1, ca2⟩ := (S32.blk 3 rfl).cell3
      obtain ⟨da0, da1, da2⟩ := (S32.blk 1 rfl).cell3
      go_wp2_with fail
      refine (HE.out _ _ _ _ _ _ _ (S32.rd 2 rfl) (S32.rd 0 rfl)).mono ?_
      rintro e w33 ⟨rfl, hb33⟩
      have S33 := S32.keep hb33
      clear z0 z1 z2 f0 f1 f2 ca0 ca1 ca2 da0 da1 da2 S32
      go_wp2_with fail
      go_roundw
      case rel => exact ⟨t + 1, by omega, by go_num, S33.sub (by simp)⟩
      case measure => simp [intOf]; omega
    · have ht2 : t = 2 := by omega
      subst ht2
      obtain ⟨ca0, ca1, ca2⟩ := (S.blk 1 rfl).cell3
      go_wp2_with fail
      refine (HTi.out _ _ _ _ (S.rd 0 rfl)).mono ?_
      rintro e w51 ⟨A51, n51, cc51, rfl, hown51, hb51⟩
      have S51 := (S.keep hb51).alloc (.cells #[.int .i64 Gd.zero.w, .int .i64 Gd.zero.h, .slice A51 n51 cc51] 24)
      clear S hown51 hb51
      clear ca0 ca1 ca2
      obtain ⟨ca0, ca1, ca2⟩ := (S51.blk 1 rfl).cell3
      have d1 : (64 : Int).tdiv (a : Int) = ((64 / a : Nat) : Int) := by rw [Int.tdiv_eq_ediv_of_nonneg (by omega), Int.natCast_ediv]; rfl
      have d2 : (64 : Int).tdiv (b : Int) = ((64 / b : Nat) : Int) := by rw [Int.tdiv_eq_ediv_of_nonneg (by omega), Int.natCast_ediv]; rfl
      have d3 : (64 : Int) / (a : Int) = ((64 / a : Nat) : Int) := by rw [Int.natCast_ediv]; rfl
      have d4 : (64 : Int) / (b : Int) = ((64 / b : Nat) : Int) := by rw [Int.natCast_ediv]; rfl
      have d5 : 64 / a ≤ 64 := Nat.div_le_self _ _
      have d6 : 64 / b ≤ 64 := Nat.div_le_self _ _
      have z1 : ¬ (a : Int) = 0 := by omega
      have z2 : ¬ (b : Int) = 0 := by omega
      have z3 : ¬ a = 0 := by omega
      have z4 : ¬ b = 0 := by omega
      generalize 64 / a = ka at *
      generalize 64 / b = kb at *
      have d7 : IntKind.i64.wrap (ka : Int) = (ka : Int) := IntWalk.i64_in _ (by omega)
      have d8 : IntKind.i64.wrap (kb : Int) = (kb : Int) := IntWalk.i64_in _ (by omega)
      have q1 : ¬ nx < 1 := by omega
      have q2 : ¬ ny < 1 := by omega
      go_wp2_with fail
      refine (alive_any _).mono ?_
      rintro e w60 ⟨rfl, hb60⟩
      go_wp2_with fail
      go_ret
      exact ⟨rfl, (S51.keep hb60).below⟩

set_option maxHeartbeats 1000000 in
set_option maxRecDepth 100000 in
theorem undo_walk (g : Gd) (dx dy nx ny : Int) (A0 : Option Addr) (n0 c0 : Nat) (w : World) (hr : Rd w A0 n0 (g.bits.map Value.bool)) :
    Calls Tryd.prog 7 #[.agg #[.int .i64 g.w, .int .i64 g.h, .slice A0 n0 c0], .int .i64 dx, .int .i64 dy, .int .i64 nx, .int .i64 ny] w fun e w' => e = .returned (.bool true) ∧ Below w.heap.size w w' := by
  have hl : g.bits.length = n0 := by simpa using hr.len
  by_cases hg : validB g = true ∧ -1000000000 ≤ dx ∧ dx ≤ 1000000000 ∧ -1000000000 ≤ dy ∧ dy ≤ 1000000000
  · obtain ⟨hv, h1, h2, h3, h4⟩ := hg
    unfold validB at hv
    rw [decide_eq_true_eq] at hv
    obtain ⟨W, H, bs⟩ := g
    obtain ⟨a, b, e1, e2, ha1, ha, hb1, hb, hbl⟩ := chk_zero hv.2
    simp only at e1 e2 hbl hr ⊢
    subst e1 e2
    have hgt := gd_tab hbl
    by_cases c1 : nx < 1
    · exact undo_bad1 a b bs _ ha1 hb1 ha hb hgt dx dy A0 n0 c0 w hr h1 h2 h3 h4 nx ny c1
    by_cases c2 : ny < 1
    · exact undo_bad2 a b bs _ ha1 hb1 ha hb hgt dx dy A0 n0 c0 w hr h1 h2 h3 h4 nx ny (by omega) c2
    by_cases c3 : ((64 / a : Nat) : Int) < nx
    · exact undo_bad3 a b bs _ ha1 hb1 ha hb hgt dx dy A0 n0 c0 w hr h1 h2 h3 h4 nx ny (by omega) (by omega) c3
    by_cases c4 : ((64 / b : Nat) : Int) < ny
    · exact undo_bad4 a b bs _ ha1 hb1 ha hb hgt dx dy A0 n0 c0 w hr h1 h2 h3 h4 nx ny (by omega) (by omega) c3 c4
    obtain ⟨m, rfl⟩ : ∃ m : Nat, nx = (m : Int) := ⟨nx.toNat, by omega⟩
    obtain ⟨n, rfl⟩ : ∃ n : Nat, ny = (n : Int) := ⟨ny.toNat, by omega⟩
    exact undo_ok a b bs _ ha1 hb1 ha hb hgt dx dy A0 n0 c0 w hr h1 h2 h3 h4 m n (by omega) (by omega) (by omega) (by omega)
  · have HV := Lib.hid (fun A n c W h => valid_any g A n c W h)
    have HG := Lib.hid hg
    have hL := Lib.hid hl
    clear hg hl
    generalize validB g = v at *
    have S0 := (St.start w).box #[.int .i64 g.w, .int .i64 g.h, .slice A0 n0 c0] 24
    simp only [List.nil_append] at S0
    obtain ⟨d0, d1, d2⟩ := (S0.blk 0 rfl).cell3
    cases v with
    | false =>
      clear HG
      go_enter Tryd.func7, Tryd.ntmps7
      go_wp2_with fail
      refine (HV.out _ _ _ _ hL.out).mono ?_
      rintro e w1 ⟨rfl, hb1⟩
      have S1 := S0.keep hb1
      clear d0 d1 d2
      go_wp2_with fail
      refine (alive_any _).mono ?_
      rintro e w2 ⟨rfl, hb2⟩
      go_wp2_with fail
      go_ret
      exact ⟨rfl, (S1.keep hb2).below⟩
    | true =>
      go_enter Tryd.func7, Tryd.ntmps7
      go_wp2_with fail
      refine (HV.out _ _ _ _ hL.out).mono ?_
      rintro e w1 ⟨rfl, hb1⟩
      have S1 := S0.keep hb1
      clear d0 d1 d2
      go_wp2_with fail
      all_goals first
        | (exfalso; exact HG.out ⟨by trivial, by omega, by omega, by omega, by omega⟩)
        | (refine (alive_any _).mono ?_
           rintro e w2 ⟨rfl, hb2⟩
           go_wp2_with fail
           go_ret
           exact ⟨rfl, (S1.keep hb2).below⟩)
end Go.Proofs.YtebbcpeldncekaaDoor
