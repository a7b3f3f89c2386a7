/- The law GridAlgebra, walked: it answers true and turns nothing that was there, for any grids and steps. -/
import Derived.Test.YtebbcpeldncekaaDoorAlive1
import Derived.Test.YtebbcpeldncekaaDoorAlgP
import Derived.Test.YtebbcpeldncekaaDoorOps1
import Derived.Test.YtebbcpeldncekaaDoorJoin
import Derived.Test.YtebbcpeldncekaaDoorValid1
namespace Go.Proofs.YtebbcpeldncekaaDoor
open Go.RowKit

theorem and_to {g g2 r : Gd} (h : joinG (fun p q => p && q) g g2 = (r, 0)) (A A2 : Option Addr) (n c n2 c2 : Nat) (w : World) (hr : Rd w A n (g.bits.map Value.bool)) (hr2 : Rd w A2 n2 (g2.bits.map Value.bool)) :
    Calls Tryd.prog 25 #[.agg #[.int .i64 g.w, .int .i64 g.h, .slice A n c], .agg #[.int .i64 g2.w, .int .i64 g2.h, .slice A2 n2 c2]] w (RetG (r, 0) w) := h ▸ and_any g g2 A A2 n c n2 c2 w hr hr2
theorem or_to {g g2 r : Gd} (h : joinG (fun p q => p || q) g g2 = (r, 0)) (A A2 : Option Addr) (n c n2 c2 : Nat) (w : World) (hr : Rd w A n (g.bits.map Value.bool)) (hr2 : Rd w A2 n2 (g2.bits.map Value.bool)) :
    Calls Tryd.prog 26 #[.agg #[.int .i64 g.w, .int .i64 g.h, .slice A n c], .agg #[.int .i64 g2.w, .int .i64 g2.h, .slice A2 n2 c2]] w (RetG (r, 0) w) := h ▸ or_any g g2 A A2 n c n2 c2 w hr hr2
/-- What the law asks, of two tables of the same size. -/
theorem alg_plain {a b : Nat} (F F' : Nat → Nat → Bool) (dx dy : Int) (ha1 : 1 ≤ a) (hb1 : 1 ≤ b) (ha : a ≤ 64) (hb : b ≤ 64) : ∃ (gA gO gN gM gB gS gT : Gd) (n m c d q : Nat),
    joinG (fun p q => p && q) (tabD a b F) (tabD a b F') = (gA, 0) ∧ joinG (fun p q => p || q) (tabD a b F) (tabD a b F') = (gO, 0) ∧ notG (tabD a b F) = (gN, 0) ∧ notG (tabD a b F') = (gM, 0) ∧
    joinG (fun p q => p && q) gN gM = (gB, 0) ∧ notG gO = (gB, 0) ∧ gB.bits.length ≤ 4096 ∧ countG (tabD a b F) = ((n : Int), 0) ∧ countG (tabD a b F') = ((m : Int), 0) ∧ countG gA = ((c : Int), 0) ∧ countG gO = ((d : Int), 0) ∧ countG gN = ((q : Int), 0) ∧
    shiftG (tabD a b F) dx dy = (gS, 0) ∧ countG gS = ((n : Int), 0) ∧ turnG (tabD a b F) = (gT, 0) ∧ countG gT = ((n : Int), 0) ∧ n + m = c + d ∧ n + q = b * a ∧ m ≤ b * a := by
  have hba : b * a ≤ 4096 := Nat.mul_le_mul hb ha
  refine ⟨_, _, _, _, _, _, _, _, _, _, _, _, join_t ha1 hb1 ha hb _, join_t ha1 hb1 ha hb _, not_t ha1 hb1 ha hb, not_t ha1 hb1 ha hb, join_t ha1 hb1 ha hb _, ?_, ?_, count_t ha1 hb1 ha hb, count_t ha1 hb1 ha hb, count_t ha1 hb1 ha hb, count_t ha1 hb1 ha hb, count_t ha1 hb1 ha hb, shift_t ha1 hb1 ha hb dx dy, ?_, turn_t ha1 hb1 ha hb, ?_, alg_sum a b F F', alg_not a b F, by have := alg_not a b F'; omega⟩
  · rw [not_t ha1 hb1 ha hb]
    congr 1
    refine tabD_congr fun x y _ _ => ?_
    cases F x y <;> cases F' x y <;> rfl
  · simp only [tabD, tabD_len]; omega
  · rw [count_t ha1 hb1 ha hb, sumT_shift a b dx dy fun x y => b1 (F x y)]
  · rw [count_t hb1 ha1 hb ha, sumT_swap]

set_option maxHeartbeats 4000000 in
set_option maxRecDepth 100000 in
theorem alg_main (a b : Nat) (F F' : Nat → Nat → Bool) (ha1 : 1 ≤ a) (hb1 : 1 ≤ b) (ha : a ≤ 64) (hb : b ≤ 64) (dx dy : Int) (A0 A1 : Option Addr) (n0 n1 c0 c1 : Nat) (w : World) (hr : Rd w A0 n0 ((tabD a b F).bits.map Value.bool)) (hr1 : Rd w A1 n1 ((tabD a b F').bits.map Value.bool)) :
    Calls Tryd.prog 6 #[.agg #[.int .i64 (tabD a b F).w, .int .i64 (tabD a b F).h, .slice A0 n0 c0], .agg #[.int .i64 (tabD a b F').w, .int .i64 (tabD a b F').h, .slice A1 n1 c1], .int .i64 dx, .int .i64 dy] w fun e w' => e = .returned (.bool true) ∧ Below w.heap.size w w' := by
  have hl : (tabD a b F).bits.length = n0 := by simpa using hr.len
  have hl1 : (tabD a b F').bits.length = n1 := by simpa using hr1.len
  have hba : b * a ≤ 4096 := Nat.mul_le_mul hb ha
  have hv : ∀ Q, validB (tabD a b Q) = true := fun Q => by
    unfold validB
    rw [decide_eq_true_eq]
    refine ⟨?_, tabD_chk ha1 hb1 ha hb⟩
    simp only [tabD, tabD_len]; omega
  have HV := Lib.hid (fun A n c W h => valid_any (tabD a b F) A n c W h)
  have HV1 := Lib.hid (fun A n c W h => valid_any (tabD a b F') A n c W h)
  rw [hv] at HV HV1
  obtain ⟨gA, gO, gN, gM, gB, gS, gT, n, m, c, d, q, p1, p2, p3, p4, p5, p6, z, q1, q2, q3, q4, q5, p7, q6, p8, q7, s1, s2, s3⟩ := alg_plain F F' dx dy ha1 hb1 ha hb
  have hn1 : ((tabD a b F).w != (tabD a b F').w) = false := by simp [tabD]
  have hn2 : ((tabD a b F).h != (tabD a b F').h) = false := by simp [tabD]
  have hp : (tabD a b F).w * (tabD a b F).h = ((b * a : Nat) : Int) := by show (a : Int) * (b : Int) = _; rw [Int.natCast_mul, Int.mul_comm]
  rw [← s2] at hp
  generalize tabD a b F = g at *
  generalize tabD a b F' = g' at *
  have X1 := Lib.hid (fun A A2 n c n2 c2 W h h2 => and_to p1 A A2 n c n2 c2 W h h2)
  have X2 := Lib.hid (fun A A2 n c n2 c2 W h h2 => or_to p2 A A2 n c n2 c2 W h h2)
  have X3 := Lib.hid (fun A n c W h => not_to p3 A n c W h)
  have X4 := Lib.hid (fun A n c W h => not_to p4 A n c W h)
  have X5 := Lib.hid (fun A A2 n c n2 c2 W h h2 => and_to p5 A A2 n c n2 c2 W h h2)
  have X6 := Lib.hid (fun A n c W h => not_to p6 A n c W h)
  have X7 := Lib.hid (fun A A2 n c n2 c2 W h h2 => same_self gB z A A2 n c n2 c2 W h h2)
  have C1 := Lib.hid (fun A n c W h => count_to q1 A n c W h)
  have C2 := Lib.hid (fun A n c W h => count_to q2 A n c W h)
  have C3 := Lib.hid (fun A n c W h => count_to q3 A n c W h)
  have C4 := Lib.hid (fun A n c W h => count_to q4 A n c W h)
  have C5 := Lib.hid (fun A n c W h => count_to q5 A n c W h)
  have C6 := Lib.hid (fun A n c W h => count_to q6 A n c W h)
  have C7 := Lib.hid (fun A n c W h => count_to q7 A n c W h)
  have X8 := Lib.hid (fun X Y hX hY A n c W h => shift_to p7 X Y hX hY A n c W h)
  have X9 := Lib.hid (fun A n c W h => turn_to p8 A n c W h)
  have L0 := Lib.hid hl
  have L1 := Lib.hid hl1
  have t1 : (n : Int) + (m : Int) = ((n + m : Nat) : Int) := by omega
  have t2 : (c : Int) + (d : Int) = ((n + m : Nat) : Int) := by omega
  have t3 : (n : Int) + (q : Int) = ((n + q : Nat) : Int) := by omega
  have u1 : IntKind.i64.wrap ((n + m : Nat) : Int) = ((n + m : Nat) : Int) := IntWalk.i64_in _ (by omega)
  have u3 : IntKind.i64.wrap ((n + q : Nat) : Int) = ((n + q : Nat) : Int) := IntWalk.i64_in _ (by omega)
  generalize n + m = nm at *
  generalize n + q = nq at *
  have S0 := ((((St.start w).addRd hr).addRd hr1).box #[.int .i64 g.w, .int .i64 g.h, .slice A0 n0 c0] 24).box #[.int .i64 g'.w, .int .i64 g'.h, .slice A1 n1 c1] 24
  simp only [size_alloc1, List.nil_append, List.cons_append] at S0
  clear hl hl1 hr hr1 z p1 p2 p3 p4 p5 p6 p7 p8 q1 q2 q3 q4 q5 q6 q7 s1 s2 s3 hba hv
  obtain ⟨ca0, ca1, ca2⟩ := (S0.blk 2 rfl).cell3
  go_enter Tryd.func6, Tryd.ntmps6
  go_wp2_with fail
  refine (HV.out _ _ _ _ L0.out).mono ?_
  rintro e w1 ⟨rfl, hb1⟩
  have S1 := S0.keep hb1
  clear ca0 ca1 ca2 S0
  obtain ⟨ca0, ca1, ca2⟩ := (S1.blk 3 rfl).cell3
  go_wp2_with fail
  refine (HV1.out _ _ _ _ L1.out).mono ?_
  rintro e w2 ⟨rfl, hb2⟩
  have S2 := S1.keep hb2
  clear ca0 ca1 ca2 S1
  obtain ⟨ca0, ca1, ca2⟩ := (S2.blk 2 rfl).cell3
  obtain ⟨cb0, cb1, cb2⟩ := (S2.blk 3 rfl).cell3
  go_wp2_with fail
  refine (X1.out _ _ _ _ _ _ _ (S2.rd 0 rfl) (S2.rd 1 rfl)).mono ?_
  rintro e w3 ⟨A3, n3, cc3, rfl, hown3, hb3⟩
  simp only at hown3 ⊢
  have hc3 := own_le hown3
  have S3 := ((S2.keep hb3).addRd (rd_of_own hown3)).box #[.int .i64 gA.w, .int .i64 gA.h, .slice A3 n3 cc3] 24
  simp only [List.nil_append, List.cons_append] at S3
  clear ca0 ca1 ca2 cb0 cb1 cb2 S2 hown3
  obtain ⟨ca0, ca1, ca2⟩ := (S3.blk 2 rfl).cell3
  obtain ⟨cb0, cb1, cb2⟩ := (S3.blk 3 rfl).cell3
  go_wp2_with fail
  refine (X2.out _ _ _ _ _ _ _ (S3.rd 0 rfl) (S3.rd 1 rfl)).mono ?_
  rintro e w4 ⟨A4, n4, cc4, rfl, hown4, hb4⟩
  simp only at hown4 ⊢
  have hc4 := own_le hown4
  have S4 := ((S3.keep hb4).addRd (rd_of_own hown4)).box #[.int .i64 gO.w, .int .i64 gO.h, .slice A4 n4 cc4] 24
  simp only [List.nil_append, List.cons_append] at S4
  clear ca0 ca1 ca2 cb0 cb1 cb2 S3 hown4
  obtain ⟨ca0, ca1, ca2⟩ := (S4.blk 2 rfl).cell3
  go_wp2_with fail
  refine (X3.out _ _ _ _ (S4.rd 0 rfl)).mono ?_
  rintro e w5 ⟨A5, n5, cc5, rfl, hown5, hb5⟩
  simp only at hown5 ⊢
  have hc5 := own_le hown5
  have S5 := ((S4.keep hb5).addRd (rd_of_own hown5)).box #[.int .i64 gN.w, .int .i64 gN.h, .slice A5 n5 cc5] 24
  simp only [List.nil_append, List.cons_append] at S5
  clear ca0 ca1 ca2 S4 hown5
  obtain ⟨ca0, ca1, ca2⟩ := (S5.blk 3 rfl).cell3
  go_wp2_with fail
  refine (X4.out _ _ _ _ (S5.rd 1 rfl)).mono ?_
  rintro e w6 ⟨A6, n6, cc6, rfl, hown6, hb6⟩
  simp only at hown6 ⊢
  have hc6 := own_le hown6
  have S6 := ((S5.keep hb6).addRd (rd_of_own hown6)).box #[.int .i64 gM.w, .int .i64 gM.h, .slice A6 n6 cc6] 24
  simp only [List.nil_append, List.cons_append] at S6
  clear ca0 ca1 ca2 S5 hown6
  obtain ⟨ca0, ca1, ca2⟩ := (S6.blk 9 rfl).cell3
  obtain ⟨cb0, cb1, cb2⟩ := (S6.blk 11 rfl).cell3
  go_wp2_with fail
  refine (X5.out _ _ _ _ _ _ _ (S6.rd 8 rfl) (S6.rd 10 rfl)).mono ?_
  rintro e w7 ⟨A7, n7, cc7, rfl, hown7, hb7⟩
  simp only at hown7 ⊢
  have hc7 := own_le hown7
  have S7 := ((S6.keep hb7).addRd (rd_of_own hown7)).box #[.int .i64 gB.w, .int .i64 gB.h, .slice A7 n7 cc7] 24
  simp only [List.nil_append, List.cons_append] at S7
  clear ca0 ca1 ca2 cb0 cb1 cb2 S6 hown7
  obtain ⟨ca0, ca1, ca2⟩ := (S7.blk 7 rfl).cell3
  go_wp2_with fail
  refine (X6.out _ _ _ _ (S7.rd 6 rfl)).mono ?_
  rintro e w8 ⟨A8, n8, cc8, rfl, hown8, hb8⟩
  simp only at hown8 ⊢
  have hc8 := own_le hown8
  have S8 := ((S7.keep hb8).addRd (rd_of_own hown8)).box #[.int .i64 gB.w, .int .i64 gB.h, .slice A8 n8 cc8] 24
  simp only [List.nil_append, List.cons_append] at S8
  clear ca0 ca1 ca2 S7 hown8
  obtain ⟨ca0, ca1, ca2⟩ := (S8.blk 13 rfl).cell3
  obtain ⟨cb0, cb1, cb2⟩ := (S8.blk 15 rfl).cell3
  go_wp2_with fail
  refine (X7.out _ _ _ _ _ _ _ (S8.rd 12 rfl) (S8.rd 14 rfl)).mono ?_
  rintro e w9 ⟨rfl, hb9⟩
  have S9 := S8.keep hb9
  clear ca0 ca1 ca2 cb0 cb1 cb2 S8
  obtain ⟨ca0, ca1, ca2⟩ := (S9.blk 2 rfl).cell3
  go_wp2_with fail
  refine (C1.out _ _ _ _ (S9.rd 0 rfl)).mono ?_
  rintro e w10 ⟨rfl, hb10⟩
  have S10 := S9.keep hb10
  clear ca0 ca1 ca2 S9
  obtain ⟨ca0, ca1, ca2⟩ := (S10.blk 3 rfl).cell3
  go_wp2_with fail
  refine (C2.out _ _ _ _ (S10.rd 1 rfl)).mono ?_
  rintro e w11 ⟨rfl, hb11⟩
  have S11 := S10.keep hb11
  clear ca0 ca1 ca2 S10
  obtain ⟨ca0, ca1, ca2⟩ := (S11.blk 5 rfl).cell3
  go_wp2_with fail
  refine (C3.out _ _ _ _ (S11.rd 4 rfl)).mono ?_
  rintro e w12 ⟨rfl, hb12⟩
  have S12 := S11.keep hb12
  clear ca0 ca1 ca2 S11
  obtain ⟨ca0, ca1, ca2⟩ := (S12.blk 7 rfl).cell3
  go_wp2_with fail
  refine (C4.out _ _ _ _ (S12.rd 6 rfl)).mono ?_
  rintro e w13 ⟨rfl, hb13⟩
  have S13 := S12.keep hb13
  clear ca0 ca1 ca2 S12
  obtain ⟨ca0, ca1, ca2⟩ := (S13.blk 9 rfl).cell3
  go_wp2_with fail
  refine (C5.out _ _ _ _ (S13.rd 8 rfl)).mono ?_
  rintro e w14 ⟨rfl, hb14⟩
  have S14 := S13.keep hb14
  clear ca0 ca1 ca2 S13
  obtain ⟨ca0, ca1, ca2⟩ := (S14.blk 2 rfl).cell3
  go_wp2_with fail
  refine (X8.out _ _ (by rfl) (by rfl) _ _ _ _ (S14.rd 0 rfl)).mono ?_
  rintro e w15 ⟨A15, n15, cc15, rfl, hown15, hb15⟩
  simp only at hown15 ⊢
  have hc15 := own_le hown15
  have S15 := ((S14.keep hb15).addRd (rd_of_own hown15)).box #[.int .i64 gS.w, .int .i64 gS.h, .slice A15 n15 cc15] 24
  simp only [List.nil_append, List.cons_append] at S15
  clear ca0 ca1 ca2 S14 hown15
  obtain ⟨ca0, ca1, ca2⟩ := (S15.blk 17 rfl).cell3
  go_wp2_with fail
  refine (C6.out _ _ _ _ (S15.rd 16 rfl)).mono ?_
  rintro e w16 ⟨rfl, hb16⟩
  have S16 := S15.keep hb16
  clear ca0 ca1 ca2 S15
  obtain ⟨ca0, ca1, ca2⟩ := (S16.blk 2 rfl).cell3
  go_wp2_with fail
  refine (X9.out _ _ _ _ (S16.rd 0 rfl)).mono ?_
  rintro e w17 ⟨A17, n17, cc17, rfl, hown17, hb17⟩
  simp only at hown17 ⊢
  have hc17 := own_le hown17
  have S17 := ((S16.keep hb17).addRd (rd_of_own hown17)).box #[.int .i64 gT.w, .int .i64 gT.h, .slice A17 n17 cc17] 24
  simp only [List.nil_append, List.cons_append] at S17
  clear ca0 ca1 ca2 S16 hown17
  obtain ⟨ca0, ca1, ca2⟩ := (S17.blk 19 rfl).cell3
  go_wp2_with fail
  refine (C7.out _ _ _ _ (S17.rd 18 rfl)).mono ?_
  rintro e w18 ⟨rfl, hb18⟩
  have S18 := S17.keep hb18
  clear ca0 ca1 ca2 S17
  obtain ⟨ca0, ca1, ca2⟩ := (S18.blk 2 rfl).cell3
  go_wp2_with fail
  refine (alive_any _).mono ?_
  rintro e w19 ⟨rfl, hb19⟩
  have S19 := S18.keep hb19
  clear ca0 ca1 ca2 S18
  go_wp2_with fail
  go_ret
  exact ⟨rfl, S19.below⟩

set_option maxHeartbeats 1000000 in
set_option maxRecDepth 100000 in
theorem alg_walk (g g' : Gd) (dx dy : Int) (A0 A1 : Option Addr) (n0 n1 c0 c1 : Nat) (w : World) (hr : Rd w A0 n0 (g.bits.map Value.bool)) (hr1 : Rd w A1 n1 (g'.bits.map Value.bool)) :
    Calls Tryd.prog 6 #[.agg #[.int .i64 g.w, .int .i64 g.h, .slice A0 n0 c0], .agg #[.int .i64 g'.w, .int .i64 g'.h, .slice A1 n1 c1], .int .i64 dx, .int .i64 dy] w fun e w' => e = .returned (.bool true) ∧ Below w.heap.size w w' := by
  have hl : g.bits.length = n0 := by simpa using hr.len
  have hl1 : g'.bits.length = n1 := by simpa using hr1.len
  have HV := Lib.hid (fun A n c W h => valid_any g A n c W h)
  have HV1 := Lib.hid (fun A n c W h => valid_any g' A n c W h)
  have L0 := Lib.hid hl
  have L1 := Lib.hid hl1
  have S0 := ((St.start w).box #[.int .i64 g.w, .int .i64 g.h, .slice A0 n0 c0] 24).box #[.int .i64 g'.w, .int .i64 g'.h, .slice A1 n1 c1] 24
  simp only [size_alloc1, List.nil_append, List.cons_append] at S0
  obtain ⟨a0, a1, a2⟩ := (S0.blk 0 rfl).cell3
  have fin : ∀ {Wl : World}, St w [Fact.blk w.heap.size 24 #[.int .i64 g.w, .int .i64 g.h, .slice A0 n0 c0], Fact.blk (w.heap.size + 1) 24 #[.int .i64 g'.w, .int .i64 g'.h, .slice A1 n1 c1]] Wl → Below w.heap.size w Wl := fun h => h.below
  cases hv : validB g with
  | false =>
    rw [hv] at HV
    clear hv hr hr1 hl hl1
    go_enter Tryd.func6, Tryd.ntmps6
    go_wp2_with fail
    refine (HV.out _ _ _ _ L0.out).mono ?_
    rintro e w1 ⟨rfl, hb1⟩
    have S1 := S0.keep hb1
    clear a0 a1 a2
    go_wp2_with fail
    refine (alive_any _).mono ?_
    rintro e w2 ⟨rfl, hb2⟩
    go_wp2_with fail
    go_ret
    exact ⟨rfl, fin (S1.keep hb2)⟩
  | true =>
    cases hv1 : validB g' with
    | false =>
      rw [hv] at HV
      rw [hv1] at HV1
      clear hv hv1 hr hr1 hl hl1
      go_enter Tryd.func6, Tryd.ntmps6
      go_wp2_with fail
      refine (HV.out _ _ _ _ L0.out).mono ?_
      rintro e w1 ⟨rfl, hb1⟩
      have S1 := S0.keep hb1
      clear a0 a1 a2
      obtain ⟨a0, a1, a2⟩ := (S1.blk 1 rfl).cell3
      go_wp2_with fail
      refine (HV1.out _ _ _ _ L1.out).mono ?_
      rintro e w2 ⟨rfl, hb2⟩
      have S2 := S1.keep hb2
      go_wp2_with fail
      refine (alive_any _).mono ?_
      rintro e w3 ⟨rfl, hb3⟩
      go_wp2_with fail
      go_ret
      exact ⟨rfl, fin (S2.keep hb3)⟩
    | true =>
      by_cases hs : g.w = g'.w ∧ g.h = g'.h
      · unfold validB at hv hv1
        rw [decide_eq_true_eq] at hv hv1
        obtain ⟨W, H, bs⟩ := g
        obtain ⟨W', H', bs'⟩ := g'
        obtain ⟨a, b, e1, e2, ha1, ha, hb1, hb, hbl⟩ := chk_zero hv.2
        obtain ⟨a', b', e1', e2', _, _, _, _, hbl'⟩ := chk_zero hv1.2
        simp only at e1 e2 hbl e1' e2' hbl' hs
        subst e1 e2 e1' e2'
        have ea : a' = a := by omega
        have eb : b' = b := by omega
        subst ea eb
        clear S0 a0 a1 a2 HV HV1 L0 L1 fin
        rw [gd_tab hbl] at hr ⊢
        rw [gd_tab hbl'] at hr1 ⊢
        exact alg_main a' b' _ _ ha1 hb1 ha hb dx dy A0 A1 n0 n1 c0 c1 w hr hr1
      · rw [hv] at HV
        rw [hv1] at HV1
        clear hv hv1 hr hr1 hl hl1
        go_enter Tryd.func6, Tryd.ntmps6
        go_wp2_with fail
        refine (HV.out _ _ _ _ L0.out).mono ?_
        rintro e w1 ⟨rfl, hb1⟩
        have S1 := S0.keep hb1
        clear a0 a1 a2
        obtain ⟨a0, a1, a2⟩ := (S1.blk 1 rfl).cell3
        go_wp2_with fail
        refine (HV1.out _ _ _ _ L1.out).mono ?_
        rintro e w2 ⟨rfl, hb2⟩
        have S2 := S1.keep hb2
        clear a0 a1 a2 S1
        obtain ⟨a0, a1, a2⟩ := (S2.blk 0 rfl).cell3
        obtain ⟨b0, b1, b2⟩ := (S2.blk 1 rfl).cell3
        by_cases h1 : g.w = g'.w
        · have h2 : (g.h != g'.h) = true := by
            simp only [bne_iff_ne, ne_eq]
            exact fun e => hs ⟨h1, e⟩
          have h1' : (g.w != g'.w) = false := by simpa using h1
          clear h1 hs
          go_wp2_with fail
          refine (alive_any _).mono ?_
          rintro e w3 ⟨rfl, hb3⟩
          go_wp2_with fail
          go_ret
          exact ⟨rfl, fin (S2.keep hb3)⟩
        · have h1' : (g.w != g'.w) = true := by simpa using h1
          clear h1 hs
          go_wp2_with fail
          refine (alive_any _).mono ?_
          rintro e w3 ⟨rfl, hb3⟩
          go_wp2_with fail
          go_ret
          exact ⟨rfl, fin (S2.keep hb3)⟩
end Go.Proofs.YtebbcpeldncekaaDoor
