/- The law GridChecks, walked: it answers true and turns nothing that was there. -/
import Derived.Test.YtebbcpeldncekaaDoorRCountz
import Derived.Test.YtebbcpeldncekaaDoorRTextz
import Derived.Test.YtebbcpeldncekaaDoorRParsez
import Derived.Test.YtebbcpeldncekaaDoorGSamez
import Derived.Test.YtebbcpeldncekaaDoorGreatz
import Derived.Test.YtebbcpeldncekaaDoorOps1z
import Derived.Test.YtebbcpeldncekaaDoorRetLz
import Derived.Test.YtebbcpeldncekaaDoorManz
namespace Go.Proofs.YtebbcpeldncekaaDoor
open Go.RowKit

theorem great_to {b : Bool} (W H : Int) (n : Nat) (h : decide (4200 < n) = b) (A : Option Addr) (c : Nat) (w : World) :
    Calls Tryd.prog 9 #[.agg #[.int .i64 W, .int .i64 H, .slice A n c]] w fun e w' => e = .returned (.bool b) ∧ Below w.heap.size w w' := h ▸ great_any W H A n c w
theorem parse_len (s : List UInt8) : (parseG s).1.bits.length ≤ 4096 := by
  rcases parse_err s with h | h
  · obtain ⟨hc, _⟩ := text_parse (s := s) (g := (parseG s).1) (Prod.ext rfl h)
    obtain ⟨a, b, _, _, _, ha, _, hb, hl⟩ := chk_zero (show chk _ _ _ = 0 from hc)
    rw [hl]
    exact Nat.mul_le_mul hb ha
  · rw [h]; exact Nat.zero_le _

set_option linter.unusedVariables false in
set_option linter.unusedSimpArgs false in
set_option maxHeartbeats 4000000 in
set_option maxRecDepth 100000 in
theorem checks_a (g g2 : Gd) (s : List UInt8) (A0 A1 : Option Addr) (n0 c0 n1 c1 : Nat) (w : World) (hr : Rd w A0 n0 (g.bits.map Value.bool)) (hr2 : Rd w A1 n1 (g2.bits.map Value.bool)) (hnc : n0 ≤ c0) (h1 : 4200 < n0) :
    Calls Tryd.prog 3 #[.agg #[.int .i64 g.w, .int .i64 g.h, .slice A0 n0 c0], .agg #[.int .i64 g2.w, .int .i64 g2.h, .slice A1 n1 c1], str s] w fun e w' => e = .returned (.bool true) ∧ Below w.heap.size w w' := by
  have HA := Lib.hid (fun A c W => great_to g.w g.h n0 (decide_eq_true h1) A c W)
  have S0 := ((((St.start w).addRd hr).addRd hr2).box #[.int .i64 g.w, .int .i64 g.h, .slice A0 n0 c0] 24).box #[.int .i64 g2.w, .int .i64 g2.h, .slice A1 n1 c1] 24
  simp only [size_alloc1, List.nil_append, List.cons_append] at S0
  clear hr hr2
  go_enter Tryd.func3, Tryd.ntmps3
  obtain ⟨ca0, ca1, ca2⟩ := (S0.blk 2 rfl).cell3
  go_wp2_with fail
  refine (HA.out _ _ _).mono ?_
  rintro e w1 ⟨rfl, hb1⟩
  have S1 := S0.keep hb1
  clear ca0 ca1 ca2
  go_wp2_with fail
  go_ret
  exact ⟨rfl, S1.below⟩

set_option linter.unusedVariables false in
set_option linter.unusedSimpArgs false in
set_option maxHeartbeats 4000000 in
set_option maxRecDepth 100000 in
theorem checks_b (g g2 : Gd) (s : List UInt8) (A0 A1 : Option Addr) (n0 c0 n1 c1 : Nat) (w : World) (hr : Rd w A0 n0 (g.bits.map Value.bool)) (hr2 : Rd w A1 n1 (g2.bits.map Value.bool)) (hnc : n0 ≤ c0) (h1 : ¬ 4200 < n0) (h2 : 4200 < n1) :
    Calls Tryd.prog 3 #[.agg #[.int .i64 g.w, .int .i64 g.h, .slice A0 n0 c0], .agg #[.int .i64 g2.w, .int .i64 g2.h, .slice A1 n1 c1], str s] w fun e w' => e = .returned (.bool true) ∧ Below w.heap.size w w' := by
  have HA := Lib.hid (fun A c W => great_to g.w g.h n0 (decide_eq_false h1) A c W)
  have HB := Lib.hid (fun A c W => great_to g2.w g2.h n1 (decide_eq_true h2) A c W)
  have S0 := ((((St.start w).addRd hr).addRd hr2).box #[.int .i64 g.w, .int .i64 g.h, .slice A0 n0 c0] 24).box #[.int .i64 g2.w, .int .i64 g2.h, .slice A1 n1 c1] 24
  simp only [size_alloc1, List.nil_append, List.cons_append] at S0
  clear hr hr2
  go_enter Tryd.func3, Tryd.ntmps3
  obtain ⟨ca0, ca1, ca2⟩ := (S0.blk 2 rfl).cell3
  go_wp2_with fail
  refine (HA.out _ _ _).mono ?_
  rintro e w1 ⟨rfl, hb1⟩
  have S1 := S0.keep hb1
  clear ca0 ca1 ca2
  obtain ⟨ca0, ca1, ca2⟩ := (S1.blk 3 rfl).cell3
  go_wp2_with fail
  refine (HB.out _ _ _).mono ?_
  rintro e w2 ⟨rfl, hb2⟩
  have S2 := S1.keep hb2
  clear ca0 ca1 ca2 S1
  go_wp2_with fail
  go_ret
  exact ⟨rfl, S2.below⟩

set_option linter.unusedVariables false in
set_option linter.unusedSimpArgs false in
set_option maxHeartbeats 4000000 in
set_option maxRecDepth 100000 in
theorem checks_c (g g2 : Gd) (s : List UInt8) (A0 A1 : Option Addr) (n0 c0 n1 c1 : Nat) (w : World) (hr : Rd w A0 n0 (g.bits.map Value.bool)) (hr2 : Rd w A1 n1 (g2.bits.map Value.bool)) (hnc : n0 ≤ c0) (h1 : ¬ 4200 < n0) (h2 : ¬ 4200 < n1) (h3 : 5000 < s.length) :
    Calls Tryd.prog 3 #[.agg #[.int .i64 g.w, .int .i64 g.h, .slice A0 n0 c0], .agg #[.int .i64 g2.w, .int .i64 g2.h, .slice A1 n1 c1], str s] w fun e w' => e = .returned (.bool true) ∧ Below w.heap.size w w' := by
  have HA := Lib.hid (fun A c W => great_to g.w g.h n0 (decide_eq_false h1) A c W)
  have HB := Lib.hid (fun A c W => great_to g2.w g2.h n1 (decide_eq_false h2) A c W)
  have hsz := size_list s
  have S0 := ((((St.start w).addRd hr).addRd hr2).box #[.int .i64 g.w, .int .i64 g.h, .slice A0 n0 c0] 24).box #[.int .i64 g2.w, .int .i64 g2.h, .slice A1 n1 c1] 24
  simp only [size_alloc1, List.nil_append, List.cons_append] at S0
  clear hr hr2
  go_enter Tryd.func3, Tryd.ntmps3
  obtain ⟨ca0, ca1, ca2⟩ := (S0.blk 2 rfl).cell3
  go_wp2_with fail
  refine (HA.out _ _ _).mono ?_
  rintro e w1 ⟨rfl, hb1⟩
  have S1 := S0.keep hb1
  clear ca0 ca1 ca2
  obtain ⟨ca0, ca1, ca2⟩ := (S1.blk 3 rfl).cell3
  go_wp2_with fail
  refine (HB.out _ _ _).mono ?_
  rintro e w2 ⟨rfl, hb2⟩
  have S2 := S1.keep hb2
  clear ca0 ca1 ca2 S1
  go_wp2_with fail
  go_ret
  exact ⟨rfl, S2.below⟩

set_option linter.unusedVariables false in
set_option linter.unusedSimpArgs false in
set_option maxHeartbeats 4000000 in
set_option maxRecDepth 100000 in
theorem checks_d (g g2 : Gd) (s : List UInt8) (A0 A1 : Option Addr) (n0 c0 n1 c1 : Nat) (w : World) (hr : Rd w A0 n0 (g.bits.map Value.bool)) (hr2 : Rd w A1 n1 (g2.bits.map Value.bool)) (hnc : n0 ≤ c0) (h1 : ¬ 4200 < n0) (h2 : ¬ 4200 < n1) (h3 : ¬ 5000 < s.length) :
    Calls Tryd.prog 3 #[.agg #[.int .i64 g.w, .int .i64 g.h, .slice A0 n0 c0], .agg #[.int .i64 g2.w, .int .i64 g2.h, .slice A1 n1 c1], str s] w fun e w' => e = .returned (.bool true) ∧ Below w.heap.size w w' := by
  have hl0 : g.bits.length = n0 := by simpa using hr.len
  have HA := Lib.hid (fun A c W => great_to g.w g.h n0 (decide_eq_false h1) A c W)
  have HB := Lib.hid (fun A c W => great_to g2.w g2.h n1 (decide_eq_false h2) A c W)
  have hsz := size_list s
  have HC := Lib.hid (fun A n c W h => count_any g A n c W h)
  have HRC := Lib.hid (fun A n c W h => rcount_any g A n c W h)
  have HX := Lib.hid (fun A n c W h h' => text_any g A n c W h h')
  have HRX := Lib.hid (fun A n c W h => rtext_any g A n c W h)
  have HP := Lib.hid (fun W => parse_any s W (by omega))
  have HRP := Lib.hid (fun W => rparse_any s W (by omega))
  have HK := Lib.hid (fun A c W => check_any g.w g.h A n0 c W)
  have HRK := Lib.hid (fun A c W => rcheck_any g.w g.h A n0 c W)
  have HS := Lib.hid (fun A A2 c c2 W h h2 => gsame_any g g2 A A2 n0 c n1 c2 W h h2 (by omega))
  have HRS := Lib.hid (fun A A2 c c2 W h h2 => rsame_any g g2 A A2 n0 c n1 c2 W h h2 (by omega))
  have HSP := Lib.hid (fun A A2 n c n2 c2 W h h2 => same_self (parseG s).1 (parse_len s) A A2 n c n2 c2 W h h2)
  clear hl0
  generalize countG g = cg at *
  generalize textG g = tg at *
  generalize parseG s = pg at *
  generalize chk g.w g.h n0 = ck at *
  generalize sameG g g2 = sm at *
  obtain ⟨cg1, cg2⟩ := cg
  obtain ⟨tg1, tg2⟩ := tg
  obtain ⟨⟨pw, ph, pb⟩, pe⟩ := pg
  simp only at HC HRC HSP
  have S0 := ((((St.start w).addRd hr).addRd hr2).box #[.int .i64 g.w, .int .i64 g.h, .slice A0 n0 c0] 24).box #[.int .i64 g2.w, .int .i64 g2.h, .slice A1 n1 c1] 24
  simp only [size_alloc1, List.nil_append, List.cons_append] at S0
  clear hr hr2
  go_enter Tryd.func3, Tryd.ntmps3
  obtain ⟨ca0, ca1, ca2⟩ := (S0.blk 2 rfl).cell3
  go_wp2_with fail
  refine (HA.out _ _ _).mono ?_
  rintro e w1 ⟨rfl, hb1⟩
  have S1 := S0.keep hb1
  clear ca0 ca1 ca2
  obtain ⟨ca0, ca1, ca2⟩ := (S1.blk 3 rfl).cell3
  go_wp2_with fail
  refine (HB.out _ _ _).mono ?_
  rintro e w2 ⟨rfl, hb2⟩
  have S2 := S1.keep hb2
  clear ca0 ca1 ca2 S1
  obtain ⟨ca0, ca1, ca2⟩ := (S2.blk 2 rfl).cell3
  go_wp2_with fail
  refine (HC.out _ _ _ _ (S2.rd 0 rfl)).mono ?_
  rintro e w3 ⟨rfl, hb3⟩
  have S3 := S2.keep hb3
  clear ca0 ca1 ca2 S2
  obtain ⟨ca0, ca1, ca2⟩ := (S3.blk 2 rfl).cell3
  go_wp2_with fail
  refine (HRC.out _ _ _ _ (S3.rd 0 rfl)).mono ?_
  rintro e w4 ⟨rfl, hb4⟩
  have S4 := S3.keep hb4
  clear ca0 ca1 ca2 S3
  obtain ⟨ca0, ca1, ca2⟩ := (S4.blk 2 rfl).cell3
  go_wp2_with fail
  refine (HX.out _ _ _ _ (S4.rd 0 rfl) hnc).mono ?_
  rintro e w5 ⟨rfl, hb5⟩
  have S5 := S4.keep hb5
  clear ca0 ca1 ca2 S4
  obtain ⟨ca0, ca1, ca2⟩ := (S5.blk 2 rfl).cell3
  go_wp2_with fail
  refine (HRX.out _ _ _ _ (S5.rd 0 rfl)).mono ?_
  rintro e w6 ⟨rfl, hb6⟩
  have S6 := S5.keep hb6
  clear ca0 ca1 ca2 S5
  go_wp2_with fail
  refine (HP.out _).mono ?_
  rintro e w7 ⟨A7, n7, cc7, rfl, hown7, hb7⟩
  try simp only at hown7 ⊢
  have hc7 := own_le hown7
  have S7 := ((S6.keep hb7).addRd (rd_of_own hown7)).box #[.int .i64 pw, .int .i64 ph, .slice A7 n7 cc7] 24
  simp only [List.nil_append, List.cons_append] at S7
  clear S6 hown7
  go_wp2_with fail
  refine (HRP.out _).mono ?_
  rintro e w8 ⟨A8, n8, cc8, rfl, hown8, hb8⟩
  try simp only at hown8 ⊢
  have hc8 := own_le hown8
  have S8 := ((S7.keep hb8).addRd (rd_of_own hown8)).box #[.int .i64 pw, .int .i64 ph, .slice A8 n8 cc8] 24
  simp only [List.nil_append, List.cons_append] at S8
  clear S7 hown8
  go_wp2_with fail
  have SD := S8.drew
  clear S8
  refine wp_region_held_drew (S := (fun w' => (w'.cell? ⟨w.heap.size, 0, none⟩ = some (.int .i64 g.w) ∧ w'.cell? ⟨w.heap.size, 1, none⟩ = some (.int .i64 g.h) ∧ w'.cell? ⟨w.heap.size, 2, none⟩ = some (.slice A0 n0 c0)) ∧ (w'.cell? ⟨w.heap.size + 1, 0, none⟩ = some (.int .i64 g2.w) ∧ w'.cell? ⟨w.heap.size + 1, 1, none⟩ = some (.int .i64 g2.h) ∧ w'.cell? ⟨w.heap.size + 1, 2, none⟩ = some (.slice A1 n1 c1)) ∧ (w'.cell? ⟨w7.heap.size, 0, none⟩ = some (.int .i64 pw) ∧ w'.cell? ⟨w7.heap.size, 1, none⟩ = some (.int .i64 ph) ∧ w'.cell? ⟨w7.heap.size, 2, none⟩ = some (.slice A7 n7 cc7)) ∧ (w'.cell? ⟨w8.heap.size, 0, none⟩ = some (.int .i64 pw) ∧ w'.cell? ⟨w8.heap.size, 1, none⟩ = some (.int .i64 ph) ∧ w'.cell? ⟨w8.heap.size, 2, none⟩ = some (.slice A8 n8 cc8)))) (by kernel_rfl) ?_ (fun hHeld => ?_)
  · (try dsimp only); exact ⟨(SD.blk 2 rfl).cell3, (SD.blk 3 rfl).cell3, (SD.blk 5 rfl).cell3, (SD.blk 7 rfl).cell3⟩
  refine man_take 0 60 (v := ?_) ⟨_, rfl, rfl⟩ (by kernel_rfl) (by kernel_rfl) (by kernel_rfl) (fun _ _ _ h => h) (by assumption) ?_ ?_
  rotate_left
  · intro oi ho; cases ho; refine ⟨by rfl, ?_⟩; intro w hSw; (try dsimp only at hSw); go_simp; try with_reducible rfl
  (try simp only [Act.put, List.setIfInBounds_toArray, List.set_cons_zero, List.set_cons_succ])
  refine man_take 2 62 (v := ?_) ⟨_, rfl, rfl⟩ (by kernel_rfl) (by kernel_rfl) (by kernel_rfl) (fun _ _ _ h => h) (by assumption) ?_ ?_
  rotate_left
  · intro oi ho; cases ho; refine ⟨by rfl, ?_⟩; intro w hSw; (try dsimp only at hSw); go_simp; try with_reducible rfl
  (try simp only [Act.put, List.setIfInBounds_toArray, List.set_cons_zero, List.set_cons_succ])
  refine man_run 1 rfl (by kernel_rfl) (fun K hK => ?_)
  go_simp
  refine (HK.out _ _ _).mono ?_
  rintro e w41 ⟨rfl, hb41⟩
  replace SD := SD.keep hb41
  go_wp2_with fail
  refine hK.out _ _ ?_ (fun hHeld => ?_)
  · (try dsimp only); exact ⟨(SD.blk 2 rfl).cell3, (SD.blk 3 rfl).cell3, (SD.blk 5 rfl).cell3, (SD.blk 7 rfl).cell3⟩
  clear hK K
  (try simp only [Act.put, List.setIfInBounds_toArray, List.set_cons_zero, List.set_cons_succ])
  refine man_run 3 rfl (by kernel_rfl) (fun K hK => ?_)
  go_simp
  refine (HRK.out _ _ _).mono ?_
  rintro e w42 ⟨rfl, hb42⟩
  replace SD := SD.keep hb42
  go_wp2_with fail
  refine hK.out _ _ ?_ (fun hHeld => ?_)
  · (try dsimp only); exact ⟨(SD.blk 2 rfl).cell3, (SD.blk 3 rfl).cell3, (SD.blk 5 rfl).cell3, (SD.blk 7 rfl).cell3⟩
  clear hK K
  (try simp only [Act.put, List.setIfInBounds_toArray, List.set_cons_zero, List.set_cons_succ])
  refine man_take 4 64 (v := ?_) ⟨_, rfl, rfl⟩ (by kernel_rfl) (by kernel_rfl) (by kernel_rfl) (fun _ _ _ h => h) (by assumption) ?_ ?_
  rotate_left
  · intro oi ho; cases ho; refine ⟨by rfl, ?_⟩; intro w hSw; (try dsimp only at hSw); go_simp; try with_reducible rfl
  (try simp only [Act.put, List.setIfInBounds_toArray, List.set_cons_zero, List.set_cons_succ])
  refine man_take 5 65 (v := ?_) ⟨_, rfl, rfl⟩ (by kernel_rfl) (by kernel_rfl) (by kernel_rfl) (fun _ _ _ h => h) (by assumption) ?_ ?_
  rotate_left
  · intro oi ho; cases ho; refine ⟨by rfl, ?_⟩; intro w hSw; (try dsimp only at hSw); go_simp; try with_reducible rfl
  (try simp only [Act.put, List.setIfInBounds_toArray, List.set_cons_zero, List.set_cons_succ])
  refine man_take 6 66 (v := ?_) ⟨_, rfl, rfl⟩ (by kernel_rfl) (by kernel_rfl) (by kernel_rfl) (fun _ _ _ h => h) (by assumption) ?_ ?_
  rotate_left
  · intro oi ho; cases ho; refine ⟨by rfl, ?_⟩; intro w hSw; (try dsimp only at hSw); go_simp; try with_reducible rfl
  (try simp only [Act.put, List.setIfInBounds_toArray, List.set_cons_zero, List.set_cons_succ])
  refine man_take 7 67 (v := ?_) ⟨_, rfl, rfl⟩ (by kernel_rfl) (by kernel_rfl) (by kernel_rfl) (fun _ _ _ h => h) (by assumption) ?_ ?_
  rotate_left
  · intro oi ho; cases ho; refine ⟨by rfl, ?_⟩; intro w hSw; (try dsimp only at hSw); go_simp; try with_reducible rfl
  (try simp only [Act.put, List.setIfInBounds_toArray, List.set_cons_zero, List.set_cons_succ])
  refine man_take 9 69 (v := ?_) ⟨_, rfl, rfl⟩ (by kernel_rfl) (by kernel_rfl) (by kernel_rfl) (fun _ _ _ h => h) (by assumption) ?_ ?_
  rotate_left
  · intro oi ho; cases ho; refine ⟨by rfl, ?_⟩; intro w hSw; (try dsimp only at hSw); go_simp; try with_reducible rfl
  (try simp only [Act.put, List.setIfInBounds_toArray, List.set_cons_zero, List.set_cons_succ])
  refine man_take 10 70 (v := ?_) ⟨_, rfl, rfl⟩ (by kernel_rfl) (by kernel_rfl) (by kernel_rfl) (fun _ _ _ h => h) (by assumption) ?_ ?_
  rotate_left
  · intro oi ho; cases ho; refine ⟨by rfl, ?_⟩; intro w hSw; (try dsimp only at hSw); go_simp; try with_reducible rfl
  (try simp only [Act.put, List.setIfInBounds_toArray, List.set_cons_zero, List.set_cons_succ])
  refine man_run 8 rfl (by kernel_rfl) (fun K hK => ?_)
  go_simp
  refine (HS.out _ _ _ _ _ (SD.rd 0 rfl) (SD.rd 1 rfl)).mono ?_
  rintro e w43 ⟨rfl, hb43⟩
  replace SD := SD.keep hb43
  go_wp2_with fail
  refine hK.out _ _ ?_ (fun hHeld => ?_)
  · (try dsimp only); exact ⟨(SD.blk 2 rfl).cell3, (SD.blk 3 rfl).cell3, (SD.blk 5 rfl).cell3, (SD.blk 7 rfl).cell3⟩
  clear hK K
  (try simp only [Act.put, List.setIfInBounds_toArray, List.set_cons_zero, List.set_cons_succ])
  refine man_run 11 rfl (by kernel_rfl) (fun K hK => ?_)
  go_simp
  refine (HRS.out _ _ _ _ _ (SD.rd 0 rfl) (SD.rd 1 rfl)).mono ?_
  rintro e w44 ⟨rfl, hb44⟩
  replace SD := SD.keep hb44
  go_wp2_with fail
  refine hK.out _ _ ?_ (fun hHeld => ?_)
  · (try dsimp only); exact ⟨(SD.blk 2 rfl).cell3, (SD.blk 3 rfl).cell3, (SD.blk 5 rfl).cell3, (SD.blk 7 rfl).cell3⟩
  clear hK K
  (try simp only [Act.put, List.setIfInBounds_toArray, List.set_cons_zero, List.set_cons_succ])
  refine man_take 12 72 (v := ?_) ⟨_, rfl, rfl⟩ (by kernel_rfl) (by kernel_rfl) (by kernel_rfl) (fun _ _ _ h => h) (by assumption) ?_ ?_
  rotate_left
  · intro oi ho; cases ho; refine ⟨by rfl, ?_⟩; intro w hSw; (try dsimp only at hSw); go_simp; try with_reducible rfl
  (try simp only [Act.put, List.setIfInBounds_toArray, List.set_cons_zero, List.set_cons_succ])
  refine man_take 13 73 (v := ?_) ⟨_, rfl, rfl⟩ (by kernel_rfl) (by kernel_rfl) (by kernel_rfl) (fun _ _ _ h => h) (by assumption) ?_ ?_
  rotate_left
  · intro oi ho; cases ho; refine ⟨by rfl, ?_⟩; intro w hSw; (try dsimp only at hSw); go_simp; try with_reducible rfl
  (try simp only [Act.put, List.setIfInBounds_toArray, List.set_cons_zero, List.set_cons_succ])
  refine man_take 14 74 (v := ?_) ⟨_, rfl, rfl⟩ (by kernel_rfl) (by kernel_rfl) (by kernel_rfl) (fun _ _ _ h => h) (by assumption) ?_ ?_
  rotate_left
  · intro oi ho; cases ho; refine ⟨by rfl, ?_⟩; intro w hSw; (try dsimp only at hSw); go_simp; try with_reducible rfl
  (try simp only [Act.put, List.setIfInBounds_toArray, List.set_cons_zero, List.set_cons_succ])
  refine man_take 15 75 (v := ?_) ⟨_, rfl, rfl⟩ (by kernel_rfl) (by kernel_rfl) (by kernel_rfl) (fun _ _ _ h => h) (by assumption) ?_ ?_
  rotate_left
  · intro oi ho; cases ho; refine ⟨by rfl, ?_⟩; intro w hSw; (try dsimp only at hSw); go_simp; try with_reducible rfl
  (try simp only [Act.put, List.setIfInBounds_toArray, List.set_cons_zero, List.set_cons_succ])
  refine man_take 16 76 (v := ?_) ⟨_, rfl, rfl⟩ (by kernel_rfl) (by kernel_rfl) (by kernel_rfl) (fun _ _ _ h => h) (by assumption) ?_ ?_
  rotate_left
  · intro oi ho; cases ho; refine ⟨by rfl, ?_⟩; intro w hSw; (try dsimp only at hSw); go_simp; try with_reducible rfl
  (try simp only [Act.put, List.setIfInBounds_toArray, List.set_cons_zero, List.set_cons_succ])
  refine man_take 17 77 (v := ?_) ⟨_, rfl, rfl⟩ (by kernel_rfl) (by kernel_rfl) (by kernel_rfl) (fun _ _ _ h => h) (by assumption) ?_ ?_
  rotate_left
  · intro oi ho; cases ho; refine ⟨by rfl, ?_⟩; intro w hSw; (try dsimp only at hSw); go_simp; try with_reducible rfl
  (try simp only [Act.put, List.setIfInBounds_toArray, List.set_cons_zero, List.set_cons_succ])
  refine man_take 18 78 (v := ?_) ⟨_, rfl, rfl⟩ (by kernel_rfl) (by kernel_rfl) (by kernel_rfl) (fun _ _ _ h => h) (by assumption) ?_ ?_
  rotate_left
  · intro oi ho; cases ho; refine ⟨by rfl, ?_⟩; intro w hSw; (try dsimp only at hSw); go_simp; try with_reducible rfl
  (try simp only [Act.put, List.setIfInBounds_toArray, List.set_cons_zero, List.set_cons_succ])
  refine man_take 19 79 (v := ?_) ⟨_, rfl, rfl⟩ (by kernel_rfl) (by kernel_rfl) (by kernel_rfl) (fun _ _ _ h => h) (by assumption) ?_ ?_
  rotate_left
  · intro oi ho; cases ho; refine ⟨by rfl, ?_⟩; intro w hSw; (try dsimp only at hSw); go_simp; try with_reducible rfl
  (try simp only [Act.put, List.setIfInBounds_toArray, List.set_cons_zero, List.set_cons_succ])
  refine man_take 20 80 (v := ?_) ⟨_, rfl, rfl⟩ (by kernel_rfl) (by kernel_rfl) (by kernel_rfl) (fun _ _ _ h => h) (by assumption) ?_ ?_
  rotate_left
  · intro oi ho; cases ho; refine ⟨by rfl, ?_⟩; intro w hSw; (try dsimp only at hSw); go_simp; try with_reducible rfl
  (try simp only [Act.put, List.setIfInBounds_toArray, List.set_cons_zero, List.set_cons_succ])
  refine man_take 21 81 (v := ?_) ⟨_, rfl, rfl⟩ (by kernel_rfl) (by kernel_rfl) (by kernel_rfl) (fun _ _ _ h => h) (by assumption) ?_ ?_
  rotate_left
  · intro oi ho; cases ho; refine ⟨by rfl, ?_⟩; intro w hSw; (try dsimp only at hSw); go_simp; try with_reducible rfl
  (try simp only [Act.put, List.setIfInBounds_toArray, List.set_cons_zero, List.set_cons_succ])
  refine man_take 22 82 (v := ?_) ⟨_, rfl, rfl⟩ (by kernel_rfl) (by kernel_rfl) (by kernel_rfl) (fun _ _ _ h => h) (by assumption) ?_ ?_
  rotate_left
  · intro oi ho; cases ho; refine ⟨by rfl, ?_⟩; intro w hSw; (try dsimp only at hSw); go_simp; try with_reducible rfl
  (try simp only [Act.put, List.setIfInBounds_toArray, List.set_cons_zero, List.set_cons_succ])
  refine man_take 23 83 (v := ?_) ⟨_, rfl, rfl⟩ (by kernel_rfl) (by kernel_rfl) (by kernel_rfl) (fun _ _ _ h => h) (by assumption) ?_ ?_
  rotate_left
  · intro oi ho; cases ho; refine ⟨by rfl, ?_⟩; intro w hSw; (try dsimp only at hSw); go_simp; try with_reducible rfl
  (try simp only [Act.put, List.setIfInBounds_toArray, List.set_cons_zero, List.set_cons_succ])
  refine man_take 24 84 (v := ?_) ⟨_, rfl, rfl⟩ (by kernel_rfl) (by kernel_rfl) (by kernel_rfl) (fun _ _ _ h => h) (by assumption) ?_ ?_
  rotate_left
  · intro oi ho; cases ho; refine ⟨by rfl, ?_⟩; intro w hSw; (try dsimp only at hSw); go_simp; try with_reducible rfl
  (try simp only [Act.put, List.setIfInBounds_toArray, List.set_cons_zero, List.set_cons_succ])
  refine man_take 25 85 (v := ?_) ⟨_, rfl, rfl⟩ (by kernel_rfl) (by kernel_rfl) (by kernel_rfl) (fun _ _ _ h => h) (by assumption) ?_ ?_
  rotate_left
  · intro oi ho; cases ho; refine ⟨by rfl, ?_⟩; intro w hSw; (try dsimp only at hSw); go_simp; try with_reducible rfl
  (try simp only [Act.put, List.setIfInBounds_toArray, List.set_cons_zero, List.set_cons_succ])
  refine man_take 26 86 (v := ?_) ⟨_, rfl, rfl⟩ (by kernel_rfl) (by kernel_rfl) (by kernel_rfl) (fun _ _ _ h => h) (by assumption) ?_ ?_
  rotate_left
  · intro oi ho; cases ho; refine ⟨by rfl, ?_⟩; intro w hSw; (try dsimp only at hSw); go_simp; try with_reducible rfl
  (try simp only [Act.put, List.setIfInBounds_toArray, List.set_cons_zero, List.set_cons_succ])
  refine man_take 27 87 (v := ?_) ⟨_, rfl, rfl⟩ (by kernel_rfl) (by kernel_rfl) (by kernel_rfl) (fun _ _ _ h => h) (by assumption) ?_ ?_
  rotate_left
  · intro oi ho; cases ho; refine ⟨by rfl, ?_⟩; intro w hSw; (try dsimp only at hSw); go_simp; try with_reducible rfl
  (try simp only [Act.put, List.setIfInBounds_toArray, List.set_cons_zero, List.set_cons_succ])
  refine man_take 28 88 (v := ?_) ⟨_, rfl, rfl⟩ (by kernel_rfl) (by kernel_rfl) (by kernel_rfl) (fun _ _ _ h => h) (by assumption) ?_ ?_
  rotate_left
  · intro oi ho; cases ho; refine ⟨by rfl, ?_⟩; intro w hSw; (try dsimp only at hSw); go_simp; try with_reducible rfl
  (try simp only [Act.put, List.setIfInBounds_toArray, List.set_cons_zero, List.set_cons_succ])
  refine man_take 29 89 (v := ?_) ⟨_, rfl, rfl⟩ (by kernel_rfl) (by kernel_rfl) (by kernel_rfl) (fun _ _ _ h => h) (by assumption) ?_ ?_
  rotate_left
  · intro oi ho; cases ho; refine ⟨by rfl, ?_⟩; intro w hSw; (try dsimp only at hSw); go_simp; try with_reducible rfl
  (try simp only [Act.put, List.setIfInBounds_toArray, List.set_cons_zero, List.set_cons_succ])
  refine man_take 30 90 (v := ?_) ⟨_, rfl, rfl⟩ (by kernel_rfl) (by kernel_rfl) (by kernel_rfl) (fun _ _ _ h => h) (by assumption) ?_ ?_
  rotate_left
  · intro oi ho; cases ho; refine ⟨by rfl, ?_⟩; intro w hSw; (try dsimp only at hSw); go_simp; try with_reducible rfl
  (try simp only [Act.put, List.setIfInBounds_toArray, List.set_cons_zero, List.set_cons_succ])
  refine man_take 31 91 (v := ?_) ⟨_, rfl, rfl⟩ (by kernel_rfl) (by kernel_rfl) (by kernel_rfl) (fun _ _ _ h => h) (by assumption) ?_ ?_
  rotate_left
  · intro oi ho; cases ho; refine ⟨by rfl, ?_⟩; intro w hSw; (try dsimp only at hSw); go_simp; try with_reducible rfl
  (try simp only [Act.put, List.setIfInBounds_toArray, List.set_cons_zero, List.set_cons_succ])
  refine man_take 32 92 (v := ?_) ⟨_, rfl, rfl⟩ (by kernel_rfl) (by kernel_rfl) (by kernel_rfl) (fun _ _ _ h => h) (by assumption) ?_ ?_
  rotate_left
  · intro oi ho; cases ho; refine ⟨by rfl, ?_⟩; intro w hSw; (try dsimp only at hSw); go_simp; try with_reducible rfl
  (try simp only [Act.put, List.setIfInBounds_toArray, List.set_cons_zero, List.set_cons_succ])
  refine man_take 33 93 (v := ?_) ⟨_, rfl, rfl⟩ (by kernel_rfl) (by kernel_rfl) (by kernel_rfl) (fun _ _ _ h => h) (by assumption) ?_ ?_
  rotate_left
  · intro oi ho; cases ho; refine ⟨by rfl, ?_⟩; intro w hSw; (try dsimp only at hSw); go_simp; try with_reducible rfl
  (try simp only [Act.put, List.setIfInBounds_toArray, List.set_cons_zero, List.set_cons_succ])
  refine man_take 34 94 (v := ?_) ⟨_, rfl, rfl⟩ (by kernel_rfl) (by kernel_rfl) (by kernel_rfl) (fun _ _ _ h => h) (by assumption) ?_ ?_
  rotate_left
  · intro oi ho; cases ho; refine ⟨by rfl, ?_⟩; intro w hSw; (try dsimp only at hSw); go_simp; try with_reducible rfl
  (try simp only [Act.put, List.setIfInBounds_toArray, List.set_cons_zero, List.set_cons_succ])
  refine man_take 35 95 (v := ?_) ⟨_, rfl, rfl⟩ (by kernel_rfl) (by kernel_rfl) (by kernel_rfl) (fun _ _ _ h => h) (by assumption) ?_ ?_
  rotate_left
  · intro oi ho; cases ho; refine ⟨by rfl, ?_⟩; intro w hSw; (try dsimp only at hSw); go_simp; try with_reducible rfl
  (try simp only [Act.put, List.setIfInBounds_toArray, List.set_cons_zero, List.set_cons_succ])
  refine man_take 36 96 (v := ?_) ⟨_, rfl, rfl⟩ (by kernel_rfl) (by kernel_rfl) (by kernel_rfl) (fun _ _ _ h => h) (by assumption) ?_ ?_
  rotate_left
  · intro oi ho; cases ho; refine ⟨by rfl, ?_⟩; intro w hSw; (try dsimp only at hSw); go_simp; try with_reducible rfl
  (try simp only [Act.put, List.setIfInBounds_toArray, List.set_cons_zero, List.set_cons_succ])
  refine man_run 37 rfl (by kernel_rfl) (fun K hK => ?_)
  go_simp
  refine (HSP.out _ _ _ _ _ _ _ (SD.rd 4 rfl) (SD.rd 6 rfl)).mono ?_
  rintro e w45 ⟨rfl, hb45⟩
  replace SD := SD.keep hb45
  go_wp2_with fail
  refine hK.out _ _ ?_ (fun hHeld => ?_)
  · (try dsimp only); exact ⟨(SD.blk 2 rfl).cell3, (SD.blk 3 rfl).cell3, (SD.blk 5 rfl).cell3, (SD.blk 7 rfl).cell3⟩
  clear hK K
  (try simp only [Act.put, List.setIfInBounds_toArray, List.set_cons_zero, List.set_cons_succ])
  refine man_take 38 98 (v := ?_) ⟨_, rfl, rfl⟩ (by kernel_rfl) (by kernel_rfl) (by kernel_rfl) (fun _ _ _ h => h) (by assumption) ?_ ?_
  rotate_left
  · intro oi ho; cases ho; refine ⟨by rfl, ?_⟩; intro w hSw; (try dsimp only at hSw); go_simp; try with_reducible rfl
  (try simp only [Act.put, List.setIfInBounds_toArray, List.set_cons_zero, List.set_cons_succ])
  refine man_take 39 99 (v := ?_) ⟨_, rfl, rfl⟩ (by kernel_rfl) (by kernel_rfl) (by kernel_rfl) (fun _ _ _ h => h) (by assumption) ?_ ?_
  rotate_left
  · intro oi ho; cases ho; refine ⟨by rfl, ?_⟩; intro w hSw; (try dsimp only at hSw); go_simp; try with_reducible rfl
  (try simp only [Act.put, List.setIfInBounds_toArray, List.set_cons_zero, List.set_cons_succ])
  refine man_take 40 100 (v := ?_) ⟨_, rfl, rfl⟩ (by kernel_rfl) (by kernel_rfl) (by kernel_rfl) (fun _ _ _ h => h) (by assumption) ?_ ?_
  rotate_left
  · intro oi ho; cases ho; refine ⟨by rfl, ?_⟩; intro w hSw; (try dsimp only at hSw); go_simp; try with_reducible rfl
  (try simp only [Act.put, List.setIfInBounds_toArray, List.set_cons_zero, List.set_cons_succ])
  refine man_take 41 101 (v := ?_) ⟨_, rfl, rfl⟩ (by kernel_rfl) (by kernel_rfl) (by kernel_rfl) (fun _ _ _ h => h) (by assumption) ?_ ?_
  rotate_left
  · intro oi ho; cases ho; refine ⟨by rfl, ?_⟩; intro w hSw; (try dsimp only at hSw); go_simp; try with_reducible rfl
  (try simp only [Act.put, List.setIfInBounds_toArray, List.set_cons_zero, List.set_cons_succ])
  refine man_take 42 102 (v := ?_) ⟨_, rfl, rfl⟩ (by kernel_rfl) (by kernel_rfl) (by kernel_rfl) (fun _ _ _ h => h) (by assumption) ?_ ?_
  rotate_left
  · intro oi ho; cases ho; refine ⟨by rfl, ?_⟩; intro w hSw; (try dsimp only at hSw); go_simp; try with_reducible rfl
  (try simp only [Act.put, List.setIfInBounds_toArray, List.set_cons_zero, List.set_cons_succ])
  refine man_take 43 103 (v := ?_) ⟨_, rfl, rfl⟩ (by kernel_rfl) (by kernel_rfl) (by kernel_rfl) (fun _ _ _ h => h) (by assumption) ?_ ?_
  rotate_left
  · intro oi ho; cases ho; refine ⟨by rfl, ?_⟩; intro w hSw; (try dsimp only at hSw); go_simp; try with_reducible rfl
  (try simp only [Act.put, List.setIfInBounds_toArray, List.set_cons_zero, List.set_cons_succ])
  refine man_take 44 6 (v := ?_) ⟨_, rfl, rfl⟩ (by kernel_rfl) (by kernel_rfl) (by kernel_rfl) (fun _ _ _ h => h) (by assumption) ?_ ?_
  rotate_left
  · intro oi ho; cases ho; refine ⟨by rfl, ?_⟩; intro w hSw; (try dsimp only at hSw); go_simp; try with_reducible rfl
  (try simp only [Act.put, List.setIfInBounds_toArray, List.set_cons_zero, List.set_cons_succ])
  refine wpAnyH_done (by kernel_rfl) ?_ _
  go_wp2_with fail
  go_ret
  exact ⟨by trivial, SD.below⟩

theorem checks_walk (g g2 : Gd) (s : List UInt8) (A0 A1 : Option Addr) (n0 c0 n1 c1 : Nat) (w : World) (hr : Rd w A0 n0 (g.bits.map Value.bool)) (hr2 : Rd w A1 n1 (g2.bits.map Value.bool)) (hnc : n0 ≤ c0) :
    Calls Tryd.prog 3 #[.agg #[.int .i64 g.w, .int .i64 g.h, .slice A0 n0 c0], .agg #[.int .i64 g2.w, .int .i64 g2.h, .slice A1 n1 c1], str s] w fun e w' => e = .returned (.bool true) ∧ Below w.heap.size w w' := by
  by_cases h1 : 4200 < n0
  · exact checks_a g g2 s A0 A1 n0 c0 n1 c1 w hr hr2 hnc h1
  by_cases h2 : 4200 < n1
  · exact checks_b g g2 s A0 A1 n0 c0 n1 c1 w hr hr2 hnc h1 h2
  by_cases h3 : 5000 < s.length
  · exact checks_c g g2 s A0 A1 n0 c0 n1 c1 w hr hr2 hnc h1 h2 h3
  · exact checks_d g g2 s A0 A1 n0 c0 n1 c1 w hr hr2 hnc h1 h2 h3
end Go.Proofs.YtebbcpeldncekaaDoor
