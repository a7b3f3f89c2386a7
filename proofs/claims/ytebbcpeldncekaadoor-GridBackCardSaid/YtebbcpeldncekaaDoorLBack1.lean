/- The law GridBack, walked: it answers true and turns nothing that was there, for any grid and text. -/
import Derived.Test.YtebbcpeldncekaaDoorAlive1
import Derived.Test.YtebbcpeldncekaaDoorBackP
import Derived.Test.YtebbcpeldncekaaDoorValid1
namespace Go.Proofs.YtebbcpeldncekaaDoor
open Go.RowKit

theorem text_to {g : Gd} {l : List UInt8} (h : textG g = (l, 0)) (A : Option Addr) (n c : Nat) (w : World) (hr : Rd w A n (g.bits.map Value.bool)) (hnc : n ≤ c) :
    Calls Tryd.prog 12 #[.agg #[.int .i64 g.w, .int .i64 g.h, .slice A n c]] w (RetS (l, 0) w) := h ▸ text_any g A n c w hr hnc
theorem text_len {g : Gd} {l : List UInt8} (h : textG g = (l, 0)) : l.length ≤ 1048576 := by
  have hc : chkG g = 0 := by
    by_cases h0 : chkG g = 0
    · exact h0
    · rw [textG_bad h0] at h
      exact absurd (congrArg Prod.snd h) h0
  obtain ⟨W, H, bs⟩ := g
  obtain ⟨a, b, e1, e2, _, ha, _, hb, hl⟩ := chk_zero hc
  simp only at e1 e2 hl
  subst e1 e2
  rw [textG_ok hc] at h
  injection h with h1 _
  rw [← h1, textL_length hl]
  have : b * (a + 1) ≤ 64 * 65 := Nat.mul_le_mul hb (by omega)
  omega
theorem text_of (g : Gd) (h : chkG g = 0) : ∃ l, textG g = (l, 0) ∧ parseG l = (g, 0) := by
  obtain ⟨W, H, bs⟩ := g
  obtain ⟨a, b, e1, e2, _, _, _, _, hl⟩ := chk_zero h
  simp only at e1 e2 hl
  subst e1 e2
  exact ⟨_, textG_ok h, parse_text h⟩

set_option maxHeartbeats 2000000 in
set_option maxRecDepth 100000 in
theorem back1_t1 (g : Gd) (s : List UInt8) (A0 : Option Addr) (n0 c0 : Nat) (w : World) (hr : Rd w A0 n0 (g.bits.map Value.bool)) (hnc : n0 ≤ c0) (hv : validB g = true) (hs : 5000 < s.length) :
    Calls Tryd.prog 4 #[.agg #[.int .i64 g.w, .int .i64 g.h, .slice A0 n0 c0], str s] w fun e w' => e = .returned (.bool true) ∧ Below w.heap.size w w' := by
  have hl : g.bits.length = n0 := by simpa using hr.len
  have HV := Lib.hid (fun A n c W h => valid_any g A n c W h)
  have hsz := size_list s
  have hv' := hv
  unfold validB at hv'
  rw [decide_eq_true_eq] at hv'
  obtain ⟨l, t1, t2⟩ := text_of g hv'.2
  have HT1 := Lib.hid (fun A n c W h hc => text_to t1 A n c W h hc)
  have HP1 := Lib.hid (fun W => parse_to l (g, 0) W (text_len t1) t2)
  have HE1 := Lib.hid (fun A2 q c2 W h h2 => rsame_any g g A0 A2 n0 c0 q c2 W h h2 (by omega))
  rw [sameG_self] at HE1
  clear t1 t2 hv'
  rw [hv] at HV
  have S0 := ((St.start w).addRd hr).box #[.int .i64 g.w, .int .i64 g.h, .slice A0 n0 c0] 24
  simp only [List.nil_append, List.cons_append] at S0
  have hL := Lib.hid hl
  clear hl hr hv
  obtain ⟨d0, d1, d2⟩ := (S0.blk 1 rfl).cell3
  go_enter Tryd.func4, Tryd.ntmps4
  go_wp2_with fail
  refine (HV.out _ _ _ _ hL.out).mono ?_
  rintro e w1 ⟨rfl, hb1⟩
  have S1 := S0.keep hb1
  clear S0 d0 d1 d2
  obtain ⟨d0, d1, d2⟩ := (S1.blk 1 rfl).cell3
  go_wp2_with fail
  refine (HT1.out _ _ _ _ (S1.rd 0 rfl) hnc).mono ?_
  rintro e w2 ⟨rfl, hb2⟩
  have S2 := S1.keep hb2
  clear S1 d0 d1 d2
  go_wp2_with fail
  refine (HP1.out _).mono ?_
  rintro e w3 ⟨A3, n3, c3, rfl, hown3, hb3⟩
  simp only at hown3 ⊢
  have S3 := ((S2.keep hb3).addRd (rd_of_own hown3)).box #[.int .i64 g.w, .int .i64 g.h, .slice A3 n3 c3] 24
  simp only [List.nil_append, List.cons_append] at S3
  clear S2 hown3
  obtain ⟨d0, d1, d2⟩ := (S3.blk 1 rfl).cell3
  obtain ⟨e0, e1, e2⟩ := (S3.blk 3 rfl).cell3
  go_wp2_with fail
  refine (HE1.out _ _ _ _ (S3.rd 0 rfl) (S3.rd 2 rfl)).mono ?_
  rintro e w4 ⟨rfl, hb4⟩
  have SX := S3.keep hb4
  clear S3 d0 d1 d2 e0 e1 e2
  go_wp2_with fail
  refine (alive_any _).mono ?_
  rintro e w9 ⟨rfl, hb9⟩
  go_wp2_with fail
  go_ret
  exact ⟨rfl, (SX.keep hb9).below⟩

set_option maxHeartbeats 2000000 in
set_option maxRecDepth 100000 in
theorem back1_t2 (g : Gd) (s : List UInt8) (A0 : Option Addr) (n0 c0 : Nat) (w : World) (hr : Rd w A0 n0 (g.bits.map Value.bool)) (hnc : n0 ≤ c0) (hv : validB g = true) (hs : s.length ≤ 5000) (hp : parseG s = (Gd.zero, 12)) :
    Calls Tryd.prog 4 #[.agg #[.int .i64 g.w, .int .i64 g.h, .slice A0 n0 c0], str s] w fun e w' => e = .returned (.bool true) ∧ Below w.heap.size w w' := by
  have hl : g.bits.length = n0 := by simpa using hr.len
  have HV := Lib.hid (fun A n c W h => valid_any g A n c W h)
  have hsz := size_list s
  have HP := Lib.hid (fun W => parse_to s (Gd.zero, 12) W (by omega) hp)
  clear hp
  have hv' := hv
  unfold validB at hv'
  rw [decide_eq_true_eq] at hv'
  obtain ⟨l, t1, t2⟩ := text_of g hv'.2
  have HT1 := Lib.hid (fun A n c W h hc => text_to t1 A n c W h hc)
  have HP1 := Lib.hid (fun W => parse_to l (g, 0) W (text_len t1) t2)
  have HE1 := Lib.hid (fun A2 q c2 W h h2 => rsame_any g g A0 A2 n0 c0 q c2 W h h2 (by omega))
  rw [sameG_self] at HE1
  clear t1 t2 hv'
  rw [hv] at HV
  have S0 := ((St.start w).addRd hr).box #[.int .i64 g.w, .int .i64 g.h, .slice A0 n0 c0] 24
  simp only [List.nil_append, List.cons_append] at S0
  have hL := Lib.hid hl
  clear hl hr hv
  obtain ⟨d0, d1, d2⟩ := (S0.blk 1 rfl).cell3
  go_enter Tryd.func4, Tryd.ntmps4
  go_wp2_with fail
  refine (HV.out _ _ _ _ hL.out).mono ?_
  rintro e w1 ⟨rfl, hb1⟩
  have S1 := S0.keep hb1
  clear S0 d0 d1 d2
  obtain ⟨d0, d1, d2⟩ := (S1.blk 1 rfl).cell3
  go_wp2_with fail
  refine (HT1.out _ _ _ _ (S1.rd 0 rfl) hnc).mono ?_
  rintro e w2 ⟨rfl, hb2⟩
  have S2 := S1.keep hb2
  clear S1 d0 d1 d2
  go_wp2_with fail
  refine (HP1.out _).mono ?_
  rintro e w3 ⟨A3, n3, c3, rfl, hown3, hb3⟩
  simp only at hown3 ⊢
  have S3 := ((S2.keep hb3).addRd (rd_of_own hown3)).box #[.int .i64 g.w, .int .i64 g.h, .slice A3 n3 c3] 24
  simp only [List.nil_append, List.cons_append] at S3
  clear S2 hown3
  obtain ⟨d0, d1, d2⟩ := (S3.blk 1 rfl).cell3
  obtain ⟨e0, e1, e2⟩ := (S3.blk 3 rfl).cell3
  go_wp2_with fail
  refine (HE1.out _ _ _ _ (S3.rd 0 rfl) (S3.rd 2 rfl)).mono ?_
  rintro e w4 ⟨rfl, hb4⟩
  have SX := S3.keep hb4
  clear S3 d0 d1 d2 e0 e1 e2
  go_wp2_with fail
  refine (HP.out _).mono ?_
  rintro e w5 ⟨A5, n5, c5, rfl, hown5, hb5⟩
  have S5 := (SX.keep hb5).box #[.int .i64 Gd.zero.w, .int .i64 Gd.zero.h, .slice A5 n5 c5] 24
  clear SX
  go_wp2_with fail
  refine (alive_any _).mono ?_
  rintro e w9 ⟨rfl, hb9⟩
  go_wp2_with fail
  go_ret
  exact ⟨rfl, (S5.keep hb9).below⟩

set_option maxHeartbeats 2000000 in
set_option maxRecDepth 100000 in
theorem back1_t3 (g : Gd) (s : List UInt8) (A0 : Option Addr) (n0 c0 : Nat) (w : World) (hr : Rd w A0 n0 (g.bits.map Value.bool)) (hnc : n0 ≤ c0) (hv : validB g = true) (hs : s.length ≤ 5000) (q : Gd) (hp : parseG s = (q, 0)) :
    Calls Tryd.prog 4 #[.agg #[.int .i64 g.w, .int .i64 g.h, .slice A0 n0 c0], str s] w fun e w' => e = .returned (.bool true) ∧ Below w.heap.size w w' := by
  have hl : g.bits.length = n0 := by simpa using hr.len
  have HV := Lib.hid (fun A n c W h => valid_any g A n c W h)
  have hsz := size_list s
  have HP := Lib.hid (fun W => parse_to s (q, 0) W (by omega) hp)
  obtain ⟨hck, htx⟩ := text_parse hp
  have HT2 := Lib.hid (fun A n c W h hc => text_to htx A n c W h hc)
  clear hp htx
  have hv' := hv
  unfold validB at hv'
  rw [decide_eq_true_eq] at hv'
  obtain ⟨l, t1, t2⟩ := text_of g hv'.2
  have HT1 := Lib.hid (fun A n c W h hc => text_to t1 A n c W h hc)
  have HP1 := Lib.hid (fun W => parse_to l (g, 0) W (text_len t1) t2)
  have HE1 := Lib.hid (fun A2 q c2 W h h2 => rsame_any g g A0 A2 n0 c0 q c2 W h h2 (by omega))
  rw [sameG_self] at HE1
  clear t1 t2 hv'
  rw [hv] at HV
  have S0 := ((St.start w).addRd hr).box #[.int .i64 g.w, .int .i64 g.h, .slice A0 n0 c0] 24
  simp only [List.nil_append, List.cons_append] at S0
  have hL := Lib.hid hl
  clear hl hr hv
  obtain ⟨d0, d1, d2⟩ := (S0.blk 1 rfl).cell3
  go_enter Tryd.func4, Tryd.ntmps4
  go_wp2_with fail
  refine (HV.out _ _ _ _ hL.out).mono ?_
  rintro e w1 ⟨rfl, hb1⟩
  have S1 := S0.keep hb1
  clear S0 d0 d1 d2
  obtain ⟨d0, d1, d2⟩ := (S1.blk 1 rfl).cell3
  go_wp2_with fail
  refine (HT1.out _ _ _ _ (S1.rd 0 rfl) hnc).mono ?_
  rintro e w2 ⟨rfl, hb2⟩
  have S2 := S1.keep hb2
  clear S1 d0 d1 d2
  go_wp2_with fail
  refine (HP1.out _).mono ?_
  rintro e w3 ⟨A3, n3, c3, rfl, hown3, hb3⟩
  simp only at hown3 ⊢
  have S3 := ((S2.keep hb3).addRd (rd_of_own hown3)).box #[.int .i64 g.w, .int .i64 g.h, .slice A3 n3 c3] 24
  simp only [List.nil_append, List.cons_append] at S3
  clear S2 hown3
  obtain ⟨d0, d1, d2⟩ := (S3.blk 1 rfl).cell3
  obtain ⟨e0, e1, e2⟩ := (S3.blk 3 rfl).cell3
  go_wp2_with fail
  refine (HE1.out _ _ _ _ (S3.rd 0 rfl) (S3.rd 2 rfl)).mono ?_
  rintro e w4 ⟨rfl, hb4⟩
  have SX := S3.keep hb4
  clear S3 d0 d1 d2 e0 e1 e2
  go_wp2_with fail
  refine (HP.out _).mono ?_
  rintro e w5 ⟨A5, n5, c5, rfl, hown5, hb5⟩
  simp only at hown5 ⊢
  have hc5 := own_le hown5
  have hcq : chk q.w q.h n5 = 0 := by
    have h1 : q.bits.length = n5 := by have := hown5.1; simp at this; omega
    rw [← h1]
    exact hck
  have HC := Lib.hid (fun W => check_any q.w q.h A5 n5 c5 W)
  rw [hcq] at HC
  have S5 := ((SX.keep hb5).addRd (rd_of_own hown5)).box #[.int .i64 q.w, .int .i64 q.h, .slice A5 n5 c5] 24
  simp only [List.nil_append, List.cons_append] at S5
  clear SX hown5 hcq hck
  obtain ⟨d0, d1, d2⟩ := (S5.blk 5 rfl).cell3
  go_wp2_with fail
  refine (HT2.out _ _ _ _ (S5.rd 4 rfl) hc5).mono ?_
  rintro e w6 ⟨rfl, hb6⟩
  have S6 := S5.keep hb6
  clear S5 d0 d1 d2
  obtain ⟨d0, d1, d2⟩ := (S6.blk 5 rfl).cell3
  go_wp2_with fail
  refine (HC.out _).mono ?_
  rintro e w7 ⟨rfl, hb7⟩
  have S7 := S6.keep hb7
  clear S6 d0 d1 d2
  go_wp2_with fail
  refine (alive_any _).mono ?_
  rintro e w9 ⟨rfl, hb9⟩
  go_wp2_with fail
  go_ret
  exact ⟨rfl, (S7.keep hb9).below⟩

set_option maxHeartbeats 2000000 in
set_option maxRecDepth 100000 in
theorem back1_f1 (g : Gd) (s : List UInt8) (A0 : Option Addr) (n0 c0 : Nat) (w : World) (hr : Rd w A0 n0 (g.bits.map Value.bool)) (hv : validB g = false) (hs : 5000 < s.length) :
    Calls Tryd.prog 4 #[.agg #[.int .i64 g.w, .int .i64 g.h, .slice A0 n0 c0], str s] w fun e w' => e = .returned (.bool true) ∧ Below w.heap.size w w' := by
  have hl : g.bits.length = n0 := by simpa using hr.len
  have HV := Lib.hid (fun A n c W h => valid_any g A n c W h)
  have hsz := size_list s
  rw [hv] at HV
  have S0 := ((St.start w).addRd hr).box #[.int .i64 g.w, .int .i64 g.h, .slice A0 n0 c0] 24
  simp only [List.nil_append, List.cons_append] at S0
  have hL := Lib.hid hl
  clear hl hr hv
  obtain ⟨d0, d1, d2⟩ := (S0.blk 1 rfl).cell3
  go_enter Tryd.func4, Tryd.ntmps4
  go_wp2_with fail
  refine (HV.out _ _ _ _ hL.out).mono ?_
  rintro e w1 ⟨rfl, hb1⟩
  have S1 := S0.keep hb1
  clear S0 d0 d1 d2
  obtain ⟨d0, d1, d2⟩ := (S1.blk 1 rfl).cell3
  have SX := S1
  clear S1 d0 d1 d2
  go_wp2_with fail
  refine (alive_any _).mono ?_
  rintro e w9 ⟨rfl, hb9⟩
  go_wp2_with fail
  go_ret
  exact ⟨rfl, (SX.keep hb9).below⟩

set_option maxHeartbeats 2000000 in
set_option maxRecDepth 100000 in
theorem back1_f2 (g : Gd) (s : List UInt8) (A0 : Option Addr) (n0 c0 : Nat) (w : World) (hr : Rd w A0 n0 (g.bits.map Value.bool)) (hv : validB g = false) (hs : s.length ≤ 5000) (hp : parseG s = (Gd.zero, 12)) :
    Calls Tryd.prog 4 #[.agg #[.int .i64 g.w, .int .i64 g.h, .slice A0 n0 c0], str s] w fun e w' => e = .returned (.bool true) ∧ Below w.heap.size w w' := by
  have hl : g.bits.length = n0 := by simpa using hr.len
  have HV := Lib.hid (fun A n c W h => valid_any g A n c W h)
  have hsz := size_list s
  have HP := Lib.hid (fun W => parse_to s (Gd.zero, 12) W (by omega) hp)
  clear hp
  rw [hv] at HV
  have S0 := ((St.start w).addRd hr).box #[.int .i64 g.w, .int .i64 g.h, .slice A0 n0 c0] 24
  simp only [List.nil_append, List.cons_append] at S0
  have hL := Lib.hid hl
  clear hl hr hv
  obtain ⟨d0, d1, d2⟩ := (S0.blk 1 rfl).cell3
  go_enter Tryd.func4, Tryd.ntmps4
  go_wp2_with fail
  refine (HV.out _ _ _ _ hL.out).mono ?_
  rintro e w1 ⟨rfl, hb1⟩
  have S1 := S0.keep hb1
  clear S0 d0 d1 d2
  obtain ⟨d0, d1, d2⟩ := (S1.blk 1 rfl).cell3
  have SX := S1
  clear S1 d0 d1 d2
  go_wp2_with fail
  refine (HP.out _).mono ?_
  rintro e w5 ⟨A5, n5, c5, rfl, hown5, hb5⟩
  have S5 := (SX.keep hb5).box #[.int .i64 Gd.zero.w, .int .i64 Gd.zero.h, .slice A5 n5 c5] 24
  clear SX
  go_wp2_with fail
  refine (alive_any _).mono ?_
  rintro e w9 ⟨rfl, hb9⟩
  go_wp2_with fail
  go_ret
  exact ⟨rfl, (S5.keep hb9).below⟩

set_option maxHeartbeats 2000000 in
set_option maxRecDepth 100000 in
theorem back1_f3 (g : Gd) (s : List UInt8) (A0 : Option Addr) (n0 c0 : Nat) (w : World) (hr : Rd w A0 n0 (g.bits.map Value.bool)) (hv : validB g = false) (hs : s.length ≤ 5000) (q : Gd) (hp : parseG s = (q, 0)) :
    Calls Tryd.prog 4 #[.agg #[.int .i64 g.w, .int .i64 g.h, .slice A0 n0 c0], str s] w fun e w' => e = .returned (.bool true) ∧ Below w.heap.size w w' := by
  have hl : g.bits.length = n0 := by simpa using hr.len
  have HV := Lib.hid (fun A n c W h => valid_any g A n c W h)
  have hsz := size_list s
  have HP := Lib.hid (fun W => parse_to s (q, 0) W (by omega) hp)
  obtain ⟨hck, htx⟩ := text_parse hp
  have HT2 := Lib.hid (fun A n c W h hc => text_to htx A n c W h hc)
  clear hp htx
  rw [hv] at HV
  have S0 := ((St.start w).addRd hr).box #[.int .i64 g.w, .int .i64 g.h, .slice A0 n0 c0] 24
  simp only [List.nil_append, List.cons_append] at S0
  have hL := Lib.hid hl
  clear hl hr hv
  obtain ⟨d0, d1, d2⟩ := (S0.blk 1 rfl).cell3
  go_enter Tryd.func4, Tryd.ntmps4
  go_wp2_with fail
  refine (HV.out _ _ _ _ hL.out).mono ?_
  rintro e w1 ⟨rfl, hb1⟩
  have S1 := S0.keep hb1
  clear S0 d0 d1 d2
  obtain ⟨d0, d1, d2⟩ := (S1.blk 1 rfl).cell3
  have SX := S1
  clear S1 d0 d1 d2
  go_wp2_with fail
  refine (HP.out _).mono ?_
  rintro e w5 ⟨A5, n5, c5, rfl, hown5, hb5⟩
  simp only at hown5 ⊢
  have hc5 := own_le hown5
  have hcq : chk q.w q.h n5 = 0 := by
    have h1 : q.bits.length = n5 := by have := hown5.1; simp at this; omega
    rw [← h1]
    exact hck
  have HC := Lib.hid (fun W => check_any q.w q.h A5 n5 c5 W)
  rw [hcq] at HC
  have S5 := ((SX.keep hb5).addRd (rd_of_own hown5)).box #[.int .i64 q.w, .int .i64 q.h, .slice A5 n5 c5] 24
  simp only [List.nil_append, List.cons_append] at S5
  clear SX hown5 hcq hck
  obtain ⟨d0, d1, d2⟩ := (S5.blk 3 rfl).cell3
  go_wp2_with fail
  refine (HT2.out _ _ _ _ (S5.rd 2 rfl) hc5).mono ?_
  rintro e w6 ⟨rfl, hb6⟩
  have S6 := S5.keep hb6
  clear S5 d0 d1 d2
  obtain ⟨d0, d1, d2⟩ := (S6.blk 3 rfl).cell3
  go_wp2_with fail
  refine (HC.out _).mono ?_
  rintro e w7 ⟨rfl, hb7⟩
  have S7 := S6.keep hb7
  clear S6 d0 d1 d2
  go_wp2_with fail
  refine (alive_any _).mono ?_
  rintro e w9 ⟨rfl, hb9⟩
  go_wp2_with fail
  go_ret
  exact ⟨rfl, (S7.keep hb9).below⟩

theorem back1_walk (g : Gd) (s : List UInt8) (A0 : Option Addr) (n0 c0 : Nat) (w : World) (hr : Rd w A0 n0 (g.bits.map Value.bool)) (hnc : n0 ≤ c0) :
    Calls Tryd.prog 4 #[.agg #[.int .i64 g.w, .int .i64 g.h, .slice A0 n0 c0], str s] w fun e w' => e = .returned (.bool true) ∧ Below w.heap.size w w' := by
  cases hv : validB g with
  | true =>
    by_cases hs : s.length ≤ 5000
    · rcases parse_err s with h | h
      · exact back1_t3 g s A0 n0 c0 w hr hnc hv hs (parseG s).1 (Prod.ext rfl h)
      · exact back1_t2 g s A0 n0 c0 w hr hnc hv hs h
    · exact back1_t1 g s A0 n0 c0 w hr hnc hv (by omega)
  | false =>
    by_cases hs : s.length ≤ 5000
    · rcases parse_err s with h | h
      · exact back1_f3 g s A0 n0 c0 w hr hv hs (parseG s).1 (Prod.ext rfl h)
      · exact back1_f2 g s A0 n0 c0 w hr hv hs h
    · exact back1_f1 g s A0 n0 c0 w hr hv (by omega)
end Go.Proofs.YtebbcpeldncekaaDoor
