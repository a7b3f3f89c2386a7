/- The law PictureTurns, walked: it answers true and turns nothing that was there. -/
import Derived.Test.YtefeghpglacghaaAlive15z
import Derived.Test.YtefeghpglacghaaFirstTz
import Derived.Test.YtefeghpglacghaaTurnP15z
import Derived.Test.YtefeghpglacghaaSLists15z
import Derived.Test.YtefeghpglacghaaMg9z
import Derived.Test.YtefeghpglacghaaITurnFz
import Derived.Test.YtefeghpglacghaaFits15z
namespace Go.Proofs.Ytefeghpglacghaa
open Go.RowKit

set_option maxHeartbeats 1600000 in
theorem rcheckI_all (m : Im) (A : Option Addr) (n c : Nat) (w : World) (hr : Rd w A n (m.c.map (Value.int .i64))) :
    Calls Try.prog 33 #[.agg #[.int .i64 m.w, .int .i64 m.h, .slice A n c]] w fun e w' => e = .returned (.int .i64 (chkI m)) ∧ Below w.heap.size w w' := by
  by_cases hn : n ≤ 1048576
  · exact rcheckI_any m A n c w hr hn
  have hl : m.c.length = n := by simpa using hr.len
  have hcs := chkI_split m
  obtain ⟨W, H, l⟩ := m
  simp only at hcs hr hl ⊢
  rw [hl] at hcs
  have S0 := ((St.start w).addRd hr).box #[.int .i64 W, .int .i64 H, .slice A n c] 24
  simp only [List.nil_append, List.cons_append] at S0
  obtain ⟨c0, c1, c2⟩ := (S0.blk 1 rfl).cell3
  clear hl hr
  have big : 1 ≤ W → W ≤ 64 → 1 ≤ H → H ≤ 64 → (n : Int) = W * H → False := fun h1 h1' h2 h2' h3 => by
    have b : W * H ≤ 64 * 64 := Int.mul_le_mul h1' h2' (by omega) (by omega)
    omega
  rcases hcs with ⟨h1, h⟩ | ⟨h1, h1', h2, h⟩ | ⟨h1, h1', h2, h2', h3, h⟩ | ⟨h1, h1', h2, h2', h3, h4, h⟩ | ⟨h1, h1', h2, h2', h3, h4, h⟩
  · have HH := Lib.hid h
    clear h big
    rcases h1 with h1 | h1 <;> rcases Decidable.em (W < 1) with h5 | h5 <;> rcases Decidable.em (H < 1) with h6 | h6 <;> try omega
    all_goals
      go_enter Try.func33, Try.ntmps33
      go_wp2_with fail
      go_ret
      exact ⟨ret_i HH.out.symm, S0.below⟩
  · have HH := Lib.hid h
    clear h big
    rcases h2 with h2 | h2
    all_goals
      go_enter Try.func33, Try.ntmps33
      go_wp2_with fail
      go_ret
      exact ⟨ret_i HH.out.symm, S0.below⟩
  · have hm := mul_wrap h1' h2' h1 h2
    have HH := Lib.hid h
    have k3 : ((n : Int) != wrap64 (W * H)) = true := by rw [hm, bne_iff_ne]; exact h3
    clear h hm h3 big
    go_enter Try.func33, Try.ntmps33
    go_wp2_with fail
    go_ret
    exact ⟨ret_i HH.out.symm, S0.below⟩
  · exact absurd (big h1 h1' h2 h2' h3) (fun h => h)
  · exact absurd (big h1 h1' h2 h2' h3) (fun h => h)
theorem slists_to (ls ls' : List (List Int)) (he : ls = ls') (n : Nat) (hn : ls.length = n) (hp : 1 ≤ n) (hl : n ≤ 64) (hm : ∀ l ∈ ls, l.length ≤ 16) (A A' : Option Addr) (c c' : Nat) (w : World) (h : LR w A ls) (h' : LR w A' ls') :
    Calls Try.prog 16 #[.slice A n c, .slice A' n c'] w fun e w' => e = .returned (.bool true) ∧ Below w.heap.size w w' := by
  subst he
  have h0 : ls[0]? = some (ls[0]'(by omega)) := List.getElem?_eq_getElem (by omega)
  obtain ⟨b, o, _, _, rfl, _⟩ := h.at_ h0
  obtain ⟨b', o', _, _, rfl, _⟩ := h'.at_ h0
  exact slists_pos ls b o b' o' c c' n w hn h h' (by omega) (fun l hl => Nat.le_trans (hm l hl) (by omega))
theorem chLs_short (a b : Nat) (cs : List Int) (s k : Nat) : ∀ l ∈ chLs a b cs s k, l.length ≤ 16 := fun l hl => by
  unfold chLs at hl
  obtain ⟨i, _, rfl⟩ := List.mem_map.1 hl
  exact chL_len s i 16

set_option linter.unusedVariables false in
set_option linter.unusedSimpArgs false in
set_option maxHeartbeats 40000000 in
set_option maxRecDepth 100000 in
theorem pturns_0 (m : Im) (A : Option Addr) (n c : Nat) (w : World) (hr : Rd w A n (m.c.map (Value.int .i64)))  (h1 : chkI m ≠ 0) :
    Calls Try.prog 6 #[.agg #[.int .i64 m.w, .int .i64 m.h, .slice A n c]] w fun e w' => e = .returned (.bool true) ∧ Below w.heap.size w w' := by
  have HL := Lib.hid (fun W => alive15_any W)
  have h1b : (chkI m != 0) = true := by simpa using h1
  have HK := Lib.hid (fun A c W h => rcheckI_all m A n c W h)
  generalize chkI m = t at *
  clear h1
  have S0 := ((St.start w).addRd hr).box #[.int .i64 m.w, .int .i64 m.h, .slice A n c] 24
  simp only [List.nil_append, List.cons_append] at S0
  clear hr
  go_enter Try.func6, Try.ntmps6
  go_wp2_with fail
  refine (HL.out _).mono ?_
  rintro e w1 ⟨rfl, hb1⟩
  have S1 := S0.keep hb1
  obtain ⟨ca0, ca1, ca2⟩ := (S1.blk 1 rfl).cell3
  go_wp2_with fail
  refine (HK.out _ _ _ (S1.rd 0 rfl)).mono ?_
  rintro e w2 ⟨rfl, hb2⟩
  have S2 := S1.keep hb2
  clear ca0 ca1 ca2 S1
  obtain ⟨ca0, ca1, ca2⟩ := (S2.blk 1 rfl).cell3
  go_wp2_with fail
  go_ret
  exact ⟨rfl, S2.below⟩

set_option linter.unusedVariables false in
set_option linter.unusedSimpArgs false in
set_option maxHeartbeats 40000000 in
set_option maxRecDepth 100000 in
theorem pturns_1 (m : Im) (A : Option Addr) (n c : Nat) (w : World) (hr : Rd w A n (m.c.map (Value.int .i64)))  (h1 : chkI m = 0) (h2 : 100 < n) :
    Calls Try.prog 6 #[.agg #[.int .i64 m.w, .int .i64 m.h, .slice A n c]] w fun e w' => e = .returned (.bool true) ∧ Below w.heap.size w w' := by
  have HL := Lib.hid (fun W => alive15_any W)
  have HK := Lib.hid (fun A c W h => h1 ▸ rcheckI_all m A n c W h)
  clear h1
  have S0 := ((St.start w).addRd hr).box #[.int .i64 m.w, .int .i64 m.h, .slice A n c] 24
  simp only [List.nil_append, List.cons_append] at S0
  clear hr
  go_enter Try.func6, Try.ntmps6
  go_wp2_with fail
  refine (HL.out _).mono ?_
  rintro e w1 ⟨rfl, hb1⟩
  have S1 := S0.keep hb1
  obtain ⟨ca0, ca1, ca2⟩ := (S1.blk 1 rfl).cell3
  go_wp2_with fail
  refine (HK.out _ _ _ (S1.rd 0 rfl)).mono ?_
  rintro e w2 ⟨rfl, hb2⟩
  have S2 := S1.keep hb2
  clear ca0 ca1 ca2 S1
  obtain ⟨ca0, ca1, ca2⟩ := (S2.blk 1 rfl).cell3
  go_wp2_with fail
  go_ret
  exact ⟨rfl, S2.below⟩

set_option linter.unusedVariables false in
set_option linter.unusedSimpArgs false in
set_option maxHeartbeats 40000000 in
set_option maxRecDepth 100000 in
theorem pturns_2 (a b : Nat) (cs : List Int) (A : Option Addr) (n c : Nat) (w : World) (hr : Rd w A n (cs.map (Value.int .i64))) (ha1 : 1 ≤ a) (ha : a ≤ 64) (hb1 : 1 ≤ b) (hb : b ≤ 64) (hcl : cs.length = b * a) (h1 : chkI ⟨a, b, cs⟩ = 0) (h2 : ¬ 100 < n) (hF : ¬ ∃ F, FitF (N2 a b) (M2 a cs) F) :
    Calls Try.prog 6 #[.agg #[.int .i64 a, .int .i64 b, .slice A n c]] w fun e w' => e = .returned (.bool true) ∧ Below w.heap.size w w' := by
  have hba : b * a ≤ 64 * 64 := Nat.mul_le_mul hb ha
  have hnl : cs.length = n := by simpa using hr.len
  obtain rfl : n = b * a := by omega
  have hfl : fineL cs = true := by obtain ⟨_, _, _, _, _, _, _, _, _, h⟩ := chkI_zero h1; exact h
  have hff := Lib.hid (fun (k : Nat) (h : k < cs.length) => fineL_get hfl h)
  have HL := Lib.hid (fun W => alive15_any W)
  have HK := Lib.hid (fun A c W h => rcheckI_to ⟨a, b, cs⟩ A (b * a) c W h1 h (by omega))
  have HT := Lib.hid (fun A c W h => turnI_any ⟨a, b, cs⟩ A (b * a) c W h (by omega))
  rw [turnI_mk h1] at HT
  have hTd : Turned a b cs (Pl.tab b a fun x y => cs.getD (x * a + y) 0) := turned_tab a b cs
  have hdl : (Pl.tab b a fun x y => cs.getD (x * a + y) 0).length = a * b := Pl.tab_length
  have h1d : chkI ⟨b, a, Pl.tab b a fun x y => cs.getD (x * a + y) 0⟩ = 0 := chkI_tab hb1 hb ha1 ha fun x y hx hy => hff.out _ (by rw [hcl]; exact Pl.cell_lt hy hx)
  simp only at HK HT
  generalize (Pl.tab b a fun x y => cs.getD (x * a + y) 0) = ds at *
  have hab : a * b ≤ 64 * 64 := Nat.mul_le_mul ha hb
  have HKd := Lib.hid (fun A c W h => rcheckI_to ⟨b, a, ds⟩ A (a * b) c W h1d h (by omega))
  have hnm2 : decide ((100 : Int) < (b : Int) * (a : Int)) = false := by rw [← Int.natCast_mul]; exact decide_eq_false (by omega)
  have hDL := Lib.hid hdl
  simp only at HKd
  clear hff hnl hfl
  have hFd : ¬ ∃ F, FitF (N2 b a) (M2 b ds) F := fun h => hF ((fit_turned hTd).2 h)
  have H1 := Lib.hid (fun A c W h => First_none a b cs A c W h1 hF h (by omega))
  have H2 := Lib.hid (fun A c W h => First_none b a ds A c W h1d hFd h (by omega))
  have C1 := Lib.hid (fun A c W h => Choices_none a b cs A c W h1 hF h (by omega))
  have C2 := Lib.hid (fun A c W h => Choices_none b a ds A c W h1d hFd h (by omega))
  clear hFd hF hTd hdl h1d h1
  have S0 := ((St.start w).addRd hr).box #[.int .i64 a, .int .i64 b, .slice A (b * a) c] 24
  simp only [List.nil_append, List.cons_append] at S0
  clear hr
  go_enter Try.func6, Try.ntmps6
  go_wp2_with fail
  refine (HL.out _).mono ?_
  rintro e w1 ⟨rfl, hb1⟩
  have S1 := S0.keep hb1
  obtain ⟨ca0, ca1, ca2⟩ := (S1.blk 1 rfl).cell3
  go_wp2_with fail
  refine (HK.out _ _ _ (S1.rd 0 rfl)).mono ?_
  rintro e w2 ⟨rfl, hb2⟩
  have S2 := S1.keep hb2
  clear ca0 ca1 ca2 S1
  obtain ⟨ca0, ca1, ca2⟩ := (S2.blk 1 rfl).cell3
  go_wp2_with fail
  refine (HT.out _ _ _ (S2.rd 0 rfl)).mono ?_
  rintro e w3 ⟨A3, n3, cc3, rfl, hown3, hb3⟩
  try simp only at hown3 ⊢
  obtain rfl : n3 = a * b := by have h8 := hown3.1; rw [List.length_map, hDL.out] at h8; omega
  have S3 := ((S2.keep hb3).addRd (rd_of_own hown3)).box #[.int .i64 b, .int .i64 a, .slice A3 (a * b) cc3] 24
  simp only [List.nil_append, List.cons_append] at S3
  clear ca0 ca1 ca2 S2 hown3
  obtain ⟨ca0, ca1, ca2⟩ := (S3.blk 3 rfl).cell3
  go_wp2_with fail
  refine (HKd.out _ _ _ (S3.rd 2 rfl)).mono ?_
  rintro e w4 ⟨rfl, hb4⟩
  have S4 := S3.keep hb4
  clear ca0 ca1 ca2 S3
  obtain ⟨ca0, ca1, ca2⟩ := (S4.blk 1 rfl).cell3
  obtain ⟨cb0, cb1, cb2⟩ := (S4.blk 3 rfl).cell3
  go_wp2_with fail
  refine (H1.out _ _ _ (S4.rd 0 rfl)).mono ?_
  rintro e w5 ⟨A5, B5, ka5, kb5, rfl, hb5⟩
  have S5 := S4.keep hb5
  clear ca0 ca1 ca2 cb0 cb1 cb2 S4
  obtain ⟨ca0, ca1, ca2⟩ := (S5.blk 3 rfl).cell3
  go_wp2_with fail
  refine (H2.out _ _ _ (S5.rd 2 rfl)).mono ?_
  rintro e w6 ⟨A6, B6, ka6, kb6, rfl, hb6⟩
  have S6 := S5.keep hb6
  clear ca0 ca1 ca2 S5
  obtain ⟨ca0, ca1, ca2⟩ := (S6.blk 1 rfl).cell3
  go_wp2_with fail
  refine (C1.out _ _ _ (S6.rd 0 rfl)).mono ?_
  rintro e w7 ⟨A7, B7, ka7, kb7, rfl, hb7⟩
  have S7 := S6.keep hb7
  clear ca0 ca1 ca2 S6
  obtain ⟨ca0, ca1, ca2⟩ := (S7.blk 3 rfl).cell3
  go_wp2_with fail
  refine (C2.out _ _ _ (S7.rd 2 rfl)).mono ?_
  rintro e w8 ⟨A8, B8, ka8, kb8, rfl, hb8⟩
  have S8 := S7.keep hb8
  clear ca0 ca1 ca2 S7
  go_wp2_with fail
  go_ret
  exact ⟨rfl, S8.below⟩

set_option linter.unusedVariables false in
set_option linter.unusedSimpArgs false in
set_option maxHeartbeats 40000000 in
set_option maxRecDepth 100000 in
theorem pturns_3 (a b : Nat) (cs : List Int) (A : Option Addr) (n c : Nat) (w : World) (hr : Rd w A n (cs.map (Value.int .i64))) (ha1 : 1 ≤ a) (ha : a ≤ 64) (hb1 : 1 ≤ b) (hb : b ≤ 64) (hcl : cs.length = b * a) (h1 : chkI ⟨a, b, cs⟩ = 0) (h2 : ¬ 100 < n) (hF : ∃ F, FitF (N2 a b) (M2 a cs) F) :
    Calls Try.prog 6 #[.agg #[.int .i64 a, .int .i64 b, .slice A n c]] w fun e w' => e = .returned (.bool true) ∧ Below w.heap.size w w' := by
  have hba : b * a ≤ 64 * 64 := Nat.mul_le_mul hb ha
  have hnl : cs.length = n := by simpa using hr.len
  obtain rfl : n = b * a := by omega
  have hfl : fineL cs = true := by obtain ⟨_, _, _, _, _, _, _, _, _, h⟩ := chkI_zero h1; exact h
  have hff := Lib.hid (fun (k : Nat) (h : k < cs.length) => fineL_get hfl h)
  have HL := Lib.hid (fun W => alive15_any W)
  have HK := Lib.hid (fun A c W h => rcheckI_to ⟨a, b, cs⟩ A (b * a) c W h1 h (by omega))
  have HT := Lib.hid (fun A c W h => turnI_any ⟨a, b, cs⟩ A (b * a) c W h (by omega))
  rw [turnI_mk h1] at HT
  have hTd : Turned a b cs (Pl.tab b a fun x y => cs.getD (x * a + y) 0) := turned_tab a b cs
  have hdl : (Pl.tab b a fun x y => cs.getD (x * a + y) 0).length = a * b := Pl.tab_length
  have h1d : chkI ⟨b, a, Pl.tab b a fun x y => cs.getD (x * a + y) 0⟩ = 0 := chkI_tab hb1 hb ha1 ha fun x y hx hy => hff.out _ (by rw [hcl]; exact Pl.cell_lt hy hx)
  simp only at HK HT
  generalize (Pl.tab b a fun x y => cs.getD (x * a + y) 0) = ds at *
  have hab : a * b ≤ 64 * 64 := Nat.mul_le_mul ha hb
  have HKd := Lib.hid (fun A c W h => rcheckI_to ⟨b, a, ds⟩ A (a * b) c W h1d h (by omega))
  have hnm2 : decide ((100 : Int) < (b : Int) * (a : Int)) = false := by rw [← Int.natCast_mul]; exact decide_eq_false (by omega)
  have hDL := Lib.hid hdl
  simp only at HKd
  clear hff hnl hfl
  have hFd : ∃ F, FitF (N2 b a) (M2 b ds) F := (fit_turned hTd).1 hF
  have H1 := Lib.hid (fun A c W h => First_fit a b cs A c W h1 hF h (by omega))
  have H2 := Lib.hid (fun A c W h => First_fit b a ds A c W h1d hFd h (by omega))
  have C1 := Lib.hid (fun A c W h => Choices_fit a b cs A c W h1 hF h (by omega))
  have C2 := Lib.hid (fun A c W h => Choices_fit b a ds A c W h1d hFd h (by omega))
  have HTR := Lib.hid (fun (P Q : List Int) (hP : P.length = a) (hQ : Q.length = b) (hfP : fineL P = true) (hfQ : fineL Q = true) A A1 A2 c k1 k2 W h h1' h2' => thr15_to ⟨a, b, cs⟩ P Q (thrI_ok h1 (by simp only; omega) (by simp only; omega) hfP hfQ) A A1 A2 (b * a) c a k1 b k2 W h (by omega) h1' h2')
  have HTD := Lib.hid (fun (P Q : List Int) (hP : P.length = b) (hQ : Q.length = a) (hfP : fineL P = true) (hfQ : fineL Q = true) A A1 A2 c k1 k2 W h h1' h2' => thr15_to ⟨b, a, ds⟩ P Q (thrI_ok h1d (by simp only; omega) (by simp only; omega) hfP hfQ) A A1 A2 (a * b) c b k1 a k2 W h (by omega) h1' h2')
  have HFD := Lib.hid (fun (P Q : List Int) (hP : P.length = a) (hQ : Q.length = b) (hX : FitF (N2 a b) (M2 a cs) (F2 P Q)) A A1 A2 c k1 k2 W h h1' h2' => lists_turn hTd hP hQ hX ▸ fits_any b a ds Q P A A1 A2 c k1 k2 W hb1 hb ha1 ha h h1' h2')
  have HFC := Lib.hid (fun (P Q : List Int) (hP : P.length = b) (hQ : Q.length = a) (hX : FitF (N2 b a) (M2 b ds) (F2 P Q)) A A1 A2 c k1 k2 W h h1' h2' => lists_turn hTd.symm hP hQ hX ▸ fits_any a b cs Q P A A1 A2 c k1 k2 W ha1 ha hb1 hb h h1' h2')
  have HS1 := Lib.hid (fun A A' c c' W h h' => slists_to (chLs a b cs 0 a) (chLs b a ds 1 a) (chLs_turn hTd 0 a (by omega)) a (chLs_len _ _ _ _ _) ha1 ha (chLs_short _ _ _ _ _) A A' c c' W h h')
  have HS2 := Lib.hid (fun A A' c c' W h h' => slists_to (chLs a b cs 1 b) (chLs b a ds 0 b) (chLs_turn hTd 1 b (by omega)) b (chLs_len _ _ _ _ _) hb1 hb (chLs_short _ _ _ _ _) A A' c c' W h h')
  simp only at HTR HTD
  clear hFd hF hTd hdl h1d h1
  have S0 := ((St.start w).addRd hr).box #[.int .i64 a, .int .i64 b, .slice A (b * a) c] 24
  simp only [List.nil_append, List.cons_append] at S0
  clear hr
  go_enter Try.func6, Try.ntmps6
  go_wp2_with fail
  refine (HL.out _).mono ?_
  rintro e w1 ⟨rfl, hb1⟩
  have S1 := S0.keep hb1
  obtain ⟨ca0, ca1, ca2⟩ := (S1.blk 1 rfl).cell3
  go_wp2_with fail
  refine (HK.out _ _ _ (S1.rd 0 rfl)).mono ?_
  rintro e w2 ⟨rfl, hb2⟩
  have S2 := S1.keep hb2
  clear ca0 ca1 ca2 S1
  obtain ⟨ca0, ca1, ca2⟩ := (S2.blk 1 rfl).cell3
  go_wp2_with fail
  refine (HT.out _ _ _ (S2.rd 0 rfl)).mono ?_
  rintro e w3 ⟨A3, n3, cc3, rfl, hown3, hb3⟩
  try simp only at hown3 ⊢
  obtain rfl : n3 = a * b := by have h8 := hown3.1; rw [List.length_map, hDL.out] at h8; omega
  have S3 := ((S2.keep hb3).addRd (rd_of_own hown3)).box #[.int .i64 b, .int .i64 a, .slice A3 (a * b) cc3] 24
  simp only [List.nil_append, List.cons_append] at S3
  clear ca0 ca1 ca2 S2 hown3
  obtain ⟨ca0, ca1, ca2⟩ := (S3.blk 3 rfl).cell3
  go_wp2_with fail
  refine (HKd.out _ _ _ (S3.rd 2 rfl)).mono ?_
  rintro e w4 ⟨rfl, hb4⟩
  have S4 := S3.keep hb4
  clear ca0 ca1 ca2 S3
  obtain ⟨ca0, ca1, ca2⟩ := (S4.blk 1 rfl).cell3
  obtain ⟨cb0, cb1, cb2⟩ := (S4.blk 3 rfl).cell3
  go_wp2_with fail
  refine (H1.out _ _ _ (S4.rd 0 rfl)).mono ?_
  rintro e w5 ⟨P, Q, A5, B5, ka5, kb5, rfl, hP, hQ, hFP, _, r1, r2, hb5⟩
  have S5 := ((S4.keep hb5).addRd r1).addRd r2
  simp only [List.nil_append, List.cons_append] at S5
  clear ca0 ca1 ca2 cb0 cb1 cb2 S4 r1 r2
  obtain ⟨hfP, hfQ⟩ := fitF_fine hP hQ hFP
  have HRP := Lib.hid (HTR.out P Q hP hQ hfP hfQ)
  have HGP := Lib.hid (HFD.out P Q hP hQ hFP)
  clear hfP hfQ hFP hP hQ
  obtain ⟨ca0, ca1, ca2⟩ := (S5.blk 3 rfl).cell3
  go_wp2_with fail
  refine (H2.out _ _ _ (S5.rd 2 rfl)).mono ?_
  rintro e w6 ⟨R, T, A6, B6, ka6, kb6, rfl, hR, hT, hFR, _, r1, r2, hb6⟩
  have S6 := ((S5.keep hb6).addRd r1).addRd r2
  simp only [List.nil_append, List.cons_append] at S6
  clear ca0 ca1 ca2 S5 r1 r2
  obtain ⟨hfR, hfT⟩ := fitF_fine hR hT hFR
  have HRR := Lib.hid (HTD.out R T hR hT hfR hfT)
  have HGR := Lib.hid (HFC.out R T hR hT hFR)
  clear hfR hfT hFR hR hT
  obtain ⟨ca0, ca1, ca2⟩ := (S6.blk 1 rfl).cell3
  go_wp2_with fail
  refine (C1.out _ _ _ (S6.rd 0 rfl)).mono ?_
  rintro e w7 ⟨E7, G7, f7, g7, rfl, lp0, lp1, hb7⟩
  have S7 := S6.keep hb7
  clear ca0 ca1 ca2 S6
  obtain ⟨ca0, ca1, ca2⟩ := (S7.blk 3 rfl).cell3
  go_wp2_with fail
  refine (C2.out _ _ _ (S7.rd 2 rfl)).mono ?_
  rintro e w8 ⟨E8, G8, f8, g8, rfl, lu0, lu1, hb8⟩
  have S8 := S7.keep hb8
  replace lp0 := lp0.below hb8
  replace lp1 := lp1.below hb8
  clear ca0 ca1 ca2 S7
  obtain ⟨ca0, ca1, ca2⟩ := (S8.blk 1 rfl).cell3
  go_wp2_with fail
  refine (HRP.out _ _ _ _ _ _ _ (S8.rd 0 rfl) (S8.rd 4 rfl) (S8.rd 5 rfl)).mono ?_
  rintro e w9 ⟨rfl, hb9⟩
  have S9 := S8.keep hb9
  replace lp0 := lp0.below hb9
  replace lp1 := lp1.below hb9
  replace lu0 := lu0.below hb9
  replace lu1 := lu1.below hb9
  clear ca0 ca1 ca2 S8
  obtain ⟨ca0, ca1, ca2⟩ := (S9.blk 3 rfl).cell3
  go_wp2_with fail
  refine (HRR.out _ _ _ _ _ _ _ (S9.rd 2 rfl) (S9.rd 6 rfl) (S9.rd 7 rfl)).mono ?_
  rintro e w10 ⟨rfl, hb10⟩
  have S10 := S9.keep hb10
  replace lp0 := lp0.below hb10
  replace lp1 := lp1.below hb10
  replace lu0 := lu0.below hb10
  replace lu1 := lu1.below hb10
  clear ca0 ca1 ca2 S9
  obtain ⟨ca0, ca1, ca2⟩ := (S10.blk 3 rfl).cell3
  go_wp2_with fail
  refine (HGP.out _ _ _ _ _ _ _ (S10.rd 2 rfl) (S10.rd 5 rfl) (S10.rd 4 rfl)).mono ?_
  rintro e w11 ⟨rfl, hb11⟩
  have S11 := S10.keep hb11
  replace lp0 := lp0.below hb11
  replace lp1 := lp1.below hb11
  replace lu0 := lu0.below hb11
  replace lu1 := lu1.below hb11
  clear ca0 ca1 ca2 S10
  obtain ⟨ca0, ca1, ca2⟩ := (S11.blk 1 rfl).cell3
  go_wp2_with fail
  refine (HGR.out _ _ _ _ _ _ _ (S11.rd 0 rfl) (S11.rd 7 rfl) (S11.rd 6 rfl)).mono ?_
  rintro e w12 ⟨rfl, hb12⟩
  have S12 := S11.keep hb12
  replace lp0 := lp0.below hb12
  replace lp1 := lp1.below hb12
  replace lu0 := lu0.below hb12
  replace lu1 := lu1.below hb12
  clear ca0 ca1 ca2 S11
  go_wp2_with fail
  refine (HS1.out _ _ _ _ _ lp0 lu1).mono ?_
  rintro e w13 ⟨rfl, hb13⟩
  have S13 := S12.keep hb13
  replace lp0 := lp0.below hb13
  replace lp1 := lp1.below hb13
  replace lu0 := lu0.below hb13
  replace lu1 := lu1.below hb13
  clear S12
  go_wp2_with fail
  refine (HS2.out _ _ _ _ _ lp1 lu0).mono ?_
  rintro e w14 ⟨rfl, hb14⟩
  have S14 := S13.keep hb14
  replace lp0 := lp0.below hb14
  replace lp1 := lp1.below hb14
  replace lu0 := lu0.below hb14
  replace lu1 := lu1.below hb14
  clear S13
  go_wp2_with fail
  go_ret
  exact ⟨rfl, S14.below⟩

theorem pturns_walk (m : Im) (A : Option Addr) (n c : Nat) (w : World) (hr : Rd w A n (m.c.map (Value.int .i64)))  :
    Calls Try.prog 6 #[.agg #[.int .i64 m.w, .int .i64 m.h, .slice A n c]] w fun e w' => e = .returned (.bool true) ∧ Below w.heap.size w w' := by
  by_cases h1 : chkI m = 0
  · by_cases h2 : 100 < n
    · exact pturns_1 m A n c w hr h1 h2
    · obtain ⟨a, b, cs, rfl, ha1, ha, hb1, hb, hcl, _⟩ := img_open h1
      by_cases hF : ∃ F, FitF (N2 a b) (M2 a cs) F
      · exact pturns_3 a b cs A n c w hr ha1 ha hb1 hb hcl h1 h2 hF
      · exact pturns_2 a b cs A n c w hr ha1 ha hb1 hb hcl h1 h2 hF
  · exact pturns_0 m A n c w hr h1
end Go.Proofs.Ytefeghpglacghaa
