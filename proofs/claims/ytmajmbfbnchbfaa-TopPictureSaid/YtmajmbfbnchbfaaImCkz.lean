/- colour.Check and raddleref14.Check give the error chkI, for any image. -/
import Derived.Test.YtmajmbfbnchbfaaFinez
import Derived.Test.YtmajmbfbnchbfaaColPz
namespace Go.Proofs.Ytmajmbfbnchbfaa
open Go.RowKit

theorem chkI_split (m : Im) :
    ((m.w < 1 ∨ 64 < m.w) ∧ chkI m = 8) ∨
    (1 ≤ m.w ∧ m.w ≤ 64 ∧ (m.h < 1 ∨ 64 < m.h) ∧ chkI m = 8) ∨
    (1 ≤ m.w ∧ m.w ≤ 64 ∧ 1 ≤ m.h ∧ m.h ≤ 64 ∧ (m.c.length : Int) ≠ m.w * m.h ∧ chkI m = 8) ∨
    (1 ≤ m.w ∧ m.w ≤ 64 ∧ 1 ≤ m.h ∧ m.h ≤ 64 ∧ (m.c.length : Int) = m.w * m.h ∧ fineL m.c = false ∧ chkI m = 8) ∨
    (1 ≤ m.w ∧ m.w ≤ 64 ∧ 1 ≤ m.h ∧ m.h ≤ 64 ∧ (m.c.length : Int) = m.w * m.h ∧ fineL m.c = true ∧ chkI m = 0) := by
  by_cases h1 : m.w < 1 ∨ 64 < m.w
  · exact .inl ⟨h1, chkI_bad (by omega)⟩
  · by_cases h2 : m.h < 1 ∨ 64 < m.h
    · exact .inr (.inl ⟨by omega, by omega, h2, chkI_bad (by omega)⟩)
    · by_cases h3 : (m.c.length : Int) = m.w * m.h
      · rcases Bool.eq_false_or_eq_true (fineL m.c) with h4 | h4
        · refine .inr (.inr (.inr (.inr ⟨by omega, by omega, by omega, by omega, h3, h4, ?_⟩)))
          unfold chkI
          rw [if_neg]
          rw [h4]
          intro hc
          rcases hc with h | h | h | h | h | h
          · omega
          · omega
          · omega
          · omega
          · exact h h3
          · cases h
        · exact .inr (.inr (.inr (.inl ⟨by omega, by omega, by omega, by omega, h3, h4, chkI_bad (.inr (.inr (.inr (.inr (.inr h4)))))⟩)))
      · exact .inr (.inr (.inl ⟨by omega, by omega, by omega, by omega, h3, chkI_bad (.inr (.inr (.inr (.inr (.inl h3)))))⟩))

set_option maxHeartbeats 1600000 in
theorem checkI_any (m : Im) (A : Option Addr) (n c : Nat) (w : World) (hr : Rd w A n (m.c.map (Value.int .i64))) (hn : n ≤ 1048576) :
    Calls Try.prog 32 #[.agg #[.int .i64 m.w, .int .i64 m.h, .slice A n c]] w fun e w' => e = .returned (.int .i64 (chkI m)) ∧ Below w.heap.size w w' := by
  have hl : m.c.length = n := by simpa using hr.len
  have hcs := chkI_split m
  obtain ⟨W, H, l⟩ := m
  simp only at hcs hr hl ⊢
  rw [hl] at hcs
  have S0 := ((St.start w).addRd hr).box #[.int .i64 W, .int .i64 H, .slice A n c] 36
  simp only [List.nil_append, List.cons_append] at S0
  obtain ⟨c0, c1, c2⟩ := (S0.blk 1 rfl).cell3
  clear hl hr
  rcases hcs with ⟨h1, h⟩ | ⟨h1, h1', h2, h⟩ | ⟨h1, h1', h2, h2', h3, h⟩ | ⟨h1, h1', h2, h2', h3, h4, h⟩ | ⟨h1, h1', h2, h2', h3, h4, h⟩
  · have d1 : decide (1 ≤ W ∧ W ≤ 64) = false := by simp; omega
    have HH := Lib.hid h
    clear h h1
    go_enter Try.func32, Try.ntmps32
    go_wp2_with fail
    refine (side_any W _).mono ?_
    rintro e w1 ⟨rfl, hb1⟩
    have S1 := S0.keep hb1
    clear c0 c1 c2
    obtain ⟨c0, c1, c2⟩ := (S1.blk 1 rfl).cell3
    go_wp2_with fail
    go_ret
    exact ⟨ret_i HH.out.symm, S1.below⟩
  · have d1 : decide (1 ≤ W ∧ W ≤ 64) = true := by simp; omega
    have d2 : decide (1 ≤ H ∧ H ≤ 64) = false := by simp; omega
    have HH := Lib.hid h
    clear h h2
    go_enter Try.func32, Try.ntmps32
    go_wp2_with fail
    refine (side_any W _).mono ?_
    rintro e w1 ⟨rfl, hb1⟩
    have S1 := S0.keep hb1
    clear c0 c1 c2
    obtain ⟨c0, c1, c2⟩ := (S1.blk 1 rfl).cell3
    go_wp2_with fail
    refine (side_any H _).mono ?_
    rintro e w2 ⟨rfl, hb2⟩
    have S2 := S1.keep hb2
    clear c0 c1 c2
    obtain ⟨c0, c1, c2⟩ := (S2.blk 1 rfl).cell3
    go_wp2_with fail
    go_ret
    exact ⟨ret_i HH.out.symm, S2.below⟩
  · have d1 : decide (1 ≤ W ∧ W ≤ 64) = true := by simp; omega
    have d2 : decide (1 ≤ H ∧ H ≤ 64) = true := by simp; omega
    have hm := mul_wrap h1' h2' h1 h2
    have HH := Lib.hid h
    have k3 : ((n : Int) != wrap64 (W * H)) = true := by rw [hm, bne_iff_ne]; exact h3
    clear h hm h3
    go_enter Try.func32, Try.ntmps32
    go_wp2_with fail
    refine (side_any W _).mono ?_
    rintro e w1 ⟨rfl, hb1⟩
    have S1 := S0.keep hb1
    clear c0 c1 c2
    obtain ⟨c0, c1, c2⟩ := (S1.blk 1 rfl).cell3
    go_wp2_with fail
    refine (side_any H _).mono ?_
    rintro e w2 ⟨rfl, hb2⟩
    have S2 := S1.keep hb2
    clear c0 c1 c2
    obtain ⟨c0, c1, c2⟩ := (S2.blk 1 rfl).cell3
    go_wp2_with fail
    go_ret
    exact ⟨ret_i HH.out.symm, S2.below⟩
  · have d1 : decide (1 ≤ W ∧ W ≤ 64) = true := by simp; omega
    have d2 : decide (1 ≤ H ∧ H ≤ 64) = true := by simp; omega
    have hm := mul_wrap h1' h2' h1 h2
    have HH := Lib.hid h
    have k3 : ((n : Int) != wrap64 (W * H)) = false := by rw [hm, bne_eq_false_iff_eq]; exact h3
    clear h hm h3
    go_enter Try.func32, Try.ntmps32
    go_wp2_with fail
    refine (side_any W _).mono ?_
    rintro e w1 ⟨rfl, hb1⟩
    have S1 := S0.keep hb1
    clear c0 c1 c2
    obtain ⟨c0, c1, c2⟩ := (S1.blk 1 rfl).cell3
    go_wp2_with fail
    refine (side_any H _).mono ?_
    rintro e w2 ⟨rfl, hb2⟩
    have S2 := S1.keep hb2
    clear c0 c1 c2
    obtain ⟨c0, c1, c2⟩ := (S2.blk 1 rfl).cell3
    go_wp2_with fail
    refine (fine_any l _ _ _ _ (S2.rd 0 rfl) hn).mono ?_
    rintro e w3 ⟨rfl, hb3⟩
    have S3 := S2.keep hb3
    clear c0 c1 c2
    go_wp2_with fail
    go_ret
    exact ⟨ret_i HH.out.symm, S3.below⟩
  · have d1 : decide (1 ≤ W ∧ W ≤ 64) = true := by simp; omega
    have d2 : decide (1 ≤ H ∧ H ≤ 64) = true := by simp; omega
    have hm := mul_wrap h1' h2' h1 h2
    have HH := Lib.hid h
    have k3 : ((n : Int) != wrap64 (W * H)) = false := by rw [hm, bne_eq_false_iff_eq]; exact h3
    clear h hm h3
    go_enter Try.func32, Try.ntmps32
    go_wp2_with fail
    refine (side_any W _).mono ?_
    rintro e w1 ⟨rfl, hb1⟩
    have S1 := S0.keep hb1
    clear c0 c1 c2
    obtain ⟨c0, c1, c2⟩ := (S1.blk 1 rfl).cell3
    go_wp2_with fail
    refine (side_any H _).mono ?_
    rintro e w2 ⟨rfl, hb2⟩
    have S2 := S1.keep hb2
    clear c0 c1 c2
    obtain ⟨c0, c1, c2⟩ := (S2.blk 1 rfl).cell3
    go_wp2_with fail
    refine (fine_any l _ _ _ _ (S2.rd 0 rfl) hn).mono ?_
    rintro e w3 ⟨rfl, hb3⟩
    have S3 := S2.keep hb3
    clear c0 c1 c2
    go_wp2_with fail
    go_ret
    exact ⟨ret_i HH.out.symm, S3.below⟩

set_option maxHeartbeats 1600000 in
theorem rcheckI_any (m : Im) (A : Option Addr) (n c : Nat) (w : World) (hr : Rd w A n (m.c.map (Value.int .i64))) (hn : n ≤ 1048576) :
    Calls Try.prog 10 #[.agg #[.int .i64 m.w, .int .i64 m.h, .slice A n c]] w fun e w' => e = .returned (.int .i64 (chkI m)) ∧ Below w.heap.size w w' := by
  have hl : m.c.length = n := by simpa using hr.len
  have hcs := chkI_split m
  obtain ⟨W, H, l⟩ := m
  simp only at hcs hr hl ⊢
  rw [hl] at hcs
  have S0 := ((St.start w).addRd hr).box #[.int .i64 W, .int .i64 H, .slice A n c] 36
  simp only [List.nil_append, List.cons_append] at S0
  obtain ⟨c0, c1, c2⟩ := (S0.blk 1 rfl).cell3
  clear hl hr
  rcases hcs with ⟨h1, h⟩ | ⟨h1, h1', h2, h⟩ | ⟨h1, h1', h2, h2', h3, h⟩ | ⟨h1, h1', h2, h2', h3, h4, h⟩ | ⟨h1, h1', h2, h2', h3, h4, h⟩
  · have HH := Lib.hid h
    clear h
    rcases h1 with h1 | h1 <;> rcases Decidable.em (W < 1) with h5 | h5 <;> rcases Decidable.em (H < 1) with h6 | h6 <;> try omega
    all_goals
      go_enter Try.func10, Try.ntmps10
      go_wp2_with fail
      go_ret
      exact ⟨ret_i HH.out.symm, S0.below⟩
  · have HH := Lib.hid h
    clear h
    rcases h2 with h2 | h2
    all_goals
      go_enter Try.func10, Try.ntmps10
      go_wp2_with fail
      go_ret
      exact ⟨ret_i HH.out.symm, S0.below⟩
  · have hm := mul_wrap h1' h2' h1 h2
    have HH := Lib.hid h
    have k3 : ((n : Int) != wrap64 (W * H)) = true := by rw [hm, bne_iff_ne]; exact h3
    clear h hm h3
    go_enter Try.func10, Try.ntmps10
    go_wp2_with fail
    go_ret
    exact ⟨ret_i HH.out.symm, S0.below⟩
  · have hm := mul_wrap h1' h2' h1 h2
    have HH := Lib.hid h
    have k3 : ((n : Int) != wrap64 (W * H)) = false := by rw [hm, bne_eq_false_iff_eq]; exact h3
    clear h hm h3
    go_enter Try.func10, Try.ntmps10
    go_wp2_with fail
    refine (rfine_any l _ _ _ _ (S0.rd 0 rfl) hn).mono ?_
    rintro e w1 ⟨rfl, hb1⟩
    have S1 := S0.keep hb1
    clear c0 c1 c2
    go_wp2_with fail
    go_ret
    exact ⟨ret_i HH.out.symm, S1.below⟩
  · have hm := mul_wrap h1' h2' h1 h2
    have HH := Lib.hid h
    have k3 : ((n : Int) != wrap64 (W * H)) = false := by rw [hm, bne_eq_false_iff_eq]; exact h3
    clear h hm h3
    go_enter Try.func10, Try.ntmps10
    go_wp2_with fail
    refine (rfine_any l _ _ _ _ (S0.rd 0 rfl) hn).mono ?_
    rintro e w1 ⟨rfl, hb1⟩
    have S1 := S0.keep hb1
    clear c0 c1 c2
    go_wp2_with fail
    go_ret
    exact ⟨ret_i HH.out.symm, S1.below⟩

theorem rcheckI_to {v : Int} (m : Im) (A : Option Addr) (n c : Nat) (w : World) (h : chkI m = v) (hr : Rd w A n (m.c.map (Value.int .i64))) (hn : n ≤ 1048576) :
    Calls Try.prog 10 #[.agg #[.int .i64 m.w, .int .i64 m.h, .slice A n c]] w fun e w' => e = .returned (.int .i64 v) ∧ Below w.heap.size w w' := h ▸ rcheckI_any m A n c w hr hn
end Go.Proofs.Ytmajmbfbnchbfaa
