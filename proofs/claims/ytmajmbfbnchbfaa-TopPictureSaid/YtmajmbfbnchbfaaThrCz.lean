/- colour.threads gives the error 'thr', for any grid and lists of numbers. -/
import Derived.Test.YtmajmbfbnchbfaaMg3z
import Derived.Test.YtmajmbfbnchbfaaFinez
import Derived.Test.YtmajmbfbnchbfaaColPz
namespace Go.Proofs.Ytmajmbfbnchbfaa
open Go.RowKit

theorem thr_cases (g : Gd) (p q : List Int) :
    (chkG g ≠ 0 ∧ thr g p q = chkG g) ∨
    (chkG g = 0 ∧ (p.length : Int) ≠ g.w ∧ thr g p q = 26) ∨
    (chkG g = 0 ∧ (p.length : Int) = g.w ∧ (q.length : Int) ≠ g.h ∧ thr g p q = 26) ∨
    (chkG g = 0 ∧ (p.length : Int) = g.w ∧ (q.length : Int) = g.h ∧ fineL p = false ∧ thr g p q = 8) ∨
    (chkG g = 0 ∧ (p.length : Int) = g.w ∧ (q.length : Int) = g.h ∧ fineL p = true ∧ fineL q = false ∧ thr g p q = 8) ∨
    (chkG g = 0 ∧ (p.length : Int) = g.w ∧ (q.length : Int) = g.h ∧ fineL p = true ∧ fineL q = true ∧ thr g p q = 0) := by
  by_cases h0 : chkG g = 0
  · by_cases h1 : (p.length : Int) = g.w
    · by_cases h2 : (q.length : Int) = g.h
      · rcases Bool.eq_false_or_eq_true (fineL p) with h3 | h3
        · rcases Bool.eq_false_or_eq_true (fineL q) with h4 | h4
          · exact .inr (.inr (.inr (.inr (.inr ⟨h0, h1, h2, h3, h4, thr_ok h0 h1 h2 h3 h4⟩))))
          · exact .inr (.inr (.inr (.inr (.inl ⟨h0, h1, h2, h3, h4, thr_three h0 h1 h2 (.inr h4)⟩))))
        · exact .inr (.inr (.inr (.inl ⟨h0, h1, h2, h3, thr_three h0 h1 h2 (.inl h3)⟩)))
      · exact .inr (.inr (.inl ⟨h0, h1, h2, thr_two h0 (.inr h2)⟩))
    · exact .inr (.inl ⟨h0, h1, thr_two h0 (.inl h1)⟩)
  · exact .inl ⟨h0, thr_one h0⟩

set_option maxHeartbeats 1000000 in
theorem thr_any (g : Gd) (p q : List Int) (A Ap Aq : Option Addr) (n c np cp nq cq : Nat) (w : World) (hn : g.bits.length = n) (hrp : Rd w Ap np (p.map (Value.int .i64))) (hrq : Rd w Aq nq (q.map (Value.int .i64))) :
    Calls Try.prog 26 #[.agg #[.int .i64 g.w, .int .i64 g.h, .slice A n c], .slice Ap np cp, .slice Aq nq cq] w fun e w' => e = .returned (.int .i64 (thr g p q)) ∧ Below w.heap.size w w' := by
  have lp : p.length = np := by simpa using hrp.len
  have lq : q.length = nq := by simpa using hrq.len
  have hcs := thr_cases g p q
  obtain ⟨W, H, bs⟩ := g
  simp only [chkG, lp, lq] at hcs hn ⊢
  rw [hn] at hcs
  have S0 := (((St.start w).addRd hrp).addRd hrq).box #[.int .i64 W, .int .i64 H, .slice A n c] 25
  clear lp lq hrp hrq hn
  rcases hcs with hcs | hcs | hcs | hcs | hcs | hcs
  · obtain ⟨h0, h⟩ := hcs
    have k0 : (chk W H n != 0) = true := by simpa using h0
    have HH := Lib.hid h
    clear h h0
    go_enter Try.func26, Try.ntmps26
    go_wp2_with fail
    refine (check_any _ _ _ _ _ _).mono ?_
    rintro e w1 ⟨rfl, hb1⟩
    have S1 := S0.keep hb1
    obtain ⟨c0, c1, c2⟩ := (S1.blk 2 rfl).cell3
    go_wp2_with fail
    go_ret
    exact ⟨ret_i HH.out.symm, S1.below⟩
  · obtain ⟨h0, h1, h⟩ := hcs
    have k0 : (chk W H n != 0) = false := by simpa using h0
    have k1 : ((np : Int) != W) = true := by simpa using h1
    have HH := Lib.hid h
    clear h h0 h1
    go_enter Try.func26, Try.ntmps26
    go_wp2_with fail
    refine (check_any _ _ _ _ _ _).mono ?_
    rintro e w1 ⟨rfl, hb1⟩
    have S1 := S0.keep hb1
    obtain ⟨c0, c1, c2⟩ := (S1.blk 2 rfl).cell3
    go_wp2_with fail
    go_ret
    exact ⟨ret_i HH.out.symm, S1.below⟩
  · obtain ⟨h0, h1, h2, h⟩ := hcs
    have k0 : (chk W H n != 0) = false := by simpa using h0
    have k1 : ((np : Int) != W) = false := by simpa using h1
    have k2 : ((nq : Int) != H) = true := by simpa using h2
    have HH := Lib.hid h
    clear h h0 h1 h2
    go_enter Try.func26, Try.ntmps26
    go_wp2_with fail
    refine (check_any _ _ _ _ _ _).mono ?_
    rintro e w1 ⟨rfl, hb1⟩
    have S1 := S0.keep hb1
    obtain ⟨c0, c1, c2⟩ := (S1.blk 2 rfl).cell3
    go_wp2_with fail
    go_ret
    exact ⟨ret_i HH.out.symm, S1.below⟩
  · obtain ⟨h0, h1, h2, h3, h⟩ := hcs
    have hpq : np ≤ 1048576 ∧ nq ≤ 1048576 := by obtain ⟨a, b, e1, e2, _, e3, _, e4, _⟩ := chk_zero h0; omega
    obtain ⟨hp, hq⟩ := hpq
    have k0 : (chk W H n != 0) = false := by simpa using h0
    have k1 : ((np : Int) != W) = false := by simpa using h1
    have k2 : ((nq : Int) != H) = false := by simpa using h2
    have HH := Lib.hid h
    clear h h0 h1 h2
    go_enter Try.func26, Try.ntmps26
    go_wp2_with fail
    refine (check_any _ _ _ _ _ _).mono ?_
    rintro e w1 ⟨rfl, hb1⟩
    have S1 := S0.keep hb1
    obtain ⟨c0, c1, c2⟩ := (S1.blk 2 rfl).cell3
    go_wp2_with fail
    clear c0 c1 c2
    refine (fine_any p _ _ _ _ (S1.rd 0 rfl) hp).mono ?_
    rintro e w2 ⟨rfl, hb2⟩
    have S2 := S1.keep hb2
    obtain ⟨c0, c1, c2⟩ := (S2.blk 2 rfl).cell3
    go_wp2_with fail
    go_ret
    exact ⟨ret_i HH.out.symm, S2.below⟩
  · obtain ⟨h0, h1, h2, h3, h4, h⟩ := hcs
    have hpq : np ≤ 1048576 ∧ nq ≤ 1048576 := by obtain ⟨a, b, e1, e2, _, e3, _, e4, _⟩ := chk_zero h0; omega
    obtain ⟨hp, hq⟩ := hpq
    have k0 : (chk W H n != 0) = false := by simpa using h0
    have k1 : ((np : Int) != W) = false := by simpa using h1
    have k2 : ((nq : Int) != H) = false := by simpa using h2
    have HH := Lib.hid h
    clear h h0 h1 h2
    go_enter Try.func26, Try.ntmps26
    go_wp2_with fail
    refine (check_any _ _ _ _ _ _).mono ?_
    rintro e w1 ⟨rfl, hb1⟩
    have S1 := S0.keep hb1
    obtain ⟨c0, c1, c2⟩ := (S1.blk 2 rfl).cell3
    go_wp2_with fail
    clear c0 c1 c2
    refine (fine_any p _ _ _ _ (S1.rd 0 rfl) hp).mono ?_
    rintro e w2 ⟨rfl, hb2⟩
    have S2 := S1.keep hb2
    obtain ⟨c0, c1, c2⟩ := (S2.blk 2 rfl).cell3
    go_wp2_with fail
    clear c0 c1 c2
    refine (fine_any q _ _ _ _ (S2.rd 1 rfl) hq).mono ?_
    rintro e w3 ⟨rfl, hb3⟩
    have S3 := S2.keep hb3
    obtain ⟨c0, c1, c2⟩ := (S3.blk 2 rfl).cell3
    go_wp2_with fail
    go_ret
    exact ⟨ret_i HH.out.symm, S3.below⟩
  · obtain ⟨h0, h1, h2, h3, h4, h⟩ := hcs
    have hpq : np ≤ 1048576 ∧ nq ≤ 1048576 := by obtain ⟨a, b, e1, e2, _, e3, _, e4, _⟩ := chk_zero h0; omega
    obtain ⟨hp, hq⟩ := hpq
    have k0 : (chk W H n != 0) = false := by simpa using h0
    have k1 : ((np : Int) != W) = false := by simpa using h1
    have k2 : ((nq : Int) != H) = false := by simpa using h2
    have HH := Lib.hid h
    clear h h0 h1 h2
    go_enter Try.func26, Try.ntmps26
    go_wp2_with fail
    refine (check_any _ _ _ _ _ _).mono ?_
    rintro e w1 ⟨rfl, hb1⟩
    have S1 := S0.keep hb1
    obtain ⟨c0, c1, c2⟩ := (S1.blk 2 rfl).cell3
    go_wp2_with fail
    clear c0 c1 c2
    refine (fine_any p _ _ _ _ (S1.rd 0 rfl) hp).mono ?_
    rintro e w2 ⟨rfl, hb2⟩
    have S2 := S1.keep hb2
    obtain ⟨c0, c1, c2⟩ := (S2.blk 2 rfl).cell3
    go_wp2_with fail
    clear c0 c1 c2
    refine (fine_any q _ _ _ _ (S2.rd 1 rfl) hq).mono ?_
    rintro e w3 ⟨rfl, hb3⟩
    have S3 := S2.keep hb3
    obtain ⟨c0, c1, c2⟩ := (S3.blk 2 rfl).cell3
    go_wp2_with fail
    go_ret
    exact ⟨ret_i HH.out.symm, S3.below⟩

end Go.Proofs.Ytmajmbfbnchbfaa
