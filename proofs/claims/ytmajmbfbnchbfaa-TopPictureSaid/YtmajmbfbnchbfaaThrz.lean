/- raddleref14.Threads gives the error 'thr', for any grid and lists of numbers. -/
import Derived.Test.YtmajmbfbnchbfaaMg4z
import Derived.Test.YtmajmbfbnchbfaaThrCz
namespace Go.Proofs.Ytmajmbfbnchbfaa
open Go.RowKit

set_option maxHeartbeats 1000000 in
theorem rthr_any (g : Gd) (p q : List Int) (A Ap Aq : Option Addr) (n c np cp nq cq : Nat) (w : World) (hn : g.bits.length = n) (hrp : Rd w Ap np (p.map (Value.int .i64))) (hrq : Rd w Aq nq (q.map (Value.int .i64))) :
    Calls Try.prog 8 #[.agg #[.int .i64 g.w, .int .i64 g.h, .slice A n c], .slice Ap np cp, .slice Aq nq cq] w fun e w' => e = .returned (.int .i64 (thr g p q)) ∧ Below w.heap.size w w' := by
  have lp : p.length = np := by simpa using hrp.len
  have lq : q.length = nq := by simpa using hrq.len
  have hcs := thr_cases g p q
  obtain ⟨W, H, bs⟩ := g
  simp only [chkG, lp, lq] at hcs hn ⊢
  rw [hn] at hcs
  have S0 := (((St.start w).addRd hrp).addRd hrq).box #[.int .i64 W, .int .i64 H, .slice A n c] 25
  clear lp lq hrp hrq hn
  rcases hcs with hcs | hcs | hcs | hcs | hcs | hcs
  · obtain ⟨h0, h⟩ := hcs
    have k0 : (chk W H n != 0) = true := by simpa using h0
    have HH := Lib.hid h
    clear h h0
    go_enter Try.func8, Try.ntmps8
    go_wp2_with fail
    refine (rcheck_any _ _ _ _ _ _).mono ?_
    rintro e w1 ⟨rfl, hb1⟩
    have S1 := S0.keep hb1
    obtain ⟨c0, c1, c2⟩ := (S1.blk 2 rfl).cell3
    go_wp2_with fail
    refine (rcheck_any _ _ _ _ _ _).mono ?_
    rintro e w2 ⟨rfl, hb2⟩
    have S2 := S1.keep hb2
    clear c0 c1 c2
    obtain ⟨c0, c1, c2⟩ := (S2.blk 2 rfl).cell3
    go_wp2_with fail
    go_ret
    exact ⟨ret_i HH.out.symm, S2.below⟩
  · obtain ⟨h0, h1, h⟩ := hcs
    have k0 : (chk W H n != 0) = false := by simpa using h0
    have k1 : ((np : Int) != W) = true := by simpa using h1
    have HH := Lib.hid h
    clear h h0 h1
    go_enter Try.func8, Try.ntmps8
    go_wp2_with fail
    refine (rcheck_any _ _ _ _ _ _).mono ?_
    rintro e w1 ⟨rfl, hb1⟩
    have S1 := S0.keep hb1
    obtain ⟨c0, c1, c2⟩ := (S1.blk 2 rfl).cell3
    go_wp2_with fail
    go_ret
    exact ⟨ret_i HH.out.symm, S1.below⟩
  · obtain ⟨h0, h1, h2, h⟩ := hcs
    have k0 : (chk W H n != 0) = false := by simpa using h0
    have k1 : ((np : Int) != W) = false := by simpa using h1
    have k2 : ((nq : Int) != H) = true := by simpa using h2
    have HH := Lib.hid h
    clear h h0 h1 h2
    go_enter Try.func8, Try.ntmps8
    go_wp2_with fail
    refine (rcheck_any _ _ _ _ _ _).mono ?_
    rintro e w1 ⟨rfl, hb1⟩
    have S1 := S0.keep hb1
    obtain ⟨c0, c1, c2⟩ := (S1.blk 2 rfl).cell3
    go_wp2_with fail
    go_ret
    exact ⟨ret_i HH.out.symm, S1.below⟩
  · obtain ⟨h0, h1, h2, h3, h⟩ := hcs
    have hpq : np ≤ 1048576 ∧ nq ≤ 1048576 := by obtain ⟨a, b, e1, e2, _, e3, _, e4, _⟩ := chk_zero h0; omega
    obtain ⟨hp, hq⟩ := hpq
    have k0 : (chk W H n != 0) = false := by simpa using h0
    have k1 : ((np : Int) != W) = false := by simpa using h1
    have k2 : ((nq : Int) != H) = false := by simpa using h2
    have HH := Lib.hid h
    clear h h0 h1 h2
    go_enter Try.func8, Try.ntmps8
    go_wp2_with fail
    refine (rcheck_any _ _ _ _ _ _).mono ?_
    rintro e w1 ⟨rfl, hb1⟩
    have S1 := S0.keep hb1
    obtain ⟨c0, c1, c2⟩ := (S1.blk 2 rfl).cell3
    go_wp2_with fail
    clear c0 c1 c2
    refine (rfine_any p _ _ _ _ (S1.rd 0 rfl) hp).mono ?_
    rintro e w2 ⟨rfl, hb2⟩
    have S2 := S1.keep hb2
    obtain ⟨c0, c1, c2⟩ := (S2.blk 2 rfl).cell3
    go_wp2_with fail
    go_ret
    exact ⟨ret_i HH.out.symm, S2.below⟩
  · obtain ⟨h0, h1, h2, h3, h4, h⟩ := hcs
    have hpq : np ≤ 1048576 ∧ nq ≤ 1048576 := by obtain ⟨a, b, e1, e2, _, e3, _, e4, _⟩ := chk_zero h0; omega
    obtain ⟨hp, hq⟩ := hpq
    have k0 : (chk W H n != 0) = false := by simpa using h0
    have k1 : ((np : Int) != W) = false := by simpa using h1
    have k2 : ((nq : Int) != H) = false := by simpa using h2
    have HH := Lib.hid h
    clear h h0 h1 h2
    go_enter Try.func8, Try.ntmps8
    go_wp2_with fail
    refine (rcheck_any _ _ _ _ _ _).mono ?_
    rintro e w1 ⟨rfl, hb1⟩
    have S1 := S0.keep hb1
    obtain ⟨c0, c1, c2⟩ := (S1.blk 2 rfl).cell3
    go_wp2_with fail
    clear c0 c1 c2
    refine (rfine_any p _ _ _ _ (S1.rd 0 rfl) hp).mono ?_
    rintro e w2 ⟨rfl, hb2⟩
    have S2 := S1.keep hb2
    obtain ⟨c0, c1, c2⟩ := (S2.blk 2 rfl).cell3
    go_wp2_with fail
    clear c0 c1 c2
    refine (rfine_any q _ _ _ _ (S2.rd 1 rfl) hq).mono ?_
    rintro e w3 ⟨rfl, hb3⟩
    have S3 := S2.keep hb3
    obtain ⟨c0, c1, c2⟩ := (S3.blk 2 rfl).cell3
    go_wp2_with fail
    go_ret
    exact ⟨ret_i HH.out.symm, S3.below⟩
  · obtain ⟨h0, h1, h2, h3, h4, h⟩ := hcs
    have hpq : np ≤ 1048576 ∧ nq ≤ 1048576 := by obtain ⟨a, b, e1, e2, _, e3, _, e4, _⟩ := chk_zero h0; omega
    obtain ⟨hp, hq⟩ := hpq
    have k0 : (chk W H n != 0) = false := by simpa using h0
    have k1 : ((np : Int) != W) = false := by simpa using h1
    have k2 : ((nq : Int) != H) = false := by simpa using h2
    have HH := Lib.hid h
    clear h h0 h1 h2
    go_enter Try.func8, Try.ntmps8
    go_wp2_with fail
    refine (rcheck_any _ _ _ _ _ _).mono ?_
    rintro e w1 ⟨rfl, hb1⟩
    have S1 := S0.keep hb1
    obtain ⟨c0, c1, c2⟩ := (S1.blk 2 rfl).cell3
    go_wp2_with fail
    clear c0 c1 c2
    refine (rfine_any p _ _ _ _ (S1.rd 0 rfl) hp).mono ?_
    rintro e w2 ⟨rfl, hb2⟩
    have S2 := S1.keep hb2
    obtain ⟨c0, c1, c2⟩ := (S2.blk 2 rfl).cell3
    go_wp2_with fail
    clear c0 c1 c2
    refine (rfine_any q _ _ _ _ (S2.rd 1 rfl) hq).mono ?_
    rintro e w3 ⟨rfl, hb3⟩
    have S3 := S2.keep hb3
    obtain ⟨c0, c1, c2⟩ := (S3.blk 2 rfl).cell3
    go_wp2_with fail
    go_ret
    exact ⟨ret_i HH.out.symm, S3.below⟩

end Go.Proofs.Ytmajmbfbnchbfaa
