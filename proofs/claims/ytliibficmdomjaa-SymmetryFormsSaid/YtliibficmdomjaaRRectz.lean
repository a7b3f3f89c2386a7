/- raddleref06.Rect: the least rectangle of a grid. -/
import Derived.Test.YtliibficmdomjaaMg11z
import Derived.Test.YtliibficmdomjaaRectz
import Derived.Test.YtliibficmdomjaaMg13z
import Derived.Test.YtliibficmdomjaaRLatz
namespace Go.Proofs.Ytliibficmdomjaa
open Go.RowKit

theorem gcd_to {r : Int} (a b : Nat) (w : World) (h : ((Nat.gcd a b : Nat) : Int) = r) (hb : b ≤ 1000000) :
    Calls Try.prog 53 #[.int .i64 a, .int .i64 b] w fun e w' => e = .returned (.int .i64 r) ∧ ∃ m, w' = w.drewN m := h ▸ gcd_any a b w hb

set_option maxHeartbeats 2000000 in
theorem rrect_any (g : Gd) (A0 : Option Addr) (n c : Nat) (w : World) (hr : Rd w A0 n (g.bits.map Value.bool)) :
    Calls Try.prog 35 #[.agg #[.int .i64 g.w, .int .i64 g.h, .slice A0 n c]] w fun e w' => e = .returned (.tuple #[.int .i64 (rectG g).1.1, .int .i64 (rectG g).1.2, .int .i64 (rectG g).2]) ∧ Below w.heap.size w w' := by
  have lb : g.bits.length = n := by simpa using hr.len
  have S0 := ((St.start w).addRd hr).box #[.int .i64 g.w, .int .i64 g.h, .slice A0 n c] 24
  simp only [List.nil_append, List.cons_append] at S0
  obtain ⟨c0, c1, c2⟩ := (S0.blk 1 rfl).cell3
  by_cases h0 : chkG g = 0
  · obtain ⟨W, H, bs⟩ := g
    obtain ⟨a, b, h1, h2, ha1, ha, hbb1, hb, hl⟩ := chk_zero h0
    simp only at h1 h2 hl lb
    subst h1 h2
    have hcb : (chk (a : Int) (b : Int) n != 0) = false := by
      have h := h0
      unfold chkG at h
      simp only [lb] at h
      simpa using h
    obtain rfl : n = b * a := by omega
    have HC := rectG_ok h0
    have hL := lat_is (bs := bs) ha1 hbb1
    simp only at S0 c0 c1 c2 ⊢
    have HO := fun W h => rlat_any a b c A0 bs W ha1 hbb1 ha hb h
    obtain ⟨A, hA⟩ : ∃ q, latA a b bs = q := ⟨_, rfl⟩
    obtain ⟨B, hB⟩ : ∃ q, latB a b bs = q := ⟨_, rfl⟩
    obtain ⟨C, hC⟩ : ∃ q, latC a b bs = q := ⟨_, rfl⟩
    rw [hA, hB, hC] at HC hL
    simp only [hA, hB, hC] at HO
    have HO := Lib.hid HO
    have HR := Lib.hid HC
    have x1 := hL.a1
    have x2 := hL.a2
    have x3 := hL.b1
    have x4 := hL.c1
    have x5 := hL.c2
    have hg : 0 < Nat.gcd A B := Nat.gcd_pos_of_pos_left B x1
    have hQb : C * A ≤ 64 * 64 := Nat.mul_le_mul (by omega) (by omega)
    have hQ : (C : Int) * (A : Int) = ((C * A : Nat) : Int) := (Int.natCast_mul C A).symm
    have hw : IntKind.i64.wrap ((C * A : Nat) : Int) = ((C * A : Nat) : Int) := IntWalk.i64_in _ (by omega)
    have hD : (((C * A : Nat) : Int).tdiv ((Nat.gcd A B : Nat) : Int)) = ((C * (A / Nat.gcd A B) : Nat) : Int) := by
      rw [Int.tdiv_eq_ediv_of_nonneg (by omega), ← Int.natCast_ediv, Nat.mul_div_assoc C (Nat.gcd_dvd_left A B)]
    have hRb : C * (A / Nat.gcd A B) ≤ 64 * 64 := Nat.mul_le_mul (by omega) (Nat.le_trans (Nat.div_le_self _ _) (by omega))
    have hw2 : IntKind.i64.wrap ((C * (A / Nat.gcd A B) : Nat) : Int) = ((C * (A / Nat.gcd A B) : Nat) : Int) := IntWalk.i64_in _ (by omega)
    obtain ⟨D, hDD⟩ : ∃ D, Nat.gcd A B = D := ⟨_, rfl⟩
    have HG := Lib.hid (congrArg (fun q : Nat => (q : Int)) hDD)
    rw [hDD] at hg hD hw2
    have HX := Lib.hid (show rectG ⟨a, b, bs⟩ = (((A : Int), ((C * (A / D) : Nat) : Int)), 0) by rw [HR.out, hDD])
    have hD0 : ¬ (D : Int) = 0 := by omega
    have hD00 : ¬ D = 0 := by omega
    generalize C * (A / D) = R at *
    generalize C * A = Q at *
    clear h0 hl lb HC hL hA hB hC hr hDD hRb HR
    go_enter Try.func35, Try.ntmps35
    go_wp2_with fail
    refine (rcheck_any _ _ _ _ _ _).mono ?_
    rintro e w1 ⟨rfl, hb1⟩
    have S1 := S0.keep hb1
    clear c0 c1 c2
    obtain ⟨c0, c1, c2⟩ := (S1.blk 1 rfl).cell3
    go_wp2_with fail
    refine (HO.out _ (S1.rd 0 rfl)).mono ?_
    rintro e w2 ⟨rfl, hb2⟩
    have S2 := (S1.keep hb2).box #[.int .i64 A, .int .i64 B, .int .i64 C] 85
    simp only [List.nil_append, List.cons_append] at S2
    clear c0 c1 c2
    obtain ⟨l0, l1, l2⟩ := (S2.blk 2 rfl).cell3
    go_wp2_with fail
    go_quiet ((go_at_call 53; exact Calls.quiet_of (gcd_to A B _ HG.out (by omega))))
    go_wp2_with fail
    go_ret3
    exact ⟨ret_3 (by rw [HX.out]) (by rw [HX.out]) (by rw [HX.out]), below_drewN S2.below _⟩
  · have hn0 : chk g.w g.h n ≠ 0 := by
      have h := h0
      unfold chkG at h
      rw [lb] at h
      exact h
    have hcb : (chk g.w g.h n != 0) = true := by simpa using hn0
    have HC : Hid (rectG g = ((0, 0), chk g.w g.h n)) := Lib.hid (by rw [rectG_bad h0]; unfold chkG; rw [lb])
    clear h0 lb hr hn0
    go_enter Try.func35, Try.ntmps35
    go_wp2_with fail
    refine (rcheck_any _ _ _ _ _ _).mono ?_
    rintro e w1 ⟨rfl, hb1⟩
    have S1 := S0.keep hb1
    clear c0 c1 c2
    obtain ⟨c0, c1, c2⟩ := (S1.blk 1 rfl).cell3
    go_wp2_with fail
    refine (rcheck_any _ _ _ _ _ _).mono ?_
    rintro e w2 ⟨rfl, hb2⟩
    have S2 := S1.keep hb2
    go_wp2_with fail
    go_ret3
    exact ⟨ret_3 (by rw [HC.out]) (by rw [HC.out]) (by rw [HC.out]), S2.below⟩
end Go.Proofs.Ytliibficmdomjaa
