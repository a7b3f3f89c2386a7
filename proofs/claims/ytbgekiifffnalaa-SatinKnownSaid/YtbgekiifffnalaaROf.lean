/- raddleref06.Of gives the lattice of a grid, or the error of Check. -/
import Derived.Test.YtbgekiifffnalaaRLat
namespace Go.Proofs.Ytbgekiifffnalaa
open Go.RowKit

set_option maxHeartbeats 1000000 in
theorem rof_any (g : Gd) (A : Option Addr) (n c : Nat) (w : World) (hr : Rd w A n (g.bits.map Value.bool)) :
    Calls Try.prog 40 #[.agg #[.int .i64 g.w, .int .i64 g.h, .slice A n c]] w (LatR (ofG g) w) := by
  have lb : g.bits.length = n := by simpa using hr.len
  have S0 := (((St.start w).addRd hr).box #[.int .i64 g.w, .int .i64 g.h, .slice A n c] 24).box #[.int .i64 0, .int .i64 0, .int .i64 0] 57
  simp only [size_alloc1, List.nil_append, List.cons_append] at S0
  obtain ⟨c0, c1, c2⟩ := (S0.blk 1 rfl).cell3
  by_cases h0 : chkG g = 0
  · obtain ⟨W, H, bs⟩ := g
    obtain ⟨a, b, h1, h2, ha1, ha, hbb1, hb, hl⟩ := chk_zero h0
    simp only at h1 h2 hl lb
    subst h1 h2
    have HC := Lib.hid (ofG_ok h0)
    have hcb : (chk (a : Int) (b : Int) n != 0) = false := by
      have h := h0
      unfold chkG at h
      simp only [lb] at h
      simpa using h
    obtain rfl : n = b * a := by omega
    simp only at S0 c0 c1 c2 ⊢
    clear h0 lb hl hr
    go_enter Try.func40, Try.ntmps40
    go_wp2_with fail
    refine (rcheck_any _ _ _ _ _ _).mono ?_
    rintro e w1 ⟨rfl, hb1⟩
    have S1 := S0.keep hb1
    clear c0 c1 c2
    obtain ⟨c0, c1, c2⟩ := (S1.blk 1 rfl).cell3
    go_wp2_with fail
    refine (rlat_any a b c _ bs _ ha1 hbb1 ha hb (S1.rd 0 rfl)).mono ?_
    rintro e w2 ⟨rfl, hb2⟩
    have S2 := S1.keep hb2
    clear c0 c1 c2
    have hR2 := S2.blk 2 rfl
    obtain ⟨r0, r1, r2⟩ := hR2.cell3
    obtain ⟨f0, f1, f2⟩ := hR2.frozen3
    obtain ⟨q0, q1, q2⟩ := (hR2.set3 (.int .i64 (latA a b bs : Nat)) (.int .i64 (latB a b bs : Nat)) (.int .i64 (latC a b bs : Nat))).cell3
    go_wp2_with fail
    refine bodyPost_ret (v := .tuple #[.agg #[.int .i64 (latA a b bs : Nat), .int .i64 (latB a b bs : Nat), .int .i64 (latC a b bs : Nat)], .int .i64 0]) (by simp [results, Try.results40, go_sem, q0, q1, q2]) rfl ?_
    exact latR_ok HC.out (below_set3 S2.below (by omega) _ _ _)
  · have hn0 : chk g.w g.h n ≠ 0 := by
      have h := h0
      unfold chkG at h
      rw [lb] at h
      exact h
    have hcb : (chk g.w g.h n != 0) = true := by simpa using hn0
    have HC : Hid (ofG g = ((0, 0, 0), chk g.w g.h n)) := Lib.hid (by rw [ofG_bad h0]; unfold chkG; rw [lb])
    clear h0 lb hr hn0
    go_enter Try.func40, Try.ntmps40
    go_wp2_with fail
    refine (rcheck_any _ _ _ _ _ _).mono ?_
    rintro e w1 ⟨rfl, hb1⟩
    have S1 := S0.keep hb1
    clear c0 c1 c2
    obtain ⟨c0, c1, c2⟩ := (S1.blk 1 rfl).cell3
    go_wp2_with fail
    refine (rcheck_any _ _ _ _ _ _).mono ?_
    rintro e w2 ⟨rfl, hb2⟩
    have S2 := S1.keep hb2
    clear c0 c1 c2
    have hR2 := S2.blk 2 rfl
    obtain ⟨r0, r1, r2⟩ := hR2.cell3
    obtain ⟨f0, f1, f2⟩ := hR2.frozen3
    obtain ⟨q0, q1, q2⟩ := (hR2.set3 (.int .i64 0) (.int .i64 0) (.int .i64 0)).cell3
    go_wp2_with fail
    refine bodyPost_ret (v := .tuple #[.agg #[.int .i64 0, .int .i64 0, .int .i64 0], .int .i64 (chk g.w g.h n)]) (by simp [results, Try.results40, go_sem, q0, q1, q2]) rfl ?_
    exact latR_bad HC.out (below_set3 S2.below (by omega) _ _ _)
end Go.Proofs.Ytbgekiifffnalaa
