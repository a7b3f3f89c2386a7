/- repeat.Spread: a cell, spread over the plane, as a grid. -/
import Derived.Test.YtkhochbkjhpfgaaDoorSpread1
namespace Go.Proofs.YtkhochbkjhpfgaaDoor
open Go.RowKit

set_option maxHeartbeats 4000000 in
set_option maxRecDepth 100000 in
theorem spread_any (g : Gd) (B W H : Int) (A0 : Option Addr) (n c : Nat) (w : World) (hr : Rd w A0 n (g.bits.map Value.bool)) (hc : n ≤ c) :
    Calls Tryd.prog 16 #[.agg #[.int .i64 g.w, .int .i64 g.h, .slice A0 n c], .int .i64 B, .int .i64 W, .int .i64 H] w (RetG (spreadG g B W H) w) := by
  have lb : g.bits.length = n := by simpa using hr.len
  have S0 := ((((St.start w).addRd hr).box #[.int .i64 g.w, .int .i64 g.h, .slice A0 n c] 33).box #[.int .i64 B] 3).box #[.int .i64 0, .int .i64 0, .slice none 0 0] 33
  simp only [size_alloc1, List.nil_append, List.cons_append] at S0
  obtain ⟨c0, c1, c2⟩ := (S0.blk 1 rfl).cell3
  have b0 := (S0.blk 2 rfl).cell 0
  by_cases h0 : chkG g = 0
  · obtain ⟨W0, H0, bs⟩ := g
    obtain ⟨a, b, h1, h2, ha1, ha, hbb1, hb, hl⟩ := chk_zero h0
    simp only at h1 h2 hl lb
    subst h1 h2
    have hch : chk (a : Int) (b : Int) bs.length = 0 := h0
    have hcb : (chk (a : Int) (b : Int) n != 0) = false := by rw [← lb]; simpa using hch
    obtain rfl : n = b * a := by omega
    have HS := Lib.hid (fun k => withChk_ok (bs := bs) (a := a) (b := b) (k := k) hch)
    simp only at S0 c0 c1 c2 hr ⊢
    clear h0 hch hl lb
    by_cases k0 : B < 0
    · have HC : Hid (spreadG ⟨a, b, bs⟩ B W H = (Gd.zero, 2)) := Lib.hid (HS.out _ |>.trans (by rw [if_pos (by omega)]; rfl))
      clear HS hr
      go_enter Tryd.func16, Tryd.ntmps16
      go_wp2_with fail
      refine (check_any _ _ _ _ _ _).mono ?_
      rintro e w1 ⟨rfl, hb1⟩
      have S1 := S0.keep hb1
      clear c0 c1 c2 b0
      obtain ⟨c0, c1, c2⟩ := (S1.blk 1 rfl).cell3
      have b0 := (S1.blk 2 rfl).cell 0
      have hR2 := S1.blk 3 rfl
      obtain ⟨r0, r1, r2⟩ := hR2.cell3
      obtain ⟨f0, f1, f2⟩ := hR2.frozen3
      obtain ⟨q0, q1, q2⟩ := (hR2.set3 (.int .i64 0) (.int .i64 0) (.slice none 0 0)).cell3
      go_wp2_with fail
      all_goals
        refine bodyPost_ret (v := .tuple #[.agg #[.int .i64 0, .int .i64 0, .slice none 0 0], .int .i64 2]) (by simp [results, Tryd.results16, go_sem, q0, q1, q2]) rfl ?_
        exact bad_ret HC.out (below_set3 S1.below (by omega) _ _ _)
    replace k0 : ¬ (B < 0) := k0
    by_cases k0 : (a : Int) ≤ B
    · have HC : Hid (spreadG ⟨a, b, bs⟩ B W H = (Gd.zero, 2)) := Lib.hid (HS.out _ |>.trans (by rw [if_pos (by omega)]; rfl))
      clear HS hr
      go_enter Tryd.func16, Tryd.ntmps16
      go_wp2_with fail
      refine (check_any _ _ _ _ _ _).mono ?_
      rintro e w1 ⟨rfl, hb1⟩
      have S1 := S0.keep hb1
      clear c0 c1 c2 b0
      obtain ⟨c0, c1, c2⟩ := (S1.blk 1 rfl).cell3
      have b0 := (S1.blk 2 rfl).cell 0
      have hR2 := S1.blk 3 rfl
      obtain ⟨r0, r1, r2⟩ := hR2.cell3
      obtain ⟨f0, f1, f2⟩ := hR2.frozen3
      obtain ⟨q0, q1, q2⟩ := (hR2.set3 (.int .i64 0) (.int .i64 0) (.slice none 0 0)).cell3
      go_wp2_with fail
      all_goals
        refine bodyPost_ret (v := .tuple #[.agg #[.int .i64 0, .int .i64 0, .slice none 0 0], .int .i64 2]) (by simp [results, Tryd.results16, go_sem, q0, q1, q2]) rfl ?_
        exact bad_ret HC.out (below_set3 S1.below (by omega) _ _ _)
    replace k0 : ¬ ((a : Int) ≤ B) := k0
    by_cases k0 : W < 1 ∨ H < 1
    · have HC : Hid (spreadG ⟨a, b, bs⟩ B W H = (Gd.zero, 2)) := Lib.hid (HS.out _ |>.trans (by rw [if_pos (by omega)]; rfl))
      clear HS hr
      go_enter Tryd.func16, Tryd.ntmps16
      go_wp2_with fail
      refine (check_any _ _ _ _ _ _).mono ?_
      rintro e w1 ⟨rfl, hb1⟩
      have S1 := S0.keep hb1
      clear c0 c1 c2 b0
      obtain ⟨c0, c1, c2⟩ := (S1.blk 1 rfl).cell3
      have b0 := (S1.blk 2 rfl).cell 0
      have hR2 := S1.blk 3 rfl
      obtain ⟨r0, r1, r2⟩ := hR2.cell3
      obtain ⟨f0, f1, f2⟩ := hR2.frozen3
      obtain ⟨q0, q1, q2⟩ := (hR2.set3 (.int .i64 0) (.int .i64 0) (.slice none 0 0)).cell3
      go_wp2_with fail
      all_goals
        refine bodyPost_ret (v := .tuple #[.agg #[.int .i64 0, .int .i64 0, .slice none 0 0], .int .i64 2]) (by simp [results, Tryd.results16, go_sem, q0, q1, q2]) rfl ?_
        exact bad_ret HC.out (below_set3 S1.below (by omega) _ _ _)
    replace k0 : ¬ (W < 1 ∨ H < 1) := k0
    by_cases k0 : 64 < W ∨ 64 < H
    · have HC : Hid (spreadG ⟨a, b, bs⟩ B W H = (Gd.zero, 4)) := Lib.hid (HS.out _ |>.trans (by rw [if_neg (by omega), if_pos (by omega)]; rfl))
      clear HS hr
      go_enter Tryd.func16, Tryd.ntmps16
      go_wp2_with fail
      refine (check_any _ _ _ _ _ _).mono ?_
      rintro e w1 ⟨rfl, hb1⟩
      have S1 := S0.keep hb1
      clear c0 c1 c2 b0
      obtain ⟨c0, c1, c2⟩ := (S1.blk 1 rfl).cell3
      have b0 := (S1.blk 2 rfl).cell 0
      have hR2 := S1.blk 3 rfl
      obtain ⟨r0, r1, r2⟩ := hR2.cell3
      obtain ⟨f0, f1, f2⟩ := hR2.frozen3
      obtain ⟨q0, q1, q2⟩ := (hR2.set3 (.int .i64 0) (.int .i64 0) (.slice none 0 0)).cell3
      go_wp2_with fail
      all_goals
        refine bodyPost_ret (v := .tuple #[.agg #[.int .i64 0, .int .i64 0, .slice none 0 0], .int .i64 4]) (by simp [results, Tryd.results16, go_sem, q0, q1, q2]) rfl ?_
        exact bad_ret HC.out (below_set3 S1.below (by omega) _ _ _)
    replace k0 : ¬ (64 < W ∨ 64 < H) := k0
    have HC : Hid (spreadG ⟨a, b, bs⟩ B W H = tabG W.toNat H.toNat fun x y => pl a b bs ((x : Int) - ((y / b * B.toNat : Nat) : Int)) (y : Int)) := Lib.hid (HS.out _ |>.trans (by rw [if_neg (by omega), if_neg (by omega)]))
    obtain ⟨p, rfl⟩ : ∃ k : Nat, W = (k : Int) := ⟨W.toNat, by omega⟩
    obtain ⟨q, rfl⟩ : ∃ k : Nat, H = (k : Int) := ⟨H.toNat, by omega⟩
    obtain ⟨B, rfl⟩ : ∃ k : Nat, B = (k : Int) := ⟨B.toNat, by omega⟩
    have hp1 : 1 ≤ p := by omega
    have hp : p ≤ 64 := by omega
    have hq1 : 1 ≤ q := by omega
    have hq : q ≤ 64 := by omega
    have hB : B < a := by omega
    simp only [Int.toNat_natCast] at HC
    clear HS k0
    have hE := Proofs.enters_of Tryd.func32 (by kernel_rfl) rfl
    obtain ⟨bl, o, hA, _⟩ := hr.at_ (Nat.mul_pos hbb1 ha1)
    subst hA
    clear hr
    go_enter Tryd.func16, Tryd.ntmps16
    go_wp2_with fail
    refine (check_any _ _ _ _ _ _).mono ?_
    rintro e w1 ⟨rfl, hb1⟩
    have S1 := S0.keep hb1
    clear c0 c1 c2 b0
    obtain ⟨c0, c1, c2⟩ := (S1.blk 1 rfl).cell3
    have b0 := (S1.blk 2 rfl).cell 0
    have hr1 := S1.rd 0 rfl
    have hg1 := S1.blk 1 rfl
    have hbB := S1.blk 2 rfl
    go_wp2_with fail
    all_goals
      refine (made_any 32 _ p q _ w1 hp hq hE (spread1_gives p q B a b bl o c _ _ bs w1 ha1 hbb1 ha hb hB hp hq hc hg1 hbB hr1)).mono ?_
      rintro e w2 ⟨A2, n2, cc, rfl, hown2, hb2⟩
      simp only at hown2 ⊢
      have S2 := S1.keep hb2
      clear c0 c1 c2 b0 hr1 hg1 hbB
      have hR2 := S2.blk 3 rfl
      obtain ⟨r0, r1, r2⟩ := hR2.cell3
      obtain ⟨f0, f1, f2⟩ := hR2.frozen3
      obtain ⟨q0, q1, q2⟩ := (hR2.set3 (.int .i64 (p : Int)) (.int .i64 (q : Int)) (.slice A2 n2 cc)).cell3
      go_wp2_with fail
      refine bodyPost_ret (v := .tuple #[.agg #[.int .i64 (p : Int), .int .i64 (q : Int), .slice A2 n2 cc], .int .i64 0]) (by simp [results, Tryd.results16, go_sem, q0, q1, q2]) rfl ?_
      refine ⟨A2, n2, cc, by rw [HC.out]; rfl, ?_, below_set3 S2.below (by omega) _ _ _⟩
      rw [HC.out]
      exact own_set3 (own_base hown2 S1.size) hR2 (by decide) _ _ _
  · have hn0 : chk g.w g.h n ≠ 0 := by
      have h := h0
      unfold chkG at h
      rw [lb] at h
      exact h
    have hcb : (chk g.w g.h n != 0) = true := by simpa using hn0
    have HC : Hid (spreadG g B W H = (Gd.zero, chk g.w g.h n)) := Lib.hid (by unfold spreadG; rw [withChk_bad h0]; unfold chkG; rw [lb])
    clear h0 lb hr hn0
    go_enter Tryd.func16, Tryd.ntmps16
    go_wp2_with fail
    refine (check_any _ _ _ _ _ _).mono ?_
    rintro e w1 ⟨rfl, hb1⟩
    have S1 := S0.keep hb1
    clear c0 c1 c2 b0
    have hR2 := S1.blk 3 rfl
    obtain ⟨r0, r1, r2⟩ := hR2.cell3
    obtain ⟨f0, f1, f2⟩ := hR2.frozen3
    obtain ⟨q0, q1, q2⟩ := (hR2.set3 (.int .i64 0) (.int .i64 0) (.slice none 0 0)).cell3
    go_wp2_with fail
    refine bodyPost_ret (v := .tuple #[.agg #[.int .i64 0, .int .i64 0, .slice none 0 0], .int .i64 (chk g.w g.h n)]) (by simp [results, Tryd.results16, go_sem, q0, q1, q2]) rfl ?_
    exact bad_ret HC.out (below_set3 S1.below (by omega) _ _ _)
end Go.Proofs.YtkhochbkjhpfgaaDoor
