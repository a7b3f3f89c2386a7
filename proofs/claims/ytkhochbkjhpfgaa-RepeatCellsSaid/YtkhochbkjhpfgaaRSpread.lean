/- raddleref06.Spread: a cell, spread over the plane, as a grid. -/
import Derived.Test.YtkhochbkjhpfgaaSpreadP
import Derived.Test.YtkhochbkjhpfgaaRCell6
namespace Go.Proofs.Ytkhochbkjhpfgaa
open Go.RowKit

set_option maxHeartbeats 4000000 in
set_option maxRecDepth 100000 in
theorem rspread_any (g : Gd) (B W H : Int) (A0 : Option Addr) (n c : Nat) (w : World) (hr : Rd w A0 n (g.bits.map Value.bool)) :
    Calls Try.prog 18 #[.agg #[.int .i64 g.w, .int .i64 g.h, .slice A0 n c], .int .i64 B, .int .i64 W, .int .i64 H] w (RetG (spreadG g B W H) w) := by
  have lb : g.bits.length = n := by simpa using hr.len
  have S0 := ((((St.start w).addRd hr).box #[.int .i64 g.w, .int .i64 g.h, .slice A0 n c] 24)).box #[.int .i64 0, .int .i64 0, .slice none 0 0] 24
  simp only [size_alloc1, List.nil_append, List.cons_append] at S0
  obtain ⟨c0, c1, c2⟩ := (S0.blk 1 rfl).cell3

  by_cases h0 : chkG g = 0
  · obtain ⟨W0, H0, bs⟩ := g
    obtain ⟨a, b, h1, h2, ha1, ha, hbb1, hb, hl⟩ := chk_zero h0
    simp only at h1 h2 hl lb
    subst h1 h2
    have hch : chk (a : Int) (b : Int) bs.length = 0 := h0
    have hcb : (chk (a : Int) (b : Int) n != 0) = false := by rw [← lb]; simpa using hch
    obtain rfl : n = b * a := by omega
    have HS := Lib.hid (fun k => withChk_ok (bs := bs) (a := a) (b := b) (k := k) hch)
    simp only at S0 c0 c1 c2 hr ⊢
    clear h0 hch hl lb
    by_cases k0 : B < 0
    · have HC : Hid (spreadG ⟨a, b, bs⟩ B W H = (Gd.zero, 2)) := Lib.hid (HS.out _ |>.trans (by rw [if_pos (by omega)]; rfl))
      clear HS hr
      go_enter Try.func18, Try.ntmps18
      go_wp2_with fail
      refine (rcheck_any _ _ _ _ _ _).mono ?_
      rintro e w1 ⟨rfl, hb1⟩
      have S1 := S0.keep hb1
      clear c0 c1 c2
      obtain ⟨c0, c1, c2⟩ := (S1.blk 1 rfl).cell3
      skip
      have hR2 := S1.blk 2 rfl
      obtain ⟨r0, r1, r2⟩ := hR2.cell3
      obtain ⟨f0, f1, f2⟩ := hR2.frozen3
      obtain ⟨q0, q1, q2⟩ := (hR2.set3 (.int .i64 0) (.int .i64 0) (.slice none 0 0)).cell3
      go_wp2_with fail
      all_goals
        refine bodyPost_ret (v := .tuple #[.agg #[.int .i64 0, .int .i64 0, .slice none 0 0], .int .i64 2]) (by simp [results, Try.results18, go_sem, q0, q1, q2]) rfl ?_
        exact bad_ret HC.out (below_set3 S1.below (by omega) _ _ _)
    replace k0 : ¬ (B < 0) := k0
    by_cases k0 : (a : Int) ≤ B
    · have HC : Hid (spreadG ⟨a, b, bs⟩ B W H = (Gd.zero, 2)) := Lib.hid (HS.out _ |>.trans (by rw [if_pos (by omega)]; rfl))
      clear HS hr
      go_enter Try.func18, Try.ntmps18
      go_wp2_with fail
      refine (rcheck_any _ _ _ _ _ _).mono ?_
      rintro e w1 ⟨rfl, hb1⟩
      have S1 := S0.keep hb1
      clear c0 c1 c2
      obtain ⟨c0, c1, c2⟩ := (S1.blk 1 rfl).cell3
      skip
      have hR2 := S1.blk 2 rfl
      obtain ⟨r0, r1, r2⟩ := hR2.cell3
      obtain ⟨f0, f1, f2⟩ := hR2.frozen3
      obtain ⟨q0, q1, q2⟩ := (hR2.set3 (.int .i64 0) (.int .i64 0) (.slice none 0 0)).cell3
      go_wp2_with fail
      all_goals
        refine bodyPost_ret (v := .tuple #[.agg #[.int .i64 0, .int .i64 0, .slice none 0 0], .int .i64 2]) (by simp [results, Try.results18, go_sem, q0, q1, q2]) rfl ?_
        exact bad_ret HC.out (below_set3 S1.below (by omega) _ _ _)
    replace k0 : ¬ ((a : Int) ≤ B) := k0
    by_cases k0 : W < 1
    · have HC : Hid (spreadG ⟨a, b, bs⟩ B W H = (Gd.zero, 2)) := Lib.hid (HS.out _ |>.trans (by rw [if_pos (by omega)]; rfl))
      clear HS hr
      go_enter Try.func18, Try.ntmps18
      go_wp2_with fail
      refine (rcheck_any _ _ _ _ _ _).mono ?_
      rintro e w1 ⟨rfl, hb1⟩
      have S1 := S0.keep hb1
      clear c0 c1 c2
      obtain ⟨c0, c1, c2⟩ := (S1.blk 1 rfl).cell3
      skip
      have hR2 := S1.blk 2 rfl
      obtain ⟨r0, r1, r2⟩ := hR2.cell3
      obtain ⟨f0, f1, f2⟩ := hR2.frozen3
      obtain ⟨q0, q1, q2⟩ := (hR2.set3 (.int .i64 0) (.int .i64 0) (.slice none 0 0)).cell3
      go_wp2_with fail
      all_goals
        refine bodyPost_ret (v := .tuple #[.agg #[.int .i64 0, .int .i64 0, .slice none 0 0], .int .i64 2]) (by simp [results, Try.results18, go_sem, q0, q1, q2]) rfl ?_
        exact bad_ret HC.out (below_set3 S1.below (by omega) _ _ _)
    replace k0 : ¬ (W < 1) := k0
    by_cases k0 : H < 1
    · have HC : Hid (spreadG ⟨a, b, bs⟩ B W H = (Gd.zero, 2)) := Lib.hid (HS.out _ |>.trans (by rw [if_pos (by omega)]; rfl))
      clear HS hr
      go_enter Try.func18, Try.ntmps18
      go_wp2_with fail
      refine (rcheck_any _ _ _ _ _ _).mono ?_
      rintro e w1 ⟨rfl, hb1⟩
      have S1 := S0.keep hb1
      clear c0 c1 c2
      obtain ⟨c0, c1, c2⟩ := (S1.blk 1 rfl).cell3
      skip
      have hR2 := S1.blk 2 rfl
      obtain ⟨r0, r1, r2⟩ := hR2.cell3
      obtain ⟨f0, f1, f2⟩ := hR2.frozen3
      obtain ⟨q0, q1, q2⟩ := (hR2.set3 (.int .i64 0) (.int .i64 0) (.slice none 0 0)).cell3
      go_wp2_with fail
      all_goals
        refine bodyPost_ret (v := .tuple #[.agg #[.int .i64 0, .int .i64 0, .slice none 0 0], .int .i64 2]) (by simp [results, Try.results18, go_sem, q0, q1, q2]) rfl ?_
        exact bad_ret HC.out (below_set3 S1.below (by omega) _ _ _)
    replace k0 : ¬ (H < 1) := k0
    by_cases k0 : 64 < W
    · have HC : Hid (spreadG ⟨a, b, bs⟩ B W H = (Gd.zero, 4)) := Lib.hid (HS.out _ |>.trans (by rw [if_neg (by omega), if_pos (by omega)]; rfl))
      clear HS hr
      go_enter Try.func18, Try.ntmps18
      go_wp2_with fail
      refine (rcheck_any _ _ _ _ _ _).mono ?_
      rintro e w1 ⟨rfl, hb1⟩
      have S1 := S0.keep hb1
      clear c0 c1 c2
      obtain ⟨c0, c1, c2⟩ := (S1.blk 1 rfl).cell3
      skip
      have hR2 := S1.blk 2 rfl
      obtain ⟨r0, r1, r2⟩ := hR2.cell3
      obtain ⟨f0, f1, f2⟩ := hR2.frozen3
      obtain ⟨q0, q1, q2⟩ := (hR2.set3 (.int .i64 0) (.int .i64 0) (.slice none 0 0)).cell3
      go_wp2_with fail
      all_goals
        refine bodyPost_ret (v := .tuple #[.agg #[.int .i64 0, .int .i64 0, .slice none 0 0], .int .i64 4]) (by simp [results, Try.results18, go_sem, q0, q1, q2]) rfl ?_
        exact bad_ret HC.out (below_set3 S1.below (by omega) _ _ _)
    replace k0 : ¬ (64 < W) := k0
    by_cases k0 : 64 < H
    · have HC : Hid (spreadG ⟨a, b, bs⟩ B W H = (Gd.zero, 4)) := Lib.hid (HS.out _ |>.trans (by rw [if_neg (by omega), if_pos (by omega)]; rfl))
      clear HS hr
      go_enter Try.func18, Try.ntmps18
      go_wp2_with fail
      refine (rcheck_any _ _ _ _ _ _).mono ?_
      rintro e w1 ⟨rfl, hb1⟩
      have S1 := S0.keep hb1
      clear c0 c1 c2
      obtain ⟨c0, c1, c2⟩ := (S1.blk 1 rfl).cell3
      skip
      have hR2 := S1.blk 2 rfl
      obtain ⟨r0, r1, r2⟩ := hR2.cell3
      obtain ⟨f0, f1, f2⟩ := hR2.frozen3
      obtain ⟨q0, q1, q2⟩ := (hR2.set3 (.int .i64 0) (.int .i64 0) (.slice none 0 0)).cell3
      go_wp2_with fail
      all_goals
        refine bodyPost_ret (v := .tuple #[.agg #[.int .i64 0, .int .i64 0, .slice none 0 0], .int .i64 4]) (by simp [results, Try.results18, go_sem, q0, q1, q2]) rfl ?_
        exact bad_ret HC.out (below_set3 S1.below (by omega) _ _ _)
    replace k0 : ¬ (64 < H) := k0
    have HC : Hid (spreadG ⟨a, b, bs⟩ B W H = tabG W.toNat H.toNat fun x y => pl a b bs ((x : Int) - ((y / b * B.toNat : Nat) : Int)) (y : Int)) := Lib.hid (HS.out _ |>.trans (by rw [if_neg (by omega), if_neg (by omega)]))
    obtain ⟨p, rfl⟩ : ∃ k : Nat, W = (k : Int) := ⟨W.toNat, by omega⟩
    obtain ⟨q, rfl⟩ : ∃ k : Nat, H = (k : Int) := ⟨H.toNat, by omega⟩
    obtain ⟨B, rfl⟩ : ∃ k : Nat, B = (k : Int) := ⟨B.toNat, by omega⟩
    have hp1 : 1 ≤ p := by omega
    have hp : p ≤ 64 := by omega
    have hq1 : 1 ≤ q := by omega
    have hq : q ≤ 64 := by omega
    have hB : B < a := by omega
    simp only [Int.toNat_natCast] at HC
    clear HS k0
    have hHR := Lib.hid (fun wz (hz : Below w.heap.size w wz) => hr.below hz)
    have hb0 : ¬ (b : Int) = 0 := by omega
    have hb00 : ¬ b = 0 := by omega
    clear hr
    go_enter Try.func18, Try.ntmps18
    go_wp2_with fail
    refine (rcheck_any _ _ _ _ _ _).mono ?_
    rintro e w1 ⟨rfl, hb1⟩
    have S1 := S0.keep hb1
    clear c0 c1 c2
    obtain ⟨c0, c1, c2⟩ := (S1.blk 1 rfl).cell3
    go_wp2_with fail
    refine (zero_any p q _ hp hq).mono ?_
    rintro e w3 ⟨A3, n3, c3, rfl, hown3, hb3⟩
    simp only at hown3 ⊢
    obtain rfl : n3 = q * p := by have := hown3.1; rw [List.length_map, List.length_replicate] at this; omega
    obtain ⟨gr, rfl, hg1, hg2, hgc⟩ := own_form hown3 (Nat.mul_pos hq1 hp1)
    have S3 := (S1.keep hb3).box #[.int .i64 p, .int .i64 q, .slice (some ⟨gr, 0, none⟩) (q * p) c3] 24
    simp only [List.nil_append, List.cons_append] at S3
    have hown := (own_base hown3 S1.size).alloc (.cells #[.int .i64 p, .int .i64 q, .slice (some ⟨gr, 0, none⟩) (q * p) c3] 24)
    clear c0 c1 c2
    go_wp2_with fail
    go_loopw [11] (fun i wr => ∃ (x : Nat) (l : List Bool), x ≤ p ∧ i = .int .i64 x ∧ Pl.Fill (q * p) q (fun x y => y * p + x) (fun x y => pl a b bs ((x : Int) - ((y / b * B : Nat) : Int)) (y : Int)) l x 0 ∧
        Blk wr w3.heap.size 24 #[.int .i64 p, .int .i64 q, .slice (some ⟨gr, 0, none⟩) (q * p) c3] ∧
        Blk wr (w.heap.size + 1) 24 #[.int .i64 0, .int .i64 0, .slice none 0 0] ∧ Blk wr w.heap.size 24 #[.int .i64 a, .int .i64 b, .slice A0 (b * a) c] ∧
        wr.ownsRow w.heap.size 4 1 (.slice (some ⟨gr, 0, none⟩) (q * p) c3) (q * p) (l.map Value.bool) ∧ Below w.heap.size w wr) (fun i _ => p - (intOf i).toNat)
    case atStart => exact ⟨0, _, Nat.zero_le _, rfl, Pl.Fill.start (by simp), S3.blk 3 rfl, S3.blk 2 rfl, S3.blk 1 rfl, hown, S3.below⟩
    case round =>
      clear S0 S1 S3 hown hown3
      obtain ⟨x, l, hx, rfl, hfill, hO, hR, hG, hown, hbel⟩ := hrel
      by_cases hltx : x < p
      · go_wp2_with fail
        go_loopw [12] (fun i wr => ∃ (y : Nat) (l : List Bool), y ≤ q ∧ i = .int .i64 y ∧ Pl.Fill (q * p) q (fun x y => y * p + x) (fun x y => pl a b bs ((x : Int) - ((y / b * B : Nat) : Int)) (y : Int)) l x y ∧
        Blk wr w3.heap.size 24 #[.int .i64 p, .int .i64 q, .slice (some ⟨gr, 0, none⟩) (q * p) c3] ∧
        Blk wr (w.heap.size + 1) 24 #[.int .i64 0, .int .i64 0, .slice none 0 0] ∧ Blk wr w.heap.size 24 #[.int .i64 a, .int .i64 b, .slice A0 (b * a) c] ∧
        wr.ownsRow w.heap.size 4 1 (.slice (some ⟨gr, 0, none⟩) (q * p) c3) (q * p) (l.map Value.bool) ∧ Below w.heap.size w wr) (fun i _ => q - (intOf i).toNat)
        case atStart => exact ⟨0, l, Nat.zero_le _, rfl, hfill, hO, hR, hG, hown, hbel⟩
        case round =>
          clear hfill hO hR hG hown hbel l
          obtain ⟨y, l, hy, rfl, hfill, hO, hR, hG, hown, hbel⟩ := hrel
          obtain ⟨d0, d1, d2⟩ := hO.cell3
          obtain ⟨e0, e1, e2⟩ := hG.cell3
          by_cases hlt : y < q
          · have hcl := Pl.cell_lt (w := p) (h := q) hltx hlt
            have HF := Lib.hid (hfill.set (W := p) (u := pl a b bs ((x : Int) - ((y / b * B : Nat) : Int)) (y : Int)) hltx hlt hcl (fun x' y' hx' hy' e => Pl.cell_inj hltx hx' e) rfl)
            have hD : (y : Int) / (b : Int) = ((y / b : Nat) : Int) := rfl
            have hDt : (y : Int).tdiv (b : Int) = ((y / b : Nat) : Int) := by rw [Int.tdiv_eq_ediv_of_nonneg (by omega)]; rfl
            have hDb : y / b ≤ 64 := Nat.le_trans (Nat.div_le_self _ _) (by omega)
            have hP : (B : Int) * ((y / b : Nat) : Int) = ((y / b * B : Nat) : Int) := by rw [Int.natCast_mul, Int.mul_comm]
            have hPb : y / b * B ≤ 64 * 64 := Nat.mul_le_mul hDb (by omega)
            have hV : Hid (∃ v, v = pl a b bs ((x : Int) - ((y / b * B : Nat) : Int)) (y : Int)) := Lib.hid ⟨_, rfl⟩
            generalize y / b * B = P at *
            generalize y / b = D at *
            have hw : IntKind.i64.wrap ((x : Int) - (P : Int)) = (x : Int) - (P : Int) := IntWalk.i64_in _ (by omega)
            have hwP : IntKind.i64.wrap (P : Int) = (P : Int) := IntWalk.i64_in _ (by omega)
            have hwD : IntKind.i64.wrap (D : Int) = (D : Int) := IntWalk.i64_in _ (by omega)
            generalize hv : pl a b bs ((x : Int) - (P : Int)) (y : Int) = v at *
            have HP := Lib.hid hv
            clear hfill hcl hv hV
            go_wp2_with fail
            go_region_held3 (fun w' => (w'.cell? ⟨w3.heap.size, 0, none⟩ = some (.int .i64 p) ∧ w'.cell? ⟨w3.heap.size, 1, none⟩ = some (.int .i64 q) ∧ w'.cell? ⟨w3.heap.size, 2, none⟩ = some (.slice (some ⟨gr, 0, none⟩) (q * p) c3)) ∧
                (w'.cell? ⟨w.heap.size, 0, none⟩ = some (.int .i64 a) ∧ w'.cell? ⟨w.heap.size, 1, none⟩ = some (.int .i64 b) ∧ w'.cell? ⟨w.heap.size, 2, none⟩ = some (.slice A0 (b * a) c)))
              (first | exact ⟨hO3.cell3, hG3.cell3⟩ | exact ⟨hO2.cell3, hG2.cell3⟩ | exact ⟨hO.drew.cell3, hG.drew.cell3⟩ | go_keep)
              (first
                | (go_at_call 34
                   refine (plane_to a b c A0 bs ((x : Int) - (P : Int)) (y : Int) _ HP.out ha1 hbb1 ha hb (hHR.out _ hbel.drew)).mono ?_
                   rintro ez w5 ⟨rfl, hb5⟩
                   have hO2 := hO.drew.keep hb5
                   have hR2 := hR.drew.keep hb5
                   have hG2 := hG.drew.keep hb5
                   have hown2 := own_below hown.drew hb5
                   have hbel2 := below_then hbel.drew hb5)
                | (go_at_call 33
                   refine (set_any p q x y w.heap.size gr c3 l q v _ hp hq hltx hlt hown2).mono ?_
                   rintro ez w6 ⟨rfl, hown3, hgr3⟩
                   have hO3 := hO2.grown hgr3 (own_blk_ne hown2 hO2 (by decide))
                   have hR3 := hR2.grown hgr3 (own_blk_ne hown2 hR2 (by decide))
                   have hG3 := hG2.grown hgr3 (own_blk_ne hown2 hG2 (by decide))
                   have hbel3 := hbel2.grown hgr3 hbel2.size (fun k hk => (hown2.lt k hk).1))
                | fail)
            go_wp2_with fail
            go_roundw
            case rel => exact ⟨y + 1, _, by omega, by go_num, HF.out, hO3, hR3, hG3, hown3, hbel3⟩
            case measure => simp [intOf]; omega
          · obtain rfl : y = q := by omega
            go_wp2_with fail
            go_roundw
            case rel => exact ⟨x + 1, l, by omega, by go_num, hfill.col, hO, hR, hG, hown, hbel⟩
            case measure => simp [intOf]; omega
      · obtain rfl : x = p := by omega
        obtain ⟨d0, d1, d2⟩ := hO.cell3
        obtain ⟨r0, r1, r2⟩ := hR.cell3
        obtain ⟨f0, f1, f2⟩ := hR.frozen3
        obtain ⟨q0, q1, q2⟩ := (hR.set3 (.int .i64 x) (.int .i64 q) (.slice (some ⟨gr, 0, none⟩) (q * x) c3)).cell3
        go_wp2_with fail
        refine bodyPost_ret (v := .tuple #[.agg #[.int .i64 x, .int .i64 q, .slice (some ⟨gr, 0, none⟩) (q * x) c3], .int .i64 0]) (by simp [results, Try.results18, go_sem, q0, q1, q2]) rfl ?_
        refine ⟨_, q * x, c3, by rw [HC.out]; rfl, ?_, below_set3 hbel (by omega) _ _ _⟩
        rw [HC.out]
        have := own_set3 hown hR (by decide) (.int .i64 x) (.int .i64 q) (.slice (some ⟨gr, 0, none⟩) (q * x) c3)
        rw [hfill.tab_] at this
        exact this
  · have hn0 : chk g.w g.h n ≠ 0 := by
      have h := h0
      unfold chkG at h
      rw [lb] at h
      exact h
    have hcb : (chk g.w g.h n != 0) = true := by simpa using hn0
    have HC : Hid (spreadG g B W H = (Gd.zero, chk g.w g.h n)) := Lib.hid (by unfold spreadG; rw [withChk_bad h0]; unfold chkG; rw [lb])
    clear h0 lb hr hn0
    go_enter Try.func18, Try.ntmps18
    go_wp2_with fail
    refine (rcheck_any _ _ _ _ _ _).mono ?_
    rintro e w1 ⟨rfl, hb1⟩
    have S1 := S0.keep hb1
    clear c0 c1 c2
    obtain ⟨c0, c1, c2⟩ := (S1.blk 1 rfl).cell3
    go_wp2_with fail
    refine (rcheck_any _ _ _ _ _ _).mono ?_
    rintro e w2 ⟨rfl, hb2⟩
    replace S1 := S1.keep hb2
    clear c0 c1 c2
    have hR2 := S1.blk 2 rfl
    obtain ⟨r0, r1, r2⟩ := hR2.cell3
    obtain ⟨f0, f1, f2⟩ := hR2.frozen3
    obtain ⟨q0, q1, q2⟩ := (hR2.set3 (.int .i64 0) (.int .i64 0) (.slice none 0 0)).cell3
    go_wp2_with fail
    refine bodyPost_ret (v := .tuple #[.agg #[.int .i64 0, .int .i64 0, .slice none 0 0], .int .i64 (chk g.w g.h n)]) (by simp [results, Try.results18, go_sem, q0, q1, q2]) rfl ?_
    exact bad_ret HC.out (below_set3 S1.below (by omega) _ _ _)
end Go.Proofs.Ytkhochbkjhpfgaa
