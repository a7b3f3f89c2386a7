/- raddleref01.Tile gives the plain result tileG. -/
import Derived.Test.YtebbcpeldncekaaRMirror
namespace Go.Proofs.Ytebbcpeldncekaa
open Go.RowKit

set_option maxHeartbeats 4000000 in
theorem rtile_any (g : Gd) (nx ny : Int) (A : Option Addr) (n c : Nat) (w : World) (hr : Rd w A n (g.bits.map Value.bool)) :
    Calls Try.prog 21 #[.agg #[.int .i64 g.w, .int .i64 g.h, .slice A n c], .int .i64 nx, .int .i64 ny] w (RetG (tileG g nx ny) w) := by
  obtain ⟨W, H, bs⟩ := g
  simp only at hr ⊢
  have hn : bs.length = n := by simpa using hr.len
  have hG0 : Blk ((w.alloc (.cells #[.int .i64 W, .int .i64 H, .slice A n c] 24)).alloc (.cells #[.int .i64 0, .int .i64 0, .slice none 0 0] 24)) w.heap.size 24 #[.int .i64 W, .int .i64 H, .slice A n c] := (Blk.new w _ _).alloc _
  have hR0 : Blk ((w.alloc (.cells #[.int .i64 W, .int .i64 H, .slice A n c] 24)).alloc (.cells #[.int .i64 0, .int .i64 0, .slice none 0 0] 24)) (w.heap.size + 1) 24 #[.int .i64 0, .int .i64 0, .slice none 0 0] := by simpa using Blk.new (w.alloc (.cells #[.int .i64 W, .int .i64 H, .slice A n c] 24)) _ _
  have hB0 : Below w.heap.size w ((w.alloc (.cells #[.int .i64 W, .int .i64 H, .slice A n c] 24)).alloc (.cells #[.int .i64 0, .int .i64 0, .slice none 0 0] 24)) := Joins.below_alloc2 w _ _
  by_cases hc : chk W H n = 0
  · obtain ⟨a, b, rfl, rfl, ha1, ha, hbb, hb, rfl⟩ := chk_zero hc
    have hcb : (chk (a : Int) (b : Int) (b * a) != 0) = false := by simpa using hc
    have HS := Lib.hid (fun k => withChk_ok (bs := bs) (a := a) (b := b) (k := k) (by rw [hn]; exact hc))
    clear hc
    have HN := Lib.hid hn; clear hn
    have ha0 : ¬ (a : Int) = 0 := by omega
    have hb0 : ¬ (b : Int) = 0 := by omega
    have g1 : (64 : Int) / (a : Int) ≤ 64 := Int.ediv_le_self _ (by omega)
    have g2 : (64 : Int) / (b : Int) ≤ 64 := Int.ediv_le_self _ (by omega)
    by_cases t1 : nx < 1
    · have HC : Hid (tileG ⟨a, b, bs⟩ nx ny = (Gd.zero, 2)) := by
        exact (HS.out _).trans (if_pos (Or.inl t1))
      go_enter Try.func21, Try.ntmps21
      go_wp2_with fail
      refine (rcheck_any _ _ _ _ _ _).mono ?_
      rintro e w1' ⟨rfl, hb1⟩
      have hG1 := hG0.keep hb1
      have hR1 := hR0.keep hb1
      have hB1 := below_then hB0 hb1
      obtain ⟨c0, c1, c2⟩ := hG1.cell3
      clear hb1
      obtain ⟨r0, r1, r2⟩ := hR1.cell3
      obtain ⟨f0, f1, f2⟩ := hR1.frozen3
      obtain ⟨q0, q1, q2⟩ := (hR1.set3 (.int .i64 0) (.int .i64 0) (.slice none 0 0)).cell3
      go_wp2_with fail
      all_goals
        refine bodyPost_ret (v := .tuple #[.agg #[.int .i64 0, .int .i64 0, .slice none 0 0], .int .i64 2]) (by simp [results, Try.results21, go_sem, q0, q1, q2]) rfl ?_
        exact bad_ret HC.out (below_set3 hB1 (by omega) _ _ _)
    by_cases t2 : ny < 1
    · have t1' : 1 ≤ nx := by omega
      have HC : Hid (tileG ⟨a, b, bs⟩ nx ny = (Gd.zero, 2)) := by
        exact (HS.out _).trans (if_pos (Or.inr t2))
      go_enter Try.func21, Try.ntmps21
      go_wp2_with fail
      refine (rcheck_any _ _ _ _ _ _).mono ?_
      rintro e w1' ⟨rfl, hb1⟩
      have hG1 := hG0.keep hb1
      have hR1 := hR0.keep hb1
      have hB1 := below_then hB0 hb1
      obtain ⟨c0, c1, c2⟩ := hG1.cell3
      clear hb1
      obtain ⟨r0, r1, r2⟩ := hR1.cell3
      obtain ⟨f0, f1, f2⟩ := hR1.frozen3
      obtain ⟨q0, q1, q2⟩ := (hR1.set3 (.int .i64 0) (.int .i64 0) (.slice none 0 0)).cell3
      go_wp2_with fail
      all_goals
        refine bodyPost_ret (v := .tuple #[.agg #[.int .i64 0, .int .i64 0, .slice none 0 0], .int .i64 2]) (by simp [results, Try.results21, go_sem, q0, q1, q2]) rfl ?_
        exact bad_ret HC.out (below_set3 hB1 (by omega) _ _ _)
    have k0 : ¬ (nx < 1 ∨ ny < 1) := by omega
    obtain ⟨na, rfl⟩ : ∃ k : Nat, nx = (k : Int) := ⟨nx.toNat, by omega⟩
    obtain ⟨nb, rfl⟩ : ∃ k : Nat, ny = (k : Int) := ⟨ny.toNat, by omega⟩
    have k1 : 1 ≤ na := by omega
    have k2 : 1 ≤ nb := by omega
    clear t1 t2
    by_cases t3 : 64 < na
    · have HC : Hid (tileG ⟨a, b, bs⟩ na nb = (Gd.zero, 4)) := by
        exact (HS.out _).trans ((if_neg k0).trans (if_pos (Or.inl (by omega))))
      go_enter Try.func21, Try.ntmps21
      go_wp2_with fail
      refine (rcheck_any _ _ _ _ _ _).mono ?_
      rintro e w1' ⟨rfl, hb1⟩
      have hG1 := hG0.keep hb1
      have hR1 := hR0.keep hb1
      have hB1 := below_then hB0 hb1
      obtain ⟨c0, c1, c2⟩ := hG1.cell3
      clear hb1
      obtain ⟨r0, r1, r2⟩ := hR1.cell3
      obtain ⟨f0, f1, f2⟩ := hR1.frozen3
      obtain ⟨q0, q1, q2⟩ := (hR1.set3 (.int .i64 0) (.int .i64 0) (.slice none 0 0)).cell3
      go_wp2_with fail
      all_goals
        refine bodyPost_ret (v := .tuple #[.agg #[.int .i64 0, .int .i64 0, .slice none 0 0], .int .i64 4]) (by simp [results, Try.results21, go_sem, q0, q1, q2]) rfl ?_
        exact bad_ret HC.out (below_set3 hB1 (by omega) _ _ _)
    by_cases t4 : 64 < nb
    · have t3' : na ≤ 64 := by omega
      have HC : Hid (tileG ⟨a, b, bs⟩ na nb = (Gd.zero, 4)) := by
        exact (HS.out _).trans ((if_neg k0).trans (if_pos (Or.inr (by omega))))
      go_enter Try.func21, Try.ntmps21
      go_wp2_with fail
      refine (rcheck_any _ _ _ _ _ _).mono ?_
      rintro e w1' ⟨rfl, hb1⟩
      have hG1 := hG0.keep hb1
      have hR1 := hR0.keep hb1
      have hB1 := below_then hB0 hb1
      obtain ⟨c0, c1, c2⟩ := hG1.cell3
      clear hb1
      obtain ⟨r0, r1, r2⟩ := hR1.cell3
      obtain ⟨f0, f1, f2⟩ := hR1.frozen3
      obtain ⟨q0, q1, q2⟩ := (hR1.set3 (.int .i64 0) (.int .i64 0) (.slice none 0 0)).cell3
      go_wp2_with fail
      all_goals
        refine bodyPost_ret (v := .tuple #[.agg #[.int .i64 0, .int .i64 0, .slice none 0 0], .int .i64 4]) (by simp [results, Try.results21, go_sem, q0, q1, q2]) rfl ?_
        exact bad_ret HC.out (below_set3 hB1 (by omega) _ _ _)
    have k3 : na ≤ 64 := by omega
    have k4 : nb ≤ 64 := by omega
    clear t3 t4
    have p1 : 1 ≤ na * a := Nat.mul_pos k1 ha1
    have q1 : 1 ≤ nb * b := Nat.mul_pos k2 hbb
    have p2 : na * a ≤ 4096 := Nat.mul_le_mul k3 ha
    have q2 : nb * b ≤ 4096 := Nat.mul_le_mul k4 hb
    have p3 : 64 < na * a → (64 : Int) / (a : Int) < na := fun h => Int.lt_of_not_ge fun hh => by have := tile_side hh; omega
    have q3 : 64 < nb * b → (64 : Int) / (b : Int) < nb := fun h => Int.lt_of_not_ge fun hh => by have := tile_side hh; omega
    have p4 : na * a ≤ 64 → ¬ (64 : Int) / (a : Int) < na := fun h hh => by
      have := Int.lt_mul_of_ediv_lt (show 0 < (a : Int) by omega) hh
      have e := Int.natCast_mul na a
      omega
    have q4 : nb * b ≤ 64 → ¬ (64 : Int) / (b : Int) < nb := fun h hh => by
      have := Int.lt_mul_of_ediv_lt (show 0 < (b : Int) by omega) hh
      have e := Int.natCast_mul nb b
      omega
    have hT : na * a ≤ 64 → nb * b ≤ 64 → tileG ⟨a, b, bs⟩ na nb = tabG (na * a) (nb * b) fun x y => bs.getD (y % b * a + x % a) false := fun h1 h2 =>
      (HS.out _).trans ((if_neg k0).trans ((if_neg (not_or.2 ⟨p4 h1, q4 h2⟩)).trans (by simp only [Int.toNat_natCast])))
    have e1 : (na : Int) * (a : Int) = ((na * a : Nat) : Int) := (Int.natCast_mul na a).symm
    have e2 : (nb : Int) * (b : Int) = ((nb * b : Nat) : Int) := (Int.natCast_mul nb b).symm
    generalize na * a = p at *
    generalize nb * b = q at *
    have HT := Lib.hid hT
    have P3 := Lib.hid p3
    have Q3 := Lib.hid q3
    clear hT p3 q3 p4 q4 g1 g2
    by_cases t5 : 64 < p
    · have HC : Hid (tileG ⟨a, b, bs⟩ na nb = (Gd.zero, 4)) := by
        exact (HS.out _).trans ((if_neg k0).trans (if_pos (Or.inl (P3.out t5))))
      go_enter Try.func21, Try.ntmps21
      go_wp2_with fail
      refine (rcheck_any _ _ _ _ _ _).mono ?_
      rintro e w1' ⟨rfl, hb1⟩
      have hG1 := hG0.keep hb1
      have hR1 := hR0.keep hb1
      have hB1 := below_then hB0 hb1
      obtain ⟨c0, c1, c2⟩ := hG1.cell3
      clear hb1
      obtain ⟨r0, r1, r2⟩ := hR1.cell3
      obtain ⟨f0, f1, f2⟩ := hR1.frozen3
      obtain ⟨q0, q1, q2⟩ := (hR1.set3 (.int .i64 0) (.int .i64 0) (.slice none 0 0)).cell3
      go_wp2_with fail
      all_goals
        refine bodyPost_ret (v := .tuple #[.agg #[.int .i64 0, .int .i64 0, .slice none 0 0], .int .i64 4]) (by simp [results, Try.results21, go_sem, q0, q1, q2]) rfl ?_
        exact bad_ret HC.out (below_set3 hB1 (by omega) _ _ _)
    by_cases t6 : 64 < q
    · have t5' : p ≤ 64 := by omega
      have HC : Hid (tileG ⟨a, b, bs⟩ na nb = (Gd.zero, 4)) := by
        exact (HS.out _).trans ((if_neg k0).trans (if_pos (Or.inr (Q3.out t6))))
      go_enter Try.func21, Try.ntmps21
      go_wp2_with fail
      refine (rcheck_any _ _ _ _ _ _).mono ?_
      rintro e w1' ⟨rfl, hb1⟩
      have hG1 := hG0.keep hb1
      have hR1 := hR0.keep hb1
      have hB1 := below_then hB0 hb1
      obtain ⟨c0, c1, c2⟩ := hG1.cell3
      clear hb1
      obtain ⟨r0, r1, r2⟩ := hR1.cell3
      obtain ⟨f0, f1, f2⟩ := hR1.frozen3
      obtain ⟨q0, q1, q2⟩ := (hR1.set3 (.int .i64 0) (.int .i64 0) (.slice none 0 0)).cell3
      go_wp2_with fail
      all_goals
        refine bodyPost_ret (v := .tuple #[.agg #[.int .i64 0, .int .i64 0, .slice none 0 0], .int .i64 4]) (by simp [results, Try.results21, go_sem, q0, q1, q2]) rfl ?_
        exact bad_ret HC.out (below_set3 hB1 (by omega) _ _ _)
    have hoW : p ≤ 64 := by omega
    have hoH : q ≤ 64 := by omega
    have hoW1 := p1
    have hoH1 := q1
    clear t5 t6
    have HC : Hid (tileG ⟨a, b, bs⟩ na nb = (⟨((p : Nat) : Int), ((q : Nat) : Int), Pl.tab p q fun x y => bs.getD (y % b * a + x % a) false⟩, 0)) := HT.out hoW hoH
    have z1 : decide ((na : Int) < 1) = false := by simp; omega
    have z2 : decide ((nb : Int) < 1) = false := by simp; omega
    have z3 : decide (64 < (na : Int)) = false := by simp; omega
    have z3' : decide (64 < na) = false := by simp; omega
    have z4 : decide (64 < (nb : Int)) = false := by simp; omega
    have z4' : decide (64 < nb) = false := by simp; omega
    have z5 : decide (64 < (p : Int)) = false := by simp; omega
    have z5' : decide (64 < p) = false := by simp; omega
    have z6 : decide (64 < (q : Int)) = false := by simp; omega
    have z6' : decide (64 < q) = false := by simp; omega
    have ha2 : ((a : Int) == 0) = false := by simp; omega
    have hb2 : ((b : Int) == 0) = false := by simp; omega
    have ha5 : ¬ a = 0 := by omega
    have hb5 : ¬ b = 0 := by omega
    have ha4 : (1 : Int) ≤ (a : Int) := by omega
    have hb4 : (1 : Int) ≤ (b : Int) := by omega
    have ha3 : ¬ (a : Int) = -1 := by omega
    have hb3 : ¬ (b : Int) = -1 := by omega
    go_enter Try.func21, Try.ntmps21
    go_wp2_with fail
    refine (rcheck_any _ _ _ _ _ _).mono ?_
    rintro e w1' ⟨rfl, hb1⟩
    have hG1 := hG0.keep hb1
    have hR1 := hR0.keep hb1
    have hB1 := below_then hB0 hb1
    obtain ⟨c0, c1, c2⟩ := hG1.cell3
    clear hb1

    go_wp2_with fail
    refine (zero_any p q _ hoW hoH).mono ?_
    rintro e w1 ⟨A1, n1, c1', rfl, hown1, hbz⟩
    simp only at hown1 ⊢
    have hn1 : n1 = q * p := by have h1 := hown1.1; simp at h1; omega
    subst hn1
    obtain ⟨g, rfl, hg1, hg2, hgc⟩ := own_form hown1 (Nat.mul_pos hoH1 hoW1)
    have hG2 := hG1.keep hbz
    have hR2 := hR1.keep hbz
    have hB2 := below_then hB1 hbz
    have hown := own_base hown1 hB1.size
    clear c0 c1 c2 hown1 hG1 hR1 hB1 hbz
    go_wp2_with fail
    go_loopw [9] (fun i wr => ∃ (x : Nat) (l : List Bool), x ≤ p ∧ i = .int .i64 x ∧ Pl.Fill (q * p) q (fun x y => y * p + x) (fun x y => bs.getD (y % b * a + x % a) false) l x 0 ∧
        Blk wr w1.heap.size 24 #[.int .i64 ((p : Nat) : Int), .int .i64 ((q : Nat) : Int), .slice (some ⟨g, 0, none⟩) (q * p) c1'] ∧
        Blk wr (w.heap.size + 1) 24 #[.int .i64 0, .int .i64 0, .slice none 0 0] ∧ Blk wr w.heap.size 24 #[.int .i64 a, .int .i64 b, .slice A (b * a) c] ∧
        wr.ownsRow w.heap.size 4 1 (.slice (some ⟨g, 0, none⟩) (q * p) c1') (q * p) (l.map Value.bool) ∧ Below w.heap.size w wr)
      (fun i _ => p - (intOf i).toNat)
    case atStart => exact ⟨0, _, Nat.zero_le _, rfl, Pl.Fill.start (by simp), by simpa using Blk.new _ _ _, hR2.alloc _, hG2.alloc _, hown.alloc _, hB2.alloc hB2.size _⟩
    case round =>
      clear hown hG2 hR2
      obtain ⟨x, l, hx, rfl, hfill, hO, hR, hG, hown, hbel⟩ := hrel
      obtain ⟨d0, d1, d2⟩ := hO.cell3
      obtain ⟨c0, c1, c2⟩ := hG.cell3
      by_cases hlt : x < p
      · go_wp2_with fail
        go_loopw [10] (fun i wr => ∃ (y : Nat) (l : List Bool), y ≤ q ∧ i = .int .i64 y ∧ Pl.Fill (q * p) q (fun x y => y * p + x) (fun x y => bs.getD (y % b * a + x % a) false) l x y ∧
        Blk wr w1.heap.size 24 #[.int .i64 ((p : Nat) : Int), .int .i64 ((q : Nat) : Int), .slice (some ⟨g, 0, none⟩) (q * p) c1'] ∧
        Blk wr (w.heap.size + 1) 24 #[.int .i64 0, .int .i64 0, .slice none 0 0] ∧ Blk wr w.heap.size 24 #[.int .i64 a, .int .i64 b, .slice A (b * a) c] ∧
        wr.ownsRow w.heap.size 4 1 (.slice (some ⟨g, 0, none⟩) (q * p) c1') (q * p) (l.map Value.bool) ∧ Below w.heap.size w wr)
          (fun i _ => q - (intOf i).toNat)
        case atStart => exact ⟨0, l, Nat.zero_le _, rfl, hfill, hO, hR, hG, hown, hbel⟩
        case round =>
          clear hfill hO hR hG hown hbel d0 d1 d2 c0 c1 c2 l
          obtain ⟨y, l, hy, rfl, hfill, hO, hR, hG, hown, hbel⟩ := hrel
          obtain ⟨d0, d1, d2⟩ := hO.cell3
          obtain ⟨c0, c1, c2⟩ := hG.cell3
          by_cases hlty : y < q
          · have hx4 : (0 : Int) ≤ (x : Int) := by omega
            have hy4 : (0 : Int) ≤ (y : Int) := by omega
            have hsx : x % a < a := Nat.mod_lt _ ha1
            have hsy : y % b < b := Nat.mod_lt _ hbb
            have htx : x < p := hlt
            have hty : y < q := hlty
            have hf2 := hfill.set (W := p) hlt hlty (Pl.cell_lt hlt hlty) (fun x' y' hx' hy' e => Pl.cell_inj hlt hx' e) rfl
            have HF := Lib.hid hf2
            clear hf2 hfill
            go_wp2_with fail
            go_region_held3 (fun w' => (w'.cell? ⟨w1.heap.size, 0, none⟩ = some (.int .i64 ((p : Nat) : Int)) ∧ w'.cell? ⟨w1.heap.size, 1, none⟩ = some (.int .i64 ((q : Nat) : Int)) ∧ w'.cell? ⟨w1.heap.size, 2, none⟩ = some (.slice (some ⟨g, 0, none⟩) (q * p) c1')) ∧
                (w'.cell? ⟨w.heap.size, 0, none⟩ = some (.int .i64 a) ∧ w'.cell? ⟨w.heap.size, 1, none⟩ = some (.int .i64 b) ∧ w'.cell? ⟨w.heap.size, 2, none⟩ = some (.slice A (b * a) c)))
              (first | exact ⟨hO3.cell3, hG3.cell3⟩ | exact ⟨hO2.cell3, hG2.cell3⟩ | exact ⟨hO.cell3, hG.cell3⟩ | go_keep)
              (first
                | (go_at_call 38
                   refine (at_int a b (x % a) (y % b) _ _ bs b A c _ ha hb hsx hsy ((Int.natCast_emod x a).symm) ((Int.natCast_emod y b).symm) (hr.below hbel.drew)).mono ?_
                   rintro e w2 ⟨rfl, hb2⟩
                   have hO2 := hO.drew.keep hb2
                   have hG2 := hG.drew.keep hb2
                   have hR2 := hR.drew.keep hb2
                   have hown2 := own_below hown.drew hb2
                   have hbel2 := below_then hbel.drew hb2)
                | (go_at_call 37
                   refine (set_int p q (x) (y) w.heap.size g c1' _ _ l q ((fun x y => bs.getD (y % b * a + x % a) false) x y) _ hoW hoH htx hty (rfl) (rfl) hown2).mono ?_
                   rintro e w3 ⟨rfl, hown3, hgr3⟩
                   have hO3 := hO2.grown hgr3 (own_blk_ne hown2 hO2 (by decide))
                   have hG3 := hG2.grown hgr3 (own_blk_ne hown2 hG2 (by decide))
                   have hR3 := hR2.grown hgr3 (own_blk_ne hown2 hR2 (by decide))
                   have hbel3 := hbel2.grown hgr3 hbel2.size (fun k hk => (hown2.lt k hk).1))
                | fail)
            go_wp2_with fail
            go_roundw
            case rel => exact ⟨y + 1, _, by omega, by go_num, HF.out, hO3, hR3, hG3, hown3, hbel3⟩
            case measure => simp [intOf]; omega
          · obtain hye : y = q := by omega
            rw [hye] at hfill
            go_wp2_with fail
            go_roundw
            case rel => exact ⟨x + 1, l, by omega, by go_num, hfill.col, hO, hR, hG, hown, hbel⟩
            case measure => simp [intOf]; omega
      · obtain hxe : x = p := by omega
        rw [hxe] at hfill
        obtain ⟨r0, r1, r2⟩ := hR.cell3
        obtain ⟨f0, f1, f2⟩ := hR.frozen3
        obtain ⟨q0, q1, q2⟩ := (hR.set3 (.int .i64 ((p : Nat) : Int)) (.int .i64 ((q : Nat) : Int)) (.slice (some ⟨g, 0, none⟩) (q * p) c1')).cell3
        go_wp2_with fail
        refine bodyPost_ret (v := .tuple #[.agg #[.int .i64 ((p : Nat) : Int), .int .i64 ((q : Nat) : Int), .slice (some ⟨g, 0, none⟩) (q * p) c1'], .int .i64 0]) (by simp [results, Try.results21, go_sem, q0, q1, q2]) rfl ?_
        refine ⟨_, _, _, by rw [HC.out], ?_, below_set3 hbel (by omega) _ _ _⟩
        rw [HC.out]
        have := own_set3 hown hR (by decide) (.int .i64 ((p : Nat) : Int)) (.int .i64 ((q : Nat) : Int)) (.slice (some ⟨g, 0, none⟩) (q * p) c1')
        rw [hfill.tab_] at this
        exact this
  · have hcb : (chk W H n != 0) = true := by simpa using hc
    have HC : Hid (tileG ⟨W, H, bs⟩ nx ny = (Gd.zero, chk W H n)) := by
      have := withChk_bad (g := ⟨W, H, bs⟩) (by unfold chkG; simp only [hn]; exact hc)
      unfold chkG at this
      simp only [hn] at this
      exact this _
    clear hc hn
    go_enter Try.func21, Try.ntmps21
    go_wp2_with fail
    refine (rcheck_any _ _ _ _ _ _).mono ?_
    rintro e w1' ⟨rfl, hb1⟩
    have hG1 := hG0.keep hb1
    have hR1 := hR0.keep hb1
    have hB1 := below_then hB0 hb1
    obtain ⟨c0, c1, c2⟩ := hG1.cell3
    clear hb1

    go_wp2_with fail
    refine (rcheck_any _ _ _ _ _ _).mono ?_
    rintro e w2 ⟨rfl, hb2⟩
    have hR2 := hR1.keep hb2
    have hB2 := below_then hB1 hb2
    obtain ⟨r0, r1, r2⟩ := hR2.cell3
    obtain ⟨f0, f1, f2⟩ := hR2.frozen3
    obtain ⟨q0, q1, q2⟩ := (hR2.set3 (.int .i64 0) (.int .i64 0) (.slice none 0 0)).cell3
    go_wp2_with fail
    refine bodyPost_ret (v := .tuple #[.agg #[.int .i64 0, .int .i64 0, .slice none 0 0], .int .i64 (chk W H n)]) (by simp [results, Try.results21, go_sem, q0, q1, q2]) rfl ?_
    exact bad_ret HC.out (below_set3 hB2 (by omega) _ _ _)

end Go.Proofs.Ytebbcpeldncekaa
