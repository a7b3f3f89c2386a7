/- raddleref01.Part gives the plain result partG. -/
import Derived.Test.YtliibficmdomjaaMg11z
import Derived.Test.YtliibficmdomjaaRMirrorz
import Derived.Test.YtliibficmdomjaaMg2z
namespace Go.Proofs.Ytliibficmdomjaa
open Go.RowKit

set_option maxHeartbeats 4000000 in
theorem rpart_any (g : Gd) (x y pw ph : Int) (A : Option Addr) (n c : Nat) (w : World) (hr : Rd w A n (g.bits.map Value.bool)) :
    Calls Try.prog 36 #[.agg #[.int .i64 g.w, .int .i64 g.h, .slice A n c], .int .i64 x, .int .i64 y, .int .i64 pw, .int .i64 ph] w (RetG (partG g x y pw ph) w) := by
  obtain ⟨W, H, bs⟩ := g
  simp only at hr ⊢
  have hn : bs.length = n := by simpa using hr.len
  have hG0 : Blk ((w.alloc (.cells #[.int .i64 W, .int .i64 H, .slice A n c] 24)).alloc (.cells #[.int .i64 0, .int .i64 0, .slice none 0 0] 24)) w.heap.size 24 #[.int .i64 W, .int .i64 H, .slice A n c] := (Blk.new w _ _).alloc _
  have hR0 : Blk ((w.alloc (.cells #[.int .i64 W, .int .i64 H, .slice A n c] 24)).alloc (.cells #[.int .i64 0, .int .i64 0, .slice none 0 0] 24)) (w.heap.size + 1) 24 #[.int .i64 0, .int .i64 0, .slice none 0 0] := by simpa using Blk.new (w.alloc (.cells #[.int .i64 W, .int .i64 H, .slice A n c] 24)) _ _
  have hB0 : Below w.heap.size w ((w.alloc (.cells #[.int .i64 W, .int .i64 H, .slice A n c] 24)).alloc (.cells #[.int .i64 0, .int .i64 0, .slice none 0 0] 24)) := Joins.below_alloc2 w _ _
  by_cases hc : chk W H n = 0
  · obtain ⟨a, b, rfl, rfl, ha1, ha, hbb, hb, rfl⟩ := chk_zero hc
    have hcb : (chk (a : Int) (b : Int) (b * a) != 0) = false := by simpa using hc
    have HS := Lib.hid (fun k => withChk_ok (bs := bs) (a := a) (b := b) (k := k) (by rw [hn]; exact hc))
    clear hc
    have HN := Lib.hid hn; clear hn
    have ha0 : ¬ (a : Int) = 0 := by omega
    have hb0 : ¬ (b : Int) = 0 := by omega
    by_cases t0 : x < 0
    · have HC : Hid (partG ⟨a, b, bs⟩ x y pw ph = (Gd.zero, 2)) := by
        exact (HS.out _).trans (if_pos (by omega))
      go_enter Try.func36, Try.ntmps36
      go_wp2_with fail
      refine (rcheck_any _ _ _ _ _ _).mono ?_
      rintro e w1' ⟨rfl, hb1⟩
      have hG1 := hG0.keep hb1
      have hR1 := hR0.keep hb1
      have hB1 := below_then hB0 hb1
      obtain ⟨c0, c1, c2⟩ := hG1.cell3
      clear hb1
      obtain ⟨r0, r1, r2⟩ := hR1.cell3
      obtain ⟨f0, f1, f2⟩ := hR1.frozen3
      obtain ⟨q0, q1, q2⟩ := (hR1.set3 (.int .i64 0) (.int .i64 0) (.slice none 0 0)).cell3
      go_wp2_with fail
      all_goals
        refine bodyPost_ret (v := .tuple #[.agg #[.int .i64 0, .int .i64 0, .slice none 0 0], .int .i64 2]) (by simp [results, Try.results36, go_sem, q0, q1, q2]) rfl ?_
        exact bad_ret HC.out (below_set3 hB1 (by omega) _ _ _)
    by_cases t1 : (a : Int) ≤ x
    · have HC : Hid (partG ⟨a, b, bs⟩ x y pw ph = (Gd.zero, 2)) := by
        exact (HS.out _).trans (if_pos (by omega))
      go_enter Try.func36, Try.ntmps36
      go_wp2_with fail
      refine (rcheck_any _ _ _ _ _ _).mono ?_
      rintro e w1' ⟨rfl, hb1⟩
      have hG1 := hG0.keep hb1
      have hR1 := hR0.keep hb1
      have hB1 := below_then hB0 hb1
      obtain ⟨c0, c1, c2⟩ := hG1.cell3
      clear hb1
      obtain ⟨r0, r1, r2⟩ := hR1.cell3
      obtain ⟨f0, f1, f2⟩ := hR1.frozen3
      obtain ⟨q0, q1, q2⟩ := (hR1.set3 (.int .i64 0) (.int .i64 0) (.slice none 0 0)).cell3
      go_wp2_with fail
      all_goals
        refine bodyPost_ret (v := .tuple #[.agg #[.int .i64 0, .int .i64 0, .slice none 0 0], .int .i64 2]) (by simp [results, Try.results36, go_sem, q0, q1, q2]) rfl ?_
        exact bad_ret HC.out (below_set3 hB1 (by omega) _ _ _)
    by_cases t2 : y < 0
    · have HC : Hid (partG ⟨a, b, bs⟩ x y pw ph = (Gd.zero, 2)) := by
        exact (HS.out _).trans (if_pos (by omega))
      go_enter Try.func36, Try.ntmps36
      go_wp2_with fail
      refine (rcheck_any _ _ _ _ _ _).mono ?_
      rintro e w1' ⟨rfl, hb1⟩
      have hG1 := hG0.keep hb1
      have hR1 := hR0.keep hb1
      have hB1 := below_then hB0 hb1
      obtain ⟨c0, c1, c2⟩ := hG1.cell3
      clear hb1
      obtain ⟨r0, r1, r2⟩ := hR1.cell3
      obtain ⟨f0, f1, f2⟩ := hR1.frozen3
      obtain ⟨q0, q1, q2⟩ := (hR1.set3 (.int .i64 0) (.int .i64 0) (.slice none 0 0)).cell3
      go_wp2_with fail
      all_goals
        refine bodyPost_ret (v := .tuple #[.agg #[.int .i64 0, .int .i64 0, .slice none 0 0], .int .i64 2]) (by simp [results, Try.results36, go_sem, q0, q1, q2]) rfl ?_
        exact bad_ret HC.out (below_set3 hB1 (by omega) _ _ _)
    by_cases t3 : (b : Int) ≤ y
    · have HC : Hid (partG ⟨a, b, bs⟩ x y pw ph = (Gd.zero, 2)) := by
        exact (HS.out _).trans (if_pos (by omega))
      go_enter Try.func36, Try.ntmps36
      go_wp2_with fail
      refine (rcheck_any _ _ _ _ _ _).mono ?_
      rintro e w1' ⟨rfl, hb1⟩
      have hG1 := hG0.keep hb1
      have hR1 := hR0.keep hb1
      have hB1 := below_then hB0 hb1
      obtain ⟨c0, c1, c2⟩ := hG1.cell3
      clear hb1
      obtain ⟨r0, r1, r2⟩ := hR1.cell3
      obtain ⟨f0, f1, f2⟩ := hR1.frozen3
      obtain ⟨q0, q1, q2⟩ := (hR1.set3 (.int .i64 0) (.int .i64 0) (.slice none 0 0)).cell3
      go_wp2_with fail
      all_goals
        refine bodyPost_ret (v := .tuple #[.agg #[.int .i64 0, .int .i64 0, .slice none 0 0], .int .i64 2]) (by simp [results, Try.results36, go_sem, q0, q1, q2]) rfl ?_
        exact bad_ret HC.out (below_set3 hB1 (by omega) _ _ _)
    by_cases t4 : pw < 1
    · have HC : Hid (partG ⟨a, b, bs⟩ x y pw ph = (Gd.zero, 2)) := by
        exact (HS.out _).trans (if_pos (by omega))
      go_enter Try.func36, Try.ntmps36
      go_wp2_with fail
      refine (rcheck_any _ _ _ _ _ _).mono ?_
      rintro e w1' ⟨rfl, hb1⟩
      have hG1 := hG0.keep hb1
      have hR1 := hR0.keep hb1
      have hB1 := below_then hB0 hb1
      obtain ⟨c0, c1, c2⟩ := hG1.cell3
      clear hb1
      obtain ⟨r0, r1, r2⟩ := hR1.cell3
      obtain ⟨f0, f1, f2⟩ := hR1.frozen3
      obtain ⟨q0, q1, q2⟩ := (hR1.set3 (.int .i64 0) (.int .i64 0) (.slice none 0 0)).cell3
      go_wp2_with fail
      all_goals
        refine bodyPost_ret (v := .tuple #[.agg #[.int .i64 0, .int .i64 0, .slice none 0 0], .int .i64 2]) (by simp [results, Try.results36, go_sem, q0, q1, q2]) rfl ?_
        exact bad_ret HC.out (below_set3 hB1 (by omega) _ _ _)
    by_cases t5 : (a : Int) - x < pw
    · have HC : Hid (partG ⟨a, b, bs⟩ x y pw ph = (Gd.zero, 2)) := by
        exact (HS.out _).trans (if_pos (by omega))
      go_enter Try.func36, Try.ntmps36
      go_wp2_with fail
      refine (rcheck_any _ _ _ _ _ _).mono ?_
      rintro e w1' ⟨rfl, hb1⟩
      have hG1 := hG0.keep hb1
      have hR1 := hR0.keep hb1
      have hB1 := below_then hB0 hb1
      obtain ⟨c0, c1, c2⟩ := hG1.cell3
      clear hb1
      obtain ⟨r0, r1, r2⟩ := hR1.cell3
      obtain ⟨f0, f1, f2⟩ := hR1.frozen3
      obtain ⟨q0, q1, q2⟩ := (hR1.set3 (.int .i64 0) (.int .i64 0) (.slice none 0 0)).cell3
      go_wp2_with fail
      all_goals
        refine bodyPost_ret (v := .tuple #[.agg #[.int .i64 0, .int .i64 0, .slice none 0 0], .int .i64 2]) (by simp [results, Try.results36, go_sem, q0, q1, q2]) rfl ?_
        exact bad_ret HC.out (below_set3 hB1 (by omega) _ _ _)
    by_cases t6 : ph < 1
    · have HC : Hid (partG ⟨a, b, bs⟩ x y pw ph = (Gd.zero, 2)) := by
        exact (HS.out _).trans (if_pos (by omega))
      go_enter Try.func36, Try.ntmps36
      go_wp2_with fail
      refine (rcheck_any _ _ _ _ _ _).mono ?_
      rintro e w1' ⟨rfl, hb1⟩
      have hG1 := hG0.keep hb1
      have hR1 := hR0.keep hb1
      have hB1 := below_then hB0 hb1
      obtain ⟨c0, c1, c2⟩ := hG1.cell3
      clear hb1
      obtain ⟨r0, r1, r2⟩ := hR1.cell3
      obtain ⟨f0, f1, f2⟩ := hR1.frozen3
      obtain ⟨q0, q1, q2⟩ := (hR1.set3 (.int .i64 0) (.int .i64 0) (.slice none 0 0)).cell3
      go_wp2_with fail
      all_goals
        refine bodyPost_ret (v := .tuple #[.agg #[.int .i64 0, .int .i64 0, .slice none 0 0], .int .i64 2]) (by simp [results, Try.results36, go_sem, q0, q1, q2]) rfl ?_
        exact bad_ret HC.out (below_set3 hB1 (by omega) _ _ _)
    by_cases t7 : (b : Int) - y < ph
    · have HC : Hid (partG ⟨a, b, bs⟩ x y pw ph = (Gd.zero, 2)) := by
        exact (HS.out _).trans (if_pos (by omega))
      go_enter Try.func36, Try.ntmps36
      go_wp2_with fail
      refine (rcheck_any _ _ _ _ _ _).mono ?_
      rintro e w1' ⟨rfl, hb1⟩
      have hG1 := hG0.keep hb1
      have hR1 := hR0.keep hb1
      have hB1 := below_then hB0 hb1
      obtain ⟨c0, c1, c2⟩ := hG1.cell3
      clear hb1
      obtain ⟨r0, r1, r2⟩ := hR1.cell3
      obtain ⟨f0, f1, f2⟩ := hR1.frozen3
      obtain ⟨q0, q1, q2⟩ := (hR1.set3 (.int .i64 0) (.int .i64 0) (.slice none 0 0)).cell3
      go_wp2_with fail
      all_goals
        refine bodyPost_ret (v := .tuple #[.agg #[.int .i64 0, .int .i64 0, .slice none 0 0], .int .i64 2]) (by simp [results, Try.results36, go_sem, q0, q1, q2]) rfl ?_
        exact bad_ret HC.out (below_set3 hB1 (by omega) _ _ _)
    have hP : partG ⟨a, b, bs⟩ x y pw ph = tabG pw.toNat ph.toNat fun i k => bs.getD ((y.toNat + k) * a + x.toNat + i) false := (HS.out _).trans (if_neg (by omega))
    obtain ⟨px, rfl⟩ : ∃ k : Nat, x = (k : Int) := ⟨x.toNat, by omega⟩
    obtain ⟨py, rfl⟩ : ∃ k : Nat, y = (k : Int) := ⟨y.toNat, by omega⟩
    obtain ⟨p, rfl⟩ : ∃ k : Nat, pw = (k : Int) := ⟨pw.toNat, by omega⟩
    obtain ⟨q, rfl⟩ : ∃ k : Nat, ph = (k : Int) := ⟨ph.toNat, by omega⟩
    simp only [Int.toNat_natCast] at hP
    have HT := Lib.hid hP
    clear hP
    have k1 : px + p ≤ a := by omega
    have k2 : py + q ≤ b := by omega
    have hoW1 : 1 ≤ p := by omega
    have hoH1 : 1 ≤ q := by omega
    have hoW : p ≤ 64 := by omega
    have hoH : q ≤ 64 := by omega
    clear t0 t1 t2 t3 t4 t5 t6 t7
    have HC : Hid (partG ⟨a, b, bs⟩ px py p q = (⟨((p : Nat) : Int), ((q : Nat) : Int), Pl.tab p q fun i k => bs.getD ((py + k) * a + (px + i)) false⟩, 0)) := by
      refine HT.out.trans ?_
      simp only [Nat.add_assoc]
      rfl
    have z2 : decide ((a : Int) ≤ (px : Int)) = false := by simp; omega
    have z2' : decide (a ≤ px) = false := by simp; omega
    have z4 : decide ((b : Int) ≤ (py : Int)) = false := by simp; omega
    have z4' : decide (b ≤ py) = false := by simp; omega
    have z5 : decide ((p : Int) < 1) = false := by simp; omega
    have z6 : decide ((a : Int) - (px : Int) < (p : Int)) = false := by simp; omega
    have z7 : decide ((q : Int) < 1) = false := by simp; omega
    have z8 : decide ((b : Int) - (py : Int) < (q : Int)) = false := by simp; omega
    go_enter Try.func36, Try.ntmps36
    go_wp2_with fail
    refine (rcheck_any _ _ _ _ _ _).mono ?_
    rintro e w1' ⟨rfl, hb1⟩
    have hG1 := hG0.keep hb1
    have hR1 := hR0.keep hb1
    have hB1 := below_then hB0 hb1
    obtain ⟨c0, c1, c2⟩ := hG1.cell3
    clear hb1

    go_wp2_with fail
    refine (zero_any p q _ hoW hoH).mono ?_
    rintro e w1 ⟨A1, n1, c1', rfl, hown1, hbz⟩
    simp only at hown1 ⊢
    have hn1 : n1 = q * p := by have h1 := hown1.1; simp at h1; omega
    subst hn1
    obtain ⟨g, rfl, hg1, hg2, hgc⟩ := own_form hown1 (Nat.mul_pos hoH1 hoW1)
    have hG2 := hG1.keep hbz
    have hR2 := hR1.keep hbz
    have hB2 := below_then hB1 hbz
    have hown := own_base hown1 hB1.size
    clear c0 c1 c2 hown1 hG1 hR1 hB1 hbz
    go_wp2_with fail
    go_loopw [13] (fun i wr => ∃ (x : Nat) (l : List Bool), x ≤ p ∧ i = .int .i64 x ∧ Pl.Fill (q * p) q (fun x y => y * p + x) (fun i k => bs.getD ((py + k) * a + (px + i)) false) l x 0 ∧
        Blk wr w1.heap.size 24 #[.int .i64 ((p : Nat) : Int), .int .i64 ((q : Nat) : Int), .slice (some ⟨g, 0, none⟩) (q * p) c1'] ∧
        Blk wr (w.heap.size + 1) 24 #[.int .i64 0, .int .i64 0, .slice none 0 0] ∧ Blk wr w.heap.size 24 #[.int .i64 a, .int .i64 b, .slice A (b * a) c] ∧
        wr.ownsRow w.heap.size 4 1 (.slice (some ⟨g, 0, none⟩) (q * p) c1') (q * p) (l.map Value.bool) ∧ Below w.heap.size w wr)
      (fun i _ => p - (intOf i).toNat)
    case atStart => exact ⟨0, _, Nat.zero_le _, rfl, Pl.Fill.start (by simp), by simpa using Blk.new _ _ _, hR2.alloc _, hG2.alloc _, hown.alloc _, hB2.alloc hB2.size _⟩
    case round =>
      clear hown hG2 hR2
      obtain ⟨x, l, hx, rfl, hfill, hO, hR, hG, hown, hbel⟩ := hrel
      obtain ⟨d0, d1, d2⟩ := hO.cell3
      obtain ⟨c0, c1, c2⟩ := hG.cell3
      by_cases hlt : x < p
      · go_wp2_with fail
        go_loopw [14] (fun i wr => ∃ (y : Nat) (l : List Bool), y ≤ q ∧ i = .int .i64 y ∧ Pl.Fill (q * p) q (fun x y => y * p + x) (fun i k => bs.getD ((py + k) * a + (px + i)) false) l x y ∧
        Blk wr w1.heap.size 24 #[.int .i64 ((p : Nat) : Int), .int .i64 ((q : Nat) : Int), .slice (some ⟨g, 0, none⟩) (q * p) c1'] ∧
        Blk wr (w.heap.size + 1) 24 #[.int .i64 0, .int .i64 0, .slice none 0 0] ∧ Blk wr w.heap.size 24 #[.int .i64 a, .int .i64 b, .slice A (b * a) c] ∧
        wr.ownsRow w.heap.size 4 1 (.slice (some ⟨g, 0, none⟩) (q * p) c1') (q * p) (l.map Value.bool) ∧ Below w.heap.size w wr)
          (fun i _ => q - (intOf i).toNat)
        case atStart => exact ⟨0, l, Nat.zero_le _, rfl, hfill, hO, hR, hG, hown, hbel⟩
        case round =>
          clear hfill hO hR hG hown hbel d0 d1 d2 c0 c1 c2 l
          obtain ⟨y, l, hy, rfl, hfill, hO, hR, hG, hown, hbel⟩ := hrel
          obtain ⟨d0, d1, d2⟩ := hO.cell3
          obtain ⟨c0, c1, c2⟩ := hG.cell3
          by_cases hlty : y < q
          · have hsx : px + x < a := by omega
            have hsy : py + y < b := by omega
            have htx : x < p := hlt
            have hty : y < q := hlty
            have hf2 := hfill.set (W := p) hlt hlty (Pl.cell_lt hlt hlty) (fun x' y' hx' hy' e => Pl.cell_inj hlt hx' e) rfl
            have HF := Lib.hid hf2
            clear hf2 hfill
            go_wp2_with fail
            go_region_held3 (fun w' => (w'.cell? ⟨w1.heap.size, 0, none⟩ = some (.int .i64 ((p : Nat) : Int)) ∧ w'.cell? ⟨w1.heap.size, 1, none⟩ = some (.int .i64 ((q : Nat) : Int)) ∧ w'.cell? ⟨w1.heap.size, 2, none⟩ = some (.slice (some ⟨g, 0, none⟩) (q * p) c1')) ∧
                (w'.cell? ⟨w.heap.size, 0, none⟩ = some (.int .i64 a) ∧ w'.cell? ⟨w.heap.size, 1, none⟩ = some (.int .i64 b) ∧ w'.cell? ⟨w.heap.size, 2, none⟩ = some (.slice A (b * a) c)))
              (first | exact ⟨hO3.cell3, hG3.cell3⟩ | exact ⟨hO2.cell3, hG2.cell3⟩ | exact ⟨hO.cell3, hG.cell3⟩ | go_keep)
              (first
                | (go_at_call 54
                   refine (at_int a b (px + x) (py + y) _ _ bs b A c _ ha hb hsx hsy (by rw [i64_id (z := (px : Int) + (x : Int)) (by omega) (by omega)]; exact (Int.natCast_add px x).symm) (by rw [i64_id (z := (py : Int) + (y : Int)) (by omega) (by omega)]; exact (Int.natCast_add py y).symm) (hr.below hbel.drew)).mono ?_
                   rintro e w2 ⟨rfl, hb2⟩
                   have hO2 := hO.drew.keep hb2
                   have hG2 := hG.drew.keep hb2
                   have hR2 := hR.drew.keep hb2
                   have hown2 := own_below hown.drew hb2
                   have hbel2 := below_then hbel.drew hb2)
                | (go_at_call 50
                   refine (set_int p q (x) (y) w.heap.size g c1' _ _ l q ((fun i k => bs.getD ((py + k) * a + (px + i)) false) x y) _ hoW hoH htx hty (rfl) (rfl) hown2).mono ?_
                   rintro e w3 ⟨rfl, hown3, hgr3⟩
                   have hO3 := hO2.grown hgr3 (own_blk_ne hown2 hO2 (by decide))
                   have hG3 := hG2.grown hgr3 (own_blk_ne hown2 hG2 (by decide))
                   have hR3 := hR2.grown hgr3 (own_blk_ne hown2 hR2 (by decide))
                   have hbel3 := hbel2.grown hgr3 hbel2.size (fun k hk => (hown2.lt k hk).1))
                | fail)
            go_wp2_with fail
            go_roundw
            case rel => exact ⟨y + 1, _, by omega, by go_num, HF.out, hO3, hR3, hG3, hown3, hbel3⟩
            case measure => simp [intOf]; omega
          · obtain hye : y = q := by omega
            rw [hye] at hfill
            go_wp2_with fail
            go_roundw
            case rel => exact ⟨x + 1, l, by omega, by go_num, hfill.col, hO, hR, hG, hown, hbel⟩
            case measure => simp [intOf]; omega
      · obtain hxe : x = p := by omega
        rw [hxe] at hfill
        obtain ⟨r0, r1, r2⟩ := hR.cell3
        obtain ⟨f0, f1, f2⟩ := hR.frozen3
        obtain ⟨q0, q1, q2⟩ := (hR.set3 (.int .i64 ((p : Nat) : Int)) (.int .i64 ((q : Nat) : Int)) (.slice (some ⟨g, 0, none⟩) (q * p) c1')).cell3
        go_wp2_with fail
        refine bodyPost_ret (v := .tuple #[.agg #[.int .i64 ((p : Nat) : Int), .int .i64 ((q : Nat) : Int), .slice (some ⟨g, 0, none⟩) (q * p) c1'], .int .i64 0]) (by simp [results, Try.results36, go_sem, q0, q1, q2]) rfl ?_
        refine ⟨_, _, _, by rw [HC.out], ?_, below_set3 hbel (by omega) _ _ _⟩
        rw [HC.out]
        have := own_set3 hown hR (by decide) (.int .i64 ((p : Nat) : Int)) (.int .i64 ((q : Nat) : Int)) (.slice (some ⟨g, 0, none⟩) (q * p) c1')
        rw [hfill.tab_] at this
        exact this
  · have hcb : (chk W H n != 0) = true := by simpa using hc
    have HC : Hid (partG ⟨W, H, bs⟩ x y pw ph = (Gd.zero, chk W H n)) := by
      have := withChk_bad (g := ⟨W, H, bs⟩) (by unfold chkG; simp only [hn]; exact hc)
      unfold chkG at this
      simp only [hn] at this
      exact this _
    clear hc hn
    go_enter Try.func36, Try.ntmps36
    go_wp2_with fail
    refine (rcheck_any _ _ _ _ _ _).mono ?_
    rintro e w1' ⟨rfl, hb1⟩
    have hG1 := hG0.keep hb1
    have hR1 := hR0.keep hb1
    have hB1 := below_then hB0 hb1
    obtain ⟨c0, c1, c2⟩ := hG1.cell3
    clear hb1

    go_wp2_with fail
    refine (rcheck_any _ _ _ _ _ _).mono ?_
    rintro e w2 ⟨rfl, hb2⟩
    have hR2 := hR1.keep hb2
    have hB2 := below_then hB1 hb2
    obtain ⟨r0, r1, r2⟩ := hR2.cell3
    obtain ⟨f0, f1, f2⟩ := hR2.frozen3
    obtain ⟨q0, q1, q2⟩ := (hR2.set3 (.int .i64 0) (.int .i64 0) (.slice none 0 0)).cell3
    go_wp2_with fail
    refine bodyPost_ret (v := .tuple #[.agg #[.int .i64 0, .int .i64 0, .slice none 0 0], .int .i64 (chk W H n)]) (by simp [results, Try.results36, go_sem, q0, q1, q2]) rfl ?_
    exact bad_ret HC.out (below_set3 hB2 (by omega) _ _ _)

end Go.Proofs.Ytliibficmdomjaa
