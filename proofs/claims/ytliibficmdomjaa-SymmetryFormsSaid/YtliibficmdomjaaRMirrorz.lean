/- raddleref01.Mirror gives the plain result mirG. -/
import Derived.Test.YtliibficmdomjaaMg11z
import Derived.Test.YtliibficmdomjaaTurnedz
namespace Go.Proofs.Ytliibficmdomjaa
open Go.RowKit

/-- At, its numbers given as Go's own sums. -/
theorem at_int (a b x y : Nat) (X Y : Int) (l : List Bool) (H : Int) (A : Option Addr) (c : Nat) (w : World) (ha : a ≤ 64) (hb : b ≤ 64) (hx : x < a) (hy : y < b) (hX : X = (x : Int)) (hY : Y = (y : Int)) (hr : Rd w A (b * a) (l.map Value.bool)) :
    Calls Try.prog 54 #[.agg #[.int .i64 a, .int .i64 H, .slice A (b * a) c], .int .i64 X, .int .i64 Y] w fun e w' => e = .returned (.bool (l.getD (y * a + x) false)) ∧ Below w.heap.size w w' := by
  subst hX; subst hY
  exact at_any a b x y l H A c w ha hb hx hy hr
theorem set_int (a b x y base g c : Nat) (X Y : Int) (l : List Bool) (H : Int) (up : Bool) (w : World) (ha : a ≤ 64) (hb : b ≤ 64) (hx : x < a) (hy : y < b) (hX : X = (x : Int)) (hY : Y = (y : Int)) (ho : w.ownsRow base 4 1 (.slice (some ⟨g, 0, none⟩) (b * a) c) (b * a) (l.map Value.bool)) :
    Calls Try.prog 50 #[.agg #[.int .i64 a, .int .i64 H, .slice (some ⟨g, 0, none⟩) (b * a) c], .int .i64 X, .int .i64 Y, .bool up] w fun e w' => e = .returned (.tuple #[]) ∧
      w'.ownsRow base 4 1 (.slice (some ⟨g, 0, none⟩) (b * a) c) (b * a) ((l.set (y * a + x) up).map Value.bool) ∧ w.grownBy w' (some g) := by
  subst hX; subst hY
  exact set_any a b x y base g c l H up w ha hb hx hy ho
theorem i64_id {z : Int} (h1 : -1000000 ≤ z) (h2 : z ≤ 1000000) : IntKind.i64.wrap z = z := IntWalk.i64_in _ (by omega)

set_option maxHeartbeats 4000000 in
theorem rmirror_any (g : Gd) (axis : Int) (A : Option Addr) (n c : Nat) (w : World) (hr : Rd w A n (g.bits.map Value.bool)) :
    Calls Try.prog 46 #[.agg #[.int .i64 g.w, .int .i64 g.h, .slice A n c], .int .i64 axis] w (RetG (mirG g axis) w) := by
  obtain ⟨W, H, bs⟩ := g
  simp only at hr ⊢
  have hn : bs.length = n := by simpa using hr.len
  have hG0 : Blk ((w.alloc (.cells #[.int .i64 W, .int .i64 H, .slice A n c] 24)).alloc (.cells #[.int .i64 0, .int .i64 0, .slice none 0 0] 24)) w.heap.size 24 #[.int .i64 W, .int .i64 H, .slice A n c] := (Blk.new w _ _).alloc _
  have hR0 : Blk ((w.alloc (.cells #[.int .i64 W, .int .i64 H, .slice A n c] 24)).alloc (.cells #[.int .i64 0, .int .i64 0, .slice none 0 0] 24)) (w.heap.size + 1) 24 #[.int .i64 0, .int .i64 0, .slice none 0 0] := by simpa using Blk.new (w.alloc (.cells #[.int .i64 W, .int .i64 H, .slice A n c] 24)) _ _
  have hB0 : Below w.heap.size w ((w.alloc (.cells #[.int .i64 W, .int .i64 H, .slice A n c] 24)).alloc (.cells #[.int .i64 0, .int .i64 0, .slice none 0 0] 24)) := Joins.below_alloc2 w _ _
  by_cases hc : chk W H n = 0
  · obtain ⟨a, b, rfl, rfl, ha1, ha, hbb, hb, rfl⟩ := chk_zero hc
    have hcb : (chk (a : Int) (b : Int) (b * a) != 0) = false := by simpa using hc
    have HS := Lib.hid (fun k => withChk_ok (bs := bs) (a := a) (b := b) (k := k) (by rw [hn]; exact hc))
    clear hc
    have HN := Lib.hid hn; clear hn
    have ha0 : ¬ (a : Int) = 0 := by omega
    have hb0 : ¬ (b : Int) = 0 := by omega
    by_cases k0 : axis = 0
    · subst k0
      have k1 : ((0 : Int) == 0) = true := rfl
      have k2 : ((0 : Int) != 0) = false := rfl
      have HC : Hid (mirG ⟨a, b, bs⟩ 0 = (⟨((a : Nat) : Int), ((b : Nat) : Int), Pl.tab a b fun x y => bs.getD (y * a + (a - 1 - x)) false⟩, 0)) := (HS.out _).trans (if_pos rfl)
      have hoW := ha
      have hoH := hb
      have hoW1 := ha1
      have hoH1 := hbb
      go_enter Try.func46, Try.ntmps46
      go_wp2_with fail
      refine (rcheck_any _ _ _ _ _ _).mono ?_
      rintro e w1' ⟨rfl, hb1⟩
      have hG1 := hG0.keep hb1
      have hR1 := hR0.keep hb1
      have hB1 := below_then hB0 hb1
      obtain ⟨c0, c1, c2⟩ := hG1.cell3
      clear hb1
      go_wp2_with fail
      refine (zero_any a b _ hoW hoH).mono ?_
      rintro e w1 ⟨A1, n1, c1', rfl, hown1, hbz⟩
      simp only at hown1 ⊢
      have hn1 : n1 = b * a := by have h1 := hown1.1; simp at h1; omega
      subst hn1
      obtain ⟨g, rfl, hg1, hg2, hgc⟩ := own_form hown1 (Nat.mul_pos hoH1 hoW1)
      have hG2 := hG1.keep hbz
      have hR2 := hR1.keep hbz
      have hB2 := below_then hB1 hbz
      have hown := own_base hown1 hB1.size
      clear c0 c1 c2 hown1 hG1 hR1 hB1 hbz
      go_wp2_with fail
      go_loopw [7] (fun i wr => ∃ (x : Nat) (l : List Bool), x ≤ a ∧ i = .int .i64 x ∧ Pl.Fill (b * a) b (fun x y => y * a + x) (fun x y => bs.getD (y * a + (a - 1 - x)) false) l x 0 ∧
          Blk wr w1.heap.size 24 #[.int .i64 ((a : Nat) : Int), .int .i64 ((b : Nat) : Int), .slice (some ⟨g, 0, none⟩) (b * a) c1'] ∧
          Blk wr (w.heap.size + 1) 24 #[.int .i64 0, .int .i64 0, .slice none 0 0] ∧ Blk wr w.heap.size 24 #[.int .i64 a, .int .i64 b, .slice A (b * a) c] ∧
          wr.ownsRow w.heap.size 4 1 (.slice (some ⟨g, 0, none⟩) (b * a) c1') (b * a) (l.map Value.bool) ∧ Below w.heap.size w wr)
        (fun i _ => a - (intOf i).toNat)
      case atStart => exact ⟨0, _, Nat.zero_le _, rfl, Pl.Fill.start (by simp), by simpa using Blk.new _ _ _, hR2.alloc _, hG2.alloc _, hown.alloc _, hB2.alloc hB2.size _⟩
      case round =>
        clear hown hG2 hR2
        obtain ⟨x, l, hx, rfl, hfill, hO, hR, hG, hown, hbel⟩ := hrel
        obtain ⟨d0, d1, d2⟩ := hO.cell3
        obtain ⟨c0, c1, c2⟩ := hG.cell3
        by_cases hlt : x < a
        · go_wp2_with fail
          go_loopw [8] (fun i wr => ∃ (y : Nat) (l : List Bool), y ≤ b ∧ i = .int .i64 y ∧ Pl.Fill (b * a) b (fun x y => y * a + x) (fun x y => bs.getD (y * a + (a - 1 - x)) false) l x y ∧
          Blk wr w1.heap.size 24 #[.int .i64 ((a : Nat) : Int), .int .i64 ((b : Nat) : Int), .slice (some ⟨g, 0, none⟩) (b * a) c1'] ∧
          Blk wr (w.heap.size + 1) 24 #[.int .i64 0, .int .i64 0, .slice none 0 0] ∧ Blk wr w.heap.size 24 #[.int .i64 a, .int .i64 b, .slice A (b * a) c] ∧
          wr.ownsRow w.heap.size 4 1 (.slice (some ⟨g, 0, none⟩) (b * a) c1') (b * a) (l.map Value.bool) ∧ Below w.heap.size w wr)
            (fun i _ => b - (intOf i).toNat)
          case atStart => exact ⟨0, l, Nat.zero_le _, rfl, hfill, hO, hR, hG, hown, hbel⟩
          case round =>
            clear hfill hO hR hG hown hbel d0 d1 d2 c0 c1 c2 l
            obtain ⟨y, l, hy, rfl, hfill, hO, hR, hG, hown, hbel⟩ := hrel
            obtain ⟨d0, d1, d2⟩ := hO.cell3
            obtain ⟨c0, c1, c2⟩ := hG.cell3
            by_cases hlty : y < b
            · have hsx : a - 1 - x < a := by omega
              have hsy : y < b := by omega
              have htx : x < a := hlt
              have hty : y < b := hlty
              have hf2 := hfill.set (W := a) hlt hlty (Pl.cell_lt hlt hlty) (fun x' y' hx' hy' e => Pl.cell_inj hlt hx' e) rfl
              have HF := Lib.hid hf2
              clear hf2 hfill
              go_wp2_with fail
              go_region_held3 (fun w' => (w'.cell? ⟨w1.heap.size, 0, none⟩ = some (.int .i64 ((a : Nat) : Int)) ∧ w'.cell? ⟨w1.heap.size, 1, none⟩ = some (.int .i64 ((b : Nat) : Int)) ∧ w'.cell? ⟨w1.heap.size, 2, none⟩ = some (.slice (some ⟨g, 0, none⟩) (b * a) c1')) ∧
                  (w'.cell? ⟨w.heap.size, 0, none⟩ = some (.int .i64 a) ∧ w'.cell? ⟨w.heap.size, 1, none⟩ = some (.int .i64 b) ∧ w'.cell? ⟨w.heap.size, 2, none⟩ = some (.slice A (b * a) c)))
                (first | exact ⟨hO3.cell3, hG3.cell3⟩ | exact ⟨hO2.cell3, hG2.cell3⟩ | exact ⟨hO.cell3, hG.cell3⟩ | go_keep)
                (first
                  | (go_at_call 54
                     refine (at_int a b (a - 1 - x) (y) _ _ bs b A c _ ha hb hsx hsy (by rw [i64_id (z := (a : Int) - 1) (by omega) (by omega), i64_id (z := (a : Int) - 1 - (x : Int)) (by omega) (by omega)]; omega) (rfl) (hr.below hbel.drew)).mono ?_
                     rintro e w2 ⟨rfl, hb2⟩
                     have hO2 := hO.drew.keep hb2
                     have hG2 := hG.drew.keep hb2
                     have hR2 := hR.drew.keep hb2
                     have hown2 := own_below hown.drew hb2
                     have hbel2 := below_then hbel.drew hb2)
                  | (go_at_call 50
                     refine (set_int a b (x) (y) w.heap.size g c1' _ _ l b ((fun x y => bs.getD (y * a + (a - 1 - x)) false) x y) _ hoW hoH htx hty (rfl) (rfl) hown2).mono ?_
                     rintro e w3 ⟨rfl, hown3, hgr3⟩
                     have hO3 := hO2.grown hgr3 (own_blk_ne hown2 hO2 (by decide))
                     have hG3 := hG2.grown hgr3 (own_blk_ne hown2 hG2 (by decide))
                     have hR3 := hR2.grown hgr3 (own_blk_ne hown2 hR2 (by decide))
                     have hbel3 := hbel2.grown hgr3 hbel2.size (fun k hk => (hown2.lt k hk).1))
                  | fail)
              go_wp2_with fail
              go_roundw
              case rel => exact ⟨y + 1, _, by omega, by go_num, HF.out, hO3, hR3, hG3, hown3, hbel3⟩
              case measure => simp [intOf]; omega
            · obtain hye : y = b := by omega
              rw [hye] at hfill
              go_wp2_with fail
              go_roundw
              case rel => exact ⟨x + 1, l, by omega, by go_num, hfill.col, hO, hR, hG, hown, hbel⟩
              case measure => simp [intOf]; omega
        · obtain hxe : x = a := by omega
          rw [hxe] at hfill
          obtain ⟨r0, r1, r2⟩ := hR.cell3
          obtain ⟨f0, f1, f2⟩ := hR.frozen3
          obtain ⟨q0, q1, q2⟩ := (hR.set3 (.int .i64 ((a : Nat) : Int)) (.int .i64 ((b : Nat) : Int)) (.slice (some ⟨g, 0, none⟩) (b * a) c1')).cell3
          go_wp2_with fail
          refine bodyPost_ret (v := .tuple #[.agg #[.int .i64 ((a : Nat) : Int), .int .i64 ((b : Nat) : Int), .slice (some ⟨g, 0, none⟩) (b * a) c1'], .int .i64 0]) (by simp [results, Try.results46, go_sem, q0, q1, q2]) rfl ?_
          refine ⟨_, _, _, by rw [HC.out], ?_, below_set3 hbel (by omega) _ _ _⟩
          rw [HC.out]
          have := own_set3 hown hR (by decide) (.int .i64 ((a : Nat) : Int)) (.int .i64 ((b : Nat) : Int)) (.slice (some ⟨g, 0, none⟩) (b * a) c1')
          rw [hfill.tab_] at this
          exact this

    have k1 : (axis == 0) = false := by simpa using k0
    have k1' : (axis != 0) = true := by simpa using k0
    by_cases k2 : axis = 1
    · subst k2
      have HC : Hid (mirG ⟨a, b, bs⟩ 1 = (⟨((a : Nat) : Int), ((b : Nat) : Int), Pl.tab a b fun x y => bs.getD ((b - 1 - y) * a + x) false⟩, 0)) := (HS.out _).trans ((if_neg (by decide)).trans (if_pos rfl))
      have hoW := ha
      have hoH := hb
      have hoW1 := ha1
      have hoH1 := hbb
      go_enter Try.func46, Try.ntmps46
      go_wp2_with fail
      refine (rcheck_any _ _ _ _ _ _).mono ?_
      rintro e w1' ⟨rfl, hb1⟩
      have hG1 := hG0.keep hb1
      have hR1 := hR0.keep hb1
      have hB1 := below_then hB0 hb1
      obtain ⟨c0, c1, c2⟩ := hG1.cell3
      clear hb1
      go_wp2_with fail
      refine (zero_any a b _ hoW hoH).mono ?_
      rintro e w1 ⟨A1, n1, c1', rfl, hown1, hbz⟩
      simp only at hown1 ⊢
      have hn1 : n1 = b * a := by have h1 := hown1.1; simp at h1; omega
      subst hn1
      obtain ⟨g, rfl, hg1, hg2, hgc⟩ := own_form hown1 (Nat.mul_pos hoH1 hoW1)
      have hG2 := hG1.keep hbz
      have hR2 := hR1.keep hbz
      have hB2 := below_then hB1 hbz
      have hown := own_base hown1 hB1.size
      clear c0 c1 c2 hown1 hG1 hR1 hB1 hbz
      go_wp2_with fail
      go_loopw [7] (fun i wr => ∃ (x : Nat) (l : List Bool), x ≤ a ∧ i = .int .i64 x ∧ Pl.Fill (b * a) b (fun x y => y * a + x) (fun x y => bs.getD ((b - 1 - y) * a + x) false) l x 0 ∧
          Blk wr w1.heap.size 24 #[.int .i64 ((a : Nat) : Int), .int .i64 ((b : Nat) : Int), .slice (some ⟨g, 0, none⟩) (b * a) c1'] ∧
          Blk wr (w.heap.size + 1) 24 #[.int .i64 0, .int .i64 0, .slice none 0 0] ∧ Blk wr w.heap.size 24 #[.int .i64 a, .int .i64 b, .slice A (b * a) c] ∧
          wr.ownsRow w.heap.size 4 1 (.slice (some ⟨g, 0, none⟩) (b * a) c1') (b * a) (l.map Value.bool) ∧ Below w.heap.size w wr)
        (fun i _ => a - (intOf i).toNat)
      case atStart => exact ⟨0, _, Nat.zero_le _, rfl, Pl.Fill.start (by simp), by simpa using Blk.new _ _ _, hR2.alloc _, hG2.alloc _, hown.alloc _, hB2.alloc hB2.size _⟩
      case round =>
        clear hown hG2 hR2
        obtain ⟨x, l, hx, rfl, hfill, hO, hR, hG, hown, hbel⟩ := hrel
        obtain ⟨d0, d1, d2⟩ := hO.cell3
        obtain ⟨c0, c1, c2⟩ := hG.cell3
        by_cases hlt : x < a
        · go_wp2_with fail
          go_loopw [8] (fun i wr => ∃ (y : Nat) (l : List Bool), y ≤ b ∧ i = .int .i64 y ∧ Pl.Fill (b * a) b (fun x y => y * a + x) (fun x y => bs.getD ((b - 1 - y) * a + x) false) l x y ∧
          Blk wr w1.heap.size 24 #[.int .i64 ((a : Nat) : Int), .int .i64 ((b : Nat) : Int), .slice (some ⟨g, 0, none⟩) (b * a) c1'] ∧
          Blk wr (w.heap.size + 1) 24 #[.int .i64 0, .int .i64 0, .slice none 0 0] ∧ Blk wr w.heap.size 24 #[.int .i64 a, .int .i64 b, .slice A (b * a) c] ∧
          wr.ownsRow w.heap.size 4 1 (.slice (some ⟨g, 0, none⟩) (b * a) c1') (b * a) (l.map Value.bool) ∧ Below w.heap.size w wr)
            (fun i _ => b - (intOf i).toNat)
          case atStart => exact ⟨0, l, Nat.zero_le _, rfl, hfill, hO, hR, hG, hown, hbel⟩
          case round =>
            clear hfill hO hR hG hown hbel d0 d1 d2 c0 c1 c2 l
            obtain ⟨y, l, hy, rfl, hfill, hO, hR, hG, hown, hbel⟩ := hrel
            obtain ⟨d0, d1, d2⟩ := hO.cell3
            obtain ⟨c0, c1, c2⟩ := hG.cell3
            by_cases hlty : y < b
            · have hsx : x < a := by omega
              have hsy : b - 1 - y < b := by omega
              have htx : x < a := hlt
              have hty : y < b := hlty
              have hf2 := hfill.set (W := a) hlt hlty (Pl.cell_lt hlt hlty) (fun x' y' hx' hy' e => Pl.cell_inj hlt hx' e) rfl
              have HF := Lib.hid hf2
              clear hf2 hfill
              go_wp2_with fail
              go_region_held3 (fun w' => (w'.cell? ⟨w1.heap.size, 0, none⟩ = some (.int .i64 ((a : Nat) : Int)) ∧ w'.cell? ⟨w1.heap.size, 1, none⟩ = some (.int .i64 ((b : Nat) : Int)) ∧ w'.cell? ⟨w1.heap.size, 2, none⟩ = some (.slice (some ⟨g, 0, none⟩) (b * a) c1')) ∧
                  (w'.cell? ⟨w.heap.size, 0, none⟩ = some (.int .i64 a) ∧ w'.cell? ⟨w.heap.size, 1, none⟩ = some (.int .i64 b) ∧ w'.cell? ⟨w.heap.size, 2, none⟩ = some (.slice A (b * a) c)))
                (first | exact ⟨hO3.cell3, hG3.cell3⟩ | exact ⟨hO2.cell3, hG2.cell3⟩ | exact ⟨hO.cell3, hG.cell3⟩ | go_keep)
                (first
                  | (go_at_call 54
                     refine (at_int a b (x) (b - 1 - y) _ _ bs b A c _ ha hb hsx hsy (rfl) (by rw [i64_id (z := (b : Int) - 1) (by omega) (by omega), i64_id (z := (b : Int) - 1 - (y : Int)) (by omega) (by omega)]; omega) (hr.below hbel.drew)).mono ?_
                     rintro e w2 ⟨rfl, hb2⟩
                     have hO2 := hO.drew.keep hb2
                     have hG2 := hG.drew.keep hb2
                     have hR2 := hR.drew.keep hb2
                     have hown2 := own_below hown.drew hb2
                     have hbel2 := below_then hbel.drew hb2)
                  | (go_at_call 50
                     refine (set_int a b (x) (y) w.heap.size g c1' _ _ l b ((fun x y => bs.getD ((b - 1 - y) * a + x) false) x y) _ hoW hoH htx hty (rfl) (rfl) hown2).mono ?_
                     rintro e w3 ⟨rfl, hown3, hgr3⟩
                     have hO3 := hO2.grown hgr3 (own_blk_ne hown2 hO2 (by decide))
                     have hG3 := hG2.grown hgr3 (own_blk_ne hown2 hG2 (by decide))
                     have hR3 := hR2.grown hgr3 (own_blk_ne hown2 hR2 (by decide))
                     have hbel3 := hbel2.grown hgr3 hbel2.size (fun k hk => (hown2.lt k hk).1))
                  | fail)
              go_wp2_with fail
              go_roundw
              case rel => exact ⟨y + 1, _, by omega, by go_num, HF.out, hO3, hR3, hG3, hown3, hbel3⟩
              case measure => simp [intOf]; omega
            · obtain hye : y = b := by omega
              rw [hye] at hfill
              go_wp2_with fail
              go_roundw
              case rel => exact ⟨x + 1, l, by omega, by go_num, hfill.col, hO, hR, hG, hown, hbel⟩
              case measure => simp [intOf]; omega
        · obtain hxe : x = a := by omega
          rw [hxe] at hfill
          obtain ⟨r0, r1, r2⟩ := hR.cell3
          obtain ⟨f0, f1, f2⟩ := hR.frozen3
          obtain ⟨q0, q1, q2⟩ := (hR.set3 (.int .i64 ((a : Nat) : Int)) (.int .i64 ((b : Nat) : Int)) (.slice (some ⟨g, 0, none⟩) (b * a) c1')).cell3
          go_wp2_with fail
          refine bodyPost_ret (v := .tuple #[.agg #[.int .i64 ((a : Nat) : Int), .int .i64 ((b : Nat) : Int), .slice (some ⟨g, 0, none⟩) (b * a) c1'], .int .i64 0]) (by simp [results, Try.results46, go_sem, q0, q1, q2]) rfl ?_
          refine ⟨_, _, _, by rw [HC.out], ?_, below_set3 hbel (by omega) _ _ _⟩
          rw [HC.out]
          have := own_set3 hown hR (by decide) (.int .i64 ((a : Nat) : Int)) (.int .i64 ((b : Nat) : Int)) (.slice (some ⟨g, 0, none⟩) (b * a) c1')
          rw [hfill.tab_] at this
          exact this

    have k3 : (axis != 1) = true := by simpa using k2
    have HC : Hid (mirG ⟨a, b, bs⟩ axis = (Gd.zero, 2)) := by
      exact (HS.out _).trans ((if_neg k0).trans (if_neg k2))
    go_enter Try.func46, Try.ntmps46
    go_wp2_with fail
    refine (rcheck_any _ _ _ _ _ _).mono ?_
    rintro e w1' ⟨rfl, hb1⟩
    have hG1 := hG0.keep hb1
    have hR1 := hR0.keep hb1
    have hB1 := below_then hB0 hb1
    obtain ⟨c0, c1, c2⟩ := hG1.cell3
    clear hb1
    obtain ⟨r0, r1, r2⟩ := hR1.cell3
    obtain ⟨f0, f1, f2⟩ := hR1.frozen3
    obtain ⟨q0, q1, q2⟩ := (hR1.set3 (.int .i64 0) (.int .i64 0) (.slice none 0 0)).cell3
    go_wp2_with fail
    all_goals
      refine bodyPost_ret (v := .tuple #[.agg #[.int .i64 0, .int .i64 0, .slice none 0 0], .int .i64 2]) (by simp [results, Try.results46, go_sem, q0, q1, q2]) rfl ?_
      exact bad_ret HC.out (below_set3 hB1 (by omega) _ _ _)
  · have hcb : (chk W H n != 0) = true := by simpa using hc
    have HC : Hid (mirG ⟨W, H, bs⟩ axis = (Gd.zero, chk W H n)) := by
      have := withChk_bad (g := ⟨W, H, bs⟩) (by unfold chkG; simp only [hn]; exact hc)
      unfold chkG at this
      simp only [hn] at this
      exact this _
    clear hc hn
    go_enter Try.func46, Try.ntmps46
    go_wp2_with fail
    refine (rcheck_any _ _ _ _ _ _).mono ?_
    rintro e w1' ⟨rfl, hb1⟩
    have hG1 := hG0.keep hb1
    have hR1 := hR0.keep hb1
    have hB1 := below_then hB0 hb1
    obtain ⟨c0, c1, c2⟩ := hG1.cell3
    clear hb1

    go_wp2_with fail
    refine (rcheck_any _ _ _ _ _ _).mono ?_
    rintro e w2 ⟨rfl, hb2⟩
    have hR2 := hR1.keep hb2
    have hB2 := below_then hB1 hb2
    obtain ⟨r0, r1, r2⟩ := hR2.cell3
    obtain ⟨f0, f1, f2⟩ := hR2.frozen3
    obtain ⟨q0, q1, q2⟩ := (hR2.set3 (.int .i64 0) (.int .i64 0) (.slice none 0 0)).cell3
    go_wp2_with fail
    refine bodyPost_ret (v := .tuple #[.agg #[.int .i64 0, .int .i64 0, .slice none 0 0], .int .i64 (chk W H n)]) (by simp [results, Try.results46, go_sem, q0, q1, q2]) rfl ?_
    exact bad_ret HC.out (below_set3 hB2 (by omega) _ _ _)

end Go.Proofs.Ytliibficmdomjaa
