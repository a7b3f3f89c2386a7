/- raddleref01.Turned gives a valid grid turned, in new memory. -/
import Derived.Test.YtliibficmdomjaaRCellz
import Derived.Test.YtliibficmdomjaaMg12z
namespace Go.Proofs.Ytliibficmdomjaa
open Go.RowKit

set_option maxHeartbeats 2000000 in
theorem turned_any (a b : Nat) (bs : List Bool) (A : Option Addr) (c : Nat) (w : World) (ha1 : 1 ≤ a) (hb1 : 1 ≤ b) (ha : a ≤ 64) (hb : b ≤ 64) (hr : Rd w A (b * a) (bs.map Value.bool)) :
    Calls Try.prog 47 #[.agg #[.int .i64 a, .int .i64 b, .slice A (b * a) c]] w (RetT ⟨b, a, Pl.tab b a fun x y => bs.getD (x * a + y) false⟩ w) := by
  have hG0 : Blk ((w.alloc (.cells #[.int .i64 a, .int .i64 b, .slice A (b * a) c] 24)).alloc (.cells #[.int .i64 0, .int .i64 0, .slice none 0 0] 24)) w.heap.size 24 #[.int .i64 a, .int .i64 b, .slice A (b * a) c] := (Blk.new w _ _).alloc _
  have hR0 : Blk ((w.alloc (.cells #[.int .i64 a, .int .i64 b, .slice A (b * a) c] 24)).alloc (.cells #[.int .i64 0, .int .i64 0, .slice none 0 0] 24)) (w.heap.size + 1) 24 #[.int .i64 0, .int .i64 0, .slice none 0 0] := by simpa using Blk.new (w.alloc (.cells #[.int .i64 a, .int .i64 b, .slice A (b * a) c] 24)) _ _
  have hB0 : Below w.heap.size w ((w.alloc (.cells #[.int .i64 a, .int .i64 b, .slice A (b * a) c] 24)).alloc (.cells #[.int .i64 0, .int .i64 0, .slice none 0 0] 24)) := Joins.below_alloc2 w _ _
  obtain ⟨c0, c1, c2⟩ := hG0.cell3
  go_enter Try.func47, Try.ntmps47
  go_wp2_with fail
  refine (zero_any b a _ hb ha).mono ?_
  rintro e w1 ⟨A1, n1, c1', rfl, hown1, hb1'⟩
  simp only at hown1 ⊢
  have hn1 : n1 = a * b := by have h1 := hown1.1; simp at h1; omega
  subst hn1
  obtain ⟨g, rfl, hg1, hg2, hgc⟩ := own_form hown1 (Nat.mul_pos ha1 hb1)
  have hG1 := hG0.keep hb1'
  have hR1 := hR0.keep hb1'
  have hB1 := below_then hB0 hb1'
  have hown := own_base hown1 hB0.size
  clear c0 c1 c2 hown1 hG0 hR0 hB0 hb1'
  go_wp2_with fail
  go_loopw [4] (fun i wr => ∃ (x : Nat) (l : List Bool), x ≤ b ∧ i = .int .i64 x ∧ Pl.Fill (a * b) a (fun x y => y * b + x) (fun x y => bs.getD (x * a + y) false) l x 0 ∧
      Blk wr w1.heap.size 24 #[.int .i64 b, .int .i64 a, .slice (some ⟨g, 0, none⟩) (a * b) c1'] ∧
      Blk wr (w.heap.size + 1) 24 #[.int .i64 0, .int .i64 0, .slice none 0 0] ∧ Blk wr w.heap.size 24 #[.int .i64 a, .int .i64 b, .slice A (b * a) c] ∧
      wr.ownsRow w.heap.size 4 1 (.slice (some ⟨g, 0, none⟩) (a * b) c1') (a * b) (l.map Value.bool) ∧ Below w.heap.size w wr)
    (fun i _ => b - (intOf i).toNat)
  case atStart => exact ⟨0, _, Nat.zero_le _, rfl, Pl.Fill.start (by simp), by simpa using Blk.new _ _ _, hR1.alloc _, hG1.alloc _, hown.alloc _, hB1.alloc hB1.size _⟩
  case round =>
    clear hown hG1 hR1
    obtain ⟨x, l, hx, rfl, hfill, hO, hR, hG, hown, hbel⟩ := hrel
    obtain ⟨d0, d1, d2⟩ := hO.cell3
    by_cases hlt : x < b
    · go_wp2_with fail
      go_loopw [5] (fun i wr => ∃ (y : Nat) (l : List Bool), y ≤ a ∧ i = .int .i64 y ∧ Pl.Fill (a * b) a (fun x y => y * b + x) (fun x y => bs.getD (x * a + y) false) l x y ∧
          Blk wr w1.heap.size 24 #[.int .i64 b, .int .i64 a, .slice (some ⟨g, 0, none⟩) (a * b) c1'] ∧
          Blk wr (w.heap.size + 1) 24 #[.int .i64 0, .int .i64 0, .slice none 0 0] ∧ Blk wr w.heap.size 24 #[.int .i64 a, .int .i64 b, .slice A (b * a) c] ∧
          wr.ownsRow w.heap.size 4 1 (.slice (some ⟨g, 0, none⟩) (a * b) c1') (a * b) (l.map Value.bool) ∧ Below w.heap.size w wr)
        (fun i _ => a - (intOf i).toNat)
      case atStart => exact ⟨0, l, Nat.zero_le _, rfl, hfill, hO, hR, hG, hown, hbel⟩
      case round =>
        clear hfill hO hR hG hown hbel d0 d1 d2 l
        obtain ⟨y, l, hy, rfl, hfill, hO, hR, hG, hown, hbel⟩ := hrel
        obtain ⟨d0, d1, d2⟩ := hO.cell3
        by_cases hlty : y < a
        · have hcl := Pl.cell_lt (w := b) (h := a) hlt hlty
          have hf2 := hfill.set (W := b) hlt hlty hcl (fun x' y' hx' hy' e => Pl.cell_inj hlt hx' e) rfl
          have HF := Lib.hid hf2
          clear hf2 hfill hcl
          go_wp2_with fail
          go_region_held3 (fun w' => (w'.cell? ⟨w1.heap.size, 0, none⟩ = some (.int .i64 b) ∧ w'.cell? ⟨w1.heap.size, 1, none⟩ = some (.int .i64 a) ∧ w'.cell? ⟨w1.heap.size, 2, none⟩ = some (.slice (some ⟨g, 0, none⟩) (a * b) c1')) ∧
              (w'.cell? ⟨w.heap.size, 0, none⟩ = some (.int .i64 a) ∧ w'.cell? ⟨w.heap.size, 1, none⟩ = some (.int .i64 b) ∧ w'.cell? ⟨w.heap.size, 2, none⟩ = some (.slice A (b * a) c)))
            (first | exact ⟨hO3.cell3, hG3.cell3⟩ | exact ⟨hO2.cell3, hG2.cell3⟩ | exact ⟨hO.cell3, hG.cell3⟩ | go_keep)
            (first
              | (go_at_call 54
                 refine (at_any a b y x bs b A c _ ha hb hlty hlt (hr.below hbel.drew)).mono ?_
                 rintro e w2 ⟨rfl, hb2⟩
                 have hO2 := hO.drew.keep hb2
                 have hG2 := hG.drew.keep hb2
                 have hR2 := hR.drew.keep hb2
                 have hown2 := own_below hown.drew hb2
                 have hbel2 := below_then hbel.drew hb2)
              | (go_at_call 50
                 refine (set_any b a x y w.heap.size g c1' l a (bs.getD (x * a + y) false) _ hb ha hlt hlty hown2).mono ?_
                 rintro e w3 ⟨rfl, hown3, hgr3⟩
                 have hO3 := hO2.grown hgr3 (own_blk_ne hown2 hO2 (by decide))
                 have hG3 := hG2.grown hgr3 (own_blk_ne hown2 hG2 (by decide))
                 have hR3 := hR2.grown hgr3 (own_blk_ne hown2 hR2 (by decide))
                 have hbel3 := hbel2.grown hgr3 hbel2.size (fun k hk => (hown2.lt k hk).1))
              | fail)
          go_wp2_with fail
          go_roundw
          case rel => exact ⟨y + 1, _, by omega, by go_num, HF.out, hO3, hR3, hG3, hown3, hbel3⟩
          case measure => simp [intOf]; omega
        · obtain rfl : y = a := by omega
          go_wp2_with fail
          go_roundw
          case rel => exact ⟨x + 1, l, by omega, by go_num, hfill.col, hO, hR, hG, hown, hbel⟩
          case measure => simp [intOf]; omega
    · obtain rfl : x = b := by omega
      obtain ⟨r0, r1, r2⟩ := hR.cell3
      obtain ⟨f0, f1, f2⟩ := hR.frozen3
      obtain ⟨q0, q1, q2⟩ := (hR.set3 (.int .i64 x) (.int .i64 a) (.slice (some ⟨g, 0, none⟩) (a * x) c1')).cell3
      go_wp2_with fail
      refine bodyPost_ret (v := .agg #[.int .i64 x, .int .i64 a, .slice (some ⟨g, 0, none⟩) (a * x) c1']) (by simp [results, Try.results47, go_sem, q0, q1, q2]) rfl ?_
      refine ⟨_, _, _, rfl, ?_, below_set3 hbel (by omega) _ _ _⟩
      have := own_set3 hown hR (by decide) (.int .i64 x) (.int .i64 a) (.slice (some ⟨g, 0, none⟩) (a * x) c1')
      rw [hfill.tab_] at this
      exact this
end Go.Proofs.Ytliibficmdomjaa
