/- raddleref14.shown gives the front, or the threads below, of a valid grid with thread colours. -/
import Derived.Test.YtefeghpglacghaaMg5z
import Derived.Test.YtefeghpglacghaaViewz
import Derived.Test.YtefeghpglacghaaThrz
import Derived.Test.YtefeghpglacghaaRCellz
import Derived.Test.YtefeghpglacghaaMg8z
import Derived.Deep.OwnRows
namespace Go.Proofs.Ytefeghpglacghaa
open Go.RowKit

def shownF (a : Nat) (bs : List Bool) (p q : List Int) (below : Bool) (x y : Nat) : Int := if bs.getD (y * a + x) false != below then p.getD x 0 else q.getD y 0
theorem ints_zero (n : Nat) : (madeCells #[Value.int .i64 0] n).toList = (List.replicate n 0).map (Value.int .i64) := by
  rw [toList_madeCells_one]; simp

set_option maxHeartbeats 4000000 in
set_option maxRecDepth 100000 in
theorem shown_false (a b : Nat) (bs : List Bool) (p q : List Int) (A Ap Aq : Option Addr) (c cp cq : Nat) (w : World) (ha1 : 1 ≤ a) (hb1 : 1 ≤ b) (ha : a ≤ 64) (hb : b ≤ 64) (hr : Rd w A (b * a) (bs.map Value.bool)) (hrp : Rd w Ap a (p.map (Value.int .i64))) (hrq : Rd w Aq b (q.map (Value.int .i64))) :
    Calls Try.prog 63 #[.agg #[.int .i64 a, .int .i64 b, .slice A (b * a) c], .slice Ap a cp, .slice Aq b cq, .bool false] w (RetJ ⟨a, b, Pl.tab a b (shownF a bs p q false)⟩ w) := by
  obtain ⟨i0, hi, hz0, hz1, hz2⟩ := info_parts Try.infoI
  have lp : p.length = a := by simpa using hrp.len
  have lq : q.length = b := by simpa using hrq.len
  have hba : b * a ≤ 4096 := Nat.mul_le_mul hb ha
  have hmul : (a : Int) * (b : Int) = ((b * a : Nat) : Int) := by rw [Nat.mul_comm]; exact (Int.natCast_mul a b).symm
  obtain ⟨hm0, hm1⟩ := mul_bound (p := (a : Int)) (q := (b : Int)) (by omega) (by omega) (by omega) (by omega)
  have S0 := ((St.start w).box #[.int .i64 a, .int .i64 b, .slice A (b * a) c] 40).box #[.int .i64 0, .int .i64 0, .slice none 0 0] 24
  simp only [size_alloc1, List.nil_append, List.cons_append] at S0
  obtain ⟨c0, c1, c2⟩ := (S0.blk 0 rfl).cell3
  have HM : Hid (IntKind.i64.wrap ((a : Int) * (b : Int)) = ((b * a : Nat) : Int)) := Lib.hid (by rw [IntWalk.i64_in _ (by omega)]; exact hmul)
  have LP := Lib.hid lp
  have LQ := Lib.hid lq
  have hmk := run_make_row' (P := Try.prog) 22 3 (.int .i64 0) 8 Try.underlying22 Try.infoI rfl .i64 .i64 (b * a) (by omega) (by omega)
  have hmk1 := hmk
  rw [← HM.out] at hmk1
  have hmk2 := hmk
  rw [← hmul] at hmk2
  clear hmul lp lq hmk
  go_enter Try.func63, Try.ntmps63
  go_wp2_with fail
  go_region_held3 (fun w' => w'.cell? ⟨w.heap.size, 0, none⟩ = some (.int .i64 a) ∧ w'.cell? ⟨w.heap.size, 1, none⟩ = some (.int .i64 b) ∧ w'.cell? ⟨w.heap.size, 2, none⟩ = some (.slice A (b * a) c))
    (first | exact ((S0.alloc _).drew.blk 0 rfl).cell3 | exact (((S0.alloc _).alloc _).drew.blk 0 rfl).cell3 | exact (S0.drew.blk 0 rfl).cell3 | go_keep)
    (fail)
  · have T := ((S0.box (madeCells #[.int .i64 0] (b * a)) 3).box #[.int .i64 a, .int .i64 b, .slice (some ⟨w.heap.size + 1 + 1, 0, none⟩) (b * a) (b * a)] 24).drew
    simp only [size_alloc1, List.nil_append, List.cons_append] at T
    have hG := T.blk 0 rfl
    have hR := T.blk 1 rfl
    have hO := T.blk 2 rfl
    have hM := T.blk 3 rfl
    have hB := T.below
    clear S0 T c0 c1 c2 hmk1 hmk2
    generalize hgm : w.heap.size + 1 + 1 + 1 = Bm at *
    generalize hgg : w.heap.size + 1 + 1 = gr at *
    have hle : w.heap.size ≤ gr := by omega
    have hown := own_of_blk hO hle (by rw [size_madeCells]; unfold maxLen; omega)
    rw [size_madeCells, ints_zero] at hown
    clear hO hgm hgg
    go_wp2_with fail
    go_loopw [10] (fun i wr => ∃ (x : Nat) (l : List Int), x ≤ a ∧ i = .int .i64 x ∧ Pl.Fill (b * a) b (fun x y => y * a + x) (shownF a bs p q false) l x 0 ∧ Blk wr Bm 24 #[.int .i64 a, .int .i64 b, .slice (some ⟨gr, 0, none⟩) (b * a) (b * a)] ∧ Blk wr (w.heap.size + 1) 24 #[.int .i64 0, .int .i64 0, .slice none 0 0] ∧ Blk wr w.heap.size 40 #[.int .i64 a, .int .i64 b, .slice A (b * a) c] ∧ wr.ownsRow w.heap.size 3 1 (.slice (some ⟨gr, 0, none⟩) (b * a) (b * a)) (b * a) (l.map (Value.int .i64)) ∧ Below w.heap.size w wr) (fun i _ => a - (intOf i).toNat)
    case atStart => exact ⟨0, _, Nat.zero_le _, rfl, Pl.Fill.start (by simp), hM, hR, hG, hown, hB⟩
    case round =>
      clear hM hR hG hown hB
      obtain ⟨x, l, hx, rfl, hfill, hM, hR, hG, hown, hbel⟩ := hrel
      obtain ⟨c0, c1, c2⟩ := hG.cell3
      by_cases hltx : x < a
      · go_wp2_with fail
        go_loopw [11] (fun i wr => ∃ (y : Nat) (l : List Int), y ≤ b ∧ i = .int .i64 y ∧ Pl.Fill (b * a) b (fun x y => y * a + x) (shownF a bs p q false) l x y ∧ Blk wr Bm 24 #[.int .i64 a, .int .i64 b, .slice (some ⟨gr, 0, none⟩) (b * a) (b * a)] ∧ Blk wr (w.heap.size + 1) 24 #[.int .i64 0, .int .i64 0, .slice none 0 0] ∧ Blk wr w.heap.size 40 #[.int .i64 a, .int .i64 b, .slice A (b * a) c] ∧ wr.ownsRow w.heap.size 3 1 (.slice (some ⟨gr, 0, none⟩) (b * a) (b * a)) (b * a) (l.map (Value.int .i64)) ∧ Below w.heap.size w wr) (fun i _ => b - (intOf i).toNat)
        case atStart => exact ⟨0, l, Nat.zero_le _, rfl, hfill, hM, hR, hG, hown, hbel⟩
        case round =>
          clear hfill hM hR hG hown hbel c0 c1 c2 l
          obtain ⟨y, l, hy, rfl, hfill, hM, hR, hG, hown, hbel⟩ := hrel
          obtain ⟨c0, c1, c2⟩ := hG.cell3
          by_cases hlt : y < b
          · have hcl := Pl.cell_lt (w := a) (h := b) hltx hlt
            have hF := hfill.set (W := a) (u := shownF a bs p q false x y) hltx hlt hcl (fun x' y' hx' hy' e => Pl.cell_inj hltx hx' e) rfl
            have hFF : Hid (shownF a bs p q false x y = if (bs.getD (y * a + x) false != false) = true then p.getD x 0 else q.getD y 0) := rfl
            have HF := Lib.hid hF
            clear hF
            obtain ⟨i0, i1, i2⟩ := idx_bounds ha hb hltx hlt
            obtain ⟨bp, op, hAp, hbp, hcp⟩ := (hrp.below hbel).at_ (by omega)
            obtain ⟨bq, oq, hAq, hbq, hcq⟩ := (hrq.below hbel).at_ (by omega)
            have hcellq := int_read LQ.out hlt hcq
            subst hAp hAq
            have hll : l.length = b * a := hfill.len
            have hcell := hown.cellAt (y * a + x) (by omega)
            have hfr := hown.frozenAt (y * a + x)
            rw [List.getElem?_map, List.getElem?_eq_getElem (by omega)] at hcell
            simp only [Option.map_some] at hcell
            replace hcell : ∃ u, wr.cell? ⟨gr, y * a + x, none⟩ = some (.int .i64 u) := ⟨_, hcell⟩
            obtain ⟨old, hcell⟩ := hcell
            obtain ⟨m0, m1, m2⟩ := hM.cell3
            have HPP := Lib.hid (int_read LP.out hltx hcp)
            generalize q.getD y 0 = v at *
            have hst := hown.stored (y * a + x) (.int .i64 v)
            have hM1 := hM.grown hst.2 (own_blk_ne hown hM (by decide))
            have hR1 := hR.grown hst.2 (own_blk_ne hown hR (by decide))
            have hG1 := hG.grown hst.2 (own_blk_ne hown hG (by decide))
            have hbel1 := hbel.setCell (p := ⟨gr, y * a + x, none⟩) hle (.int .i64 v)
            have hown1 := hst.1
            rw [← List.map_set] at hown1
            have HH := Lib.hid (And.intro hM1 (And.intro hR1 (And.intro hG1 (And.intro hbel1 hown1))))
            have HLL : Hid ((l.set (y * a + x) v).length = b * a) := Lib.hid (by rw [List.length_set]; exact hll)
            clear hst hM1 hR1 hG1 hbel1 hown1 hM hR hG hown hcp hcq hfill hll
            go_wp2_with fail
            go_region
            all_goals
              obtain ⟨hM, hR, hG, hbel, hown⟩ := HH.out
              replace hM := hM.drew
              replace hR := hR.drew
              replace hG := hG.drew
              replace hbel := hbel.drew
              replace hown := hown.drew
              clear c0 c1 c2 hcell hfr m0 m1 m2 hcellq HH
              obtain ⟨c0, c1, c2⟩ := hG.cell3
              rcases Bool.eq_false_or_eq_true (bs.getD (y * a + x) false) with hbb | hbb
              · have HBB := Lib.hid hbb
                have HU : Hid (shownF a bs p q false x y = p.getD x 0) := Lib.hid (by rw [hFF.out, hbb]; rfl)
                clear hFF hbb
                go_wp2_with fail
                refine (at_to a b x y bs _ _ _ _ HBB.out ha hb hltx hlt (hr.below hbel)).mono ?_
                rintro e w2 ⟨rfl, hb2⟩
                replace hM := hM.keep hb2
                replace hR := hR.keep hb2
                replace hG := hG.keep hb2
                replace hbel := below_then hbel hb2
                replace hown := own_below hown hb2
                clear c0 c1 c2 hb2
                have hcellp := int_read LP.out hltx (hrp.below hbel).lit
                obtain ⟨m0, m1, m2⟩ := hM.cell3
                obtain ⟨c0, c1, c2⟩ := hG.cell3
                generalize p.getD x 0 = u at *
                have hcell := hown.cellAt (y * a + x) (by omega)
                have hfr := hown.frozenAt (y * a + x)
                rw [List.getElem?_map, List.getElem?_eq_getElem (by rw [HLL.out]; omega)] at hcell
                simp only [Option.map_some] at hcell
                replace hcell : ∃ u, w2.cell? ⟨gr, y * a + x, none⟩ = some (.int .i64 u) := ⟨_, hcell⟩
                obtain ⟨old, hcell⟩ := hcell
                have hst := hown.stored (y * a + x) (.int .i64 u)
                have hM1 := hM.grown hst.2 (own_blk_ne hown hM (by decide))
                have hR1 := hR.grown hst.2 (own_blk_ne hown hR (by decide))
                have hG1 := hG.grown hst.2 (own_blk_ne hown hG (by decide))
                have hbel1 := hbel.setCell (p := ⟨gr, y * a + x, none⟩) hle (.int .i64 u)
                have hown1 := hst.1
                rw [← List.map_set, List.set_set] at hown1
                have HH := Lib.hid (And.intro hM1 (And.intro hR1 (And.intro hG1 (And.intro hbel1 hown1))))
                clear hst hM1 hR1 hG1 hbel1 hown1 hM hR hG hown hbel
                go_wp2_with fail
                go_region
                all_goals
                  obtain ⟨hM, hR, hG, hbel, hown⟩ := HH.out
                  clear c0 c1 c2 hcell hfr m0 m1 m2 hcellp HH
                  go_wp2_with fail
                  go_roundw
                  case rel => exact ⟨y + 1, _, by omega, by go_num, by have := HF.out; rw [HU.out] at this; exact this, hM.drew, hR.drew, hG.drew, hown.drew, hbel.drew⟩
                  case measure => simp [intOf]; omega
              · have HBB := Lib.hid hbb
                have HU : Hid (shownF a bs p q false x y = v) := Lib.hid (by rw [hFF.out, hbb]; rfl)
                clear hFF hbb
                go_wp2_with fail
                refine (at_to a b x y bs _ _ _ _ HBB.out ha hb hltx hlt (hr.below hbel)).mono ?_
                rintro e w2 ⟨rfl, hb2⟩
                replace hM := hM.keep hb2
                replace hR := hR.keep hb2
                replace hG := hG.keep hb2
                replace hbel := below_then hbel hb2
                replace hown := own_below hown hb2
                clear c0 c1 c2 hb2
                go_wp2_with fail
                go_roundw
                case rel => exact ⟨y + 1, _, by omega, by go_num, by have := HF.out; rw [HU.out] at this; exact this, hM, hR, hG, hown, hbel⟩
                case measure => simp [intOf]; omega
          · obtain rfl : y = b := by omega
            go_wp2_with fail
            go_roundw
            case rel => exact ⟨x + 1, l, by omega, by go_num, hfill.col, hM, hR, hG, hown, hbel⟩
            case measure => simp [intOf]; omega
      · obtain rfl : x = a := by omega
        obtain ⟨m0, m1, m2⟩ := hM.cell3
        obtain ⟨r0, r1, r2⟩ := hR.cell3
        obtain ⟨f0, f1, f2⟩ := hR.frozen3
        obtain ⟨q0, q1, q2⟩ := (hR.set3 (.int .i64 x) (.int .i64 b) (.slice (some ⟨gr, 0, none⟩) (b * x) (b * x))).cell3
        go_wp2_with fail
        refine bodyPost_ret (v := .agg #[.int .i64 x, .int .i64 b, .slice (some ⟨gr, 0, none⟩) (b * x) (b * x)]) (by simp [results, Try.results63, go_sem, q0, q1, q2]) rfl ?_
        refine ⟨_, _, _, rfl, ?_, below_set3 hbel (by omega) _ _ _⟩
        have := own_set3 hown hR (by decide) (.int .i64 x) (.int .i64 b) (.slice (some ⟨gr, 0, none⟩) (b * x) (b * x))
        rw [hfill.tab_] at this
        exact this
  · have T := ((S0.box #[.int .i64 a, .int .i64 b, .slice (some ⟨w.heap.size + 1 + 1 + 1, 0, none⟩) (b * a) (b * a)] 24).box (madeCells #[.int .i64 0] (b * a)) 3).drew
    simp only [size_alloc1, List.nil_append, List.cons_append] at T
    have hG := T.blk 0 rfl
    have hR := T.blk 1 rfl
    have hM := T.blk 2 rfl
    have hO := T.blk 3 rfl
    have hB := T.below
    clear S0 T c0 c1 c2 hmk1 hmk2
    generalize hgm : w.heap.size + 1 + 1 + 1 = gr at *
    generalize hgg : w.heap.size + 1 + 1 = Bm at *
    have hle : w.heap.size ≤ gr := by omega
    have hown := own_of_blk hO hle (by rw [size_madeCells]; unfold maxLen; omega)
    rw [size_madeCells, ints_zero] at hown
    clear hO hgm hgg
    go_wp2_with fail
    go_loopw [10] (fun i wr => ∃ (x : Nat) (l : List Int), x ≤ a ∧ i = .int .i64 x ∧ Pl.Fill (b * a) b (fun x y => y * a + x) (shownF a bs p q false) l x 0 ∧ Blk wr Bm 24 #[.int .i64 a, .int .i64 b, .slice (some ⟨gr, 0, none⟩) (b * a) (b * a)] ∧ Blk wr (w.heap.size + 1) 24 #[.int .i64 0, .int .i64 0, .slice none 0 0] ∧ Blk wr w.heap.size 40 #[.int .i64 a, .int .i64 b, .slice A (b * a) c] ∧ wr.ownsRow w.heap.size 3 1 (.slice (some ⟨gr, 0, none⟩) (b * a) (b * a)) (b * a) (l.map (Value.int .i64)) ∧ Below w.heap.size w wr) (fun i _ => a - (intOf i).toNat)
    case atStart => exact ⟨0, _, Nat.zero_le _, rfl, Pl.Fill.start (by simp), hM, hR, hG, hown, hB⟩
    case round =>
      clear hM hR hG hown hB
      obtain ⟨x, l, hx, rfl, hfill, hM, hR, hG, hown, hbel⟩ := hrel
      obtain ⟨c0, c1, c2⟩ := hG.cell3
      by_cases hltx : x < a
      · go_wp2_with fail
        go_loopw [11] (fun i wr => ∃ (y : Nat) (l : List Int), y ≤ b ∧ i = .int .i64 y ∧ Pl.Fill (b * a) b (fun x y => y * a + x) (shownF a bs p q false) l x y ∧ Blk wr Bm 24 #[.int .i64 a, .int .i64 b, .slice (some ⟨gr, 0, none⟩) (b * a) (b * a)] ∧ Blk wr (w.heap.size + 1) 24 #[.int .i64 0, .int .i64 0, .slice none 0 0] ∧ Blk wr w.heap.size 40 #[.int .i64 a, .int .i64 b, .slice A (b * a) c] ∧ wr.ownsRow w.heap.size 3 1 (.slice (some ⟨gr, 0, none⟩) (b * a) (b * a)) (b * a) (l.map (Value.int .i64)) ∧ Below w.heap.size w wr) (fun i _ => b - (intOf i).toNat)
        case atStart => exact ⟨0, l, Nat.zero_le _, rfl, hfill, hM, hR, hG, hown, hbel⟩
        case round =>
          clear hfill hM hR hG hown hbel c0 c1 c2 l
          obtain ⟨y, l, hy, rfl, hfill, hM, hR, hG, hown, hbel⟩ := hrel
          obtain ⟨c0, c1, c2⟩ := hG.cell3
          by_cases hlt : y < b
          · have hcl := Pl.cell_lt (w := a) (h := b) hltx hlt
            have hF := hfill.set (W := a) (u := shownF a bs p q false x y) hltx hlt hcl (fun x' y' hx' hy' e => Pl.cell_inj hltx hx' e) rfl
            have hFF : Hid (shownF a bs p q false x y = if (bs.getD (y * a + x) false != false) = true then p.getD x 0 else q.getD y 0) := rfl
            have HF := Lib.hid hF
            clear hF
            obtain ⟨i0, i1, i2⟩ := idx_bounds ha hb hltx hlt
            obtain ⟨bp, op, hAp, hbp, hcp⟩ := (hrp.below hbel).at_ (by omega)
            obtain ⟨bq, oq, hAq, hbq, hcq⟩ := (hrq.below hbel).at_ (by omega)
            have hcellq := int_read LQ.out hlt hcq
            subst hAp hAq
            have hll : l.length = b * a := hfill.len
            have hcell := hown.cellAt (y * a + x) (by omega)
            have hfr := hown.frozenAt (y * a + x)
            rw [List.getElem?_map, List.getElem?_eq_getElem (by omega)] at hcell
            simp only [Option.map_some] at hcell
            replace hcell : ∃ u, wr.cell? ⟨gr, y * a + x, none⟩ = some (.int .i64 u) := ⟨_, hcell⟩
            obtain ⟨old, hcell⟩ := hcell
            obtain ⟨m0, m1, m2⟩ := hM.cell3
            have HPP := Lib.hid (int_read LP.out hltx hcp)
            generalize q.getD y 0 = v at *
            have hst := hown.stored (y * a + x) (.int .i64 v)
            have hM1 := hM.grown hst.2 (own_blk_ne hown hM (by decide))
            have hR1 := hR.grown hst.2 (own_blk_ne hown hR (by decide))
            have hG1 := hG.grown hst.2 (own_blk_ne hown hG (by decide))
            have hbel1 := hbel.setCell (p := ⟨gr, y * a + x, none⟩) hle (.int .i64 v)
            have hown1 := hst.1
            rw [← List.map_set] at hown1
            have HH := Lib.hid (And.intro hM1 (And.intro hR1 (And.intro hG1 (And.intro hbel1 hown1))))
            have HLL : Hid ((l.set (y * a + x) v).length = b * a) := Lib.hid (by rw [List.length_set]; exact hll)
            clear hst hM1 hR1 hG1 hbel1 hown1 hM hR hG hown hcp hcq hfill hll
            go_wp2_with fail
            go_region
            all_goals
              obtain ⟨hM, hR, hG, hbel, hown⟩ := HH.out
              replace hM := hM.drew
              replace hR := hR.drew
              replace hG := hG.drew
              replace hbel := hbel.drew
              replace hown := hown.drew
              clear c0 c1 c2 hcell hfr m0 m1 m2 hcellq HH
              obtain ⟨c0, c1, c2⟩ := hG.cell3
              rcases Bool.eq_false_or_eq_true (bs.getD (y * a + x) false) with hbb | hbb
              · have HBB := Lib.hid hbb
                have HU : Hid (shownF a bs p q false x y = p.getD x 0) := Lib.hid (by rw [hFF.out, hbb]; rfl)
                clear hFF hbb
                go_wp2_with fail
                refine (at_to a b x y bs _ _ _ _ HBB.out ha hb hltx hlt (hr.below hbel)).mono ?_
                rintro e w2 ⟨rfl, hb2⟩
                replace hM := hM.keep hb2
                replace hR := hR.keep hb2
                replace hG := hG.keep hb2
                replace hbel := below_then hbel hb2
                replace hown := own_below hown hb2
                clear c0 c1 c2 hb2
                have hcellp := int_read LP.out hltx (hrp.below hbel).lit
                obtain ⟨m0, m1, m2⟩ := hM.cell3
                obtain ⟨c0, c1, c2⟩ := hG.cell3
                generalize p.getD x 0 = u at *
                have hcell := hown.cellAt (y * a + x) (by omega)
                have hfr := hown.frozenAt (y * a + x)
                rw [List.getElem?_map, List.getElem?_eq_getElem (by rw [HLL.out]; omega)] at hcell
                simp only [Option.map_some] at hcell
                replace hcell : ∃ u, w2.cell? ⟨gr, y * a + x, none⟩ = some (.int .i64 u) := ⟨_, hcell⟩
                obtain ⟨old, hcell⟩ := hcell
                have hst := hown.stored (y * a + x) (.int .i64 u)
                have hM1 := hM.grown hst.2 (own_blk_ne hown hM (by decide))
                have hR1 := hR.grown hst.2 (own_blk_ne hown hR (by decide))
                have hG1 := hG.grown hst.2 (own_blk_ne hown hG (by decide))
                have hbel1 := hbel.setCell (p := ⟨gr, y * a + x, none⟩) hle (.int .i64 u)
                have hown1 := hst.1
                rw [← List.map_set, List.set_set] at hown1
                have HH := Lib.hid (And.intro hM1 (And.intro hR1 (And.intro hG1 (And.intro hbel1 hown1))))
                clear hst hM1 hR1 hG1 hbel1 hown1 hM hR hG hown hbel
                go_wp2_with fail
                go_region
                all_goals
                  obtain ⟨hM, hR, hG, hbel, hown⟩ := HH.out
                  clear c0 c1 c2 hcell hfr m0 m1 m2 hcellp HH
                  go_wp2_with fail
                  go_roundw
                  case rel => exact ⟨y + 1, _, by omega, by go_num, by have := HF.out; rw [HU.out] at this; exact this, hM.drew, hR.drew, hG.drew, hown.drew, hbel.drew⟩
                  case measure => simp [intOf]; omega
              · have HBB := Lib.hid hbb
                have HU : Hid (shownF a bs p q false x y = v) := Lib.hid (by rw [hFF.out, hbb]; rfl)
                clear hFF hbb
                go_wp2_with fail
                refine (at_to a b x y bs _ _ _ _ HBB.out ha hb hltx hlt (hr.below hbel)).mono ?_
                rintro e w2 ⟨rfl, hb2⟩
                replace hM := hM.keep hb2
                replace hR := hR.keep hb2
                replace hG := hG.keep hb2
                replace hbel := below_then hbel hb2
                replace hown := own_below hown hb2
                clear c0 c1 c2 hb2
                go_wp2_with fail
                go_roundw
                case rel => exact ⟨y + 1, _, by omega, by go_num, by have := HF.out; rw [HU.out] at this; exact this, hM, hR, hG, hown, hbel⟩
                case measure => simp [intOf]; omega
          · obtain rfl : y = b := by omega
            go_wp2_with fail
            go_roundw
            case rel => exact ⟨x + 1, l, by omega, by go_num, hfill.col, hM, hR, hG, hown, hbel⟩
            case measure => simp [intOf]; omega
      · obtain rfl : x = a := by omega
        obtain ⟨m0, m1, m2⟩ := hM.cell3
        obtain ⟨r0, r1, r2⟩ := hR.cell3
        obtain ⟨f0, f1, f2⟩ := hR.frozen3
        obtain ⟨q0, q1, q2⟩ := (hR.set3 (.int .i64 x) (.int .i64 b) (.slice (some ⟨gr, 0, none⟩) (b * x) (b * x))).cell3
        go_wp2_with fail
        refine bodyPost_ret (v := .agg #[.int .i64 x, .int .i64 b, .slice (some ⟨gr, 0, none⟩) (b * x) (b * x)]) (by simp [results, Try.results63, go_sem, q0, q1, q2]) rfl ?_
        refine ⟨_, _, _, rfl, ?_, below_set3 hbel (by omega) _ _ _⟩
        have := own_set3 hown hR (by decide) (.int .i64 x) (.int .i64 b) (.slice (some ⟨gr, 0, none⟩) (b * x) (b * x))
        rw [hfill.tab_] at this
        exact this
set_option maxHeartbeats 4000000 in
set_option maxRecDepth 100000 in
theorem shown_true (a b : Nat) (bs : List Bool) (p q : List Int) (A Ap Aq : Option Addr) (c cp cq : Nat) (w : World) (ha1 : 1 ≤ a) (hb1 : 1 ≤ b) (ha : a ≤ 64) (hb : b ≤ 64) (hr : Rd w A (b * a) (bs.map Value.bool)) (hrp : Rd w Ap a (p.map (Value.int .i64))) (hrq : Rd w Aq b (q.map (Value.int .i64))) :
    Calls Try.prog 63 #[.agg #[.int .i64 a, .int .i64 b, .slice A (b * a) c], .slice Ap a cp, .slice Aq b cq, .bool true] w (RetJ ⟨a, b, Pl.tab a b (shownF a bs p q true)⟩ w) := by
  obtain ⟨i0, hi, hz0, hz1, hz2⟩ := info_parts Try.infoI
  have lp : p.length = a := by simpa using hrp.len
  have lq : q.length = b := by simpa using hrq.len
  have hba : b * a ≤ 4096 := Nat.mul_le_mul hb ha
  have hmul : (a : Int) * (b : Int) = ((b * a : Nat) : Int) := by rw [Nat.mul_comm]; exact (Int.natCast_mul a b).symm
  obtain ⟨hm0, hm1⟩ := mul_bound (p := (a : Int)) (q := (b : Int)) (by omega) (by omega) (by omega) (by omega)
  have S0 := ((St.start w).box #[.int .i64 a, .int .i64 b, .slice A (b * a) c] 40).box #[.int .i64 0, .int .i64 0, .slice none 0 0] 24
  simp only [size_alloc1, List.nil_append, List.cons_append] at S0
  obtain ⟨c0, c1, c2⟩ := (S0.blk 0 rfl).cell3
  have HM : Hid (IntKind.i64.wrap ((a : Int) * (b : Int)) = ((b * a : Nat) : Int)) := Lib.hid (by rw [IntWalk.i64_in _ (by omega)]; exact hmul)
  have LP := Lib.hid lp
  have LQ := Lib.hid lq
  have hmk := run_make_row' (P := Try.prog) 22 3 (.int .i64 0) 8 Try.underlying22 Try.infoI rfl .i64 .i64 (b * a) (by omega) (by omega)
  have hmk1 := hmk
  rw [← HM.out] at hmk1
  have hmk2 := hmk
  rw [← hmul] at hmk2
  clear hmul lp lq hmk
  go_enter Try.func63, Try.ntmps63
  go_wp2_with fail
  go_region_held3 (fun w' => w'.cell? ⟨w.heap.size, 0, none⟩ = some (.int .i64 a) ∧ w'.cell? ⟨w.heap.size, 1, none⟩ = some (.int .i64 b) ∧ w'.cell? ⟨w.heap.size, 2, none⟩ = some (.slice A (b * a) c))
    (first | exact ((S0.alloc _).drew.blk 0 rfl).cell3 | exact (((S0.alloc _).alloc _).drew.blk 0 rfl).cell3 | exact (S0.drew.blk 0 rfl).cell3 | go_keep)
    (fail)
  · have T := ((S0.box (madeCells #[.int .i64 0] (b * a)) 3).box #[.int .i64 a, .int .i64 b, .slice (some ⟨w.heap.size + 1 + 1, 0, none⟩) (b * a) (b * a)] 24).drew
    simp only [size_alloc1, List.nil_append, List.cons_append] at T
    have hG := T.blk 0 rfl
    have hR := T.blk 1 rfl
    have hO := T.blk 2 rfl
    have hM := T.blk 3 rfl
    have hB := T.below
    clear S0 T c0 c1 c2 hmk1 hmk2
    generalize hgm : w.heap.size + 1 + 1 + 1 = Bm at *
    generalize hgg : w.heap.size + 1 + 1 = gr at *
    have hle : w.heap.size ≤ gr := by omega
    have hown := own_of_blk hO hle (by rw [size_madeCells]; unfold maxLen; omega)
    rw [size_madeCells, ints_zero] at hown
    clear hO hgm hgg
    go_wp2_with fail
    go_loopw [10] (fun i wr => ∃ (x : Nat) (l : List Int), x ≤ a ∧ i = .int .i64 x ∧ Pl.Fill (b * a) b (fun x y => y * a + x) (shownF a bs p q true) l x 0 ∧ Blk wr Bm 24 #[.int .i64 a, .int .i64 b, .slice (some ⟨gr, 0, none⟩) (b * a) (b * a)] ∧ Blk wr (w.heap.size + 1) 24 #[.int .i64 0, .int .i64 0, .slice none 0 0] ∧ Blk wr w.heap.size 40 #[.int .i64 a, .int .i64 b, .slice A (b * a) c] ∧ wr.ownsRow w.heap.size 3 1 (.slice (some ⟨gr, 0, none⟩) (b * a) (b * a)) (b * a) (l.map (Value.int .i64)) ∧ Below w.heap.size w wr) (fun i _ => a - (intOf i).toNat)
    case atStart => exact ⟨0, _, Nat.zero_le _, rfl, Pl.Fill.start (by simp), hM, hR, hG, hown, hB⟩
    case round =>
      clear hM hR hG hown hB
      obtain ⟨x, l, hx, rfl, hfill, hM, hR, hG, hown, hbel⟩ := hrel
      obtain ⟨c0, c1, c2⟩ := hG.cell3
      by_cases hltx : x < a
      · go_wp2_with fail
        go_loopw [11] (fun i wr => ∃ (y : Nat) (l : List Int), y ≤ b ∧ i = .int .i64 y ∧ Pl.Fill (b * a) b (fun x y => y * a + x) (shownF a bs p q true) l x y ∧ Blk wr Bm 24 #[.int .i64 a, .int .i64 b, .slice (some ⟨gr, 0, none⟩) (b * a) (b * a)] ∧ Blk wr (w.heap.size + 1) 24 #[.int .i64 0, .int .i64 0, .slice none 0 0] ∧ Blk wr w.heap.size 40 #[.int .i64 a, .int .i64 b, .slice A (b * a) c] ∧ wr.ownsRow w.heap.size 3 1 (.slice (some ⟨gr, 0, none⟩) (b * a) (b * a)) (b * a) (l.map (Value.int .i64)) ∧ Below w.heap.size w wr) (fun i _ => b - (intOf i).toNat)
        case atStart => exact ⟨0, l, Nat.zero_le _, rfl, hfill, hM, hR, hG, hown, hbel⟩
        case round =>
          clear hfill hM hR hG hown hbel c0 c1 c2 l
          obtain ⟨y, l, hy, rfl, hfill, hM, hR, hG, hown, hbel⟩ := hrel
          obtain ⟨c0, c1, c2⟩ := hG.cell3
          by_cases hlt : y < b
          · have hcl := Pl.cell_lt (w := a) (h := b) hltx hlt
            have hF := hfill.set (W := a) (u := shownF a bs p q true x y) hltx hlt hcl (fun x' y' hx' hy' e => Pl.cell_inj hltx hx' e) rfl
            have hFF : Hid (shownF a bs p q true x y = if (bs.getD (y * a + x) false != true) = true then p.getD x 0 else q.getD y 0) := rfl
            have HF := Lib.hid hF
            clear hF
            obtain ⟨i0, i1, i2⟩ := idx_bounds ha hb hltx hlt
            obtain ⟨bp, op, hAp, hbp, hcp⟩ := (hrp.below hbel).at_ (by omega)
            obtain ⟨bq, oq, hAq, hbq, hcq⟩ := (hrq.below hbel).at_ (by omega)
            have hcellq := int_read LQ.out hlt hcq
            subst hAp hAq
            have hll : l.length = b * a := hfill.len
            have hcell := hown.cellAt (y * a + x) (by omega)
            have hfr := hown.frozenAt (y * a + x)
            rw [List.getElem?_map, List.getElem?_eq_getElem (by omega)] at hcell
            simp only [Option.map_some] at hcell
            replace hcell : ∃ u, wr.cell? ⟨gr, y * a + x, none⟩ = some (.int .i64 u) := ⟨_, hcell⟩
            obtain ⟨old, hcell⟩ := hcell
            obtain ⟨m0, m1, m2⟩ := hM.cell3
            have HPP := Lib.hid (int_read LP.out hltx hcp)
            generalize q.getD y 0 = v at *
            have hst := hown.stored (y * a + x) (.int .i64 v)
            have hM1 := hM.grown hst.2 (own_blk_ne hown hM (by decide))
            have hR1 := hR.grown hst.2 (own_blk_ne hown hR (by decide))
            have hG1 := hG.grown hst.2 (own_blk_ne hown hG (by decide))
            have hbel1 := hbel.setCell (p := ⟨gr, y * a + x, none⟩) hle (.int .i64 v)
            have hown1 := hst.1
            rw [← List.map_set] at hown1
            have HH := Lib.hid (And.intro hM1 (And.intro hR1 (And.intro hG1 (And.intro hbel1 hown1))))
            have HLL : Hid ((l.set (y * a + x) v).length = b * a) := Lib.hid (by rw [List.length_set]; exact hll)
            clear hst hM1 hR1 hG1 hbel1 hown1 hM hR hG hown hcp hcq hfill hll
            go_wp2_with fail
            go_region
            all_goals
              obtain ⟨hM, hR, hG, hbel, hown⟩ := HH.out
              replace hM := hM.drew
              replace hR := hR.drew
              replace hG := hG.drew
              replace hbel := hbel.drew
              replace hown := hown.drew
              clear c0 c1 c2 hcell hfr m0 m1 m2 hcellq HH
              obtain ⟨c0, c1, c2⟩ := hG.cell3
              rcases Bool.eq_false_or_eq_true (bs.getD (y * a + x) false) with hbb | hbb
              · have HBB := Lib.hid hbb
                have HU : Hid (shownF a bs p q true x y = v) := Lib.hid (by rw [hFF.out, hbb]; rfl)
                clear hFF hbb
                go_wp2_with fail
                refine (at_to a b x y bs _ _ _ _ HBB.out ha hb hltx hlt (hr.below hbel)).mono ?_
                rintro e w2 ⟨rfl, hb2⟩
                replace hM := hM.keep hb2
                replace hR := hR.keep hb2
                replace hG := hG.keep hb2
                replace hbel := below_then hbel hb2
                replace hown := own_below hown hb2
                clear c0 c1 c2 hb2
                go_wp2_with fail
                go_roundw
                case rel => exact ⟨y + 1, _, by omega, by go_num, by have := HF.out; rw [HU.out] at this; exact this, hM, hR, hG, hown, hbel⟩
                case measure => simp [intOf]; omega
              · have HBB := Lib.hid hbb
                have HU : Hid (shownF a bs p q true x y = p.getD x 0) := Lib.hid (by rw [hFF.out, hbb]; rfl)
                clear hFF hbb
                go_wp2_with fail
                refine (at_to a b x y bs _ _ _ _ HBB.out ha hb hltx hlt (hr.below hbel)).mono ?_
                rintro e w2 ⟨rfl, hb2⟩
                replace hM := hM.keep hb2
                replace hR := hR.keep hb2
                replace hG := hG.keep hb2
                replace hbel := below_then hbel hb2
                replace hown := own_below hown hb2
                clear c0 c1 c2 hb2
                have hcellp := int_read LP.out hltx (hrp.below hbel).lit
                obtain ⟨m0, m1, m2⟩ := hM.cell3
                obtain ⟨c0, c1, c2⟩ := hG.cell3
                generalize p.getD x 0 = u at *
                have hcell := hown.cellAt (y * a + x) (by omega)
                have hfr := hown.frozenAt (y * a + x)
                rw [List.getElem?_map, List.getElem?_eq_getElem (by rw [HLL.out]; omega)] at hcell
                simp only [Option.map_some] at hcell
                replace hcell : ∃ u, w2.cell? ⟨gr, y * a + x, none⟩ = some (.int .i64 u) := ⟨_, hcell⟩
                obtain ⟨old, hcell⟩ := hcell
                have hst := hown.stored (y * a + x) (.int .i64 u)
                have hM1 := hM.grown hst.2 (own_blk_ne hown hM (by decide))
                have hR1 := hR.grown hst.2 (own_blk_ne hown hR (by decide))
                have hG1 := hG.grown hst.2 (own_blk_ne hown hG (by decide))
                have hbel1 := hbel.setCell (p := ⟨gr, y * a + x, none⟩) hle (.int .i64 u)
                have hown1 := hst.1
                rw [← List.map_set, List.set_set] at hown1
                have HH := Lib.hid (And.intro hM1 (And.intro hR1 (And.intro hG1 (And.intro hbel1 hown1))))
                clear hst hM1 hR1 hG1 hbel1 hown1 hM hR hG hown hbel
                go_wp2_with fail
                go_region
                all_goals
                  obtain ⟨hM, hR, hG, hbel, hown⟩ := HH.out
                  clear c0 c1 c2 hcell hfr m0 m1 m2 hcellp HH
                  go_wp2_with fail
                  go_roundw
                  case rel => exact ⟨y + 1, _, by omega, by go_num, by have := HF.out; rw [HU.out] at this; exact this, hM.drew, hR.drew, hG.drew, hown.drew, hbel.drew⟩
                  case measure => simp [intOf]; omega
          · obtain rfl : y = b := by omega
            go_wp2_with fail
            go_roundw
            case rel => exact ⟨x + 1, l, by omega, by go_num, hfill.col, hM, hR, hG, hown, hbel⟩
            case measure => simp [intOf]; omega
      · obtain rfl : x = a := by omega
        obtain ⟨m0, m1, m2⟩ := hM.cell3
        obtain ⟨r0, r1, r2⟩ := hR.cell3
        obtain ⟨f0, f1, f2⟩ := hR.frozen3
        obtain ⟨q0, q1, q2⟩ := (hR.set3 (.int .i64 x) (.int .i64 b) (.slice (some ⟨gr, 0, none⟩) (b * x) (b * x))).cell3
        go_wp2_with fail
        refine bodyPost_ret (v := .agg #[.int .i64 x, .int .i64 b, .slice (some ⟨gr, 0, none⟩) (b * x) (b * x)]) (by simp [results, Try.results63, go_sem, q0, q1, q2]) rfl ?_
        refine ⟨_, _, _, rfl, ?_, below_set3 hbel (by omega) _ _ _⟩
        have := own_set3 hown hR (by decide) (.int .i64 x) (.int .i64 b) (.slice (some ⟨gr, 0, none⟩) (b * x) (b * x))
        rw [hfill.tab_] at this
        exact this
  · have T := ((S0.box #[.int .i64 a, .int .i64 b, .slice (some ⟨w.heap.size + 1 + 1 + 1, 0, none⟩) (b * a) (b * a)] 24).box (madeCells #[.int .i64 0] (b * a)) 3).drew
    simp only [size_alloc1, List.nil_append, List.cons_append] at T
    have hG := T.blk 0 rfl
    have hR := T.blk 1 rfl
    have hM := T.blk 2 rfl
    have hO := T.blk 3 rfl
    have hB := T.below
    clear S0 T c0 c1 c2 hmk1 hmk2
    generalize hgm : w.heap.size + 1 + 1 + 1 = gr at *
    generalize hgg : w.heap.size + 1 + 1 = Bm at *
    have hle : w.heap.size ≤ gr := by omega
    have hown := own_of_blk hO hle (by rw [size_madeCells]; unfold maxLen; omega)
    rw [size_madeCells, ints_zero] at hown
    clear hO hgm hgg
    go_wp2_with fail
    go_loopw [10] (fun i wr => ∃ (x : Nat) (l : List Int), x ≤ a ∧ i = .int .i64 x ∧ Pl.Fill (b * a) b (fun x y => y * a + x) (shownF a bs p q true) l x 0 ∧ Blk wr Bm 24 #[.int .i64 a, .int .i64 b, .slice (some ⟨gr, 0, none⟩) (b * a) (b * a)] ∧ Blk wr (w.heap.size + 1) 24 #[.int .i64 0, .int .i64 0, .slice none 0 0] ∧ Blk wr w.heap.size 40 #[.int .i64 a, .int .i64 b, .slice A (b * a) c] ∧ wr.ownsRow w.heap.size 3 1 (.slice (some ⟨gr, 0, none⟩) (b * a) (b * a)) (b * a) (l.map (Value.int .i64)) ∧ Below w.heap.size w wr) (fun i _ => a - (intOf i).toNat)
    case atStart => exact ⟨0, _, Nat.zero_le _, rfl, Pl.Fill.start (by simp), hM, hR, hG, hown, hB⟩
    case round =>
      clear hM hR hG hown hB
      obtain ⟨x, l, hx, rfl, hfill, hM, hR, hG, hown, hbel⟩ := hrel
      obtain ⟨c0, c1, c2⟩ := hG.cell3
      by_cases hltx : x < a
      · go_wp2_with fail
        go_loopw [11] (fun i wr => ∃ (y : Nat) (l : List Int), y ≤ b ∧ i = .int .i64 y ∧ Pl.Fill (b * a) b (fun x y => y * a + x) (shownF a bs p q true) l x y ∧ Blk wr Bm 24 #[.int .i64 a, .int .i64 b, .slice (some ⟨gr, 0, none⟩) (b * a) (b * a)] ∧ Blk wr (w.heap.size + 1) 24 #[.int .i64 0, .int .i64 0, .slice none 0 0] ∧ Blk wr w.heap.size 40 #[.int .i64 a, .int .i64 b, .slice A (b * a) c] ∧ wr.ownsRow w.heap.size 3 1 (.slice (some ⟨gr, 0, none⟩) (b * a) (b * a)) (b * a) (l.map (Value.int .i64)) ∧ Below w.heap.size w wr) (fun i _ => b - (intOf i).toNat)
        case atStart => exact ⟨0, l, Nat.zero_le _, rfl, hfill, hM, hR, hG, hown, hbel⟩
        case round =>
          clear hfill hM hR hG hown hbel c0 c1 c2 l
          obtain ⟨y, l, hy, rfl, hfill, hM, hR, hG, hown, hbel⟩ := hrel
          obtain ⟨c0, c1, c2⟩ := hG.cell3
          by_cases hlt : y < b
          · have hcl := Pl.cell_lt (w := a) (h := b) hltx hlt
            have hF := hfill.set (W := a) (u := shownF a bs p q true x y) hltx hlt hcl (fun x' y' hx' hy' e => Pl.cell_inj hltx hx' e) rfl
            have hFF : Hid (shownF a bs p q true x y = if (bs.getD (y * a + x) false != true) = true then p.getD x 0 else q.getD y 0) := rfl
            have HF := Lib.hid hF
            clear hF
            obtain ⟨i0, i1, i2⟩ := idx_bounds ha hb hltx hlt
            obtain ⟨bp, op, hAp, hbp, hcp⟩ := (hrp.below hbel).at_ (by omega)
            obtain ⟨bq, oq, hAq, hbq, hcq⟩ := (hrq.below hbel).at_ (by omega)
            have hcellq := int_read LQ.out hlt hcq
            subst hAp hAq
            have hll : l.length = b * a := hfill.len
            have hcell := hown.cellAt (y * a + x) (by omega)
            have hfr := hown.frozenAt (y * a + x)
            rw [List.getElem?_map, List.getElem?_eq_getElem (by omega)] at hcell
            simp only [Option.map_some] at hcell
            replace hcell : ∃ u, wr.cell? ⟨gr, y * a + x, none⟩ = some (.int .i64 u) := ⟨_, hcell⟩
            obtain ⟨old, hcell⟩ := hcell
            obtain ⟨m0, m1, m2⟩ := hM.cell3
            have HPP := Lib.hid (int_read LP.out hltx hcp)
            generalize q.getD y 0 = v at *
            have hst := hown.stored (y * a + x) (.int .i64 v)
            have hM1 := hM.grown hst.2 (own_blk_ne hown hM (by decide))
            have hR1 := hR.grown hst.2 (own_blk_ne hown hR (by decide))
            have hG1 := hG.grown hst.2 (own_blk_ne hown hG (by decide))
            have hbel1 := hbel.setCell (p := ⟨gr, y * a + x, none⟩) hle (.int .i64 v)
            have hown1 := hst.1
            rw [← List.map_set] at hown1
            have HH := Lib.hid (And.intro hM1 (And.intro hR1 (And.intro hG1 (And.intro hbel1 hown1))))
            have HLL : Hid ((l.set (y * a + x) v).length = b * a) := Lib.hid (by rw [List.length_set]; exact hll)
            clear hst hM1 hR1 hG1 hbel1 hown1 hM hR hG hown hcp hcq hfill hll
            go_wp2_with fail
            go_region
            all_goals
              obtain ⟨hM, hR, hG, hbel, hown⟩ := HH.out
              replace hM := hM.drew
              replace hR := hR.drew
              replace hG := hG.drew
              replace hbel := hbel.drew
              replace hown := hown.drew
              clear c0 c1 c2 hcell hfr m0 m1 m2 hcellq HH
              obtain ⟨c0, c1, c2⟩ := hG.cell3
              rcases Bool.eq_false_or_eq_true (bs.getD (y * a + x) false) with hbb | hbb
              · have HBB := Lib.hid hbb
                have HU : Hid (shownF a bs p q true x y = v) := Lib.hid (by rw [hFF.out, hbb]; rfl)
                clear hFF hbb
                go_wp2_with fail
                refine (at_to a b x y bs _ _ _ _ HBB.out ha hb hltx hlt (hr.below hbel)).mono ?_
                rintro e w2 ⟨rfl, hb2⟩
                replace hM := hM.keep hb2
                replace hR := hR.keep hb2
                replace hG := hG.keep hb2
                replace hbel := below_then hbel hb2
                replace hown := own_below hown hb2
                clear c0 c1 c2 hb2
                go_wp2_with fail
                go_roundw
                case rel => exact ⟨y + 1, _, by omega, by go_num, by have := HF.out; rw [HU.out] at this; exact this, hM, hR, hG, hown, hbel⟩
                case measure => simp [intOf]; omega
              · have HBB := Lib.hid hbb
                have HU : Hid (shownF a bs p q true x y = p.getD x 0) := Lib.hid (by rw [hFF.out, hbb]; rfl)
                clear hFF hbb
                go_wp2_with fail
                refine (at_to a b x y bs _ _ _ _ HBB.out ha hb hltx hlt (hr.below hbel)).mono ?_
                rintro e w2 ⟨rfl, hb2⟩
                replace hM := hM.keep hb2
                replace hR := hR.keep hb2
                replace hG := hG.keep hb2
                replace hbel := below_then hbel hb2
                replace hown := own_below hown hb2
                clear c0 c1 c2 hb2
                have hcellp := int_read LP.out hltx (hrp.below hbel).lit
                obtain ⟨m0, m1, m2⟩ := hM.cell3
                obtain ⟨c0, c1, c2⟩ := hG.cell3
                generalize p.getD x 0 = u at *
                have hcell := hown.cellAt (y * a + x) (by omega)
                have hfr := hown.frozenAt (y * a + x)
                rw [List.getElem?_map, List.getElem?_eq_getElem (by rw [HLL.out]; omega)] at hcell
                simp only [Option.map_some] at hcell
                replace hcell : ∃ u, w2.cell? ⟨gr, y * a + x, none⟩ = some (.int .i64 u) := ⟨_, hcell⟩
                obtain ⟨old, hcell⟩ := hcell
                have hst := hown.stored (y * a + x) (.int .i64 u)
                have hM1 := hM.grown hst.2 (own_blk_ne hown hM (by decide))
                have hR1 := hR.grown hst.2 (own_blk_ne hown hR (by decide))
                have hG1 := hG.grown hst.2 (own_blk_ne hown hG (by decide))
                have hbel1 := hbel.setCell (p := ⟨gr, y * a + x, none⟩) hle (.int .i64 u)
                have hown1 := hst.1
                rw [← List.map_set, List.set_set] at hown1
                have HH := Lib.hid (And.intro hM1 (And.intro hR1 (And.intro hG1 (And.intro hbel1 hown1))))
                clear hst hM1 hR1 hG1 hbel1 hown1 hM hR hG hown hbel
                go_wp2_with fail
                go_region
                all_goals
                  obtain ⟨hM, hR, hG, hbel, hown⟩ := HH.out
                  clear c0 c1 c2 hcell hfr m0 m1 m2 hcellp HH
                  go_wp2_with fail
                  go_roundw
                  case rel => exact ⟨y + 1, _, by omega, by go_num, by have := HF.out; rw [HU.out] at this; exact this, hM.drew, hR.drew, hG.drew, hown.drew, hbel.drew⟩
                  case measure => simp [intOf]; omega
          · obtain rfl : y = b := by omega
            go_wp2_with fail
            go_roundw
            case rel => exact ⟨x + 1, l, by omega, by go_num, hfill.col, hM, hR, hG, hown, hbel⟩
            case measure => simp [intOf]; omega
      · obtain rfl : x = a := by omega
        obtain ⟨m0, m1, m2⟩ := hM.cell3
        obtain ⟨r0, r1, r2⟩ := hR.cell3
        obtain ⟨f0, f1, f2⟩ := hR.frozen3
        obtain ⟨q0, q1, q2⟩ := (hR.set3 (.int .i64 x) (.int .i64 b) (.slice (some ⟨gr, 0, none⟩) (b * x) (b * x))).cell3
        go_wp2_with fail
        refine bodyPost_ret (v := .agg #[.int .i64 x, .int .i64 b, .slice (some ⟨gr, 0, none⟩) (b * x) (b * x)]) (by simp [results, Try.results63, go_sem, q0, q1, q2]) rfl ?_
        refine ⟨_, _, _, rfl, ?_, below_set3 hbel (by omega) _ _ _⟩
        have := own_set3 hown hR (by decide) (.int .i64 x) (.int .i64 b) (.slice (some ⟨gr, 0, none⟩) (b * x) (b * x))
        rw [hfill.tab_] at this
        exact this
end Go.Proofs.Ytefeghpglacghaa
