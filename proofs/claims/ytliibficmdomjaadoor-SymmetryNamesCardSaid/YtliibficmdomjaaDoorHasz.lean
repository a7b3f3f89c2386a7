/- symmetry.Has. -/
import Derived.Test.YtliibficmdomjaaDoorMg6z
import Derived.Test.YtliibficmdomjaaDoorMg8z
import Derived.Test.YtliibficmdomjaaDoorOffsetz
import Derived.Test.YtliibficmdomjaaDoorMg9z
import Derived.BigRegion
namespace Go.Proofs.YtliibficmdomjaaDoor
open Go.RowKit

set_option maxHeartbeats 2000000 in
set_option maxRecDepth 100000 in
theorem has_any (g : Gd) (op : Int) (A : Option Addr) (n c : Nat) (w : World) (hr : Rd w A n (g.bits.map Value.bool)) (hcc : n ≤ c) :
    Calls Tryd.prog 20 #[.agg #[.int .i64 g.w, .int .i64 g.h, .slice A n c], .int .i64 op] w (HasRet g op w) := by
  obtain ⟨W, H, bs⟩ := g
  simp only at hr ⊢
  have hn : bs.length = n := by simpa using hr.len
  have hs : startG ⟨W, H, bs⟩ = startN W H n := startG_n hn
  have S0 := (((St.start w).addRd hr).box #[.int .i64 W, .int .i64 H, .slice A n c] 24).box #[.int .i64 0, .int .i64 0] 43
  have S0 := S0.box #[.int .i64 W, .int .i64 H, .slice A n c] 24
  simp only [size_alloc1, List.nil_append, List.cons_append] at S0
  obtain ⟨c0, c1, c2⟩ := (S0.blk 1 rfl).cell3
  by_cases hc : startN W H n = 0
  · obtain ⟨hc1, _, _⟩ := startN_zero hc
    obtain ⟨a, b, rfl, rfl, ha1, ha, hbb, hb, rfl⟩ := chk_zero hc1
    clear hc1
    have hcb : (startN (a : Int) (b : Int) (b * a) != 0) = false := by simpa using hc
    have hs0 : startG ⟨a, b, bs⟩ = 0 := by rw [hs]; exact hc
    by_cases ho : 0 ≤ op ∧ op < 16
    · obtain ⟨op, rfl⟩ : ∃ k : Nat, op = (k : Int) := ⟨op.toNat, by omega⟩
      have ho' : op < 16 := by omega
      have HD : Hid (decide ((0 : Int) ≤ (op : Int) ∧ (op : Int) < 16) = true) := Lib.hid (by simp; omega)
      have hn1 : 0 < b * a := Nat.mul_pos hbb ha1
      obtain ⟨bl, o, rfl, hbl, hcs⟩ := hr.at_ hn1
      have HA := Lib.hid (fun WW h => applied_any a b op bl o c bs WW ha1 hbb ha hb ho' h)
      have HOK := Lib.hid (fun px py pe hR => hasR_ok (px := px) (py := py) (pe := pe) hs0 ho' hR)
      clear hs hc ho hcs hs0 ho'
      generalize b * a = n at *
      generalize appG a b bs op = gk at *
      go_enter Tryd.func20, Tryd.ntmps20
      go_wp2_with fail
      refine (check1_any _ _ _ _ _ _ _ _ (S0.blk 3 rfl)).mono ?_
      rintro e wr ⟨rfl, hb1⟩
      have S := S0.keep hb1
      clear c0 c1 c2
      obtain ⟨c0, c1, c2⟩ := (S.blk 1 rfl).cell3
      go_wp2_with fail
      refine (is7_to _ _ HD.out).mono ?_
      rintro e w2 ⟨rfl, hw2⟩
      have hw3 := hw2.symm
      subst hw3
      clear c0 c1 c2 hw2
      have HB := (Below.refl wr.heap.size wr).drew
      have HBa := ((Below.refl wr.heap.size wr).alloc (Nat.le_refl _) (.cells #[.int .i64 0, .int .i64 0] 43)).drew
      have hpa := (Blk.new wr 43 #[.int .i64 0, .int .i64 0]).drew
      go_wp2_with fail
      go_region_held3 (fun w' => w'.cell? ⟨w.heap.size, 0, none⟩ = some (.int .i64 a) ∧ w'.cell? ⟨w.heap.size, 1, none⟩ = some (.int .i64 b) ∧ w'.cell? ⟨w.heap.size, 2, none⟩ = some (.slice (some ⟨bl, o, none⟩) n c))
        (first | exact ((S.keep HB).blk 1 rfl).cell3 | exact ((S.keep HBa).blk 1 rfl).cell3 | exact ((S.keep (HB.alloc HB.size _)).blk 1 rfl).cell3 | (rw [← hwe]; exact ((S.keep HE).blk 1 rfl).cell3) | go_keep)
        (first
          | (go_at_call 33; ((with_reducible refine (HA.out _ ((S.keep HB).rd 0 rfl)).mono ?_); rintro ez wz ⟨A5, n5, c5, rfl, hown5, hb5⟩; replace HB := below_then HB hb5; have hr5 := rd_of_own hown5; have hc5 := own_le hown5))
          | (go_at_call 33; ((with_reducible refine (HA.out _ ((S.keep HBa).rd 0 rfl)).mono ?_); rintro ez wz ⟨A5, n5, c5, rfl, hown5, hb5⟩; replace HB := below_then HBa hb5; have hp := hpa.keep hb5; have hr5 := rd_of_own hown5; have hc5 := own_le hown5))
          | (go_at_call 18; ((with_reducible refine (offset_any ⟨a, b, bs⟩ gk (some ⟨bl, o, none⟩) A5 n c n5 c5 _ ((S.keep HB).rd 0 rfl) hr5 hcc hc5).mono ?_); rintro ez wy ⟨⟨⟨px, py⟩, pe⟩, hR, rfl, hb7⟩; replace HB := below_then HB hb7; (first | (replace hp := hp.keep hb7; obtain ⟨pc0, pc1⟩ := hp.cellP; obtain ⟨pf0, pf1⟩ := hp.frozenP; obtain ⟨we, hwe⟩ : ∃ q, q = (wy.setCell ⟨wr.heap.size, 0, none⟩ (.int .i64 px)).setCell ⟨wr.heap.size, 1, none⟩ (.int .i64 py) := ⟨_, rfl⟩; have HE : Below wr.heap.size wr we := by (rw [hwe]; exact below_setP HB (Nat.le_refl wr.heap.size) _ _)) | (obtain ⟨we, hwe⟩ : ∃ q, q = wy.alloc (.cells #[.int .i64 px, .int .i64 py] 43) := ⟨_, rfl⟩; have HE : Below wr.heap.size wr we := by (rw [hwe]; exact HB.alloc HB.size _)))))
          | (go_at_call 18; ((with_reducible refine (offset_any ⟨a, b, bs⟩ gk (some ⟨bl, o, none⟩) A5 n c n5 c5 _ ((S.keep (HB.alloc HB.size _)).rd 0 rfl) (hr5.alloc _) hcc hc5).mono ?_); rintro ez wy ⟨⟨⟨px, py⟩, pe⟩, hR, rfl, hb7⟩; have hle := HB.size; replace HB := below_then (HB.alloc HB.size _) hb7; have hp := (Blk.new wz 43 #[.int .i64 0, .int .i64 0]).keep hb7; obtain ⟨pc0, pc1⟩ := hp.cellP; obtain ⟨pf0, pf1⟩ := hp.frozenP; obtain ⟨we, hwe⟩ : ∃ q, q = (wy.setCell ⟨wz.heap.size, 0, none⟩ (.int .i64 px)).setCell ⟨wz.heap.size, 1, none⟩ (.int .i64 py) := ⟨_, rfl⟩; have HE : Below wr.heap.size wr we := by (rw [hwe]; exact below_setP HB hle _ _)))
          | fail)
      all_goals
        rw [← hwe]
        first
          | (have hP := hp.setP (.int .i64 px) (.int .i64 py); rw [← hwe] at hP)
          | (have hP := Blk.new wy 43 #[.int .i64 px, .int .i64 py]; rw [← hwe] at hP)
        clear hwe HB HBa hpa hr5 hc5 hown5 hb5 hb7
        try clear hp pc0 pc1 pf0 pf1
        have HR := Lib.hid hR
        have S9 := S.keep HE
        clear hR HE S
        obtain ⟨p0, p1⟩ := hP.cellP
        obtain ⟨r0, r1⟩ := (S9.blk 2 rfl).cellP
        obtain ⟨f0, f1⟩ := (S9.blk 2 rfl).frozenP
        obtain ⟨q0, q1⟩ := ((S9.blk 2 rfl).setP (.int .i64 px) (.int .i64 py)).cellP
        have hB9 := below_setP S9.below (show w.heap.size ≤ w.heap.size + 1 by omega) (.int .i64 px) (.int .i64 py)
        by_cases he : pe = 0
        · have HQ : Hid (HasR ⟨a, b, bs⟩ (op : Int) ((true, px, py), 0)) := Lib.hid (by have := HOK.out px py pe HR.out; rw [decide_eq_true he] at this; exact this)
          clear HR
          go_wp2_with fail
          go_region
          all_goals
            go_wp2_with fail
            refine bodyPost_ret (v := .tuple #[.bool true, .agg #[.int .i64 px, .int .i64 py], .int .i64 0]) (by simp [results, Tryd.results20, go_sem, q0, q1]) rfl ?_
            exact ⟨((true, px, py), 0), HQ.out, rfl, hB9.drew⟩
        · have HQ : Hid (HasR ⟨a, b, bs⟩ (op : Int) ((false, px, py), 0)) := Lib.hid (by have := HOK.out px py pe HR.out; rw [decide_eq_false he] at this; exact this)
          clear HR
          go_wp2_with fail
          go_region
          all_goals
            go_wp2_with fail
            refine bodyPost_ret (v := .tuple #[.bool false, .agg #[.int .i64 px, .int .i64 py], .int .i64 0]) (by simp [results, Tryd.results20, go_sem, q0, q1, he]) rfl ?_
            exact ⟨((false, px, py), 0), HQ.out, rfl, hB9.drew⟩
    · have HD : Hid (decide (0 ≤ op ∧ op < 16) = false) := Lib.hid (by simpa using ho)
      have HQ := Lib.hid (hasR_arg hs0 (show op < 0 ∨ 16 ≤ op by omega))
      clear hs hc ho hs0
      go_enter Tryd.func20, Tryd.ntmps20
      go_wp2_with fail
      refine (check1_any _ _ _ _ _ _ _ _ (S0.blk 3 rfl)).mono ?_
      rintro e w1 ⟨rfl, hb1⟩
      have S := S0.keep hb1
      clear c0 c1 c2
      obtain ⟨c0, c1, c2⟩ := (S.blk 1 rfl).cell3
      go_wp2_with fail
      refine (is7_to _ _ HD.out).mono ?_
      rintro e w2 ⟨rfl, rfl⟩
      clear c0 c1 c2
      obtain ⟨r0, r1⟩ := (S.blk 2 rfl).cellP
      obtain ⟨f0, f1⟩ := (S.blk 2 rfl).frozenP
      obtain ⟨q0, q1⟩ := ((S.blk 2 rfl).setP (.int .i64 0) (.int .i64 0)).cellP
      go_wp2_with fail
      refine bodyPost_ret (v := .tuple #[.bool false, .agg #[.int .i64 0, .int .i64 0], .int .i64 2]) (by simp [results, Tryd.results20, go_sem, q0, q1]) rfl ?_
      exact ⟨((false, 0, 0), 2), HQ.out, rfl, below_setP S.below (by omega) _ _⟩
  · have hcb : (startN W H n != 0) = true := by simpa using hc
    have HQ := Lib.hid (hasR_bad (op := op) hs hc)
    clear hs hc
    go_enter Tryd.func20, Tryd.ntmps20
    go_wp2_with fail
    refine (check1_any _ _ _ _ _ _ _ _ (S0.blk 3 rfl)).mono ?_
    rintro e w1 ⟨rfl, hb1⟩
    have S := S0.keep hb1
    clear c0 c1 c2
    obtain ⟨c0, c1, c2⟩ := (S.blk 1 rfl).cell3
    clear c0 c1 c2
    obtain ⟨r0, r1⟩ := (S.blk 2 rfl).cellP
    obtain ⟨f0, f1⟩ := (S.blk 2 rfl).frozenP
    obtain ⟨q0, q1⟩ := ((S.blk 2 rfl).setP (.int .i64 0) (.int .i64 0)).cellP
    go_wp2_with fail
    refine bodyPost_ret (v := .tuple #[.bool false, .agg #[.int .i64 0, .int .i64 0], .int .i64 (startN W H n)]) (by simp [results, Tryd.results20, go_sem, q0, q1]) rfl ?_
    exact ⟨((false, 0, 0), (startN W H n)), HQ.out, rfl, below_setP S.below (by omega) _ _⟩
end Go.Proofs.YtliibficmdomjaaDoor
