/- symmetry.Apply: an operation applied to any grid. -/
import Derived.Test.YtliibficmdomjaaDoorMg10z
import Derived.Test.YtliibficmdomjaaDoorSCheckz
namespace Go.Proofs.YtliibficmdomjaaDoor
open Go.RowKit

set_option maxHeartbeats 1000000 in
theorem apply_any (g : Gd) (op : Int) (A : Option Addr) (n c : Nat) (w : World) (hr : Rd w A n (g.bits.map Value.bool)) :
    Calls Tryd.prog 12 #[.agg #[.int .i64 g.w, .int .i64 g.h, .slice A n c], .int .i64 op] w (RetG (applyG g op) w) := by
  obtain ⟨W, H, bs⟩ := g
  simp only at hr ⊢
  have hn : bs.length = n := by simpa using hr.len
  have hs : startG ⟨W, H, bs⟩ = startN W H n := startG_n hn
  have S0 := (((St.start w).addRd hr).box #[.int .i64 W, .int .i64 H, .slice A n c] 24).box #[.int .i64 0, .int .i64 0, .slice none 0 0] 24
  have S0 := S0.box #[.int .i64 W, .int .i64 H, .slice A n c] 24
  simp only [size_alloc1, List.nil_append, List.cons_append] at S0
  obtain ⟨c0, c1, c2⟩ := (S0.blk 1 rfl).cell3
  by_cases hc : startN W H n = 0
  · obtain ⟨hc1, _, _⟩ := startN_zero hc
    obtain ⟨a, b, rfl, rfl, ha1, ha, hbb, hb, rfl⟩ := chk_zero hc1
    clear hc1
    have hcb : (startN (a : Int) (b : Int) (b * a) != 0) = false := by simpa using hc
    by_cases ho : 0 ≤ op ∧ op < 16
    · obtain ⟨op, rfl⟩ : ∃ k : Nat, op = (k : Int) := ⟨op.toNat, by omega⟩
      have hv : applyG ⟨a, b, bs⟩ (op : Int) = (appG a b bs op, 0) := by
        unfold applyG; rw [if_neg (by omega), if_neg (by omega)]; simp
      rw [hv]
      have ho' : op < 16 := by omega
      have hd : decide ((0 : Int) ≤ (op : Int) ∧ (op : Int) < 16) = true := by simp; omega
      have hn1 : 0 < b * a := Nat.mul_pos hbb ha1
      obtain ⟨bl, o, rfl, hbl, hcs⟩ := hr.at_ hn1
      have HA := Lib.hid (fun WW h => applied_any a b op bl o c bs WW ha1 hbb ha hb ho' h)
      have HD := Lib.hid hd
      clear hs hc hv ho hcs hd
      generalize b * a = n at *
      generalize appG a b bs op = r at *
      obtain ⟨x, y, l⟩ := r
      go_enter Tryd.func12, Tryd.ntmps12
      go_wp2_with fail
      refine (check1_any _ _ _ _ _ _ _ _ (S0.blk 3 rfl)).mono ?_
      rintro e w1 ⟨rfl, hb1⟩
      have S1 := S0.keep hb1
      clear c0 c1 c2
      obtain ⟨c0, c1, c2⟩ := (S1.blk 1 rfl).cell3
      go_wp2_with fail
      refine (is7_to _ _ HD.out).mono ?_
      rintro e w2 ⟨rfl, rfl⟩
      go_wp2_with fail
      refine (HA.out _ (S1.rd 0 rfl)).mono ?_
      rintro e w2 ⟨A2, n2, cc, rfl, hown2, hb2⟩
      simp only at hown2 ⊢
      have hz := (S1.keep hb2).blk 2 rfl
      have hB := (S1.keep hb2).below
      clear c0 c1 c2 HA
      obtain ⟨r0, r1, r2⟩ := hz.cell3
      obtain ⟨f0, f1, f2⟩ := hz.frozen3
      obtain ⟨q0, q1, q2⟩ := (hz.set3 (.int .i64 x) (.int .i64 y) (.slice A2 n2 cc)).cell3
      go_wp2_with fail
      refine bodyPost_ret (v := .tuple #[.agg #[.int .i64 x, .int .i64 y, .slice A2 n2 cc], .int .i64 0]) (by simp [results, Tryd.results12, go_sem, q0, q1, q2]) rfl ?_
      exact ⟨A2, n2, cc, rfl, own_set3 (own_base hown2 S1.size) hz (by decide) _ _ _, below_set3 hB (by omega) _ _ _⟩
    · have hv : applyG ⟨a, b, bs⟩ op = (Gd.zero, 2) := by
        unfold applyG; rw [if_neg (by omega), if_pos (by omega)]
      rw [hv]
      have hd : decide (0 ≤ op ∧ op < 16) = false := by simpa using ho
      have HD := Lib.hid hd
      clear hs hc hv ho hd
      go_enter Tryd.func12, Tryd.ntmps12
      go_wp2_with fail
      refine (check1_any _ _ _ _ _ _ _ _ (S0.blk 3 rfl)).mono ?_
      rintro e w1 ⟨rfl, hb1⟩
      have S1 := S0.keep hb1
      clear c0 c1 c2
      obtain ⟨c0, c1, c2⟩ := (S1.blk 1 rfl).cell3
      go_wp2_with fail
      refine (is7_to _ _ HD.out).mono ?_
      rintro e w2 ⟨rfl, rfl⟩
      have hz := S1.blk 2 rfl
      clear c0 c1 c2
      obtain ⟨r0, r1, r2⟩ := hz.cell3
      obtain ⟨f0, f1, f2⟩ := hz.frozen3
      obtain ⟨q0, q1, q2⟩ := (hz.set3 (.int .i64 0) (.int .i64 0) (.slice none 0 0)).cell3
      go_wp2_with fail
      refine bodyPost_ret (v := .tuple #[.agg #[.int .i64 0, .int .i64 0, .slice none 0 0], .int .i64 2]) (by simp [results, Tryd.results12, go_sem, q0, q1, q2]) rfl ?_
      exact bad_ret rfl (below_set3 S1.below (by omega) _ _ _)
  · have hcb : (startN W H n != 0) = true := by simpa using hc
    have hv : applyG ⟨W, H, bs⟩ op = (Gd.zero, startN W H n) := by
      unfold applyG; rw [hs, if_pos hc]
    rw [hv]
    clear hs hc hv
    go_enter Tryd.func12, Tryd.ntmps12
    go_wp2_with fail
    refine (check1_any _ _ _ _ _ _ _ _ (S0.blk 3 rfl)).mono ?_
    rintro e w1 ⟨rfl, hb1⟩
    have S1 := S0.keep hb1
    clear c0 c1 c2
    obtain ⟨c0, c1, c2⟩ := (S1.blk 1 rfl).cell3
    have hz := S1.blk 2 rfl
    have hB := S1.below
    clear c0 c1 c2
    obtain ⟨r0, r1, r2⟩ := hz.cell3
    obtain ⟨f0, f1, f2⟩ := hz.frozen3
    obtain ⟨q0, q1, q2⟩ := (hz.set3 (.int .i64 0) (.int .i64 0) (.slice none 0 0)).cell3
    go_wp2_with fail
    refine bodyPost_ret (v := .tuple #[.agg #[.int .i64 0, .int .i64 0, .slice none 0 0], .int .i64 (startN W H n)]) (by simp [results, Tryd.results12, go_sem, q0, q1, q2]) rfl ?_
    exact bad_ret rfl (below_set3 hB (by omega) _ _ _)
end Go.Proofs.YtliibficmdomjaaDoor
