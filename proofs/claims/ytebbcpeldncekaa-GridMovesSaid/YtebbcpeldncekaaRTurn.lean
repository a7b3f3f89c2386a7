/- raddleref01.Turn gives the plain result turnG. -/
import Derived.Test.YtebbcpeldncekaaRMirror
namespace Go.Proofs.Ytebbcpeldncekaa
open Go.RowKit

set_option maxHeartbeats 4000000 in
theorem rturn_any (g : Gd) (A : Option Addr) (n c : Nat) (w : World) (hr : Rd w A n (g.bits.map Value.bool)) :
    Calls Try.prog 15 #[.agg #[.int .i64 g.w, .int .i64 g.h, .slice A n c]] w (RetG (turnG g) w) := by
  obtain ⟨W, H, bs⟩ := g
  simp only at hr ⊢
  have hn : bs.length = n := by simpa using hr.len
  have hG0 : Blk ((w.alloc (.cells #[.int .i64 W, .int .i64 H, .slice A n c] 24)).alloc (.cells #[.int .i64 0, .int .i64 0, .slice none 0 0] 24)) w.heap.size 24 #[.int .i64 W, .int .i64 H, .slice A n c] := (Blk.new w _ _).alloc _
  have hR0 : Blk ((w.alloc (.cells #[.int .i64 W, .int .i64 H, .slice A n c] 24)).alloc (.cells #[.int .i64 0, .int .i64 0, .slice none 0 0] 24)) (w.heap.size + 1) 24 #[.int .i64 0, .int .i64 0, .slice none 0 0] := by simpa using Blk.new (w.alloc (.cells #[.int .i64 W, .int .i64 H, .slice A n c] 24)) _ _
  have hB0 : Below w.heap.size w ((w.alloc (.cells #[.int .i64 W, .int .i64 H, .slice A n c] 24)).alloc (.cells #[.int .i64 0, .int .i64 0, .slice none 0 0] 24)) := Joins.below_alloc2 w _ _
  by_cases hc : chk W H n = 0
  · obtain ⟨a, b, rfl, rfl, ha1, ha, hbb, hb, rfl⟩ := chk_zero hc
    have hcb : (chk (a : Int) (b : Int) (b * a) != 0) = false := by simpa using hc
    have HS := Lib.hid (fun k => withChk_ok (bs := bs) (a := a) (b := b) (k := k) (by rw [hn]; exact hc))
    clear hc
    have HN := Lib.hid hn; clear hn
    have ha0 : ¬ (a : Int) = 0 := by omega
    have hb0 : ¬ (b : Int) = 0 := by omega
    have HC : Hid (turnG ⟨a, b, bs⟩ = (⟨((b : Nat) : Int), ((a : Nat) : Int), Pl.tab b a fun x y => bs.getD (x * a + y) false⟩, 0)) := HS.out _
    go_enter Try.func15, Try.ntmps15
    go_wp2_with fail
    refine (rcheck_any _ _ _ _ _ _).mono ?_
    rintro e w1' ⟨rfl, hb1⟩
    have hG1 := hG0.keep hb1
    have hR1 := hR0.keep hb1
    have hB1 := below_then hB0 hb1
    obtain ⟨c0, c1, c2⟩ := hG1.cell3
    clear hb1

    have hr1 := hr.below hB1
    go_wp2_with fail
    refine (turned_any a b bs A c _ ha1 hbb ha hb hr1).mono ?_
    rintro e w2 ⟨A2, n2, cc, rfl, hown2, hb2⟩
    simp only at hown2 ⊢
    have hR2 := hR1.keep hb2
    obtain ⟨r0, r1, r2⟩ := hR2.cell3
    obtain ⟨f0, f1, f2⟩ := hR2.frozen3
    obtain ⟨q0, q1, q2⟩ := (hR2.set3 (.int .i64 ((b : Nat) : Int)) (.int .i64 ((a : Nat) : Int)) (.slice A2 n2 cc)).cell3
    clear c0 c1 c2
    go_wp2_with fail
    refine bodyPost_ret (v := .tuple #[.agg #[.int .i64 ((b : Nat) : Int), .int .i64 ((a : Nat) : Int), .slice A2 n2 cc], .int .i64 0]) (by simp [results, Try.results15, go_sem, q0, q1, q2]) rfl ?_
    refine ⟨A2, n2, cc, by rw [HC.out], ?_, below_set3 (below_then hB1 hb2) (by omega) _ _ _⟩
    rw [HC.out]
    exact own_set3 (own_base hown2 hB1.size) hR2 (by decide) _ _ _
  · have hcb : (chk W H n != 0) = true := by simpa using hc
    have HC : Hid (turnG ⟨W, H, bs⟩ = (Gd.zero, chk W H n)) := by
      have := withChk_bad (g := ⟨W, H, bs⟩) (by unfold chkG; simp only [hn]; exact hc)
      unfold chkG at this
      simp only [hn] at this
      exact this _
    clear hc hn
    go_enter Try.func15, Try.ntmps15
    go_wp2_with fail
    refine (rcheck_any _ _ _ _ _ _).mono ?_
    rintro e w1' ⟨rfl, hb1⟩
    have hG1 := hG0.keep hb1
    have hR1 := hR0.keep hb1
    have hB1 := below_then hB0 hb1
    obtain ⟨c0, c1, c2⟩ := hG1.cell3
    clear hb1

    go_wp2_with fail
    refine (rcheck_any _ _ _ _ _ _).mono ?_
    rintro e w2 ⟨rfl, hb2⟩
    have hR2 := hR1.keep hb2
    have hB2 := below_then hB1 hb2
    obtain ⟨r0, r1, r2⟩ := hR2.cell3
    obtain ⟨f0, f1, f2⟩ := hR2.frozen3
    obtain ⟨q0, q1, q2⟩ := (hR2.set3 (.int .i64 0) (.int .i64 0) (.slice none 0 0)).cell3
    go_wp2_with fail
    refine bodyPost_ret (v := .tuple #[.agg #[.int .i64 0, .int .i64 0, .slice none 0 0], .int .i64 (chk W H n)]) (by simp [results, Try.results15, go_sem, q0, q1, q2]) rfl ?_
    exact bad_ret HC.out (below_set3 hB2 (by omega) _ _ _)

end Go.Proofs.Ytebbcpeldncekaa
