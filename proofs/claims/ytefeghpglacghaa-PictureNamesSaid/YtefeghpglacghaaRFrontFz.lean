/- raddleref14.Front. -/
import Derived.Test.YtefeghpglacghaaShownz
import Derived.Test.YtefeghpglacghaaMg9z
namespace Go.Proofs.Ytefeghpglacghaa
open Go.RowKit

theorem shown_front (a : Nat) (bs : List Bool) (p q : List Int) : shownF a bs p q false = frontF a bs p q := by
  funext x y
  unfold shownF frontF
  cases bs.getD (y * a + x) false <;> rfl
theorem shown_back {a x y : Nat} (bs : List Bool) (p q : List Int) : shownF a bs p q true (a - 1 - x) y = backF a bs p q x y := by
  unfold shownF backF
  cases bs.getD (y * a + (a - 1 - x)) false <;> rfl

set_option maxHeartbeats 4000000 in
set_option maxRecDepth 100000 in
theorem rfront_any (g : Gd) (p q : List Int) (A Ap Aq : Option Addr) (n c np cp nq cq : Nat) (w : World) (hr : Rd w A n (g.bits.map Value.bool)) (hrp : Rd w Ap np (p.map (Value.int .i64))) (hrq : Rd w Aq nq (q.map (Value.int .i64))) :
    Calls Try.prog 31 #[.agg #[.int .i64 g.w, .int .i64 g.h, .slice A n c], .slice Ap np cp, .slice Aq nq cq] w (RetI (frontI g p q) w) := by
  have lb : g.bits.length = n := by simpa using hr.len
  have lp : p.length = np := by simpa using hrp.len
  have lq : q.length = nq := by simpa using hrq.len
  have S0 := ((((((St.start w).addRd hr).addRd hrp).addRd hrq).box #[.int .i64 g.w, .int .i64 g.h, .slice A n c] 40).box #[.int .i64 0, .int .i64 0, .slice none 0 0] 24)
  simp only [size_alloc1, List.nil_append, List.cons_append] at S0
  obtain ⟨c0, c1, c2⟩ := (S0.blk 3 rfl).cell3
  have HT := Lib.hid (fun W1 h1 h2 => rthr_any g p q A Ap Aq n c np cp nq cq W1 lb h1 h2)
  by_cases h0 : thr g p q = 0
  · obtain ⟨a, b, bs, rfl, ha1, ha, hbb1, hb, hl, hpa, hqb, _, _⟩ := thr_open h0
    have HC := Lib.hid (frontI_mk h0)
    rw [h0] at HT
    simp only at lb lp lq HT S0 c0 c1 c2 ⊢
    obtain rfl : n = b * a := by omega
    obtain rfl : np = a := by omega
    obtain rfl : nq = b := by omega
    have hba : nq * np ≤ 4096 := Nat.mul_le_mul hb ha
    clear h0 lb lp lq hl hpa hqb hr hrp hrq
    go_enter Try.func31, Try.ntmps31
    go_wp2_with fail
    refine (HT.out _ (S0.rd 1 rfl) (S0.rd 2 rfl)).mono ?_
    rintro e w1 ⟨rfl, hb1⟩
    have S1 := S0.keep hb1
    clear c0 c1 c2 HT
    obtain ⟨c0, c1, c2⟩ := (S1.blk 3 rfl).cell3
    go_wp2_with fail
    refine (shown_false np nq bs p q _ _ _ _ _ _ _ ha1 hbb1 ha hb (S1.rd 0 rfl) (S1.rd 1 rfl) (S1.rd 2 rfl)).mono ?_
    rintro e w2 ⟨A2, n2, c2', rfl, hown2, hb2⟩
    simp only at hown2 ⊢
    rw [shown_front] at hown2
    have S2 := S1.keep hb2
    have hR2 := S2.blk 4 rfl
    obtain ⟨r0, r1, r2⟩ := hR2.cell3
    obtain ⟨f0, f1, f2⟩ := hR2.frozen3
    obtain ⟨q0, q1, q2⟩ := (hR2.set3 (.int .i64 np) (.int .i64 nq) (.slice A2 n2 c2')).cell3
    clear c0 c1 c2
    go_wp2_with fail
    refine bodyPost_ret (v := .tuple #[.agg #[.int .i64 np, .int .i64 nq, .slice A2 n2 c2'], .int .i64 0]) (by simp [results, Try.results31, go_sem, q0, q1, q2]) rfl ?_
    refine ⟨A2, n2, c2', by rw [HC.out], ?_, below_set3 S2.below (by omega) _ _ _⟩
    rw [HC.out]
    exact own_set3 (own_base hown2 S1.size) hR2 (by decide) _ _ _
  · have hcb : (thr g p q != 0) = true := by simpa using h0
    have HC : Hid (frontI g p q = (Im.zero, thr g p q)) := withThr_bad h0 _
    clear h0 lb lp lq
    generalize thr g p q = t at *
    go_enter Try.func31, Try.ntmps31
    go_wp2_with fail
    refine (HT.out _ (S0.rd 1 rfl) (S0.rd 2 rfl)).mono ?_
    rintro e w1 ⟨rfl, hb1⟩
    have S1 := S0.keep hb1
    clear c0 c1 c2
    obtain ⟨c0, c1, c2⟩ := (S1.blk 3 rfl).cell3
    go_wp2_with fail
    refine (HT.out _ (S1.rd 1 rfl) (S1.rd 2 rfl)).mono ?_
    rintro e w2 ⟨rfl, hb2⟩
    have S2 := S1.keep hb2
    clear c0 c1 c2
    have hR2 := S2.blk 4 rfl
    obtain ⟨r0, r1, r2⟩ := hR2.cell3
    obtain ⟨f0, f1, f2⟩ := hR2.frozen3
    obtain ⟨q0, q1, q2⟩ := (hR2.set3 (.int .i64 0) (.int .i64 0) (.slice none 0 0)).cell3
    go_wp2_with fail
    refine bodyPost_ret (v := .tuple #[.agg #[.int .i64 0, .int .i64 0, .slice none 0 0], .int .i64 t]) (by simp [results, Try.results31, go_sem, q0, q1, q2]) rfl ?_
    exact bad_retI HC.out (below_set3 S2.below (by omega) _ _ _)

end Go.Proofs.Ytefeghpglacghaa
