/- The law SymmetryForms, walked: it answers true and turns nothing that was there, for any grid. -/
import Derived.Test.YtliibficmdomjaaRLeastz
import Derived.Test.YtliibficmdomjaaRSamez
namespace Go.Proofs.Ytliibficmdomjaa
open Go.RowKit

set_option maxHeartbeats 1000000 in
set_option maxRecDepth 100000 in
theorem rleast_any (g : Gd) (A : Option Addr) (n c : Nat) (w : World) (hr : Rd w A n (g.bits.map Value.bool)) :
    Calls Try.prog 16 #[.agg #[.int .i64 g.w, .int .i64 g.h, .slice A n c]] w (LeastRet (leastG g).1.1 ((leastG g).1.2 : Nat) (leastG g).2 w) := by
  obtain ⟨W, H, bs⟩ := g
  simp only at hr ⊢
  have hn : bs.length = n := by simpa using hr.len
  have hs : startG ⟨W, H, bs⟩ = startN W H n := startG_n hn
  by_cases hc : startN W H n = 0
  · obtain ⟨hc1, h16, h16'⟩ := startN_zero hc
    obtain ⟨a, b, rfl, rfl, ha1, ha, hbb, hb, rfl⟩ := chk_zero hc1
    obtain ⟨bl, o, rfl, _, _⟩ := hr.at_ (Nat.mul_pos hbb ha1)
    rw [leastG_ok (hs.trans hc)]
    exact rleast_main a b bl o c bs w ha1 hbb (by omega) (by omega) hn hc hr
  · have hcb : (startN W H n != 0) = true := by simpa using hc
    have hv : leastG ⟨W, H, bs⟩ = ((Gd.zero, 0), startN W H n) := by unfold leastG; rw [hs, if_pos hc]
    have HSt := Lib.hid (fun WW => start7_any W H A n c WW)
    have S0 := ((St.start w).box #[.int .i64 W, .int .i64 H, .slice A n c] 24).box #[.int .i64 0, .int .i64 0, .slice none 0 0] 24
    simp only [size_alloc1, List.nil_append, List.cons_append] at S0
    obtain ⟨c0, c1, c2⟩ := (S0.blk 0 rfl).cell3
    rw [hv]
    clear hs hc hv hn hr
    generalize startN W H n = k at *
    go_enter Try.func16, Try.ntmps16
    go_wp2_with fail
    refine (HSt.out _).mono ?_
    rintro e w1 ⟨rfl, hb1⟩
    have S1 := S0.keep hb1
    clear c0 c1 c2
    obtain ⟨c0, c1, c2⟩ := (S1.blk 0 rfl).cell3
    go_wp2_with fail
    refine (HSt.out _).mono ?_
    rintro e w2 ⟨rfl, hb2⟩
    have S2 := S1.keep hb2
    clear c0 c1 c2
    have hz := S2.blk 1 rfl
    have hB := S2.below
    obtain ⟨r0, r1, r2⟩ := hz.cell3
    obtain ⟨f0, f1, f2⟩ := hz.frozen3
    obtain ⟨q0, q1, q2⟩ := (hz.set3 (.int .i64 0) (.int .i64 0) (.slice none 0 0)).cell3
    go_wp2_with fail
    refine bodyPost_ret (v := .tuple #[.agg #[.int .i64 0, .int .i64 0, .slice none 0 0], .int .i64 0, .int .i64 k]) (by simp [results, Try.results16, go_sem, q0, q1, q2]) rfl ?_
    exact ⟨none, 0, 0, rfl, World.ownsRow_nil _ _ _ _, below_set3 hB (by omega) _ _ _⟩
theorem leastG_small (g : Gd) : (leastG g).1.1.bits.length ≤ 4096 := by
  by_cases h : startG g = 0
  · obtain ⟨e1, l1⟩ := leastG_is h
    rw [e1]
    exact chkG_small l1.mem.2.1.chk_
  · unfold leastG; rw [if_pos h]; exact Nat.zero_le _
set_option maxHeartbeats 1000000 in
set_option maxRecDepth 100000 in
theorem forms7_walk (g : Gd) (A0 : Option Addr) (n0 c0 : Nat) (w : World) (hr : Rd w A0 n0 (g.bits.map Value.bool)) (hc : n0 ≤ c0) :
    Calls Try.prog 4 #[.agg #[.int .i64 g.w, .int .i64 g.h, .slice A0 n0 c0]] w fun e w' => e = .returned (.bool true) ∧ Below w.heap.size w w' := by
  have HG := Lib.hid (fun W => great7_any g.w g.h A0 n0 c0 W)
  have HL := Lib.hid (fun A n c W h hc => least_any g A n c W h hc)
  have HR := Lib.hid (fun A n c W h => rleast_any g A n c W h)
  have hz := leastG_small g
  have HS := Lib.hid (fun A A2 n c n2 c2 W h h2 (hn : n ≤ 1048576) => rsame_any (leastG g).1.1 (leastG g).1.1 A A2 n c n2 c2 W h h2 hn)
  simp only [sameG_self] at HS
  have S0 := ((St.start w).addRd hr).box #[.int .i64 g.w, .int .i64 g.h, .slice A0 n0 c0] 24
  simp only [List.nil_append, List.cons_append] at S0
  clear hr
  generalize (leastG g).1.1 = a at *
  generalize ((leastG g).1.2 : Nat) = q at *
  generalize (leastG g).2 = t at *
  obtain ⟨d0, d1, d2⟩ := (S0.blk 1 rfl).cell3
  go_enter Try.func4, Try.ntmps4
  go_wp2_with fail
  refine (HG.out _).mono ?_
  rintro e w1 ⟨r, rfl, _, hb1⟩
  have S1 := S0.keep hb1
  clear S0 d0 d1 d2
  cases r with
  | true =>
    go_wp2_with fail
    go_ret
    exact ⟨rfl, S1.below⟩
  | false =>
    obtain ⟨d0, d1, d2⟩ := (S1.blk 1 rfl).cell3
    go_wp2_with fail
    refine (HL.out _ _ _ _ (S1.rd 0 rfl) hc).mono ?_
    rintro e w2 ⟨A2, n2, c2, rfl, hown2, hb2⟩
    have hn2 : n2 ≤ 1048576 := by have h1 := hown2.1; simp at h1; omega
    have S2 := ((S1.keep hb2).addRd (rd_of_own hown2)).box #[.int .i64 a.w, .int .i64 a.h, .slice A2 n2 c2] 24
    simp only [List.nil_append, List.cons_append] at S2
    clear S1 d0 d1 d2 hown2 hb2
    obtain ⟨d0, d1, d2⟩ := (S2.blk 1 rfl).cell3
    go_wp2_with fail
    refine (HR.out _ _ _ _ (S2.rd 0 rfl)).mono ?_
    rintro e w3 ⟨A3, n3, c3, rfl, hown3, hb3⟩
    have S3 := ((S2.keep hb3).addRd (rd_of_own hown3)).box #[.int .i64 a.w, .int .i64 a.h, .slice A3 n3 c3] 24
    simp only [List.nil_append, List.cons_append] at S3
    clear S2 d0 d1 d2 hown3 hb3
    obtain ⟨d0, d1, d2⟩ := (S3.blk 3 rfl).cell3
    obtain ⟨f0, f1, f2⟩ := (S3.blk 5 rfl).cell3
    go_wp2_with fail
    refine (HS.out _ _ _ _ _ _ _ (S3.rd 2 rfl) (S3.rd 4 rfl) hn2).mono ?_
    rintro e w4 ⟨rfl, hb4⟩
    have S4 := S3.keep hb4
    clear S3 d0 d1 d2 f0 f1 f2
    go_wp2_with fail
    go_ret
    exact ⟨rfl, S4.below⟩
end Go.Proofs.Ytliibficmdomjaa
