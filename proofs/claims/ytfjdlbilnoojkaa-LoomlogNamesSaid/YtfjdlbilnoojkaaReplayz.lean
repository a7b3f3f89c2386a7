/- loomlog.Replay: the grid that a log weaves. -/
import Derived.Test.YtfjdlbilnoojkaaRunz
import Derived.Test.YtfjdlbilnoojkaaConcatBz
namespace Go.Proofs.Ytfjdlbilnoojkaa
open Go.RowKit

/-- What Replay answers. -/
def replayG (N : Int) (l : List Ev) : Gd × Int := if (runE N l).1 ≠ 0 then (Gd.zero, (runE N l).1) else if (runE N l).2 = [] then (Gd.zero, 22) else (liftsG N (runE N l).2, 0)
theorem replayG_err {N : Int} {l : List Ev} (h : (runE N l).1 ≠ 0) : replayG N l = (Gd.zero, (runE N l).1) := by unfold replayG; rw [if_pos h]
theorem replayG_none {N : Int} {l : List Ev} (h : (runE N l).1 = 0) (h2 : (runE N l).2 = []) : replayG N l = (Gd.zero, 22) := by unfold replayG; rw [if_neg (by simpa using h), if_pos h2]
theorem replayG_ok {N : Int} {l : List Ev} (h : (runE N l).1 = 0) (h2 : (runE N l).2 ≠ []) : replayG N l = (liftsG N (runE N l).2, 0) := by unfold replayG; rw [if_neg (by simpa using h), if_neg h2]
theorem runE_N {N : Int} {l : List Ev} (h : (runE N l).1 = 0) : 1 ≤ N ∧ N ≤ 40 := by
  unfold runE at h
  split at h
  · rename_i h1; exact absurd h h1
  · rename_i h1
    exact (chkE_zero (by simpa using h1)).1

set_option maxHeartbeats 2000000 in
set_option maxRecDepth 100000 in
theorem replay_any (N : Int) (lg : List Ev) (A : Option Addr) (n c : Nat) (w : World) (hr : LogR w A n lg) :
    Calls Try.prog 13 #[.int .i64 N, .slice A n c] w (RetG (replayG N lg) w) := by
  have HR := Lib.hid (fun u (hb : Below w.heap.size w u) => run_any N lg A n c u (hr.below hb))
  have hROWS := Lib.hid (fun (h : (runE N lg).1 = 0) => show RowsN N.toNat (runE N lg).2 from by
    have hN := runE_N h
    have h1 := runE_rows (N := N.toNat) (l := lg)
    rw [show ((N.toNat : Nat) : Int) = N by omega] at h1
    exact h1.1)
  have hLEN := Lib.hid (show (runE N lg).2.length ≤ 64 from by
    by_cases h : (runE N lg).1 = 0
    · have hN := runE_N h
      have h1 := runE_rows (N := N.toNat) (l := lg)
      rw [show ((N.toNat : Nat) : Int) = N by omega] at h1
      exact h1.2
    · unfold runE at h ⊢
      split
      · simp
      · split
        · simp
        · rename_i h1 h2
          exact absurd rfl (by rw [if_neg h1, if_neg h2] at h; exact h))
  have hNN := Lib.hid (fun (h : (runE N lg).1 = 0) => runE_N h)
  have hE1 := Lib.hid (replayG_err (N := N) (l := lg))
  have hE2 := Lib.hid (replayG_none (N := N) (l := lg))
  have hE3 := Lib.hid (replayG_ok (N := N) (l := lg))
  have S0 := (St.start w).box #[.int .i64 0, .int .i64 0, .slice none 0 0] 25
  simp only [List.nil_append] at S0
  have HR1 := Lib.hid (HR.out _ S0.below)
  clear HR hr
  unfold RunRet at HR1
  generalize replayG N lg = R at *
  generalize runE N lg = E at *
  obtain ⟨t, ps⟩ := E
  simp only at HR1 hROWS hLEN hNN hE1 hE2 hE3
  go_enter Try.func13, Try.ntmps13
  go_wp2_with fail
  refine HR1.out.mono ?_
  rintro e w1 (⟨lb, rfl, rfl, hL⟩ | ⟨t', rfl, rfl, ht, hb1⟩)
  · have S1 := S0.keep hL.below
    obtain ⟨v, hbx, hlu⟩ := hL.bx
    obtain ⟨B, cB, rfl, hnc, hcm⟩ := hlu.shape
    have k0 := hbx.cell 0
    have hLR := hlu.read
    by_cases hps : ps = []
    · subst hps
      have hR := Lib.hid (hE2.out rfl rfl)
      obtain ⟨c0, c1, c2⟩ := (S1.blk 0 rfl).cell3
      obtain ⟨f0, f1, f2⟩ := (S1.blk 0 rfl).frozen3
      obtain ⟨q0, q1, q2⟩ := ((S1.blk 0 rfl).set3 (.int .i64 0) (.int .i64 0) (.slice none 0 0)).cell3
      go_wp2_with fail
      refine bodyPost_ret (v := .tuple #[.agg #[.int .i64 0, .int .i64 0, .slice none 0 0], .int .i64 22]) (by simp [results, Try.results13, go_sem, q0, q1, q2]) rfl ?_
      rw [hR.out]
      exact ⟨none, 0, 0, rfl, World.ownsRow_nil _ _ _ _, below_set3 S1.below (Nat.le_refl _) _ _ _⟩
    · have hR := Lib.hid (hE3.out rfl hps)
      obtain ⟨n', hn'⟩ : ∃ n', ps.length = n' := ⟨_, rfl⟩
      have hn0 : n' ≠ 0 := by rintro rfl; exact hps (List.eq_nil_of_length_eq_zero hn')
      have h64 : n' ≤ 64 := by have := hLEN.out; omega
      have HC := Lib.hid (lifts_any N N.toNat n' ps B cB w1 hn' hLR (hROWS.out rfl) (by have := hNN.out rfl; omega) (by omega))
      have HN := Lib.hid hn'
      rw [hn'] at k0
      clear hE1 hE2 hE3 hlu hps hLR
      go_wp2_with fail
      refine HC.out.mono ?_
      rintro e w2 ⟨A', m, c', rfl, hown, hb2⟩
      have S2 := S1.keep hb2
      obtain ⟨c0, c1, c2⟩ := (S2.blk 0 rfl).cell3
      obtain ⟨f0, f1, f2⟩ := (S2.blk 0 rfl).frozen3
      obtain ⟨q0, q1, q2⟩ := ((S2.blk 0 rfl).set3 (.int .i64 N) (.int .i64 n') (.slice A' m c')).cell3
      go_wp2_with fail
      refine bodyPost_ret (v := .tuple #[.agg #[.int .i64 N, .int .i64 n', .slice A' m c'], .int .i64 0]) (by simp [results, Try.results13, go_sem, q0, q1, q2]) rfl ?_
      rw [hR.out]
      refine ⟨A', m, c', ?_, own_set3 (own_base hown S1.size) (S2.blk 0 rfl) (by decide) _ _ _, below_set3 S2.below (Nat.le_refl _) _ _ _⟩
      show _ = Ending.returned (.tuple #[.agg #[.int .i64 N, .int .i64 (ps.length : Nat), .slice A' m c'], .int .i64 0])
      rw [HN.out]
  · have S1 := S0.keep hb1
    have hR := Lib.hid (hE1.out ht)
    have htb : (t' != 0) = true := by simpa using ht
    obtain ⟨c0, c1, c2⟩ := (S1.blk 0 rfl).cell3
    obtain ⟨f0, f1, f2⟩ := (S1.blk 0 rfl).frozen3
    obtain ⟨q0, q1, q2⟩ := ((S1.blk 0 rfl).set3 (.int .i64 0) (.int .i64 0) (.slice none 0 0)).cell3
    go_wp2_with fail
    refine bodyPost_ret (v := .tuple #[.agg #[.int .i64 0, .int .i64 0, .slice none 0 0], .int .i64 t']) (by simp [results, Try.results13, go_sem, q0, q1, q2]) rfl ?_
    rw [hR.out]
    exact ⟨none, 0, 0, rfl, World.ownsRow_nil _ _ _ _, below_set3 S1.below (Nat.le_refl _) _ _ _⟩
end Go.Proofs.Ytfjdlbilnoojkaa
