/- picture.like and raddleref15.sized: the error of a grid that must have the size of an image. -/
import Derived.Test.YtefeghpglacghaaMg3z
import Derived.Test.YtefeghpglacghaaPicPz
import Derived.Test.YtefeghpglacghaaMg2z
import Derived.Outline
namespace Go.Proofs.Ytefeghpglacghaa
open Go.RowKit
theorem likeG_bad {g : Gd} {m : Im} (h : chkG g ≠ 0) : likeG g m = chkG g := if_pos h
theorem likeG_no {g : Gd} {m : Im} (h : chkG g = 0) (h2 : g.w ≠ m.w ∨ g.h ≠ m.h) : likeG g m = 26 := by unfold likeG; rw [if_neg (by omega), if_pos h2]
theorem likeG_ok {g : Gd} {m : Im} (h : chkG g = 0) (h2 : g.w = m.w) (h3 : g.h = m.h) : likeG g m = 0 := by unfold likeG; rw [if_neg (by omega), if_neg (by omega)]
theorem likeG_zero {g : Gd} {m : Im} (h : likeG g m = 0) : chkG g = 0 ∧ g.w = m.w ∧ g.h = m.h := by
  unfold likeG at h
  split at h
  · contradiction
  · split at h
    · omega
    · exact ⟨by omega, by omega, by omega⟩

set_option maxHeartbeats 1000000 in
theorem like_any (g : Gd) (m : Im) (A B : Option Addr) (n c k d : Nat) (w : World) (hn : g.bits.length = n) :
    Calls Try.prog 58 #[.agg #[.int .i64 g.w, .int .i64 g.h, .slice A n c], .agg #[.int .i64 m.w, .int .i64 m.h, .slice B k d]] w fun e w' => e = .returned (.int .i64 (likeG g m)) ∧ Below w.heap.size w w' := by
  have hs : chkG g = chk g.w g.h n := by unfold chkG; rw [hn]
  have S0 := ((St.start w).box #[.int .i64 g.w, .int .i64 g.h, .slice A n c] 40).box #[.int .i64 m.w, .int .i64 m.h, .slice B k d] 24
  simp only [size_alloc1, List.nil_append, List.cons_append] at S0
  obtain ⟨c0, c1, c2⟩ := (S0.blk 0 rfl).cell3
  have hbad := likeG_bad (g := g) (m := m)
  have hno := likeG_no (g := g) (m := m)
  have hok := likeG_ok (g := g) (m := m)
  rw [hs] at hbad hno hok
  generalize likeG g m = li at *
  clear hs hn
  by_cases h0 : chk g.w g.h n = 0
  · have k0 : (chk g.w g.h n != 0) = false := by simpa using h0
    by_cases h1 : g.w = m.w
    · have k1 : (g.w != m.w) = false := by simpa using h1
      by_cases h2 : g.h = m.h
      · have k2 : (g.h != m.h) = false := by simpa using h2
        have HH := Lib.hid (hok h0 h1 h2)
        clear hbad hno hok h0 h1 h2
        go_enter Try.func58, Try.ntmps58
        go_wp2_with fail
        refine (check_any _ _ _ _ _ _).mono ?_
        rintro e w1 ⟨rfl, hb1⟩
        have S := S0.keep hb1
        clear S0 c0 c1 c2
        obtain ⟨c0, c1, c2⟩ := (S.blk 0 rfl).cell3
        obtain ⟨d0, d1, d2⟩ := (S.blk 1 rfl).cell3
        go_wp2_with fail
        go_ret
        exact ⟨by rw [HH.out]; rfl, S.below⟩
      · have k2 : (g.h != m.h) = true := by simpa using h2
        have HH := Lib.hid (hno h0 (.inr h2))
        clear hbad hno hok h0 h1 h2
        go_enter Try.func58, Try.ntmps58
        go_wp2_with fail
        refine (check_any _ _ _ _ _ _).mono ?_
        rintro e w1 ⟨rfl, hb1⟩
        have S := S0.keep hb1
        clear S0 c0 c1 c2
        obtain ⟨c0, c1, c2⟩ := (S.blk 0 rfl).cell3
        obtain ⟨d0, d1, d2⟩ := (S.blk 1 rfl).cell3
        go_wp2_with fail
        go_ret
        exact ⟨by rw [HH.out]; rfl, S.below⟩
    · have k1 : (g.w != m.w) = true := by simpa using h1
      have HH := Lib.hid (hno h0 (.inl h1))
      clear hbad hno hok h0 h1
      go_enter Try.func58, Try.ntmps58
      go_wp2_with fail
      refine (check_any _ _ _ _ _ _).mono ?_
      rintro e w1 ⟨rfl, hb1⟩
      have S := S0.keep hb1
      clear S0 c0 c1 c2
      obtain ⟨c0, c1, c2⟩ := (S.blk 0 rfl).cell3
      obtain ⟨d0, d1, d2⟩ := (S.blk 1 rfl).cell3
      go_wp2_with fail
      go_ret
      exact ⟨by rw [HH.out]; rfl, S.below⟩
  · have k0 : (chk g.w g.h n != 0) = true := by simpa using h0
    have HH := Lib.hid (hbad h0)
    clear hbad hno hok h0
    go_enter Try.func58, Try.ntmps58
    go_wp2_with fail
    refine (check_any _ _ _ _ _ _).mono ?_
    rintro e w1 ⟨rfl, hb1⟩
    have S := S0.keep hb1
    clear S0 c0 c1 c2
    obtain ⟨c0, c1, c2⟩ := (S.blk 0 rfl).cell3
    obtain ⟨d0, d1, d2⟩ := (S.blk 1 rfl).cell3
    go_wp2_with fail
    go_ret
    exact ⟨by rw [HH.out]; rfl, S.below⟩

set_option maxHeartbeats 1000000 in
theorem sized_any (g : Gd) (m : Im) (A B : Option Addr) (n c k d : Nat) (w : World) (hn : g.bits.length = n) :
    Calls Try.prog 59 #[.agg #[.int .i64 g.w, .int .i64 g.h, .slice A n c], .agg #[.int .i64 m.w, .int .i64 m.h, .slice B k d]] w fun e w' => e = .returned (.int .i64 (likeG g m)) ∧ Below w.heap.size w w' := by
  have hs : chkG g = chk g.w g.h n := by unfold chkG; rw [hn]
  have S0 := ((St.start w).box #[.int .i64 g.w, .int .i64 g.h, .slice A n c] 40).box #[.int .i64 m.w, .int .i64 m.h, .slice B k d] 24
  simp only [size_alloc1, List.nil_append, List.cons_append] at S0
  obtain ⟨c0, c1, c2⟩ := (S0.blk 0 rfl).cell3
  have hbad := likeG_bad (g := g) (m := m)
  have hno := likeG_no (g := g) (m := m)
  have hok := likeG_ok (g := g) (m := m)
  rw [hs] at hbad hno hok
  generalize likeG g m = li at *
  clear hs hn
  by_cases h0 : chk g.w g.h n = 0
  · have k0 : (chk g.w g.h n != 0) = false := by simpa using h0
    by_cases h1 : g.w = m.w
    · have k1 : (g.w != m.w) = false := by simpa using h1
      by_cases h2 : g.h = m.h
      · have k2 : (g.h != m.h) = false := by simpa using h2
        have HH := Lib.hid (hok h0 h1 h2)
        clear hbad hno hok h0 h1 h2
        go_enter Try.func59, Try.ntmps59
        go_wp2_with fail
        refine (rcheck_any _ _ _ _ _ _).mono ?_
        rintro e w1 ⟨rfl, hb1⟩
        have S := S0.keep hb1
        clear S0 c0 c1 c2
        obtain ⟨c0, c1, c2⟩ := (S.blk 0 rfl).cell3
        obtain ⟨d0, d1, d2⟩ := (S.blk 1 rfl).cell3
        go_wp2_with fail
        go_ret
        exact ⟨by rw [HH.out]; rfl, S.below⟩
      · have k2 : (g.h != m.h) = true := by simpa using h2
        have HH := Lib.hid (hno h0 (.inr h2))
        clear hbad hno hok h0 h1 h2
        go_enter Try.func59, Try.ntmps59
        go_wp2_with fail
        refine (rcheck_any _ _ _ _ _ _).mono ?_
        rintro e w1 ⟨rfl, hb1⟩
        have S := S0.keep hb1
        clear S0 c0 c1 c2
        obtain ⟨c0, c1, c2⟩ := (S.blk 0 rfl).cell3
        obtain ⟨d0, d1, d2⟩ := (S.blk 1 rfl).cell3
        go_wp2_with fail
        go_ret
        exact ⟨by rw [HH.out]; rfl, S.below⟩
    · have k1 : (g.w != m.w) = true := by simpa using h1
      have HH := Lib.hid (hno h0 (.inl h1))
      clear hbad hno hok h0 h1
      go_enter Try.func59, Try.ntmps59
      go_wp2_with fail
      refine (rcheck_any _ _ _ _ _ _).mono ?_
      rintro e w1 ⟨rfl, hb1⟩
      have S := S0.keep hb1
      clear S0 c0 c1 c2
      obtain ⟨c0, c1, c2⟩ := (S.blk 0 rfl).cell3
      obtain ⟨d0, d1, d2⟩ := (S.blk 1 rfl).cell3
      go_wp2_with fail
      go_ret
      exact ⟨by rw [HH.out]; rfl, S.below⟩
  · have k0 : (chk g.w g.h n != 0) = true := by simpa using h0
    have HH := Lib.hid (hbad h0)
    clear hbad hno hok h0
    go_enter Try.func59, Try.ntmps59
    go_wp2_with fail
    refine (rcheck_any _ _ _ _ _ _).mono ?_
    rintro e w1 ⟨rfl, hb1⟩
    have S := S0.keep hb1
    clear S0 c0 c1 c2
    obtain ⟨c0, c1, c2⟩ := (S.blk 0 rfl).cell3
    obtain ⟨d0, d1, d2⟩ := (S.blk 1 rfl).cell3
    go_wp2_with fail
    refine (rcheck_any _ _ _ _ _ _).mono ?_
    rintro e w2 ⟨rfl, hb2⟩
    have S := S.keep hb2
    go_wp2_with fail
    go_ret
    exact ⟨by rw [HH.out]; rfl, S.below⟩
end Go.Proofs.Ytefeghpglacghaa
