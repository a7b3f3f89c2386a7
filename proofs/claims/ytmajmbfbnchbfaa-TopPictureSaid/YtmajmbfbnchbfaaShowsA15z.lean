/- Shows of both sides of layer 15. -/
import Derived.Test.YtmajmbfbnchbfaaThr15z
import Derived.Test.YtmajmbfbnchbfaaMg16z
import Derived.Test.YtmajmbfbnchbfaaMg11z
import Derived.Test.YtmajmbfbnchbfaaMg15z
namespace Go.Proofs.Ytmajmbfbnchbfaa
open Go.RowKit

set_option maxHeartbeats 2000000 in
theorem shows_any (g : Gd) (m : Im) (p q : List Int) (B A Ap Aq : Option Addr) (k d n c np cp nq cq : Nat) (w : World) (hg : Rd w B k (g.bits.map Value.bool)) (hr : Rd w A n (m.c.map (Value.int .i64))) (hn : n ≤ 1048576) (hrp : Rd w Ap np (p.map (Value.int .i64))) (hrq : Rd w Aq nq (q.map (Value.int .i64))) :
    Calls Try.prog 15 #[.agg #[.int .i64 g.w, .int .i64 g.h, .slice B k d], .agg #[.int .i64 m.w, .int .i64 m.h, .slice A n c], .slice Ap np cp, .slice Aq nq cq] w fun e w' => e = .returned (.tuple #[.bool (showsI g m p q).1, .int .i64 (showsI g m p q).2]) ∧ Below w.heap.size w w' := by
  have hk : g.bits.length = k := by simpa using hg.len
  have HT := Lib.hid (fun WW h1 h2 h3 => thrI_any m p q A Ap Aq n c np cp nq cq WW h1 hn h2 h3)
  have HL := Lib.hid (fun WW => like_any g m B A k d n c WW hk)
  have HF := Lib.hid (fun WW h1 h2 h3 => front_any g p q B Ap Aq k d np cp nq cq WW h1 h2 h3)
  have hfs := frontI_small g p q
  have S0 := ((((((St.start w).addRd hg).addRd hr).addRd hrp).addRd hrq).box #[.int .i64 g.w, .int .i64 g.h, .slice B k d] 25).box #[.int .i64 m.w, .int .i64 m.h, .slice A n c] 36
  simp only [size_alloc1, List.nil_append, List.cons_append] at S0
  obtain ⟨c0, c1, c2⟩ := (S0.blk 4 rfl).cell3
  obtain ⟨d0, d1, d2⟩ := (S0.blk 5 rfl).cell3
  have hbad : thrI m p q ≠ 0 → showsI g m p q = (false, thrI m p q) := fun h => if_pos h
  have hlik : thrI m p q = 0 → likeG g m ≠ 0 → showsI g m p q = (false, likeG g m) := fun h h2 => by unfold showsI; rw [if_neg (by omega), if_pos h2]
  have hok : thrI m p q = 0 → likeG g m = 0 → showsI g m p q = (sameI (frontI g p q).1 m, 0) := fun h h2 => by unfold showsI; rw [if_neg (by omega), if_neg (by omega)]
  generalize thrI m p q = ti at *
  generalize likeG g m = li at *
  generalize showsI g m p q = sh at *
  generalize frontI g p q = fr at *
  obtain ⟨⟨fw, fh, fc⟩, fe⟩ := fr
  clear hg hr hrp hrq
  by_cases h0 : ti = 0
  · have k0 : (ti != 0) = false := by simpa using h0
    by_cases h1 : li = 0
    · have k1 : (li != 0) = false := by simpa using h1
      have HH := Lib.hid (hok h0 h1)
      clear hbad hlik hok h0 h1
      go_enter Try.func15, Try.ntmps15
      go_wp2_with fail
      refine (HT.out _ (S0.rd 1 rfl) (S0.rd 2 rfl) (S0.rd 3 rfl)).mono ?_
      rintro e w1 ⟨rfl, hb1⟩
      have S := S0.keep hb1
      clear S0 c0 c1 c2 d0 d1 d2
      obtain ⟨c0, c1, c2⟩ := (S.blk 4 rfl).cell3
      obtain ⟨d0, d1, d2⟩ := (S.blk 5 rfl).cell3
      go_wp2_with fail
      refine (HL.out _).mono ?_
      rintro e w2 ⟨rfl, hb2⟩
      have S := S.keep hb2
      clear c0 c1 c2 d0 d1 d2
      obtain ⟨c0, c1, c2⟩ := (S.blk 4 rfl).cell3
      obtain ⟨d0, d1, d2⟩ := (S.blk 5 rfl).cell3
      go_wp2_with fail
      refine (HF.out _ (S.rd 0 rfl) (S.rd 2 rfl) (S.rd 3 rfl)).mono ?_
      rintro e w3 ⟨A3, n3, c3, rfl, hown3, hb3⟩
      simp only at hown3 hfs ⊢
      have S3 := ((S.keep hb3).addRd (rd_of_own hown3)).box #[.int .i64 fw, .int .i64 fh, .slice A3 n3 c3] 36
      simp only [List.nil_append, List.cons_append] at S3
      have hn3 : n3 ≤ 1048576 := by have := hown3.1; simp at this; omega
      clear c0 c1 c2 d0 d1 d2 S
      obtain ⟨c0, c1, c2⟩ := (S3.blk 7 rfl).cell3
      obtain ⟨d0, d1, d2⟩ := (S3.blk 5 rfl).cell3
      go_wp2_with fail
      refine (isame_any ⟨fw, fh, fc⟩ m _ _ _ _ _ _ _ (S3.rd 6 rfl) (S3.rd 1 rfl) hn3).mono ?_
      rintro e w4 ⟨rfl, hb4⟩
      have S4 := S3.keep hb4
      go_wp2_with fail
      go_ret2
      exact ⟨by rw [HH.out]; rfl, S4.below⟩
    · have k1 : (li != 0) = true := by simpa using h1
      have HH := Lib.hid (hlik h0 h1)
      clear hbad hlik hok h0 h1
      go_enter Try.func15, Try.ntmps15
      go_wp2_with fail
      refine (HT.out _ (S0.rd 1 rfl) (S0.rd 2 rfl) (S0.rd 3 rfl)).mono ?_
      rintro e w1 ⟨rfl, hb1⟩
      have S := S0.keep hb1
      clear S0 c0 c1 c2 d0 d1 d2
      obtain ⟨c0, c1, c2⟩ := (S.blk 4 rfl).cell3
      obtain ⟨d0, d1, d2⟩ := (S.blk 5 rfl).cell3
      go_wp2_with fail
      refine (HL.out _).mono ?_
      rintro e w2 ⟨rfl, hb2⟩
      have S := S.keep hb2
      clear c0 c1 c2 d0 d1 d2
      obtain ⟨c0, c1, c2⟩ := (S.blk 4 rfl).cell3
      obtain ⟨d0, d1, d2⟩ := (S.blk 5 rfl).cell3
      go_wp2_with fail
      go_ret2
      exact ⟨by rw [HH.out]; rfl, S.below⟩
  · have k0 : (ti != 0) = true := by simpa using h0
    have HH := Lib.hid (hbad h0)
    clear hbad hlik hok h0
    go_enter Try.func15, Try.ntmps15
    go_wp2_with fail
    refine (HT.out _ (S0.rd 1 rfl) (S0.rd 2 rfl) (S0.rd 3 rfl)).mono ?_
    rintro e w1 ⟨rfl, hb1⟩
    have S := S0.keep hb1
    clear S0 c0 c1 c2 d0 d1 d2
    obtain ⟨c0, c1, c2⟩ := (S.blk 4 rfl).cell3
    obtain ⟨d0, d1, d2⟩ := (S.blk 5 rfl).cell3
    go_wp2_with fail
    go_ret2
    exact ⟨by rw [HH.out]; rfl, S.below⟩
end Go.Proofs.Ytmajmbfbnchbfaa
