/- The law SatinMakes, walked: it answers true and turns nothing that was there, for any numbers, runs and row. -/
import Derived.Test.YtbgekiifffnalaaCounters
import Derived.Test.YtbgekiifffnalaaSatin9
import Derived.Test.YtbgekiifffnalaaTw9
import Derived.Test.YtbgekiifffnalaaRTwill
import Derived.Test.YtbgekiifffnalaaRuns9
import Derived.Test.YtbgekiifffnalaaRRuns
import Derived.Test.YtbgekiifffnalaaLSame
import Derived.Test.YtbgekiifffnalaaSameTo
namespace Go.Proofs.Ytbgekiifffnalaa
open Go.RowKit

theorem oneCell_nums (l : List Int) : ∀ u ∈ l.map (Value.int .i64), u.oneCell' = true := by
  intro u hu
  obtain ⟨_, _, rfl⟩ := List.mem_map.1 hu
  rfl
theorem countersG_small (n : Int) : (countersG n).1.length ≤ 64 := by
  unfold countersG
  split
  · simp
  · have := movesB_le n n.toNat
    simp only; omega
theorem satinMG_small (n m : Int) : (satinMG n m).1.bits.length ≤ 4096 := by
  cases h : moveB n m with
  | false => rw [satinMG_no h]; simp [Gd.zero]
  | true =>
    obtain ⟨a, b, rfl, rfl, _, h1, _⟩ := moveB_range h
    rw [satinMG_yes h]
    simp only [satinL_length]
    exact Nat.le_trans (Nat.mul_le_mul h1 h1) (by decide)
theorem rowK_small {runs : List Int} (h : validB runs = true) : (rowK runs runs.length).length ≤ 64 := by
  obtain ⟨_, hv⟩ := validB_open h
  have h1 := preS_bound (runs := runs) (Nat.le_refl _) (fun j hj => hv j hj)
  have h2 := rowK_length (runs := runs) (Nat.le_refl _) (fun j hj => hv j hj)
  omega
theorem twillG_small (runs : List Int) (step : Int) : (twillG runs step).1.bits.length ≤ 4096 := by
  cases h : validB runs with
  | false => rw [twillG_no h]; simp [Gd.zero]
  | true =>
    rw [twillG_yes h rfl rfl rfl]
    have h1 := rowK_small h
    simp only [Pl.tab_length]
    exact Nat.le_trans (Nat.mul_le_mul (Nat.le_trans (twH_le _ _) h1) h1) (by decide)
theorem runsG_small (l : List Bool) : (runsG l).1.length ≤ l.length := by
  unfold runsG
  have := runsK_le l l.length
  (repeat' split) <;> simp <;> omega

set_option maxHeartbeats 4000000 in
set_option maxRecDepth 100000 in
theorem makes9_walk (x y : Int) (l : List Int) (st : Int) (bs : List Bool) (A A' : Option Addr) (n c n' c' : Nat) (w : World) (hr : Rd w A n (l.map (Value.int .i64))) (hr' : Rd w A' n' (bs.map Value.bool)) (hc' : n' ≤ c') :
    Calls Try.prog 4 #[.int .i64 x, .int .i64 y, .slice A n c, .int .i64 st, .slice A' n' c'] w fun e w' => e = .returned (.bool true) ∧ Below w.heap.size w w' := by
  obtain ⟨i0, hi, hz0, hz1, hz2⟩ := info_parts Try.infoI
  by_cases hg : 70 < n ∨ 70 < n'
  · rcases hg with hg | hg
    · go_enter Try.func4, Try.ntmps4
      go_wp2_with fail
      all_goals
        go_ret
        exact ⟨rfl, Below.refl _ _⟩
    · by_cases hg2 : 70 < n
      · go_enter Try.func4, Try.ntmps4
        go_wp2_with fail
        all_goals
          go_ret
          exact ⟨rfl, Below.refl _ _⟩
      · go_enter Try.func4, Try.ntmps4
        go_wp2_with fail
        all_goals
          go_ret
          exact ⟨rfl, Below.refl _ _⟩
  have hg1 : n ≤ 70 := by omega
  have hg2 : n' ≤ 70 := by omega
  clear hg
  have S00 := ((St.start w).addRd hr).addRd hr'
  have hlb : bs.length = n' := by simpa using hr'.len
  have hk1 := countersG_small x
  have hk2 := satinMG_small x y
  have hk3 := twillG_small l st
  have hk4 := runsG_small bs
  have H3 := Lib.hid (fun W => satin_any x y W)
  have H4 := Lib.hid (fun W => rsatinm_any x y W)
  have H1 := Lib.hid (fun W => counters_any x W)
  have H2 := Lib.hid (fun W => rcounters_any x W)
  have H5 := Lib.hid (fun W h => twill_any l st A n c W h (by omega))
  have H6 := Lib.hid (fun W h => rtwill_any l st A n c W h (by omega))
  have H7 := Lib.hid (fun W h => runs_any bs A' n' c' W h hc')
  have H8 := Lib.hid (fun W h => rruns_any bs A' n' c' W h)
  generalize countersG x = r1 at *
  generalize satinMG x y = r2 at *
  generalize twillG l st = r3 at *
  generalize runsG bs = r4 at *
  obtain ⟨l1, e1⟩ := r1
  obtain ⟨g2, e2⟩ := r2
  obtain ⟨g3, e3⟩ := r3
  obtain ⟨l4, e4⟩ := r4
  simp only at hk1 hk2 hk3 hk4 H1 H2 H3 H4 H5 H6 H7 H8
  have hown0 : (w.alloc (.cells #[] 3)).ownsRow w.heap.size 3 1 (.slice (some ⟨w.heap.size, 0, none⟩) 0 0) 0 [] := own_of_blk (Blk.new w 3 #[]) (Nat.le_refl _) (by simp [maxLen])
  have S0 := S00.alloc (.cells #[] 3)
  simp only [List.nil_append, List.cons_append] at S0
  clear hr hr'
  have HS00 := Lib.hid S00
  clear S00
  go_enter Try.func4, Try.ntmps4
  go_wp2_with (at_builtin; go_loud (refine wpList_app_all _ rfl (.tmp 36) (.tmp 37) 26 rfl w.heap.size 3 i0 (.int .i64 0) 8 Try.underlying26 hi hz0 hz1 hz2 rfl (by decide) (.slice (some ⟨w.heap.size, 0, none⟩) 0 0) 0 _ rfl hown0 A n c _ rfl (S0.rd 0 rfl) (oneCell_nums _) (by omega) S0.size ?_))
  intro A0 c0 w0 hown hgr
  have hb0 := S0.below.grown hgr S0.size (fun q hq => (hown0.lt q hq).1)
  try simp only [Nat.zero_add, List.nil_append] at hown
  have S1 := (HS00.out.keep hb0).addRd (rd_of_own hown)
  simp only [List.nil_append, List.cons_append] at S1
  clear S0 hown0 hgr hb0 hown HS00
  go_wp2_with fail
  refine (H1.out _).mono ?_
  rintro e w2 ⟨A2, n2, cc2, rfl, hown2, hb2⟩
  have hz1b : n2 ≤ 1048576 := by have h1 := hown2.1; simp at h1; omega
  have S2 := (S1.keep hb2).addRd (rd_of_own hown2)
  simp only [List.nil_append, List.cons_append] at S2
  clear S1
  go_wp2_with fail
  refine (H2.out _).mono ?_
  rintro e w3 ⟨A3, n3, cc3, rfl, hown3, hb3⟩
  have S3 := (S2.keep hb3).addRd (rd_of_own hown3)
  simp only [List.nil_append, List.cons_append] at S3
  clear S2
  go_wp2_with fail
  refine (H3.out _).mono ?_
  rintro e w4 ⟨A4, n4, cc4, rfl, hown4, hb4⟩
  simp only at hown4 ⊢
  have S4 := ((S3.keep hb4).addRd (rd_of_own hown4)).box #[.int .i64 g2.w, .int .i64 g2.h, .slice A4 n4 cc4] 24
  simp only [List.nil_append, List.cons_append] at S4
  clear S3
  have hz2b : n4 ≤ 1048576 := by have h1 := hown4.1; simp at h1; omega
  go_wp2_with fail
  refine (H4.out _).mono ?_
  rintro e w5 ⟨A5, n5, cc5, rfl, hown5, hb5⟩
  simp only at hown5 ⊢
  have S5 := ((S4.keep hb5).addRd (rd_of_own hown5)).box #[.int .i64 g2.w, .int .i64 g2.h, .slice A5 n5 cc5] 24
  simp only [List.nil_append, List.cons_append] at S5
  clear S4
  go_wp2_with fail
  refine (H5.out _ (S5.rd 0 rfl)).mono ?_
  rintro e w6 ⟨A6, n6, cc6, rfl, hown6, hb6⟩
  simp only at hown6 ⊢
  have S6 := ((S5.keep hb6).addRd (rd_of_own hown6)).box #[.int .i64 g3.w, .int .i64 g3.h, .slice A6 n6 cc6] 24
  simp only [List.nil_append, List.cons_append] at S6
  clear S5
  have hz3b : n6 ≤ 1048576 := by have h1 := hown6.1; simp at h1; omega
  go_wp2_with fail
  refine (H6.out _ (S6.rd 0 rfl)).mono ?_
  rintro e w7 ⟨A7, n7, cc7, rfl, hown7, hb7⟩
  simp only at hown7 ⊢
  have S7 := ((S6.keep hb7).addRd (rd_of_own hown7)).box #[.int .i64 g3.w, .int .i64 g3.h, .slice A7 n7 cc7] 24
  simp only [List.nil_append, List.cons_append] at S7
  clear S6
  go_wp2_with fail
  refine (H7.out _ (S7.rd 1 rfl)).mono ?_
  rintro e w8 ⟨A8, n8, cc8, rfl, hown8, hb8⟩
  have hz4b : n8 ≤ 1048576 := by have h1 := hown8.1; simp at h1; omega
  have S8 := (S7.keep hb8).addRd (rd_of_own hown8)
  simp only [List.nil_append, List.cons_append] at S8
  clear S7
  go_wp2_with fail
  refine (H8.out _ (S8.rd 1 rfl)).mono ?_
  rintro e w9 ⟨A9, n9, cc9, rfl, hown9, hb9⟩
  have S9 := (S8.keep hb9).addRd (rd_of_own hown9)
  simp only [List.nil_append, List.cons_append] at S9
  clear S8
  go_wp2_with fail
  refine (lsame_any l1 _ _ _ _ _ _ _ (S9.rd 3 rfl) (S9.rd 4 rfl) hz1b).mono ?_
  rintro e w10 ⟨rfl, hb10⟩
  have S10 := S9.keep hb10
  clear S9
  obtain ⟨c00, c01, c02⟩ := (S10.blk 6 rfl).cell3
  obtain ⟨c10, c11, c12⟩ := (S10.blk 8 rfl).cell3
  go_wp2_with fail
  refine (same_to g2 g2 (sameG_self g2) _ _ _ _ _ _ _ (S10.rd 5 rfl) (S10.rd 7 rfl) hz2b).mono ?_
  rintro e w11 ⟨rfl, hb11⟩
  clear c00 c01 c02 c10 c11 c12
  have S11 := S10.keep hb11
  clear S10
  obtain ⟨c20, c21, c22⟩ := (S11.blk 10 rfl).cell3
  obtain ⟨c30, c31, c32⟩ := (S11.blk 12 rfl).cell3
  go_wp2_with fail
  refine (same_to g3 g3 (sameG_self g3) _ _ _ _ _ _ _ (S11.rd 9 rfl) (S11.rd 11 rfl) hz3b).mono ?_
  rintro e w12 ⟨rfl, hb12⟩
  clear c20 c21 c22 c30 c31 c32
  have S12 := S11.keep hb12
  clear S11
  go_wp2_with fail
  refine (lsame_any l4 _ _ _ _ _ _ _ (S12.rd 13 rfl) (S12.rd 14 rfl) hz4b).mono ?_
  rintro e w13 ⟨rfl, hb13⟩
  have S13 := S12.keep hb13
  clear S12
  go_wp2_with fail
  refine (lsame_any l _ _ _ _ _ _ _ (S13.rd 0 rfl) (S13.rd 2 rfl) (by omega)).mono ?_
  rintro e w14 ⟨rfl, hb14⟩
  have S14 := S13.keep hb14
  clear S13
  go_wp2_with fail
  go_ret
  exact ⟨rfl, S14.below⟩
end Go.Proofs.Ytbgekiifffnalaa
