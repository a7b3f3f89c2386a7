/- raddletop.alive17 answers true. -/
import Derived.Test.YtmajmbfbnchbfaaMg12z
import Derived.Test.YtmajmbfbnchbfaaMg10z
import Derived.Test.YtmajmbfbnchbfaaMg11z
import Derived.Test.YtmajmbfbnchbfaaShowsA15z
import Derived.Test.YtmajmbfbnchbfaaMg16z
namespace Go.Proofs.Ytmajmbfbnchbfaa
open Go.RowKit

def plB : List Bool := [true, false, false, true]
theorem pl_weave (w : World) (B1 B2 bt c1 c2 ct : Nat) (r1 : Rd w (some ⟨B1, 0, none⟩) 2 (([0, 1] : List Int).map (Value.int .i64))) (r2 : Rd w (some ⟨B2, 0, none⟩) 2 (([0, 1] : List Int).map (Value.int .i64))) (rt : Rd w (some ⟨bt, 0, none⟩) 4 (plB.map Value.bool)) :
    Calls Try.prog 6 #[.agg #[.int .i64 2, .int .i64 2, .slice (some ⟨B1, 0, none⟩) 2 c1, .slice (some ⟨B2, 0, none⟩) 2 c2, .int .i64 2, .int .i64 2, .slice (some ⟨bt, 0, none⟩) 4 ct]] w fun e w' =>
      ∃ g c, e = .returned (.tuple #[.agg #[.int .i64 2, .int .i64 2, .slice (some ⟨g, 0, none⟩) 4 c], .int .i64 0]) ∧ Rd w' (some ⟨g, 0, none⟩) 4 (plB.map Value.bool) ∧ 4 ≤ c ∧ Below w.heap.size w w' := by
  refine (weave3_any 2 2 bt 0 ct B1 0 2 c1 B2 0 2 c2 [0, 1] [0, 1] plB w ⟨by decide, by decide, by decide, by decide, by decide, by decide, by decide, by decide, rfl, rfl, by decide, by decide, rfl⟩ r1 r2 rt).mono ?_
  rintro e w' ⟨A, c, rfl, ho, hb⟩
  obtain ⟨g, rfl⟩ := own_addr ho (by decide)
  rw [show Pl.tab 2 2 (wovF [0, 1] [0, 1] plB 2) = plB from by decide] at ho
  exact ⟨g, c, rfl, rd_of_own ho, own_cap ho, hb⟩
theorem pl_front (w : World) (g c B3 B4 c3 c4 : Nat) (r : Rd w (some ⟨g, 0, none⟩) 4 (plB.map Value.bool)) (r3 : Rd w (some ⟨B3, 0, none⟩) 2 (([0, 1] : List Int).map (Value.int .i64))) (r4 : Rd w (some ⟨B4, 0, none⟩) 2 (([0, 1] : List Int).map (Value.int .i64))) :
    Calls Try.prog 9 #[.agg #[.int .i64 2, .int .i64 2, .slice (some ⟨g, 0, none⟩) 4 c], .slice (some ⟨B3, 0, none⟩) 2 c3, .slice (some ⟨B4, 0, none⟩) 2 c4] w fun e w' =>
      ∃ A c', e = .returned (.tuple #[.agg #[.int .i64 2, .int .i64 2, .slice A 4 c'], .int .i64 0]) ∧ Rd w' A 4 (([0, 0, 1, 1] : List Int).map (Value.int .i64)) ∧ Below w.heap.size w w' := by
  refine (front_any ⟨2, 2, plB⟩ [0, 1] [0, 1] (some ⟨g, 0, none⟩) (some ⟨B3, 0, none⟩) (some ⟨B4, 0, none⟩) 4 c 2 c3 2 c4 w r r3 r4).mono ?_
  rintro e w' ⟨A, n, c', rfl, ho, hb⟩
  rw [show frontI ⟨2, 2, plB⟩ [0, 1] [0, 1] = (⟨2, 2, [0, 0, 1, 1]⟩, 0) from by kernel_rfl] at *
  obtain rfl : n = 4 := by have := ho.1; simpa using this.symm
  exact ⟨A, c', rfl, rd_of_own ho, hb⟩
theorem pl_shows (w : World) (g c B3 B4 c3 c4 c' : Nat) (A : Option Addr) (r : Rd w (some ⟨g, 0, none⟩) 4 (plB.map Value.bool)) (rm : Rd w A 4 (([0, 0, 1, 1] : List Int).map (Value.int .i64))) (r3 : Rd w (some ⟨B3, 0, none⟩) 2 (([0, 1] : List Int).map (Value.int .i64))) (r4 : Rd w (some ⟨B4, 0, none⟩) 2 (([0, 1] : List Int).map (Value.int .i64))) :
    Calls Try.prog 15 #[.agg #[.int .i64 2, .int .i64 2, .slice (some ⟨g, 0, none⟩) 4 c], .agg #[.int .i64 2, .int .i64 2, .slice A 4 c'], .slice (some ⟨B3, 0, none⟩) 2 c3, .slice (some ⟨B4, 0, none⟩) 2 c4] w fun e w' =>
      e = .returned (.tuple #[.bool true, .int .i64 0]) ∧ Below w.heap.size w w' := by
  have h := shows_any ⟨2, 2, plB⟩ ⟨2, 2, [0, 0, 1, 1]⟩ [0, 1] [0, 1] (some ⟨g, 0, none⟩) A (some ⟨B3, 0, none⟩) (some ⟨B4, 0, none⟩) 4 c 4 c' 2 c3 2 c4 w r rm (by decide) r3 r4
  rwa [show showsI ⟨2, 2, plB⟩ ⟨2, 2, [0, 0, 1, 1]⟩ [0, 1] [0, 1] = (true, 0) from by decide] at h
theorem pl_best (w : World) (g c : Nat) (r : Rd w (some ⟨g, 0, none⟩) 4 (plB.map Value.bool)) (hc : 4 ≤ c) :
    Calls Try.prog 18 #[.agg #[.int .i64 2, .int .i64 2, .slice (some ⟨g, 0, none⟩) 4 c], .int .i64 1] w fun e w' =>
      ∃ B cl, e = .returned (.tuple #[.slice (some ⟨B, 0, none⟩) 2 cl, .int .i64 2, .int .i64 0]) ∧ Below w.heap.size w w' := by
  refine (best_any 2 2 1 plB g 0 c w (by decide) (by decide) (by decide) (by decide) (by decide) (by decide) rfl r hc).mono ?_
  rintro e w' ⟨B, cl, l, rfl, hl, hg, ho, hb⟩
  obtain rfl : l = [0, 0] := by
    match l, hl with
    | [x, y], _ =>
      have h1 := hg x (by simp)
      have h2 := hg y (by simp)
      obtain rfl : x = 0 := by omega
      obtain rfl : y = 0 := by omega
      rfl
  exact ⟨B, cl, rfl, hb⟩
theorem pl_same (w : World) (A A2 : Option Addr) (c c2 : Nat) (r : Rd w A 4 (([0, 0, 1, 1] : List Int).map (Value.int .i64))) (r2 : Rd w A2 4 (([0, 0, 1, 1] : List Int).map (Value.int .i64))) :
    Calls Try.prog 19 #[.agg #[.int .i64 2, .int .i64 2, .slice A 4 c], .agg #[.int .i64 2, .int .i64 2, .slice A2 4 c2]] w fun e w' => e = .returned (.bool true) ∧ Below w.heap.size w w' := by
  have h := rsameI_any ⟨2, 2, [0, 0, 1, 1]⟩ ⟨2, 2, [0, 0, 1, 1]⟩ A A2 4 c 4 c2 w r r2 (by decide)
  rwa [show sameI ⟨2, 2, [0, 0, 1, 1]⟩ ⟨2, 2, [0, 0, 1, 1]⟩ = true from by decide] at h
set_option maxHeartbeats 2000000 in
set_option maxRecDepth 100000 in
theorem alive17_any (w : World) : Calls Try.prog 4 #[] w fun e w' => e = .returned (.bool true) ∧ Below w.heap.size w w' := by
  go_enter Try.func4, Try.ntmps4
  go_wp2_with fail
  refine (stripes_any _).mono ?_
  rintro e w1 ⟨B1, B2, B3, B4, bt, c1, c2, c3, c4, ct, rfl, r1, r2, r3, r4, rt, hb1⟩
  have S1 := ((((((St.start w).keep hb1).addRd r1).addRd r2).addRd r3).addRd r4).addRd rt
  simp only [List.cons_append, List.nil_append] at S1
  have S1 := S1.box #[.int .i64 2, .int .i64 2, .slice (some ⟨B1, 0, none⟩) 2 c1, .slice (some ⟨B2, 0, none⟩) 2 c2, .int .i64 2, .int .i64 2, .slice (some ⟨bt, 0, none⟩) 4 ct] 27
  simp only [List.cons_append, List.nil_append] at S1
  clear r1 r2 r3 r4 rt hb1
  unfold dC
  obtain ⟨d0, d1, d2, d3, d4, d5, d6⟩ := (S1.blk 5 rfl).cell7
  go_wp2_with fail
  refine (pl_weave _ B1 B2 bt c1 c2 ct (S1.rd 0 rfl) (S1.rd 1 rfl) (S1.rd 4 rfl)).mono ?_
  rintro e w2 ⟨g, cg, rfl, rg, hcg, hb2⟩
  have S2 := ((S1.keep hb2).addRd rg).box #[.int .i64 2, .int .i64 2, .slice (some ⟨g, 0, none⟩) 4 cg] 25
  simp only [List.cons_append, List.nil_append] at S2
  clear d0 d1 d2 d3 d4 d5 d6 S1 hb2 rg
  obtain ⟨g0, g1, g2⟩ := (S2.blk 7 rfl).cell3
  go_wp2_with fail
  refine (pl_front _ g cg B3 B4 c3 c4 (S2.rd 6 rfl) (S2.rd 2 rfl) (S2.rd 3 rfl)).mono ?_
  rintro e w3 ⟨Am, cm, rfl, rm, hb3⟩
  have S3 := ((S2.keep hb3).addRd rm).box #[.int .i64 2, .int .i64 2, .slice Am 4 cm] 36
  simp only [List.cons_append, List.nil_append] at S3
  clear g0 g1 g2 S2 hb3 rm
  obtain ⟨g0, g1, g2⟩ := (S3.blk 7 rfl).cell3
  obtain ⟨m0, m1, m2⟩ := (S3.blk 9 rfl).cell3
  go_wp2_with fail
  refine (pl_shows _ g cg B3 B4 c3 c4 cm Am (S3.rd 6 rfl) (S3.rd 8 rfl) (S3.rd 2 rfl) (S3.rd 3 rfl)).mono ?_
  rintro e w4 ⟨rfl, hb4⟩
  have S4 := S3.keep hb4
  clear g0 g1 g2 m0 m1 m2 S3 hb4
  obtain ⟨g0, g1, g2⟩ := (S4.blk 7 rfl).cell3
  go_wp2_with fail
  refine (pl_best _ g cg (S4.rd 6 rfl) hcg).mono ?_
  rintro e w5 ⟨Bl, cl, rfl, hb5⟩
  clear g0 g1 g2
  obtain ⟨m0, m1, m2⟩ := ((S4.keep hb5).blk 9 rfl).cell3
  go_wp2_with fail
  have S5 := (S4.keep hb5).box #[.int .i64 0, .int .i64 0, .int .i64 1, .int .i64 1] 3
  simp only [List.cons_append, List.nil_append] at S5
  refine (pl_same _ Am (some ⟨w5.heap.size, 0, none⟩) cm 4 (S5.rd 8 rfl) (rd_lit (S5.blk 10 rfl))).mono ?_
  rintro e w6 ⟨rfl, hb6⟩
  have S6 := S5.keep hb6
  clear m0 m1 m2 S4 S5 hb5 hb6
  go_wp2_with fail
  go_ret
  exact ⟨rfl, S6.below⟩
end Go.Proofs.Ytmajmbfbnchbfaa
