/- The law SymmetryApplies, walked: it answers true and turns nothing that was there, for any grid and numbers. -/
import Derived.Test.YtliibficmdomjaaComp
import Derived.Test.YtliibficmdomjaaRComp
import Derived.Test.YtliibficmdomjaaApply
import Derived.Test.YtliibficmdomjaaRApply
import Derived.Test.YtliibficmdomjaaTwin
import Derived.Test.YtliibficmdomjaaSameTo
import Derived.BigRegion
namespace Go.Proofs.Ytliibficmdomjaa
open Go.RowKit

theorem compose_b (m n : Int) (w : World) : Calls Try.prog 10 #[.int .i64 m, .int .i64 n] w fun e w' => e = .returned (.tuple #[.int .i64 (compG m n).1, .int .i64 (compG m n).2]) ∧ Below w.heap.size w w' :=
  (compose_any m n w).mono fun _ _ ⟨h1, h2⟩ => ⟨h1, h2 ▸ Below.refl _ _⟩
theorem inverse_b (m : Int) (w : World) : Calls Try.prog 12 #[.int .i64 m] w fun e w' => e = .returned (.tuple #[.int .i64 (invG m).1, .int .i64 (invG m).2]) ∧ Below w.heap.size w w' :=
  (inverse_any m w).mono fun _ _ ⟨h1, h2⟩ => ⟨h1, h2 ▸ Below.refl _ _⟩
theorem applyG_small (g : Gd) (op : Int) : (applyG g op).1.bits.length ≤ 4096 := by
  unfold applyG
  split
  · simp [Gd.zero]
  · split
    · simp [Gd.zero]
    · rename_i hs _
      have hc : startN g.w g.h g.bits.length = 0 := Decidable.byContradiction (fun h => hs (by rw [startG_n rfl]; exact h))
      obtain ⟨h1, _, _⟩ := startN_zero hc
      obtain ⟨a, b, e1, e2, _, ha, _, hb, _⟩ := chk_zero h1
      rw [e1, e2]
      unfold appG appB
      rw [Pl.tab_length]
      have k1 := Nat.mul_le_mul ha hb
      have k2 := Nat.mul_le_mul hb ha
      split <;> simp only [Int.toNat_natCast] <;> omega

set_option maxHeartbeats 4000000 in
set_option maxRecDepth 100000 in
theorem applies_walk (g : Gd) (X Y : Int) (A : Option Addr) (n c : Nat) (w : World) (hr : Rd w A n (g.bits.map Value.bool)) :
    Calls Try.prog 3 #[.agg #[.int .i64 g.w, .int .i64 g.h, .slice A n c], .int .i64 X, .int .i64 Y] w fun e w' => e = .returned (.bool true) ∧ Below w.heap.size w w' := by
  have S0 := ((St.start w).addRd hr).box #[.int .i64 g.w, .int .i64 g.h, .slice A n c] 24
  simp only [List.nil_append, List.cons_append] at S0
  have hAlt := hr.lt
  have H1 := Lib.hid (fun W h => apply_any g X A n c W h)
  have H2 := Lib.hid (fun W h => rapply_any g X A n c W h)
  have H3 := Lib.hid (fun W => compose_b X Y W)
  have H4 := Lib.hid (fun W => rcompose_any X Y W)
  have H5 := Lib.hid (fun W => inverse_b X W)
  have H6 := Lib.hid (fun W => rinverse_any X W)
  have z1 := applyG_small g X
  generalize applyG g X = r1 at *
  generalize compG X Y = r2 at *
  generalize invG X = r3 at *
  obtain ⟨⟨x1, y1, l1⟩, e1⟩ := r1
  obtain ⟨x2, e2⟩ := r2
  obtain ⟨x3, e3⟩ := r3
  simp only at z1 H1 H2 H3 H4 H5 H6
  obtain ⟨c00, c01, c02⟩ := (S0.blk 1 rfl).cell3
  go_enter Try.func3, Try.ntmps3
  go_wp2_with fail
  refine (great7_any _ _ _ _ _ _).mono ?_
  rintro e w1 ⟨r, rfl, hgr, hb1⟩
  clear c00 c01 c02
  have S1 := S0.keep hb1
  cases r with
  | true =>
    go_wp2_with fail
    go_ret
    exact ⟨rfl, S1.below⟩
  | false =>
  have hn := hgr rfl
  clear hgr
  have sw2 := S1.size
  obtain ⟨c10, c11, c12⟩ := (S1.blk 1 rfl).cell3
  go_wp2_with fail
  refine (twin_any _ _ _ _ _ g.bits _ (S1.rd 0 rfl) (by omega)).mono ?_
  rintro e w2 ⟨A2, n2, cc2, rfl, hown2, hb2⟩
  simp only at hown2 ⊢
  clear c10 c11 c12
  have S2 := ((S1.keep hb2).addRd (rd_of_own hown2)).box #[.int .i64 g.w, .int .i64 g.h, .slice A2 n2 cc2] 24
  simp only [List.nil_append, List.cons_append] at S2
  clear S1
  have hAt := (rd_of_own hown2).lt
  obtain ⟨c20, c21, c22⟩ := (S2.blk 1 rfl).cell3
  go_wp2_with fail
  refine (H1.out _ (S2.rd 0 rfl)).mono ?_
  rintro e w3 ⟨A3, n3, cc3, rfl, hown3, hb3⟩
  simp only at hown3 ⊢
  clear c20 c21 c22
  have S3 := ((S2.keep hb3).addRd (rd_of_own hown3)).box #[.int .i64 x1, .int .i64 y1, .slice A3 n3 cc3] 24
  simp only [List.nil_append, List.cons_append] at S3
  clear S2
  obtain ⟨S', hS', hA4, ho4⟩ := own_head hown3
  have k4 : n3 ≤ 4096 := by have := hown3.1; simp at this; omega
  obtain ⟨c30, c31, c32⟩ := (S3.blk 1 rfl).cell3
  go_wp2_with fail
  refine (H2.out _ (S3.rd 0 rfl)).mono ?_
  rintro e w4 ⟨A4, n4, cc4, rfl, hown4, hb4⟩
  simp only at hown4 ⊢
  clear c30 c31 c32
  have S4 := ((S3.keep hb4).addRd (rd_of_own hown4)).box #[.int .i64 x1, .int .i64 y1, .slice A4 n4 cc4] 24
  simp only [List.nil_append, List.cons_append] at S4
  replace hown3 := own_below (hown3.alloc _) hb4
  clear S3
  go_wp2_with fail
  refine (H3.out _).mono ?_
  rintro e w5 ⟨rfl, hb5⟩
  have S5 := S4.keep hb5
  replace hown3 := own_below (hown3.alloc _) hb5
  clear S4
  go_wp2_with fail
  refine (H4.out _).mono ?_
  rintro e w6 ⟨rfl, hb6⟩
  have S6 := S5.keep hb6
  replace hown3 := own_below (hown3) hb6
  clear S5
  go_wp2_with fail
  refine (H5.out _).mono ?_
  rintro e w7 ⟨rfl, hb7⟩
  have S7 := S6.keep hb7
  replace hown3 := own_below (hown3) hb7
  clear S6
  go_wp2_with fail
  refine (H6.out _).mono ?_
  rintro e w8 ⟨rfl, hb8⟩
  have S8 := S7.keep hb8
  replace hown3 := own_below (hown3) hb8
  clear S7
  obtain ⟨c40, c41, c42⟩ := (S8.blk 5 rfl).cell3
  obtain ⟨c50, c51, c52⟩ := (S8.blk 7 rfl).cell3
  go_wp2_with fail
  refine (same_to ⟨x1, y1, l1⟩ ⟨x1, y1, l1⟩ (sameG_self _) _ _ _ _ _ _ _ (S8.rd 4 rfl) (S8.rd 6 rfl) (by omega)).mono ?_
  rintro e w9 ⟨rfl, hb9⟩
  clear c40 c41 c42 c50 c51 c52
  have S9 := S8.keep hb9
  replace hown3 := own_below (hown3) hb9
  clear S8
  obtain ⟨c60, c61, c62⟩ := (S9.blk 5 rfl).cell3
  clear hb1 hb4 hb5 hb6 hb7 hb8 hb9 H1 H2 H3 H4 H5 H6
  go_wp2_with fail
  clear c60 c61 c62
  go_loopw [20] (fun i wr => ∃ (k : Nat) (l : List Bool), k ≤ n3 ∧ i = .int .i64 k ∧ wr.ownsRow (w2.heap.size + 1) 4 1 (.slice A3 n3 cc3) n3 (l.map Value.bool) ∧ Only S' w9 wr) (fun i _ => n3 - (intOf i).toNat)
  case atStart => exact ⟨0, l1, Nat.zero_le _, rfl, own_base hown3 (by simp), Only.refl _ _⟩
  case round =>
    obtain ⟨k, l, hk, rfl, hown, hon⟩ := hrel
    have hs7 : ∀ q ∈ S', w2.heap.size < q ∧ q < w3.heap.size := fun q hq => by have := hS' _ hq; simp at this; omega
    have sz := S9.below.size
    have hx := (S9.blk 5 rfl).only hon (fun hm => by have := hs7 _ hm; omega)
    obtain ⟨d0, d1, d2⟩ := hx.cell3
    by_cases hlt : k < n3
    · obtain ⟨g, rfl, hg⟩ := hA4 (by omega)
      have hll : l.length = n3 := by simpa using hown.1
      have hcell : wr.cell? ⟨g, k, none⟩ = some (.bool (l.getD k false)) := by
        rw [hown.cellAt k (by omega), List.getElem?_map, List.getElem?_eq_getElem (by omega)]
        simp [List.getD, show k < l.length by omega]
      have hfr := hown.frozenAt k
      have hst := hown.stored k (.bool (!(l.getD k false)))
      have R1 := Lib.hid hst.1
      have R2 := Lib.hid (hon.set (p := ⟨g, k, none⟩) hg (.bool (!(l.getD k false))))
      generalize l.getD k false = p at *
      clear hst hown hon hll hA4 hown3 ho4 hS' S9 hx hAlt hAt hs7 hown2 hb2 hb3 S0
      go_wp2_with fail
      go_region
      all_goals
        go_wp2_with fail
        go_roundw
        case rel => exact ⟨k + 1, l.set k (!p), by omega, by go_num, by rw [List.map_set]; exact R1.out, R2.out.drew⟩
        case measure => simp [intOf]; omega
    · have hn7 : k = n3 := by omega
      have sz3 := hb2.size
      have sz4 := hb3.size
      have hB1 := S9.below.trans (hon.below (B := w.heap.size) (fun q hq => by have := hs7 _ hq; omega) S9.size)
      have ha := (S9.blk 1 rfl).only hon (fun hm => by have := hs7 _ hm; omega)
      have ht := (S9.blk 3 rfl).only hon (fun hm => by have := hs7 _ hm; omega)
      have hra := (S9.rd 0 rfl).only hon (fun b o h1 h2 hm => by have := hAlt b o h1 h2; have := hs7 _ hm; omega)
      have hrt := (S9.rd 2 rfl).only hon (fun b o h1 h2 hm => by have := hAt b o h1 h2; have := hs7 _ hm; omega)
      obtain ⟨ca0, ca1, ca2⟩ := ha.cell3
      obtain ⟨cb0, cb1, cb2⟩ := ht.cell3
      clear hon hS' hA4 hs7 hown hown3 hx ho4 hAlt hAt
      go_wp2_with fail
      refine (same_to g g (sameG_self _) _ _ _ _ _ _ _ hra hrt (by omega)).mono ?_
      rintro e w20 ⟨rfl, hb20⟩
      go_wp2_with fail
      go_ret
      exact ⟨rfl, below_then hB1 hb20⟩
end Go.Proofs.Ytliibficmdomjaa
