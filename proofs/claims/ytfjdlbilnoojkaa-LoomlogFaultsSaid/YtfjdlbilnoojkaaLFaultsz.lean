/- The law LoomlogFaults, walked: it answers true and turns nothing that was there. -/
import Derived.Test.YtfjdlbilnoojkaaRFind20z
import Derived.Test.YtfjdlbilnoojkaaSpoil20z
import Derived.Test.YtfjdlbilnoojkaaRSpoil20z
import Derived.Test.YtfjdlbilnoojkaaGreatz
import Derived.Test.YtfjdlbilnoojkaaRSamez
namespace Go.Proofs.Ytfjdlbilnoojkaa
open Go.RowKit

theorem spoilG_small (W H : Int) (bs : List Bool) (q k : Int) (lift : List Bool) : (spoilG W H bs q k lift).1.bits.length ≤ 1048576 := by
  unfold spoilG
  split
  · exact Nat.zero_le _
  · split
    · exact Nat.zero_le _
    · split
      · exact Nat.zero_le _
      · split
        · exact Nat.zero_le _
        · split
          · exact Nat.zero_le _
          · rename_i h
            obtain ⟨a, b, _, _, _, ha, _, hb, hn⟩ := chkP_zero (show chkP W (spoiltL (rowsB W.toNat H.toNat bs) q k.toNat lift).length (spoiltL (rowsB W.toNat H.toNat bs) q k.toNat lift).flatten.length = 0 by simpa using h)
            show (spoiltL (rowsB W.toNat H.toNat bs) q k.toNat lift).flatten.length ≤ 1048576
            rw [hn]
            exact Nat.le_trans (Nat.mul_le_mul hb ha) (by decide)
theorem sameG_refl (g : Gd) : sameG g g = true := decide_eq_true ⟨rfl, rfl, rfl⟩
set_option linter.unusedVariables false in
set_option maxHeartbeats 8000000 in
set_option maxRecDepth 100000 in
theorem lfaults_walk (g g' : Gd) (q k : Int) (l : List Bool) (A : Option Addr) (n c : Nat) (A' : Option Addr) (n' c' : Nat) (Al : Option Addr) (nl cl : Nat) (w : World) (hr : Rd w A n (g.bits.map Value.bool)) (hn : n ≤ c) (hr' : Rd w A' n' (g'.bits.map Value.bool)) (hn' : n' ≤ c')
    (hq0 : 0 ≤ q) (hrl : Rd w Al nl (l.map Value.bool)) :
    Calls Try.prog 4 #[.agg #[.int .i64 g.w, .int .i64 g.h, .slice A n c], .agg #[.int .i64 g'.w, .int .i64 g'.h, .slice A' n' c'], .agg #[.int .u8 q, .int .i64 k], .slice Al nl cl] w fun e w' => e = .returned (.bool true) ∧ Below w.heap.size w w' := by
  obtain ⟨W, H, bs⟩ := g
  obtain ⟨W2, H2, bt⟩ := g'
  simp only at hr hr' ⊢
  have hll : l.length = nl := by simpa using hrl.len
  have S0 := (((St.start w).box #[.int .i64 W, .int .i64 H, .slice A n c] 25).box #[.int .i64 W2, .int .i64 H2, .slice A' n' c'] 25).box #[.int .u8 q, .int .i64 k] 46
  simp only [size_alloc1, List.nil_append, List.cons_append] at S0
  have HG1 := Lib.hid (fun u => great_any W H A n c u)
  have HG2 := Lib.hid (fun u => great_any W2 H2 A' n' c' u)
  obtain ⟨c0, c1, c2⟩ := (S0.blk 0 rfl).cell3
  by_cases hb1 : 4200 < n
  · rw [decide_eq_true hb1] at HG1
    go_enter Try.func4, Try.ntmps4
    go_wp2_with fail
    refine (HG1.out _).mono ?_
    rintro e w1 ⟨rfl, hw1⟩
    go_wp2_with fail
    go_ret
    exact ⟨rfl, (S0.keep hw1).below⟩
  rw [decide_eq_false hb1] at HG1
  by_cases hb2 : 4200 < n'
  · rw [decide_eq_true hb2] at HG2
    go_enter Try.func4, Try.ntmps4
    go_wp2_with fail
    refine (HG1.out _).mono ?_
    rintro e w1 ⟨rfl, hw1⟩
    have S1 := S0.keep hw1
    clear c0 c1 c2
    obtain ⟨d0, d1, d2⟩ := (S1.blk 1 rfl).cell3
    go_wp2_with fail
    refine (HG2.out _).mono ?_
    rintro e w2 ⟨rfl, hw2⟩
    go_wp2_with fail
    go_ret
    exact ⟨rfl, (S1.keep hw2).below⟩
  rw [decide_eq_false hb2] at HG2
  by_cases hb3 : 50 < nl
  · have hd3 : decide (50 < (nl : Int)) = true := decide_eq_true (by omega)
    go_enter Try.func4, Try.ntmps4
    go_wp2_with fail
    refine (HG1.out _).mono ?_
    rintro e w1 ⟨rfl, hw1⟩
    have S1 := S0.keep hw1
    clear c0 c1 c2
    obtain ⟨d0, d1, d2⟩ := (S1.blk 1 rfl).cell3
    go_wp2_with fail
    refine (HG2.out _).mono ?_
    rintro e w2 ⟨rfl, hw2⟩
    go_wp2_with fail
    go_ret
    exact ⟨rfl, (S1.keep hw2).below⟩
  have hd3 : decide (50 < (nl : Int)) = false := decide_eq_false (by omega)
  obtain ⟨R, hR⟩ : ∃ R, R = spoilG W H bs q k l := ⟨_, rfl⟩
  subst hll
  have C1 := Lib.hid (fun u (hu : Below w.heap.size w u) => find20_any W H W2 H2 bs bt A A' n c n' c' u (hr.below hu) hn (hr'.below hu) hn')
  have C2 := Lib.hid (fun u (hu : Below w.heap.size w u) => rfind20_any W H W2 H2 bs bt A A' n c n' c' u (hr.below hu) (hr'.below hu))
  have C3 := Lib.hid (fun u (hu : Below w.heap.size w u) => hR ▸ spoil20_any W H bs A n c q k l Al cl u (hr.below hu) hn (hrl.below hu) hq0 (by omega))
  have C4 := Lib.hid (fun u (hu : Below w.heap.size w u) => hR ▸ rspoil20_any W H bs A n c q k l Al cl u (hr.below hu) hn (hrl.below hu) hq0 (by omega))
  have ZR := Lib.hid (show R.1.bits.length ≤ 1048576 from hR ▸ spoilG_small W H bs q k l)
  obtain ⟨⟨rw_, rh_, rb_⟩, rt_⟩ := R
  simp only at ZR
  clear hR hr hr' hrl hb1 hb2 hb3
  go_enter Try.func4, Try.ntmps4
  go_wp2_with fail
  refine (HG1.out _).mono ?_
  rintro e w1 ⟨rfl, hw1⟩
  have S1 := S0.keep hw1
  clear c0 c1 c2
  obtain ⟨d0, d1, d2⟩ := (S1.blk 1 rfl).cell3
  go_wp2_with fail
  refine (HG2.out _).mono ?_
  rintro e w2 ⟨rfl, hw2⟩
  have S2 := S1.keep hw2
  clear d0 d1 d2 S0 S1 hw1 hw2
  obtain ⟨c0, c1, c2⟩ := (S2.blk 0 rfl).cell3
  obtain ⟨d0, d1, d2⟩ := (S2.blk 1 rfl).cell3
  go_wp2_with fail
  refine (C1.out _ S2.below).mono ?_
  rintro e w3 ⟨fq, fk, ft, rfl, hA1, hw3⟩
  have S3 := (S2.keep hw3).box #[.int .u8 fq, .int .i64 fk] 46
  simp only [List.cons_append, List.nil_append] at S3
  clear c0 c1 c2 d0 d1 d2
  obtain ⟨c0, c1, c2⟩ := (S3.blk 0 rfl).cell3
  obtain ⟨d0, d1, d2⟩ := (S3.blk 1 rfl).cell3
  go_wp2_with fail
  refine (C2.out _ S3.below).mono ?_
  rintro e w4 ⟨fq', fk', ft', rfl, hA2, hw4⟩
  obtain ⟨rfl, rfl, rfl⟩ := hA1.unique hA2
  have S4 := (S3.keep hw4).box #[.int .u8 fq, .int .i64 fk] 46
  simp only [List.cons_append, List.nil_append] at S4
  clear c0 c1 c2 d0 d1 d2 hA1 hA2 S2 S3 hw3 hw4
  obtain ⟨c0, c1, c2⟩ := (S4.blk 0 rfl).cell3
  obtain ⟨e0, e1⟩ := (S4.blk 2 rfl).cell2
  go_wp2_with fail
  refine (C3.out _ S4.below).mono ?_
  rintro e w5 ⟨A5, n5, c5, rfl, hown5, hw5⟩
  have S5 := ((S4.keep hw5).addRd (rd_of_own hown5)).box #[.int .i64 rw_, .int .i64 rh_, .slice A5 n5 c5] 25
  simp only [List.cons_append, List.nil_append] at S5
  have hn5 : n5 ≤ 1048576 := by have h1 := (rd_of_own hown5).len; rw [List.length_map] at h1; have := ZR.out; simp only at h1; omega
  clear c0 c1 c2 e0 e1 S4 hw5 hown5
  obtain ⟨c0, c1, c2⟩ := (S5.blk 0 rfl).cell3
  obtain ⟨e0, e1⟩ := (S5.blk 2 rfl).cell2
  go_wp2_with fail
  refine (C4.out _ S5.below).mono ?_
  rintro e w6 ⟨A6, n6, c6, rfl, hown6, hw6⟩
  have S6 := ((S5.keep hw6).addRd (rd_of_own hown6)).box #[.int .i64 rw_, .int .i64 rh_, .slice A6 n6 c6] 25
  simp only [List.cons_append, List.nil_append] at S6
  clear c0 c1 c2 e0 e1 S5 hw6 hown6
  obtain ⟨k0, k1⟩ := (S6.blk 3 rfl).cell2
  obtain ⟨m0, m1⟩ := (S6.blk 4 rfl).cell2
  obtain ⟨c0, c1, c2⟩ := (S6.blk 6 rfl).cell3
  obtain ⟨d0, d1, d2⟩ := (S6.blk 8 rfl).cell3
  go_wp2_with fail
  refine (show Calls Try.prog 21 #[.agg #[.int .i64 rw_, .int .i64 rh_, .slice A5 n5 c5], .agg #[.int .i64 rw_, .int .i64 rh_, .slice A6 n6 c6]] _ _ from sameG_refl ⟨rw_, rh_, rb_⟩ ▸ rsame_any ⟨rw_, rh_, rb_⟩ ⟨rw_, rh_, rb_⟩ A5 A6 n5 c5 n6 c6 _ (S6.rd 5 rfl) (S6.rd 7 rfl) hn5).mono ?_
  rintro e w7 ⟨rfl, hw7⟩
  go_wp2_with fail
  go_ret
  exact ⟨rfl, (S6.keep hw7).below⟩
end Go.Proofs.Ytfjdlbilnoojkaa
