/- The law LoomlogFound, walked. -/
import Derived.Test.YtfjdlbilnoojkaaAlive20z
import Derived.Test.YtfjdlbilnoojkaaMg8z
import Derived.Test.YtfjdlbilnoojkaaRows20z
import Derived.Test.YtfjdlbilnoojkaaSpoil20z
import Derived.Test.YtfjdlbilnoojkaaFoundPz
import Derived.Test.YtfjdlbilnoojkaaRowFlatz
import Derived.Test.YtfjdlbilnoojkaaMg6z
namespace Go.Proofs.Ytfjdlbilnoojkaa
open Go.RowKit

theorem sameG_r (g : Gd) : sameG g g = true := decide_eq_true ⟨rfl, rfl, rfl⟩
set_option linter.unusedVariables false in
set_option maxHeartbeats 8000000 in
set_option maxRecDepth 100000 in
theorem lfound_walk (g : Gd) (q k0 : Int) (l : List Bool) (A : Option Addr) (n c : Nat) (Al : Option Addr) (nl cl : Nat) (w : World) (hr : Rd w A n (g.bits.map Value.bool)) (hnc : n ≤ c) (hq0 : 0 ≤ q) (hrl : Rd w Al nl (l.map Value.bool)) :
    Calls Try.prog 8 #[.agg #[.int .i64 g.w, .int .i64 g.h, .slice A n c], .agg #[.int .u8 q, .int .i64 k0], .slice Al nl cl] w fun e w' => e = .returned (.bool true) ∧ Below w.heap.size w w' := by
  obtain ⟨W, H, bs⟩ := g
  simp only at hr ⊢
  have hl : bs.length = n := by simpa using hr.len
  have hll : l.length = nl := by simpa using hrl.len
  subst hll
  have S0 := ((St.start w).box #[.int .i64 W, .int .i64 H, .slice A n c] 25).box #[.int .u8 q, .int .i64 k0] 46
  simp only [size_alloc1, List.nil_append, List.cons_append] at S0
  have HAL := Lib.hid (fun u => alive20_any u)
  have HF1 := Lib.hid (fun u => fit20_any W H A n c u)
  by_cases h1 : chkP W H n = 0
  · rw [decide_eq_true h1] at HF1
    by_cases hb3 : 50 < l.length
    · have hd3 : decide (50 < (l.length : Int)) = true := decide_eq_true (by omega)
      have hd3n : decide (50 < l.length) = true := decide_eq_true hb3
      go_enter Try.func8, Try.ntmps8
      go_wp2_with fail
      refine (HAL.out _).mono ?_
      rintro e w1 ⟨rfl, hb1⟩
      have S1 := S0.keep hb1
      obtain ⟨c0, c1, c2⟩ := (S1.blk 0 rfl).cell3
      go_wp2_with fail
      refine (HF1.out _).mono ?_
      rintro e w2 ⟨rfl, hb2⟩
      have S2 := S1.keep hb2
      clear c0 c1 c2 hb1 hb2 S1
      go_wp2_with fail
      go_ret
      exact ⟨rfl, S2.below⟩
    · have hd3 : decide (50 < (l.length : Int)) = false := decide_eq_false (by omega)
      have hd3n : decide (50 < l.length) = false := decide_eq_false hb3
      by_cases ht : (spoilG W H bs q k0 l).2 = 0
      · clear h1
        obtain ⟨hck, hq3, harg, hlq, hckP⟩ := spoilG_zero ht
        have hck' : chkP W H n = 0 := by rw [← hl]; exact hck
        obtain ⟨a, h, rfl, rfl, ha1, ha, hh1, hh, hn⟩ := chkP_zero hck'
        obtain ⟨k, rfl⟩ : ∃ k : Nat, k0 = (k : Int) := ⟨k0.toNat, by omega⟩
        have hlen : bs.length = h * a := hl.trans hn
        have hkh : k < h := by omega
        simp only [Int.toNat_natCast] at hckP
        obtain ⟨P, hP⟩ : ∃ P, spoiltL (rowsB a h bs) q k l = P := ⟨_, rfl⟩
        rw [hP] at hckP
        have hrP : RowsN a P := by rw [← hP]; exact spoiltL_rows (rowsB_rows hlen) (by rw [rowsB_len]; exact hkh) (fun h3 => by have h4 : ¬ (l.length : Int) ≠ a := fun h4 => hlq ⟨h3, h4⟩; omega)
        have hR : spoilG a h bs q k l = (liftsG a P, 0) := (spoilG_5 hck hq3 harg hlq hP).2 hckP
        have SPN := Lib.hid (fun (kn : Nat) (hkn : kn ≤ k) (hsp : spoiltL (rowsB a h bs) q kn l = P) u (hu : Below w.heap.size w u) => show Calls Try.prog 25 #[.agg #[.int .i64 a, .int .i64 h, .slice A n c], .agg #[.int .u8 q, .int .i64 kn], .slice Al l.length cl] u (RetG (liftsG a P, 0) u) from
          (spoilG_5 hck hq3 (fun e => harg (by omega)) hlq hsp).2 hckP ▸ spoil20_any a h bs A n c q kn l Al cl u (hr.below hu) hnc (hrl.below hu) hq0 (by omega))
        have HSP := Lib.hid (fun u (hu : Below w.heap.size w u) => SPN.out k (Nat.le_refl _) hP u hu)
        have hPL := Nat.le_trans (Nat.le_of_eq (flat_len hrP)) (Nat.le_refl _)
        have hm64 : P.length ≤ 64 := by
          obtain ⟨_, m2, _, hm2, _, _, _, h6, _⟩ := chkP_zero hckP
          omega
        have HPL := Lib.hid (show P.flatten.length ≤ 1048576 from Nat.le_trans (Nat.le_of_eq (flat_len hrP)) (Nat.le_trans (Nat.mul_le_mul hm64 ha) (by decide)))
        have hNL : n ≤ 2560 := by rw [hn]; exact Nat.mul_le_mul hh ha
        have hsameq := sameG_rows hlen hrP
        obtain ⟨m, hm⟩ : ∃ m, P.length = m := ⟨_, rfl⟩
        obtain ⟨bt, hbt⟩ : ∃ bt, P.flatten = bt := ⟨_, rfl⟩
        have hflat : rowsB a m bt = P := by rw [← hm, ← hbt]; exact rowsB_flat2 hrP
        rw [hm, hbt] at hsameq hckP
        rw [hbt] at HPL
        have HF2 := Lib.hid (fun (A' : Option Addr) (n' c' : Nat) u (h2 : Rd u A' n' (bt.map Value.bool)) => show Calls Try.prog 28 #[.agg #[.int .i64 a, .int .i64 (m : Nat), .slice A' n' c']] u (fun e w' => e = .returned (.bool true) ∧ Below u.heap.size u w') from decide_eq_true (show chkP a m n' = 0 by have h3 := h2.len; rw [List.length_map] at h3; rw [← h3]; exact hckP) ▸ fit20_any a m A' n' c' u)
        have HFD := Lib.hid (fun (A' : Option Addr) (n' c' : Nat) (hc' : n' ≤ c') u (hu : Below w.heap.size w u) (hr2 : Rd u A' n' (bt.map Value.bool)) => find20_any a h a m bs bt A A' n c n' c' u (hr.below hu) hnc hr2 hc')
        have FDR := Lib.hid (fun (fq fk ft : Int) (hA : FindA a h bs a m bt fq fk ft) => show FindR (rowsB a h bs) P fq fk ft from by
          unfold FindA at hA
          rw [if_neg (by simpa using hck), if_neg (by simpa using hckP), if_neg (by simp)] at hA
          simp only [Int.toNat_natCast] at hA
          rw [hflat] at hA
          exact hA)
        unfold liftsG at HSP SPN
        rw [hm, hbt] at HSP SPN
        have hA1 : decide ((k : Int) < 0) = false := decide_eq_false (by omega)
        have hA2 : decide ((h : Int) ≤ k) = false := decide_eq_false (by omega)
        have hA2n : decide (h ≤ k) = false := decide_eq_false (by omega)
        have HNN := Lib.hid (And.intro hck hckP)
        clear hck hck' hckP hR ht hl hrl hPL hm64 hlq hn hflat hbt hm
        by_cases hq0' : q = 0
        · subst hq0'
          go_enter Try.func8, Try.ntmps8
          go_wp2_with fail
          refine (HAL.out _).mono ?_
          rintro e w1 ⟨rfl, hb1⟩
          have S1 := S0.keep hb1
          obtain ⟨c0, c1, c2⟩ := (S1.blk 0 rfl).cell3
          go_wp2_with fail
          refine (HF1.out _).mono ?_
          rintro e w2 ⟨rfl, hb2⟩
          have S2 := S1.keep hb2
          clear c0 c1 c2 hb1 hb2 S1
          have hab : rowsB a h bs = P := by rw [← hP]; exact spoiltL_none.symm
          obtain ⟨c0, c1, c2⟩ := (S2.blk 0 rfl).cell3
          obtain ⟨d0, d1⟩ := (S2.blk 1 rfl).cell2
          go_wp2_with fail
          refine (HSP.out _ S2.below).mono ?_
          rintro e w3 ⟨A2, n2, c2', rfl, hown3, hb3⟩
          have hc3 := own_le20 hown3
          have S4 := ((S2.keep hb3).addRd (rd_of_own hown3)).box #[.int .i64 a, .int .i64 (m : Nat), .slice A2 n2 c2'] 25
          simp only [List.cons_append, List.nil_append] at S4
          clear c0 c1 c2 d0 d1 S2 hb3 hown3
          obtain ⟨c0, c1, c2⟩ := (S4.blk 0 rfl).cell3
          obtain ⟨d0, d1⟩ := (S4.blk 1 rfl).cell2
          obtain ⟨g0, g1, g2⟩ := (S4.blk 3 rfl).cell3
          go_wp2_with fail
          refine (HF2.out A2 n2 c2' _ (S4.rd 2 rfl)).mono ?_
          rintro e w4 ⟨rfl, hb4⟩
          have S5 := S4.keep hb4
          clear c0 c1 c2 d0 d1 g0 g1 g2 S4 hb4
          obtain ⟨c0, c1, c2⟩ := (S5.blk 0 rfl).cell3
          obtain ⟨d0, d1⟩ := (S5.blk 1 rfl).cell2
          obtain ⟨g0, g1, g2⟩ := (S5.blk 3 rfl).cell3
          go_wp2_with fail
          refine (HFD.out A2 n2 c2' hc3 _ S5.below (S5.rd 2 rfl)).mono ?_
          rintro e w5 ⟨fq, fk, ft, rfl, hA, hb5⟩
          have hA2 := FDR.out _ _ _ hA
          rw [hab] at hA2
          obtain ⟨rfl, rfl, rfl⟩ := hA2.same
          have hz2 : decide ((k : Int) < 0) = false := decide_eq_false (by omega)
          have hz3 : decide ((h : Int) ≤ 0) = false := decide_eq_false (by omega)
          have S6 := (S5.keep hb5).box #[.int .u8 0, .int .i64 0] 46
          simp only [List.cons_append, List.nil_append] at S6
          clear c0 c1 c2 d0 d1 g0 g1 g2 S5 hb5
          obtain ⟨c0, c1, c2⟩ := (S6.blk 0 rfl).cell3
          obtain ⟨d0, d1⟩ := (S6.blk 1 rfl).cell2
          obtain ⟨g0, g1, g2⟩ := (S6.blk 3 rfl).cell3
          obtain ⟨f0, f1⟩ := (S6.blk 4 rfl).cell2
          go_wp2_with fail
          go_ret
          exact ⟨rfl, S6.below⟩
        have hq123 : q = 1 ∨ q = 2 ∨ q = 3 := by omega
        have hqb0 : (q == 0) = false := by simpa using hq0'
        by_cases hqt : q = 3
        · subst hqt
          by_cases hab : rowsB a h bs = P
          · have HSAME : sameG ⟨a, h, bs⟩ ⟨a, m, bt⟩ = true := hsameq.trans (decide_eq_true hab)
            go_enter Try.func8, Try.ntmps8
            go_wp2_with fail
            refine (HAL.out _).mono ?_
            rintro e w1 ⟨rfl, hb1⟩
            have S1 := S0.keep hb1
            obtain ⟨c0, c1, c2⟩ := (S1.blk 0 rfl).cell3
            go_wp2_with fail
            refine (HF1.out _).mono ?_
            rintro e w2 ⟨rfl, hb2⟩
            have S2 := S1.keep hb2
            clear c0 c1 c2 hb1 hb2 S1
            have HSM := Lib.hid (fun (A' : Option Addr) (n' c' : Nat) u (hu : Below w.heap.size w u) (hr2 : Rd u A' n' (bt.map Value.bool)) => show Calls Try.prog 21 #[.agg #[.int .i64 a, .int .i64 h, .slice A n c], .agg #[.int .i64 a, .int .i64 (m : Nat), .slice A' n' c']] u (fun e w' => e = .returned (.bool true) ∧ Below u.heap.size u w') from HSAME ▸ rsame_any ⟨a, h, bs⟩ ⟨a, m, bt⟩ A A' n c n' c' u (hr.below hu) hr2 (by omega))
            obtain ⟨c0, c1, c2⟩ := (S2.blk 0 rfl).cell3
            obtain ⟨d0, d1⟩ := (S2.blk 1 rfl).cell2
            go_wp2_with fail
            refine (HSP.out _ S2.below).mono ?_
            rintro e w3 ⟨A2, n2, c2', rfl, hown3, hb3⟩
            have hc3 := own_le20 hown3
            have S4 := ((S2.keep hb3).addRd (rd_of_own hown3)).box #[.int .i64 a, .int .i64 (m : Nat), .slice A2 n2 c2'] 25
            simp only [List.cons_append, List.nil_append] at S4
            clear c0 c1 c2 d0 d1 S2 hb3 hown3
            obtain ⟨c0, c1, c2⟩ := (S4.blk 0 rfl).cell3
            obtain ⟨d0, d1⟩ := (S4.blk 1 rfl).cell2
            obtain ⟨g0, g1, g2⟩ := (S4.blk 3 rfl).cell3
            go_wp2_with fail
            refine (HF2.out A2 n2 c2' _ (S4.rd 2 rfl)).mono ?_
            rintro e w4 ⟨rfl, hb4⟩
            have S5 := S4.keep hb4
            clear c0 c1 c2 d0 d1 g0 g1 g2 S4 hb4
            obtain ⟨c0, c1, c2⟩ := (S5.blk 0 rfl).cell3
            obtain ⟨d0, d1⟩ := (S5.blk 1 rfl).cell2
            obtain ⟨g0, g1, g2⟩ := (S5.blk 3 rfl).cell3
            go_wp2_with fail
            refine (HFD.out A2 n2 c2' hc3 _ S5.below (S5.rd 2 rfl)).mono ?_
            rintro e w5 ⟨fq, fk, ft, rfl, hA, hb5⟩
            have hA2 := FDR.out _ _ _ hA
            rw [hab] at hA2
            obtain ⟨rfl, rfl, rfl⟩ := hA2.same
            have hz2 : decide ((k : Int) < 0) = false := decide_eq_false (by omega)
            have hz3 : decide ((h : Int) ≤ 0) = false := decide_eq_false (by omega)
            have S6 := (S5.keep hb5).box #[.int .u8 0, .int .i64 0] 46
            simp only [List.cons_append, List.nil_append] at S6
            clear c0 c1 c2 d0 d1 g0 g1 g2 S5 hb5
            obtain ⟨c0, c1, c2⟩ := (S6.blk 0 rfl).cell3
            obtain ⟨d0, d1⟩ := (S6.blk 1 rfl).cell2
            obtain ⟨g0, g1, g2⟩ := (S6.blk 3 rfl).cell3
            obtain ⟨f0, f1⟩ := (S6.blk 4 rfl).cell2
            go_wp2_with fail
            refine (HSM.out A2 _ c2' _ S6.below (S6.rd 2 rfl)).mono ?_
            rintro e w7 ⟨rfl, hb7⟩
            have S7 := S6.keep hb7
            clear f0 f1
            obtain ⟨f0, f1⟩ := (S7.blk 4 rfl).cell2
            go_wp2_with fail
            go_ret
            exact ⟨rfl, S7.below⟩
          · have HSAME : sameG ⟨a, h, bs⟩ ⟨a, m, bt⟩ = false := hsameq.trans (decide_eq_false hab)
            go_enter Try.func8, Try.ntmps8
            go_wp2_with fail
            refine (HAL.out _).mono ?_
            rintro e w1 ⟨rfl, hb1⟩
            have S1 := S0.keep hb1
            obtain ⟨c0, c1, c2⟩ := (S1.blk 0 rfl).cell3
            go_wp2_with fail
            refine (HF1.out _).mono ?_
            rintro e w2 ⟨rfl, hb2⟩
            have S2 := S1.keep hb2
            clear c0 c1 c2 hb1 hb2 S1
            have HSM := Lib.hid (fun (A' : Option Addr) (n' c' : Nat) u (hu : Below w.heap.size w u) (hr2 : Rd u A' n' (bt.map Value.bool)) => show Calls Try.prog 21 #[.agg #[.int .i64 a, .int .i64 h, .slice A n c], .agg #[.int .i64 a, .int .i64 (m : Nat), .slice A' n' c']] u (fun e w' => e = .returned (.bool false) ∧ Below u.heap.size u w') from HSAME ▸ rsame_any ⟨a, h, bs⟩ ⟨a, m, bt⟩ A A' n c n' c' u (hr.below hu) hr2 (by omega))
            obtain ⟨c0, c1, c2⟩ := (S2.blk 0 rfl).cell3
            obtain ⟨d0, d1⟩ := (S2.blk 1 rfl).cell2
            go_wp2_with fail
            refine (HSP.out _ S2.below).mono ?_
            rintro e w3 ⟨A2, n2, c2', rfl, hown3, hb3⟩
            have hc3 := own_le20 hown3
            have S4 := ((S2.keep hb3).addRd (rd_of_own hown3)).box #[.int .i64 a, .int .i64 (m : Nat), .slice A2 n2 c2'] 25
            simp only [List.cons_append, List.nil_append] at S4
            clear c0 c1 c2 d0 d1 S2 hb3 hown3
            obtain ⟨c0, c1, c2⟩ := (S4.blk 0 rfl).cell3
            obtain ⟨d0, d1⟩ := (S4.blk 1 rfl).cell2
            obtain ⟨g0, g1, g2⟩ := (S4.blk 3 rfl).cell3
            go_wp2_with fail
            refine (HF2.out A2 n2 c2' _ (S4.rd 2 rfl)).mono ?_
            rintro e w4 ⟨rfl, hb4⟩
            have S5 := S4.keep hb4
            clear c0 c1 c2 d0 d1 g0 g1 g2 S4 hb4
            obtain ⟨c0, c1, c2⟩ := (S5.blk 0 rfl).cell3
            obtain ⟨d0, d1⟩ := (S5.blk 1 rfl).cell2
            obtain ⟨g0, g1, g2⟩ := (S5.blk 3 rfl).cell3
            go_wp2_with fail
            refine (HFD.out A2 n2 c2' hc3 _ S5.below (S5.rd 2 rfl)).mono ?_
            rintro e w5 ⟨fq, fk, ft, rfl, hA, hb5⟩
            obtain ⟨rfl, rfl, kn, hkn, rfl, hkn3, hrows, hsp⟩ := found_fault (by rw [rowsB_len]; exact hkh) (.inr (.inr rfl)) hP hab (FDR.out _ _ _ hA)
            have HSP2 := Lib.hid (fun u (hu : Below w.heap.size w u) => SPN.out kn hkn hsp u hu)
            have HROWS := Lib.hid (fun (y : Nat) (hy0 : kn ≤ y) (hy : y < k) u (hu : Below w.heap.size w u) => show Calls Try.prog 30 #[.agg #[.int .i64 a, .int .i64 h, .slice A n c], .int .i64 y, .agg #[.int .i64 a, .int .i64 h, .slice A n c], .int .i64 k] u (fun e w' => e = .returned (.bool true) ∧ Below u.heap.size u w') from
              decide_eq_true (show rowB a bs y = rowB a bs k by rw [← rowsB_getD (show y < h by omega), ← rowsB_getD hkh]; exact hrows y hy0 hy) ▸ rows20_any a h h y k bs bs A A n c n c u (by omega) hh hh (by omega) hkh hlen hlen (hr.below hu) (hr.below hu))
            obtain rfl := (hkn3 rfl).symm
            have hz1 : decide ((k : Int) < 0) = false := decide_eq_false (by omega)
            have hz3 : decide ((h : Int) ≤ k) = false := decide_eq_false (by omega)
            have hz3n : decide (h ≤ k) = false := decide_eq_false (by omega)
            have S6 := (S5.keep hb5).box #[.int .u8 3, .int .i64 k] 46
            simp only [List.cons_append, List.nil_append] at S6
            clear c0 c1 c2 d0 d1 g0 g1 g2 S5 hb5
            obtain ⟨c0, c1, c2⟩ := (S6.blk 0 rfl).cell3
            obtain ⟨d0, d1⟩ := (S6.blk 1 rfl).cell2
            obtain ⟨g0, g1, g2⟩ := (S6.blk 3 rfl).cell3
            obtain ⟨f0, f1⟩ := (S6.blk 4 rfl).cell2
            go_wp2_with fail
            refine (HSM.out A2 _ c2' _ S6.below (S6.rd 2 rfl)).mono ?_
            rintro e w7 ⟨rfl, hb7⟩
            have S7 := S6.keep hb7
            clear c0 c1 c2 d0 d1 g0 g1 g2 f0 f1 S6 hb7
            obtain ⟨f0, f1⟩ := (S7.blk 4 rfl).cell2
            obtain ⟨d0, d1⟩ := (S7.blk 1 rfl).cell2
            go_wp2_with fail
            go_loopw [12] (fun i wr => ∃ y : Nat, k ≤ y ∧ y ≤ k ∧ i = .int .i64 y ∧ St w [Fact.blk w.heap.size 25 #[.int .i64 a, .int .i64 h, .slice A n c], Fact.blk (w.heap.size + 1) 46 #[.int .u8 3, .int .i64 (k : Nat)], Fact.rd A2 n2 (bt.map Value.bool), Fact.blk w3.heap.size 25 #[.int .i64 a, .int .i64 (m : Nat), .slice A2 n2 c2'], Fact.blk w5.heap.size 46 #[.int .u8 3, .int .i64 (k : Nat)]] wr) (fun i _ => k - (intOf i).toNat)
            case atStart => exact ⟨k, Nat.le_refl _, hkn, rfl, S7⟩
            case round =>
              obtain ⟨y, hy0, hy, rfl, T1⟩ := hrel
              clear S7
              obtain ⟨c0, c1, c2⟩ := (T1.blk 0 rfl).cell3
              obtain ⟨d0, d1⟩ := (T1.blk 1 rfl).cell2
              by_cases hlt : y < k
              · exact absurd hlt (Nat.not_lt.2 hy0)
              · obtain rfl : y = k := by omega
                obtain ⟨f0, f1⟩ := (T1.blk 4 rfl).cell2
                go_wp2_with fail
                refine (HSP2.out _ T1.below).mono ?_
                rintro e w9 ⟨A9, n9, c9, rfl, hown9, hb9⟩
                have T3 := ((T1.keep hb9).addRd (rd_of_own hown9)).box #[.int .i64 a, .int .i64 (m : Nat), .slice A9 n9 c9] 25
                simp only [List.cons_append, List.nil_append] at T3
                have hn9 : n9 ≤ 1048576 := by have h1 := (T3.rd 5 rfl).len; rw [List.length_map] at h1; have h2 := HPL.out; exact h1 ▸ h2
                clear c0 c1 c2 d0 d1 f0 f1 T1 hb9 hown9
                obtain ⟨g0, g1, g2⟩ := (T3.blk 3 rfl).cell3
                obtain ⟨k0, k1, k2⟩ := (T3.blk 6 rfl).cell3
                go_wp2_with fail
                refine (show Calls Try.prog 21 #[.agg #[.int .i64 a, .int .i64 (m : Nat), .slice A9 n9 c9], .agg #[.int .i64 a, .int .i64 (m : Nat), .slice A2 n2 c2']] _ _ from sameG_r ⟨a, m, bt⟩ ▸ rsame_any ⟨a, m, bt⟩ ⟨a, m, bt⟩ A9 A2 n9 c9 n2 c2' _ (T3.rd 5 rfl) (T3.rd 2 rfl) hn9).mono ?_
                rintro e w10 ⟨rfl, hb10⟩
                go_wp2_with fail
                go_ret
                exact ⟨rfl, (T3.keep hb10).below⟩
        have hqb3 : (q == 3) = false := by simpa using hqt
        have hqq : (q != q) = false := by simp
        have hab : rowsB a h bs ≠ P := fun e => by
          have h1 := spoiltL_len (show k < (rowsB a h bs).length by rw [rowsB_len]; exact hkh) q l
          rw [hP, ← e, rowsB_len] at h1
          rcases hq123 with rfl | rfl | rfl <;> simp at h1 hqt <;> omega
        go_enter Try.func8, Try.ntmps8
        go_wp2_with fail
        refine (HAL.out _).mono ?_
        rintro e w1 ⟨rfl, hb1⟩
        have S1 := S0.keep hb1
        obtain ⟨c0, c1, c2⟩ := (S1.blk 0 rfl).cell3
        go_wp2_with fail
        refine (HF1.out _).mono ?_
        rintro e w2 ⟨rfl, hb2⟩
        have S2 := S1.keep hb2
        clear c0 c1 c2 hb1 hb2 S1
        obtain ⟨c0, c1, c2⟩ := (S2.blk 0 rfl).cell3
        obtain ⟨d0, d1⟩ := (S2.blk 1 rfl).cell2
        go_wp2_with fail
        refine (HSP.out _ S2.below).mono ?_
        rintro e w3 ⟨A2, n2, c2', rfl, hown3, hb3⟩
        have hc3 := own_le20 hown3
        have S4 := ((S2.keep hb3).addRd (rd_of_own hown3)).box #[.int .i64 a, .int .i64 (m : Nat), .slice A2 n2 c2'] 25
        simp only [List.cons_append, List.nil_append] at S4
        clear c0 c1 c2 d0 d1 S2 hb3 hown3
        obtain ⟨c0, c1, c2⟩ := (S4.blk 0 rfl).cell3
        obtain ⟨d0, d1⟩ := (S4.blk 1 rfl).cell2
        obtain ⟨g0, g1, g2⟩ := (S4.blk 3 rfl).cell3
        go_wp2_with fail
        refine (HF2.out A2 n2 c2' _ (S4.rd 2 rfl)).mono ?_
        rintro e w4 ⟨rfl, hb4⟩
        have S5 := S4.keep hb4
        clear c0 c1 c2 d0 d1 g0 g1 g2 S4 hb4
        obtain ⟨c0, c1, c2⟩ := (S5.blk 0 rfl).cell3
        obtain ⟨d0, d1⟩ := (S5.blk 1 rfl).cell2
        obtain ⟨g0, g1, g2⟩ := (S5.blk 3 rfl).cell3
        go_wp2_with fail
        refine (HFD.out A2 n2 c2' hc3 _ S5.below (S5.rd 2 rfl)).mono ?_
        rintro e w5 ⟨fq, fk, ft, rfl, hA, hb5⟩
        obtain ⟨rfl, rfl, kn, hkn, rfl, hkn3, hrows, hsp⟩ := found_fault (by rw [rowsB_len]; exact hkh) hq123 hP hab (FDR.out _ _ _ hA)
        have HSP2 := Lib.hid (fun u (hu : Below w.heap.size w u) => SPN.out kn hkn hsp u hu)
        have HROWS := Lib.hid (fun (y : Nat) (hy0 : kn ≤ y) (hy : y < k) u (hu : Below w.heap.size w u) => show Calls Try.prog 30 #[.agg #[.int .i64 a, .int .i64 h, .slice A n c], .int .i64 y, .agg #[.int .i64 a, .int .i64 h, .slice A n c], .int .i64 k] u (fun e w' => e = .returned (.bool true) ∧ Below u.heap.size u w') from
          decide_eq_true (show rowB a bs y = rowB a bs k by rw [← rowsB_getD (show y < h by omega), ← rowsB_getD hkh]; exact hrows y hy0 hy) ▸ rows20_any a h h y k bs bs A A n c n c u (by omega) hh hh (by omega) hkh hlen hlen (hr.below hu) (hr.below hu))
        have hz1 : decide ((kn : Int) < 0) = false := decide_eq_false (by omega)
        have hz2 : decide ((k : Int) < kn) = false := decide_eq_false (by omega)
        have hz2n : decide (k < kn) = false := decide_eq_false (by omega)
        have hz3 : decide ((h : Int) ≤ kn) = false := decide_eq_false (by omega)
        have hz3n : decide (h ≤ kn) = false := decide_eq_false (by omega)
        have S6 := (S5.keep hb5).box #[.int .u8 fq, .int .i64 kn] 46
        simp only [List.cons_append, List.nil_append] at S6
        clear c0 c1 c2 d0 d1 g0 g1 g2 S5 hb5
        obtain ⟨c0, c1, c2⟩ := (S6.blk 0 rfl).cell3
        obtain ⟨d0, d1⟩ := (S6.blk 1 rfl).cell2
        obtain ⟨g0, g1, g2⟩ := (S6.blk 3 rfl).cell3
        obtain ⟨f0, f1⟩ := (S6.blk 4 rfl).cell2
        go_wp2_with fail
        go_loopw [12] (fun i wr => ∃ y : Nat, kn ≤ y ∧ y ≤ k ∧ i = .int .i64 y ∧ St w [Fact.blk w.heap.size 25 #[.int .i64 a, .int .i64 h, .slice A n c], Fact.blk (w.heap.size + 1) 46 #[.int .u8 fq, .int .i64 (k : Nat)], Fact.rd A2 n2 (bt.map Value.bool), Fact.blk w3.heap.size 25 #[.int .i64 a, .int .i64 (m : Nat), .slice A2 n2 c2'], Fact.blk w5.heap.size 46 #[.int .u8 fq, .int .i64 (kn : Nat)]] wr) (fun i _ => k - (intOf i).toNat)
        case atStart => exact ⟨kn, Nat.le_refl _, hkn, rfl, S6⟩
        case round =>
          obtain ⟨y, hy0, hy, rfl, T1⟩ := hrel
          clear S6
          obtain ⟨c0, c1, c2⟩ := (T1.blk 0 rfl).cell3
          obtain ⟨d0, d1⟩ := (T1.blk 1 rfl).cell2
          by_cases hlt : y < k
          · go_wp2_with fail
            refine (HROWS.out y hy0 hlt _ T1.below).mono ?_
            rintro e w8 ⟨rfl, hb8⟩
            have T2 := T1.keep hb8
            go_wp2_with fail
            go_roundw
            case rel => exact ⟨y + 1, by omega, by omega, by go_num, T2⟩
            case measure => simp [intOf]; omega
          · obtain rfl : y = k := by omega
            obtain ⟨f0, f1⟩ := (T1.blk 4 rfl).cell2
            go_wp2_with fail
            refine (HSP2.out _ T1.below).mono ?_
            rintro e w9 ⟨A9, n9, c9, rfl, hown9, hb9⟩
            have T3 := ((T1.keep hb9).addRd (rd_of_own hown9)).box #[.int .i64 a, .int .i64 (m : Nat), .slice A9 n9 c9] 25
            simp only [List.cons_append, List.nil_append] at T3
            have hn9 : n9 ≤ 1048576 := by have h1 := (T3.rd 5 rfl).len; rw [List.length_map] at h1; have h2 := HPL.out; exact h1 ▸ h2
            clear c0 c1 c2 d0 d1 f0 f1 T1 hb9 hown9
            obtain ⟨g0, g1, g2⟩ := (T3.blk 3 rfl).cell3
            obtain ⟨k0, k1, k2⟩ := (T3.blk 6 rfl).cell3
            go_wp2_with fail
            refine (show Calls Try.prog 21 #[.agg #[.int .i64 a, .int .i64 (m : Nat), .slice A9 n9 c9], .agg #[.int .i64 a, .int .i64 (m : Nat), .slice A2 n2 c2']] _ _ from sameG_r ⟨a, m, bt⟩ ▸ rsame_any ⟨a, m, bt⟩ ⟨a, m, bt⟩ A9 A2 n9 c9 n2 c2' _ (T3.rd 5 rfl) (T3.rd 2 rfl) hn9).mono ?_
            rintro e w10 ⟨rfl, hb10⟩
            go_wp2_with fail
            go_ret
            exact ⟨rfl, (T3.keep hb10).below⟩
      · have HSP := Lib.hid (fun u (hu : Below w.heap.size w u) => spoil20_any W H bs A n c q k0 l Al cl u (hr.below hu) hnc (hrl.below hu) hq0 (by omega))
        generalize spoilG W H bs q k0 l = R at *
        obtain ⟨⟨rw_, rh_, rb_⟩, rt_⟩ := R
        simp only at ht
        have htb : (rt_ != 0) = true := by simpa using ht
        clear h1 hr hl hrl ht
        go_enter Try.func8, Try.ntmps8
        go_wp2_with fail
        refine (HAL.out _).mono ?_
        rintro e w1 ⟨rfl, hb1⟩
        have S1 := S0.keep hb1
        obtain ⟨c0, c1, c2⟩ := (S1.blk 0 rfl).cell3
        go_wp2_with fail
        refine (HF1.out _).mono ?_
        rintro e w2 ⟨rfl, hb2⟩
        have S2 := S1.keep hb2
        clear c0 c1 c2 hb1 hb2 S1
        obtain ⟨c0, c1, c2⟩ := (S2.blk 0 rfl).cell3
        obtain ⟨d0, d1⟩ := (S2.blk 1 rfl).cell2
        go_wp2_with fail
        refine (HSP.out _ S2.below).mono ?_
        rintro e w3 ⟨A2, n2, c2', rfl, hown3, hb3⟩
        go_wp2_with fail
        go_ret
        exact ⟨rfl, ((S2.keep hb3).alloc _).below⟩
  · rw [decide_eq_false h1] at HF1
    clear h1 hr hl hrl
    go_enter Try.func8, Try.ntmps8
    go_wp2_with fail
    refine (HAL.out _).mono ?_
    rintro e w1 ⟨rfl, hb1⟩
    have S1 := S0.keep hb1
    obtain ⟨c0, c1, c2⟩ := (S1.blk 0 rfl).cell3
    go_wp2_with fail
    refine (HF1.out _).mono ?_
    rintro e w2 ⟨rfl, hb2⟩
    have S2 := S1.keep hb2
    clear c0 c1 c2 hb1 hb2 S1
    go_wp2_with fail
    go_ret
    exact ⟨rfl, S2.below⟩
end Go.Proofs.Ytfjdlbilnoojkaa
