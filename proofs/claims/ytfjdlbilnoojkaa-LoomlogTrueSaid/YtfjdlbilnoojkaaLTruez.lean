/- The law LoomlogTrue, walked. -/
import Derived.Test.YtfjdlbilnoojkaaAlive20z
import Derived.Test.YtfjdlbilnoojkaaMlthx2z
import Derived.Test.YtfjdlbilnoojkaaIs20z
import Derived.Test.YtfjdlbilnoojkaaBlk2z
namespace Go.Proofs.Ytfjdlbilnoojkaa
open Go.RowKit

theorem not_isR {a b : List (List Bool)} {k K : Nat} {q Q : Int} (hk : k < a.length) (hq0 : 0 ≤ q) (hq3 : q ≤ 3) (hab : a ≠ b) (hno : NoF a b K Q) (h : k < K ∨ (k = K ∧ q < Q)) : ¬ isR a b q k := by
  by_cases h0 : q = 0
  · subst h0
    exact fun e => hab ((isR_none _).1 e)
  · have h3 : q = 1 ∨ q = 2 ∨ q = 3 := by omega
    exact fun e => hno k q h3 h ((isR_fault hk h3).1 e)
set_option linter.unusedVariables false in
set_option maxHeartbeats 8000000 in
set_option maxRecDepth 100000 in
theorem ltrue_walk (g g' : Gd) (A : Option Addr) (n c : Nat) (A' : Option Addr) (n' c' : Nat) (w : World) (hr : Rd w A n (g.bits.map Value.bool)) (hnc : n ≤ c) (hr' : Rd w A' n' (g'.bits.map Value.bool)) (hnc' : n' ≤ c') :
    Calls Try.prog 5 #[.agg #[.int .i64 g.w, .int .i64 g.h, .slice A n c], .agg #[.int .i64 g'.w, .int .i64 g'.h, .slice A' n' c']] w fun e w' => e = .returned (.bool true) ∧ Below w.heap.size w w' := by
  obtain ⟨W, H, bs⟩ := g
  obtain ⟨W2, H2, bt⟩ := g'
  simp only at hr hr' ⊢
  have hl : bs.length = n := by simpa using hr.len
  have hl' : bt.length = n' := by simpa using hr'.len
  have S0 := ((St.start w).box #[.int .i64 W, .int .i64 H, .slice A n c] 25).box #[.int .i64 W2, .int .i64 H2, .slice A' n' c'] 25
  simp only [size_alloc1, List.nil_append, List.cons_append] at S0
  have HAL := Lib.hid (fun u => alive20_any u)
  have HF1 := Lib.hid (fun u => fit20_any W H A n c u)
  have HF2 := Lib.hid (fun u => fit20_any W2 H2 A' n' c' u)
  by_cases h1 : chkP W H n = 0
  · rw [decide_eq_true h1] at HF1
    by_cases h2 : chkP W2 H2 n' = 0
    · rw [decide_eq_true h2] at HF2
      by_cases hw : W = W2
      · subst hw
        obtain ⟨a, ka, rfl, rfl, ha1, ha, hk1, hk, hn⟩ := chkP_zero h1
        obtain ⟨a', kb, hwb, rfl, _, _, hk1', hk', hn'⟩ := chkP_zero h2
        obtain rfl : a = a' := by omega
        clear hwb
        have hla : bs.length = ka * a := hl.trans hn
        have hlb : bt.length = kb * a := hl'.trans hn'
        have HFD := Lib.hid (fun u (hu : Below w.heap.size w u) => find20_any a ka a kb bs bt A A' n c n' c' u (hr.below hu) hnc (hr'.below hu) hnc')
        have HI := Lib.hid (fun (k : Nat) (hkk : k < ka) (q : Int) (r : Bool) (hd : decide (isR (rowsB a ka bs) (rowsB a kb bt) q k) = r) u (hu : Below w.heap.size w u) => show Calls Try.prog 29 #[.agg #[.int .i64 a, .int .i64 ka, .slice A n c], .agg #[.int .i64 a, .int .i64 kb, .slice A' n' c'], .agg #[.int .u8 q, .int .i64 k]] u (fun e w' => e = .returned (.bool r) ∧ Below u.heap.size u w') from hd ▸ is20_any a ka kb k q bs bt A A' n c n' c' u (by omega) hk hk' hkk hla hlb (hr.below hu) (hr'.below hu))
        have hrl : (rowsB a ka bs).length = ka := rowsB_len a ka bs
        have hck1 : ¬ chkP a ka bs.length ≠ 0 := by rw [hl]; simpa using h1
        have hck2 : ¬ chkP a kb bt.length ≠ 0 := by rw [hl']; simpa using h2
        generalize hx1 : chkP a ka n = X1 at *
        generalize hx2 : chkP a kb n' = X2 at *
        clear h1 h2 hr hr' hn hn' hx1 hx2
        go_enter Try.func5, Try.ntmps5
        go_wp2_with fail
        refine (HAL.out _).mono ?_
        rintro e w1 ⟨rfl, hb1⟩
        have S1 := S0.keep hb1
        obtain ⟨c0, c1, c2⟩ := (S1.blk 0 rfl).cell3
        go_wp2_with fail
        refine (HF1.out _).mono ?_
        rintro e w2 ⟨rfl, hb2⟩
        have S2 := S1.keep hb2
        clear c0 c1 c2 hb1 hb2 S1
        obtain ⟨d0, d1, d2⟩ := (S2.blk 1 rfl).cell3
        go_wp2_with fail
        refine (HF2.out _).mono ?_
        rintro e w3 ⟨rfl, hb3⟩
        have S3 := S2.keep hb3
        clear d0 d1 d2 hb3 S2
        obtain ⟨c0, c1, c2⟩ := (S3.blk 0 rfl).cell3
        obtain ⟨d0, d1, d2⟩ := (S3.blk 1 rfl).cell3
        go_wp2_with fail
        refine (HFD.out _ S3.below).mono ?_
        rintro e w4 ⟨fq, fk, ft, rfl, hA, hb4⟩
        unfold FindA at hA
        rw [if_neg hck1, if_neg hck2, if_neg (by simp)] at hA
        simp only [Int.toNat_natCast] at hA
        clear hck1 hck2 HFD
        rcases hA with ⟨hab, rfl, rfl, rfl⟩ | ⟨hab, ⟨kn, hkn, rfl, hq3, rfl, hf, hno⟩ | ⟨rfl, rfl, rfl, hno⟩⟩
        · have H0 := Lib.hid (fun u hu => HI.out 0 (by omega) 0 true (decide_eq_true ((isR_none _).2 hab)) u hu)
          have HIS := Lib.hid (fun (k : Nat) (hk0 : k < 0) (q : Int) (_ : 0 ≤ q) (_ : q ≤ 3) u (_ : Below w.heap.size w u) => show Calls Try.prog 29 #[.agg #[.int .i64 a, .int .i64 ka, .slice A n c], .agg #[.int .i64 a, .int .i64 kb, .slice A' n' c'], .agg #[.int .u8 q, .int .i64 k]] u (fun e w' => e = .returned (.bool false) ∧ Below u.heap.size u w') from absurd hk0 (Nat.not_lt_zero k))
          have hz : decide ((ka : Int) ≤ 0) = false := decide_eq_false (by omega)
          have S4 := (S3.keep hb4).box #[.int .u8 0, .int .i64 0] 46
          simp only [List.cons_append, List.nil_append] at S4
          have hp6w : w.heap.size + 1 < w4.heap.size := ((S3.keep hb4).blk 1 rfl).lt
          clear c0 c1 c2 d0 d1 d2 S3 hb4
          obtain ⟨f0, f1⟩ := (S4.blk 2 rfl).cell2
          obtain ⟨y0, y1, _⟩ := (S4.blk 2 rfl).frozen3
          obtain ⟨c0, c1, c2⟩ := (S4.blk 0 rfl).cell3
          obtain ⟨d0, d1, d2⟩ := (S4.blk 1 rfl).cell3
          go_wp2_with fail
          refine ((H0.out) _ S4.below).mono ?_
          rintro e w5 ⟨rfl, hb5⟩
          have S5 := S4.keep hb5
          clear c0 c1 c2 d0 d1 d2 f0 f1 S4
          obtain ⟨f0, f1⟩ := (S5.blk 2 rfl).cell2
          go_wp2_with fail
          go_loopw [8] (fun i wr => ∃ k : Nat, k ≤ 0 ∧ i = .int .i64 k ∧ St w [Fact.blk w.heap.size 25 #[.int .i64 a, .int .i64 ka, .slice A n c], Fact.blk (w.heap.size + 1) 25 #[.int .i64 a, .int .i64 kb, .slice A' n' c'], Fact.blk w4.heap.size 46 #[.int .u8 0, .int .i64 (0 : Nat)]] wr) (fun i _ => 0 - (intOf i).toNat)
          case atStart => exact ⟨0, Nat.zero_le _, rfl, S5⟩
          case round =>
            obtain ⟨k, hk, rfl, T1⟩ := hrel
            clear S5
            obtain ⟨f0, f1⟩ := (T1.blk 2 rfl).cell2
            by_cases hlt : k < 0
            · exact absurd hlt (Nat.not_lt_zero k)
            · obtain rfl : k = 0 := by omega
              go_wp2_with fail
              go_ret
              exact ⟨rfl, T1.below⟩

        · rw [hrl] at hkn
          have HQ1 := Lib.hid (fun u hu => HI.out kn hkn fq true (decide_eq_true ((isR_fault (by rw [hrl]; exact hkn) hq3).2 hf)) u hu)
          have HIS := Lib.hid (fun (k : Nat) (hk0 : k < kn) (q : Int) (hqa : 0 ≤ q) (hqb : q ≤ 3) u (hu : Below w.heap.size w u) => HI.out k (by omega) q false (decide_eq_false (not_isR (by rw [hrl]; omega) hqa hqb hab hno (.inl hk0))) u hu)
          have hq30 : decide (3 < fq) = false := decide_eq_false (by rcases hq3 with rfl | rfl | rfl <;> decide)
          have hz1 : decide ((kn : Int) < 0) = false := decide_eq_false (by omega)
          have hz2 : decide ((ka : Int) ≤ kn) = false := decide_eq_false (by omega)
          have hz3 : decide (ka ≤ kn) = false := decide_eq_false (by omega)
          have S4 := (S3.keep hb4).box #[.int .u8 fq, .int .i64 kn] 46
          simp only [List.cons_append, List.nil_append] at S4
          have hp6w : w.heap.size + 1 < w4.heap.size := ((S3.keep hb4).blk 1 rfl).lt
          clear c0 c1 c2 d0 d1 d2 S3 hb4
          obtain ⟨f0, f1⟩ := (S4.blk 2 rfl).cell2
          obtain ⟨y0, y1, _⟩ := (S4.blk 2 rfl).frozen3
          obtain ⟨c0, c1, c2⟩ := (S4.blk 0 rfl).cell3
          obtain ⟨d0, d1, d2⟩ := (S4.blk 1 rfl).cell3
          go_wp2_with fail
          refine ((HQ1.out) _ S4.below).mono ?_
          rintro e w5 ⟨rfl, hb5⟩
          have S5 := S4.keep hb5
          clear c0 c1 c2 d0 d1 d2 f0 f1 S4
          obtain ⟨f0, f1⟩ := (S5.blk 2 rfl).cell2
          go_wp2_with fail
          go_loopw [8] (fun i wr => ∃ k : Nat, k ≤ kn ∧ i = .int .i64 k ∧ St w [Fact.blk w.heap.size 25 #[.int .i64 a, .int .i64 ka, .slice A n c], Fact.blk (w.heap.size + 1) 25 #[.int .i64 a, .int .i64 kb, .slice A' n' c'], Fact.blk w4.heap.size 46 #[.int .u8 fq, .int .i64 (kn : Nat)]] wr) (fun i _ => kn - (intOf i).toNat)
          case atStart => exact ⟨0, Nat.zero_le _, rfl, S5⟩
          case round =>
            obtain ⟨k, hk, rfl, T1⟩ := hrel
            clear S5
            obtain ⟨f0, f1⟩ := (T1.blk 2 rfl).cell2
            by_cases hlt : k < kn
            · go_wp2_with fail
              go_loopw [9] (fun i wz => ∃ q : Int, 0 ≤ q ∧ q ≤ 4 ∧ i = .int .u8 q ∧ St w [Fact.blk w.heap.size 25 #[.int .i64 a, .int .i64 ka, .slice A n c], Fact.blk (w.heap.size + 1) 25 #[.int .i64 a, .int .i64 kb, .slice A' n' c'], Fact.blk w4.heap.size 46 #[.int .u8 fq, .int .i64 (kn : Nat)]] wz) (fun i _ => 4 - (intOf i).toNat)
              case atStart => exact ⟨0, by decide, by decide, rfl, T1⟩
              case round =>
                obtain ⟨q, hq0, hq4, rfl, T2⟩ := hrel
                clear T1 f0 f1
                obtain ⟨c0, c1, c2⟩ := (T2.blk 0 rfl).cell3
                obtain ⟨d0, d1, d2⟩ := (T2.blk 1 rfl).cell3
                by_cases hq : q = 4
                · subst hq
                  go_wp2_with fail
                  go_roundw
                  case rel => exact ⟨k + 1, by omega, by go_num, T2⟩
                  case measure => simp [intOf]; omega
                · have hcs : q = 0 ∨ q = 1 ∨ q = 2 ∨ q = 3 := by omega
                  have HQ := Lib.hid (fun u hu => HIS.out k hlt q hq0 (by omega) u hu)
                  rcases hcs with rfl | rfl | rfl | rfl
                  all_goals
                    go_wp2_with fail
                    refine (HQ.out _ T2.below).mono ?_
                    rintro e w8 ⟨rfl, hb8⟩
                    have T3 := T2.keep hb8
                    go_wp2_with fail
                    go_roundw
                    case rel => exact ⟨_, by decide, by decide, rfl, T3⟩
                    case measure => simp [intOf]
            · obtain rfl : k = kn := by omega
              go_wp2_with fail
              go_ret
              exact ⟨rfl, T1.below⟩

        · rw [hrl] at hno
          have HIS := Lib.hid (fun (k : Nat) (hk0 : k < ka) (q : Int) (hqa : 0 ≤ q) (hqb : q ≤ 3) u (hu : Below w.heap.size w u) => HI.out k hk0 q false (decide_eq_false (not_isR (by rw [hrl]; exact hk0) hqa hqb hab hno (.inl hk0))) u hu)
          have S5 := (S3.keep hb4).box #[.int .u8 0, .int .i64 ka] 46
          simp only [List.cons_append, List.nil_append] at S5
          have S4 := (S3.keep hb4).box #[.int .u8 0, .int .i64 0] 46
          simp only [List.cons_append, List.nil_append] at S4
          have hp6w : w.heap.size + 1 < w4.heap.size := ((S3.keep hb4).blk 1 rfl).lt
          clear c0 c1 c2 d0 d1 d2 S3 hb4
          obtain ⟨f0, f1⟩ := (S4.blk 2 rfl).cell2
          obtain ⟨y0, y1, _⟩ := (S4.blk 2 rfl).frozen3
          obtain ⟨c0, c1, c2⟩ := (S4.blk 0 rfl).cell3
          obtain ⟨d0, d1, d2⟩ := (S4.blk 1 rfl).cell3
          go_wp2_with fail
          go_loopw [8] (fun i wr => ∃ k : Nat, k ≤ ka ∧ i = .int .i64 k ∧ St w [Fact.blk w.heap.size 25 #[.int .i64 a, .int .i64 ka, .slice A n c], Fact.blk (w.heap.size + 1) 25 #[.int .i64 a, .int .i64 kb, .slice A' n' c'], Fact.blk w4.heap.size 46 #[.int .u8 0, .int .i64 (ka : Nat)]] wr) (fun i _ => ka - (intOf i).toNat)
          case atStart => exact ⟨0, Nat.zero_le _, rfl, S5⟩
          case round =>
            obtain ⟨k, hk, rfl, T1⟩ := hrel
            clear S5
            obtain ⟨f0, f1⟩ := (T1.blk 2 rfl).cell2
            by_cases hlt : k < ka
            · go_wp2_with fail
              go_loopw [9] (fun i wz => ∃ q : Int, 0 ≤ q ∧ q ≤ 4 ∧ i = .int .u8 q ∧ St w [Fact.blk w.heap.size 25 #[.int .i64 a, .int .i64 ka, .slice A n c], Fact.blk (w.heap.size + 1) 25 #[.int .i64 a, .int .i64 kb, .slice A' n' c'], Fact.blk w4.heap.size 46 #[.int .u8 0, .int .i64 (ka : Nat)]] wz) (fun i _ => 4 - (intOf i).toNat)
              case atStart => exact ⟨0, by decide, by decide, rfl, T1⟩
              case round =>
                obtain ⟨q, hq0, hq4, rfl, T2⟩ := hrel
                clear T1 f0 f1
                obtain ⟨c0, c1, c2⟩ := (T2.blk 0 rfl).cell3
                obtain ⟨d0, d1, d2⟩ := (T2.blk 1 rfl).cell3
                by_cases hq : q = 4
                · subst hq
                  go_wp2_with fail
                  go_roundw
                  case rel => exact ⟨k + 1, by omega, by go_num, T2⟩
                  case measure => simp [intOf]; omega
                · have hcs : q = 0 ∨ q = 1 ∨ q = 2 ∨ q = 3 := by omega
                  have HQ := Lib.hid (fun u hu => HIS.out k hlt q hq0 (by omega) u hu)
                  rcases hcs with rfl | rfl | rfl | rfl
                  all_goals
                    go_wp2_with fail
                    refine (HQ.out _ T2.below).mono ?_
                    rintro e w8 ⟨rfl, hb8⟩
                    have T3 := T2.keep hb8
                    go_wp2_with fail
                    go_roundw
                    case rel => exact ⟨_, by decide, by decide, rfl, T3⟩
                    case measure => simp [intOf]
            · obtain rfl : k = ka := by omega
              go_wp2_with fail
              go_ret
              exact ⟨rfl, T1.below⟩
      · have hwb : (W != W2) = true := by simpa using hw
        clear h1 h2 hr hr' hl hl'
        go_enter Try.func5, Try.ntmps5
        go_wp2_with fail
        refine (HAL.out _).mono ?_
        rintro e w1 ⟨rfl, hb1⟩
        have S1 := S0.keep hb1
        obtain ⟨c0, c1, c2⟩ := (S1.blk 0 rfl).cell3
        go_wp2_with fail
        refine (HF1.out _).mono ?_
        rintro e w2 ⟨rfl, hb2⟩
        have S2 := S1.keep hb2
        clear c0 c1 c2 hb1 hb2 S1
        obtain ⟨d0, d1, d2⟩ := (S2.blk 1 rfl).cell3
        go_wp2_with fail
        refine (HF2.out _).mono ?_
        rintro e w3 ⟨rfl, hb3⟩
        have S3 := S2.keep hb3
        clear d0 d1 d2 hb3 S2
        obtain ⟨c0, c1, c2⟩ := (S3.blk 0 rfl).cell3
        obtain ⟨d0, d1, d2⟩ := (S3.blk 1 rfl).cell3
        go_wp2_with fail
        go_ret
        exact ⟨rfl, S3.below⟩
    · rw [decide_eq_false h2] at HF2
      clear h1 h2 hr hr' hl hl'
      go_enter Try.func5, Try.ntmps5
      go_wp2_with fail
      refine (HAL.out _).mono ?_
      rintro e w1 ⟨rfl, hb1⟩
      have S1 := S0.keep hb1
      obtain ⟨c0, c1, c2⟩ := (S1.blk 0 rfl).cell3
      go_wp2_with fail
      refine (HF1.out _).mono ?_
      rintro e w2 ⟨rfl, hb2⟩
      have S2 := S1.keep hb2
      clear c0 c1 c2 hb1 hb2 S1
      obtain ⟨d0, d1, d2⟩ := (S2.blk 1 rfl).cell3
      go_wp2_with fail
      refine (HF2.out _).mono ?_
      rintro e w3 ⟨rfl, hb3⟩
      have S3 := S2.keep hb3
      clear d0 d1 d2 hb3 S2
      go_wp2_with fail
      go_ret
      exact ⟨rfl, S3.below⟩
  · rw [decide_eq_false h1] at HF1
    clear h1 hr hr' hl hl'
    go_enter Try.func5, Try.ntmps5
    go_wp2_with fail
    refine (HAL.out _).mono ?_
    rintro e w1 ⟨rfl, hb1⟩
    have S1 := S0.keep hb1
    obtain ⟨c0, c1, c2⟩ := (S1.blk 0 rfl).cell3
    go_wp2_with fail
    refine (HF1.out _).mono ?_
    rintro e w2 ⟨rfl, hb2⟩
    have S2 := S1.keep hb2
    clear c0 c1 c2 hb1 hb2 S1
    go_wp2_with fail
    go_ret
    exact ⟨rfl, S2.below⟩
end Go.Proofs.Ytfjdlbilnoojkaa
