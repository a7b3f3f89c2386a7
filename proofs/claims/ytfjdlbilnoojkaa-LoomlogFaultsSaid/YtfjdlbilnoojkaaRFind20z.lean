/- raddleref20.Find. -/
import Derived.Test.YtfjdlbilnoojkaaFind20z
import Derived.Test.YtfjdlbilnoojkaaIs20z
namespace Go.Proofs.Ytfjdlbilnoojkaa
open Go.RowKit

set_option linter.unusedVariables false in
set_option maxHeartbeats 16000000 in
set_option maxRecDepth 100000 in
theorem rfind20_any (W H W2 H2 : Int) (bs bt : List Bool) (A B : Option Addr) (nA cA nB cB : Nat) (w : World) (hr : Rd w A nA (bs.map Value.bool)) (hr2 : Rd w B nB (bt.map Value.bool)) :
    Calls Try.prog 24 #[.agg #[.int .i64 W, .int .i64 H, .slice A nA cA], .agg #[.int .i64 W2, .int .i64 H2, .slice B nB cB]] w (RetF (FindA W H bs W2 H2 bt) w) := by
  have hl : bs.length = nA := by simpa using hr.len
  have hl2 : bt.length = nB := by simpa using hr2.len
  have S0 := (((St.start w).box #[.int .i64 W, .int .i64 H, .slice A nA cA] 25).box #[.int .i64 W2, .int .i64 H2, .slice B nB cB] 25).box #[.int .u8 0, .int .i64 0] 46
  simp only [size_alloc1, List.nil_append, List.cons_append] at S0
  have HP := Lib.hid (fun u => rpcheck_any W H A nA cA u)
  have HP2 := Lib.hid (fun u => rpcheck_any W2 H2 B nB cB u)
  obtain ⟨c0, c1, c2⟩ := (S0.blk 0 rfl).cell3
  by_cases hk : chkP W H nA = 0
  · have hkb : (chkP W H nA != 0) = false := by simpa using hk
    by_cases hk2 : chkP W2 H2 nB = 0
    · have hkb2 : (chkP W2 H2 nB != 0) = false := by simpa using hk2
      by_cases hww : W = W2
      · subst hww
        have HOK := Lib.hid (show ∀ (a ka kb : Nat), W = (a : Int) → H = (ka : Int) → H2 = (kb : Int) → ∀ q k t, FindR (rowsB a ka bs) (rowsB a kb bt) q k t → FindA W H bs W H2 bt q k t from by
          rintro a ka kb rfl rfl rfl q k t h
          exact FindA.ok (by rw [hl]; exact hk) (by rw [hl2]; exact hk2) h)
        obtain ⟨a, ka, rfl, rfl, ha1, ha, hka1, hka, hn⟩ := chkP_zero hk
        obtain ⟨a', kb, haa, rfl, _, _, hkb1, hkb3, hn2⟩ := chkP_zero hk2
        obtain rfl : a = a' := by omega
        replace HOK := Lib.hid (HOK.out a ka kb rfl rfl rfl)
        have HIS := Lib.hid (fun (q : Int) (k : Nat) (hk : k < ka) u (hu : Below w.heap.size w u) => is20_any a ka kb k q bs bt A B nA cA nB cB u (by omega) hka hkb3 hk (hl.trans hn) (hl2.trans hn2) (hr.below hu) (hr2.below hu))
        have HIS0 := Lib.hid (fun u (hu : Below w.heap.size w u) => (decide_eq_decide.2 (isR_none (a := rowsB a ka bs) (b := rowsB a kb bt) ((0 : Nat) : Int)) ▸ HIS.out 0 0 (by omega) u hu : Calls Try.prog 29 #[.agg #[.int .i64 a, .int .i64 ka, .slice A nA cA], .agg #[.int .i64 a, .int .i64 kb, .slice B nB cB], .agg #[.int .u8 0, .int .i64 ((0 : Nat) : Int)]] u fun e w' => e = .returned (.bool (decide (rowsB a ka bs = rowsB a kb bt))) ∧ Below u.heap.size u w'))
        clear hr hr2 hl hl2 hn hn2 hk hk2 haa
        generalize chkP a ka nA = K at *
        generalize chkP a kb nB = K2 at *
        go_enter Try.func24, Try.ntmps24
        go_wp2_with fail
        refine (HP.out _).mono ?_
        rintro e w1 ⟨rfl, hb1⟩
        have S1 := S0.keep hb1
        clear c0 c1 c2
        obtain ⟨d0, d1, d2⟩ := (S1.blk 1 rfl).cell3
        go_wp2_with fail
        refine (HP2.out _).mono ?_
        rintro e w2 ⟨rfl, hb2⟩
        have S2 := S1.keep hb2
        clear d0 d1 d2
        obtain ⟨c0, c1, c2⟩ := (S2.blk 0 rfl).cell3
        obtain ⟨d0, d1, d2⟩ := (S2.blk 1 rfl).cell3
        go_wp2_with fail
        refine (HIS0.out _ S2.below).mono ?_
        rintro e w3 ⟨rfl, hb3⟩
        have S3 := S2.keep hb3
        clear c0 c1 c2 d0 d1 d2
        by_cases hab : rowsB a ka bs = rowsB a kb bt
        · have hd : decide (rowsB a ka bs = rowsB a kb bt) = true := decide_eq_true hab
          have HRES := Lib.hid (HOK.out 0 0 0 (.inl ⟨hab, rfl, rfl, rfl⟩))
          rw [hd]
          clear hab hd
          obtain ⟨r0, r1⟩ := (S3.blk 2 rfl).cell2
          obtain ⟨f0, f1⟩ := (S3.blk 2 rfl).frozen2
          obtain ⟨q0, q1⟩ := ((S3.blk 2 rfl).set2 (.int .u8 0) (.int .i64 0)).cell2
          go_wp2_with fail
          refine bodyPost_ret (v := .tuple #[.agg #[.int .u8 0, .int .i64 0], .int .i64 0]) (by simp [results, Try.results24, go_sem, q0, q1]) rfl ?_
          exact ⟨0, 0, 0, rfl, HRES.out, below_set2 S3.below (by omega) _ _⟩
        · have hd : decide (rowsB a ka bs = rowsB a kb bt) = false := decide_eq_false hab
          have HNE := Lib.hid hab
          rw [hd]
          clear hab hd
          go_wp2_with fail
          go_loopw [6] (fun i wr => ∃ k : Nat, k ≤ ka ∧ i = .int .i64 k ∧ NoF (rowsB a ka bs) (rowsB a kb bt) k 1 ∧ Below w3.heap.size w3 wr) (fun i _ => ka - (intOf i).toNat)
          case atStart => exact ⟨0, Nat.zero_le _, rfl, NoF.zero _ _, Below.refl _ _⟩
          case round =>
            obtain ⟨k, hk, rfl, hno, hbr⟩ := hrel
            have S4 := S3.keep hbr
            obtain ⟨c0, c1, c2⟩ := (S4.blk 0 rfl).cell3
            by_cases hlt : k < ka
            · go_wp2_with fail
              clear c0 c1 c2
              go_loopw [7] (fun i wr => ∃ q : Int, 1 ≤ q ∧ q ≤ 4 ∧ i = .int .u8 q ∧ NoF (rowsB a ka bs) (rowsB a kb bt) k q ∧ Below w3.heap.size w3 wr) (fun i _ => 5 - (intOf i).toNat)
              case atStart => exact ⟨1, by omega, by omega, rfl, hno, hbr⟩
              case round =>
                clear hno hbr S4
                obtain ⟨q, hq1, hq4, rfl, hno, hbz⟩ := hrel
                have S5 := S3.keep hbz
                by_cases hq : q ≤ 3
                · have hqd : decide (q ≤ 3) = true := decide_eq_true hq
                  have hqw : IntKind.u8.wrap (q + 1) = q + 1 := by rw [IntWalk.u8_in _ (by omega)]
                  have S6 := S5.box #[.int .u8 q, .int .i64 k] 46
                  simp only [List.cons_append, List.nil_append] at S6
                  have hbz2 : Below w3.heap.size w3 (wr.alloc (.cells #[.int .u8 q, .int .i64 k] 46)) := hbz.alloc hbz.size _
                  obtain ⟨c0, c1, c2⟩ := (S6.blk 0 rfl).cell3
                  obtain ⟨d0, d1, d2⟩ := (S6.blk 1 rfl).cell3
                  obtain ⟨e0, e1⟩ := (S6.blk 3 rfl).cell2
                  have HI := Lib.hid (HIS.out q k hlt _ S6.below)
                  by_cases hfa : faultAt (rowsB a ka bs) (rowsB a kb bt) q k
                  · rw [decide_eq_true ((isR_fault (by rw [rowsB_len]; exact hlt) (by omega)).2 hfa)] at HI
                    have HRES := Lib.hid (HOK.out q k 0 (.inr ⟨HNE.out, .inl ⟨k, by rw [rowsB_len]; exact hlt, rfl, by unfold K3; omega, rfl, hfa, hno⟩⟩))
                    clear hfa hno
                    go_wp2_with fail
                    refine HI.out.mono ?_
                    rintro e w7 ⟨rfl, hb7⟩
                    have S7 := S6.keep hb7
                    clear c0 c1 c2 d0 d1 d2 e0 e1
                    obtain ⟨e0, e1⟩ := (S7.blk 3 rfl).cell2
                    obtain ⟨r0, r1⟩ := (S7.blk 2 rfl).cell2
                    obtain ⟨f0, f1⟩ := (S7.blk 2 rfl).frozen2
                    obtain ⟨q0, q1⟩ := ((S7.blk 2 rfl).set2 (.int .u8 q) (.int .i64 k)).cell2
                    go_wp2_with fail
                    refine bodyPost_ret (v := .tuple #[.agg #[.int .u8 q, .int .i64 k], .int .i64 0]) (by simp [results, Try.results24, go_sem, q0, q1]) rfl ?_
                    exact ⟨q, k, 0, rfl, HRES.out, below_set2 S7.below (by omega) _ _⟩
                  · rw [decide_eq_false (fun h => hfa ((isR_fault (by rw [rowsB_len]; exact hlt) (by omega)).1 h))] at HI
                    have HNX := Lib.hid (hno.next hfa)
                    clear hfa hno
                    go_wp2_with fail
                    refine HI.out.mono ?_
                    rintro e w7 ⟨rfl, hb7⟩
                    have hbz7 := below_then hbz2 hb7
                    clear c0 c1 c2 d0 d1 d2 e0 e1 S6
                    go_wp2_with fail
                    go_roundw
                    case rel => exact ⟨q + 1, by omega, by omega, rfl, HNX.out, hbz7⟩
                    case measure => simp [intOf]; omega
                · have hqd : decide (q ≤ 3) = false := decide_eq_false hq
                  obtain rfl : q = 4 := by omega
                  have HNX := Lib.hid (NoF.row hno)
                  go_wp2_with fail
                  go_roundw
                  case rel => exact ⟨k + 1, by omega, by go_num, HNX.out, hbz⟩
                  case measure => simp [intOf]; omega
            · obtain rfl : k = ka := by omega
              have HRES := Lib.hid (HOK.out 0 0 6 (.inr ⟨HNE.out, .inr ⟨rfl, rfl, rfl, by rw [rowsB_len]; exact hno⟩⟩))
              obtain ⟨r0, r1⟩ := (S4.blk 2 rfl).cell2
              obtain ⟨f0, f1⟩ := (S4.blk 2 rfl).frozen2
              obtain ⟨q0, q1⟩ := ((S4.blk 2 rfl).set2 (.int .u8 0) (.int .i64 0)).cell2
              go_wp2_with fail
              refine bodyPost_ret (v := .tuple #[.agg #[.int .u8 0, .int .i64 0], .int .i64 6]) (by simp [results, Try.results24, go_sem, q0, q1]) rfl ?_
              exact ⟨0, 0, 6, rfl, HRES.out, below_set2 S4.below (by omega) _ _⟩
      · have hwb : (W != W2) = true := by simpa using hww
        have HRES := Lib.hid (FindA.bad3 (W := W) (H := H) (bs := bs) (W2 := W2) (H2 := H2) (bt := bt) (by rw [hl]; exact hk) (by rw [hl2]; exact hk2) hww)
        clear hr hr2 hl hl2 hk hk2 hww
        generalize chkP W H nA = K at *
        generalize chkP W2 H2 nB = K2 at *
        go_enter Try.func24, Try.ntmps24
        go_wp2_with fail
        refine (HP.out _).mono ?_
        rintro e w1 ⟨rfl, hb1⟩
        have S1 := S0.keep hb1
        clear c0 c1 c2
        obtain ⟨d0, d1, d2⟩ := (S1.blk 1 rfl).cell3
        go_wp2_with fail
        refine (HP2.out _).mono ?_
        rintro e w2 ⟨rfl, hb2⟩
        have S2 := S1.keep hb2
        clear d0 d1 d2
        obtain ⟨c0, c1, c2⟩ := (S2.blk 0 rfl).cell3
        obtain ⟨d0, d1, d2⟩ := (S2.blk 1 rfl).cell3
        obtain ⟨r0, r1⟩ := (S2.blk 2 rfl).cell2
        obtain ⟨f0, f1⟩ := (S2.blk 2 rfl).frozen2
        obtain ⟨q0, q1⟩ := ((S2.blk 2 rfl).set2 (.int .u8 0) (.int .i64 0)).cell2
        go_wp2_with fail
        refine bodyPost_ret (v := .tuple #[.agg #[.int .u8 0, .int .i64 0], .int .i64 26]) (by simp [results, Try.results24, go_sem, q0, q1]) rfl ?_
        exact ⟨0, 0, 26, rfl, HRES.out, below_set2 S2.below (by omega) _ _⟩
    · have hkb2 : (chkP W2 H2 nB != 0) = true := by simpa using hk2
      have HRES := Lib.hid (FindA.bad2 (W := W) (H := H) (bs := bs) (W2 := W2) (H2 := H2) (bt := bt) (by rw [hl]; exact hk) (by rw [hl2]; exact hk2))
      rw [hl2] at HRES
      clear hr hr2 hl hl2 hk hk2
      generalize chkP W H nA = K at *
      generalize chkP W2 H2 nB = K2 at *
      go_enter Try.func24, Try.ntmps24
      go_wp2_with fail
      refine (HP.out _).mono ?_
      rintro e w1 ⟨rfl, hb1⟩
      have S1 := S0.keep hb1
      clear c0 c1 c2
      obtain ⟨d0, d1, d2⟩ := (S1.blk 1 rfl).cell3
      go_wp2_with fail
      refine (HP2.out _).mono ?_
      rintro e w2 ⟨rfl, hb2⟩
      have S2 := S1.keep hb2
      clear d0 d1 d2
      obtain ⟨c0, c1, c2⟩ := (S2.blk 0 rfl).cell3
      obtain ⟨d0, d1, d2⟩ := (S2.blk 1 rfl).cell3
      go_wp2_with fail
      refine (HP2.out _).mono ?_
      rintro e w3 ⟨rfl, hb3⟩
      have S3 := S2.keep hb3
      obtain ⟨r0, r1⟩ := (S3.blk 2 rfl).cell2
      obtain ⟨f0, f1⟩ := (S3.blk 2 rfl).frozen2
      obtain ⟨q0, q1⟩ := ((S3.blk 2 rfl).set2 (.int .u8 0) (.int .i64 0)).cell2
      go_wp2_with fail
      refine bodyPost_ret (v := .tuple #[.agg #[.int .u8 0, .int .i64 0], .int .i64 K2]) (by simp [results, Try.results24, go_sem, q0, q1]) rfl ?_
      exact ⟨0, 0, K2, rfl, HRES.out, below_set2 S3.below (by omega) _ _⟩
  · have hkb : (chkP W H nA != 0) = true := by simpa using hk
    have HRES := Lib.hid (FindA.bad1 (W := W) (H := H) (bs := bs) (W2 := W2) (H2 := H2) (bt := bt) (by rw [hl]; exact hk))
    rw [hl] at HRES
    clear hr hr2 hl hl2 hk
    generalize chkP W H nA = K at *
    go_enter Try.func24, Try.ntmps24
    go_wp2_with fail
    refine (HP.out _).mono ?_
    rintro e w1 ⟨rfl, hb1⟩
    have S1 := S0.keep hb1
    clear c0 c1 c2
    obtain ⟨c0, c1, c2⟩ := (S1.blk 0 rfl).cell3
    go_wp2_with fail
    refine (HP.out _).mono ?_
    rintro e w3 ⟨rfl, hb3⟩
    have S3 := S1.keep hb3
    obtain ⟨r0, r1⟩ := (S3.blk 2 rfl).cell2
    obtain ⟨f0, f1⟩ := (S3.blk 2 rfl).frozen2
    obtain ⟨q0, q1⟩ := ((S3.blk 2 rfl).set2 (.int .u8 0) (.int .i64 0)).cell2
    go_wp2_with fail
    refine bodyPost_ret (v := .tuple #[.agg #[.int .u8 0, .int .i64 0], .int .i64 K]) (by simp [results, Try.results24, go_sem, q0, q1]) rfl ?_
    exact ⟨0, 0, K, rfl, HRES.out, below_set2 S3.below (by omega) _ _⟩
end Go.Proofs.Ytfjdlbilnoojkaa
