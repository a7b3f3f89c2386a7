/- raddleref20.Is: whether a fault is true. -/
import Derived.Test.YtfjdlbilnoojkaaRows20z
import Derived.Test.YtfjdlbilnoojkaaFaultPz
import Derived.Test.YtfjdlbilnoojkaaBlk2z
namespace Go.Proofs.Ytfjdlbilnoojkaa
open Go.RowKit

/-- The fault is true at the place z of got. -/
def CD (a ka kb : Nat) (bs bt : List Bool) (q : Int) (k z : Nat) : Prop := (rowsB a ka bs).getD (yOf q k z) [] = (rowsB a kb bt).getD z [] ∨ (q = 3 ∧ (z : Int) = k)
set_option linter.unusedVariables false in
set_option maxHeartbeats 8000000 in
set_option maxRecDepth 100000 in
theorem is20_any (a ka kb k : Nat) (q : Int) (bs bt : List Bool) (A B : Option Addr) (nA cA nB cB : Nat) (w : World) (ha1 : a ≤ 64) (hka : ka ≤ 64) (hkb : kb ≤ 64) (hk : k < ka)
    (hl : bs.length = ka * a) (hl2 : bt.length = kb * a) (hr : Rd w A nA (bs.map Value.bool)) (hr2 : Rd w B nB (bt.map Value.bool)) :
    Calls Try.prog 29 #[.agg #[.int .i64 a, .int .i64 ka, .slice A nA cA], .agg #[.int .i64 a, .int .i64 kb, .slice B nB cB], .agg #[.int .u8 q, .int .i64 k]] w fun e w' => e = .returned (.bool (decide (isR (rowsB a ka bs) (rowsB a kb bt) q k))) ∧ Below w.heap.size w w' := by
  have S0 := (((St.start w).box #[.int .i64 a, .int .i64 ka, .slice A nA cA] 25).box #[.int .i64 a, .int .i64 kb, .slice B nB cB] 25).box #[.int .u8 q, .int .i64 k] 46
  simp only [size_alloc1, List.nil_append, List.cons_append] at S0
  have HROWS := Lib.hid (fun (y : Nat) (yi : Int) (hy : yi = (y : Int)) (z : Nat) (hy2 : y < ka) (hz : z < kb) u (hu : Below w.heap.size w u) => (hy ▸ rows20_any a ka kb y z bs bt A B nA cA nB cB u ha1 hka hkb hy2 hz hl hl2 (hr.below hu) (hr2.below hu) :
    Calls Try.prog 30 #[.agg #[.int .i64 a, .int .i64 ka, .slice A nA cA], .int .i64 yi, .agg #[.int .i64 a, .int .i64 kb, .slice B nB cB], .int .i64 z] u fun e w' => e = .returned (.bool (decide (rowB a bs y = rowB a bt z))) ∧ Below u.heap.size u w'))
  clear hr hr2 hl hl2
  generalize hLF : [Fact.blk w.heap.size 25 #[.int .i64 a, .int .i64 ka, .slice A nA cA], Fact.blk (w.heap.size + 1) 25 #[.int .i64 a, .int .i64 kb, .slice B nB cB], Fact.blk (w.heap.size + 1 + 1) 46 #[.int .u8 q, .int .i64 k]] = LF at S0
  have S0' : St w [Fact.blk _ _ _, Fact.blk _ _ _, Fact.blk _ _ _] _ := hLF ▸ S0
  obtain ⟨c0, c1, c2⟩ := (S0'.blk 0 rfl).cell3
  obtain ⟨d0, d1, d2⟩ := (S0'.blk 1 rfl).cell3
  obtain ⟨e0, e1⟩ := (S0'.blk 2 rfl).cell2
  clear S0'
  by_cases hq1 : q = 1
  · subst hq1
    have hq3 : ¬ (1 : Int) = 3 := by decide
    go_enter Try.func29, Try.ntmps29
    by_cases hH : kb + 1 = ka
    · have hHb : ((kb : Int) != (ka : Int) + -1) = false := by simp; omega
      have hHc : ((kb : Int) != (ka : Int) - 1) = false := by simp; omega
      have hH1 := Nat.le_of_eq hH
      have hH2 := Nat.le_of_eq hH.symm
      clear hH
      go_wp2_with fail
      go_loopw [8] (fun i wr => ∃ z : Nat, z ≤ kb ∧ i = .int .i64 z ∧ (∀ z', z' < z → CD a ka kb bs bt 1 k z') ∧ St w LF wr) (fun i _ => kb - (intOf i).toNat)
      case atStart => exact ⟨0, Nat.zero_le _, rfl, fun _ h => absurd h (by omega), S0⟩
      case round =>
        obtain ⟨z, hz, rfl, heq, S1⟩ := hrel
        subst hLF
        have HE := Lib.hid heq
        clear heq c0 c1 c2 d0 d1 d2 e0 e1 S0
        obtain ⟨c0, c1, c2⟩ := (S1.blk 0 rfl).cell3
        obtain ⟨d0, d1, d2⟩ := (S1.blk 1 rfl).cell3
        obtain ⟨e0, e1⟩ := (S1.blk 2 rfl).cell2
        by_cases hlt : z < kb
        · have HNEXT := Lib.hid (show ((rowsB a ka bs).getD (yOf 1 k z) [] = (rowsB a kb bt).getD z [] ∨ ((1 : Int) = 3 ∧ (z : Int) = k)) → ∀ z', z' < z + 1 → CD a ka kb bs bt 1 k z' from fun h z' hz' => by
            by_cases hzz : z' = z
            · subst hzz; exact h
            · exact HE.out z' (by omega))
          have HBAD := Lib.hid (show ¬ ((rowsB a ka bs).getD (yOf 1 k z) [] = (rowsB a kb bt).getD z [] ∨ ((1 : Int) = 3 ∧ (z : Int) = k)) → ¬ isR (rowsB a ka bs) (rowsB a kb bt) 1 k from fun h h2 => h (h2.2 z (by rw [rowsB_len]; exact hlt)))
          by_cases hkz : k ≤ z
          · have HY : yOf 1 (k : Int) z = z + 1 := by unfold yOf; rw [if_pos ⟨rfl, by omega⟩]
            have hdk : decide ((k : Int) ≤ (z : Int)) = true := decide_eq_true (by omega)
            have HRW := Lib.hid (HROWS.out (z + 1) ((z : Int) + 1) (show (z : Int) + 1 = ((z + 1 : Nat) : Int) by omega) z (by omega) hlt _ S1.below)
            by_cases hrow : rowB a bs (z + 1) = rowB a bt z
            · rw [decide_eq_true hrow] at HRW
              have HN := Lib.hid (HNEXT.out (.inl (by rw [HY, rowsB_getD (show z + 1 < ka by omega), rowsB_getD hlt, hrow])))
              clear hrow
              go_wp2_with fail
              refine HRW.out.mono ?_
              rintro e w2 ⟨rfl, hb2⟩
              have S2 := S1.keep hb2
              clear c0 c1 c2 d0 d1 d2 e0 e1 S1
              obtain ⟨e0, e1⟩ := (S2.blk 2 rfl).cell2
              go_wp2_with fail
              go_roundw
              case rel => exact ⟨z + 1, by omega, by go_num, HN.out, S2⟩
              case measure => simp [intOf]; omega
            · rw [decide_eq_false hrow] at HRW
              have HNOT : ¬ ((1 : Int) = 3 ∧ (z : Int) = k) := fun h => hq3 h.1
              have HB := Lib.hid (HBAD.out (by rw [HY, rowsB_getD (show z + 1 < ka by omega), rowsB_getD hlt]; exact fun h => h.elim hrow HNOT))
              clear hrow
              go_wp2_with fail
              refine HRW.out.mono ?_
              rintro e w2 ⟨rfl, hb2⟩
              have S2 := S1.keep hb2
              clear c0 c1 c2 d0 d1 d2 e0 e1 S1
              obtain ⟨e0, e1⟩ := (S2.blk 2 rfl).cell2
              go_wp2_with fail
              go_ret
              exact ⟨ret_rows (decide_eq_false HB.out).symm, S2.below⟩
          · have HY : yOf 1 (k : Int) z = z := by unfold yOf; rw [if_neg (by omega), if_neg (by omega)]
            have hdk : decide ((k : Int) ≤ (z : Int)) = false := decide_eq_false (by omega)
            have HRW := Lib.hid (HROWS.out (z) ((z : Int)) (show (z : Int) = ((z : Nat) : Int) by omega) z (by omega) hlt _ S1.below)
            by_cases hrow : rowB a bs (z) = rowB a bt z
            · rw [decide_eq_true hrow] at HRW
              have HN := Lib.hid (HNEXT.out (.inl (by rw [HY, rowsB_getD (show z < ka by omega), rowsB_getD hlt, hrow])))
              clear hrow
              go_wp2_with fail
              refine HRW.out.mono ?_
              rintro e w2 ⟨rfl, hb2⟩
              have S2 := S1.keep hb2
              clear c0 c1 c2 d0 d1 d2 e0 e1 S1
              obtain ⟨e0, e1⟩ := (S2.blk 2 rfl).cell2
              go_wp2_with fail
              go_roundw
              case rel => exact ⟨z + 1, by omega, by go_num, HN.out, S2⟩
              case measure => simp [intOf]; omega
            · rw [decide_eq_false hrow] at HRW
              have HNOT : ¬ ((1 : Int) = 3 ∧ (z : Int) = k) := fun h => hq3 h.1
              have HB := Lib.hid (HBAD.out (by rw [HY, rowsB_getD (show z < ka by omega), rowsB_getD hlt]; exact fun h => h.elim hrow HNOT))
              clear hrow
              go_wp2_with fail
              refine HRW.out.mono ?_
              rintro e w2 ⟨rfl, hb2⟩
              have S2 := S1.keep hb2
              clear c0 c1 c2 d0 d1 d2 e0 e1 S1
              obtain ⟨e0, e1⟩ := (S2.blk 2 rfl).cell2
              go_wp2_with fail
              go_ret
              exact ⟨ret_rows (decide_eq_false HB.out).symm, S2.below⟩
        · obtain rfl : z = kb := by omega
          have HOK := Lib.hid (show isR (rowsB a ka bs) (rowsB a z bt) 1 k from ⟨by rw [rowsB_len, rowsB_len]; simp [moreOf]; omega, fun z' hz' => HE.out z' (by rw [rowsB_len] at hz'; exact hz')⟩)
          go_wp2_with fail
          go_ret
          exact ⟨ret_rows (decide_eq_true HOK.out).symm, S1.below⟩
    · have hHb : ((kb : Int) != (ka : Int) + -1) = true := by simp; omega
      have hHc : ((kb : Int) != (ka : Int) - 1) = true := by simp; omega
      have HB := Lib.hid (show ¬ isR (rowsB a ka bs) (rowsB a kb bt) 1 k from fun h => hH (by have h1 := h.1; rw [rowsB_len, rowsB_len] at h1; simp [moreOf] at h1; omega))
      go_wp2_with fail
      go_ret
      exact ⟨ret_rows (decide_eq_false HB.out).symm, S0.below⟩
  by_cases hq2 : q = 2
  · subst hq2
    have hq3 : ¬ (2 : Int) = 3 := by decide
    go_enter Try.func29, Try.ntmps29
    by_cases hH : kb = ka + 1
    · have hHb : ((kb : Int) != (ka : Int) + 1) = false := by simp; omega
      have hH1 := Nat.le_of_eq hH
      have hH2 := Nat.le_of_eq hH.symm
      clear hH
      go_wp2_with fail
      go_loopw [8] (fun i wr => ∃ z : Nat, z ≤ kb ∧ i = .int .i64 z ∧ (∀ z', z' < z → CD a ka kb bs bt 2 k z') ∧ St w LF wr) (fun i _ => kb - (intOf i).toNat)
      case atStart => exact ⟨0, Nat.zero_le _, rfl, fun _ h => absurd h (by omega), S0⟩
      case round =>
        obtain ⟨z, hz, rfl, heq, S1⟩ := hrel
        subst hLF
        have HE := Lib.hid heq
        clear heq c0 c1 c2 d0 d1 d2 e0 e1 S0
        obtain ⟨c0, c1, c2⟩ := (S1.blk 0 rfl).cell3
        obtain ⟨d0, d1, d2⟩ := (S1.blk 1 rfl).cell3
        obtain ⟨e0, e1⟩ := (S1.blk 2 rfl).cell2
        by_cases hlt : z < kb
        · have HNEXT := Lib.hid (show ((rowsB a ka bs).getD (yOf 2 k z) [] = (rowsB a kb bt).getD z [] ∨ ((2 : Int) = 3 ∧ (z : Int) = k)) → ∀ z', z' < z + 1 → CD a ka kb bs bt 2 k z' from fun h z' hz' => by
            by_cases hzz : z' = z
            · subst hzz; exact h
            · exact HE.out z' (by omega))
          have HBAD := Lib.hid (show ¬ ((rowsB a ka bs).getD (yOf 2 k z) [] = (rowsB a kb bt).getD z [] ∨ ((2 : Int) = 3 ∧ (z : Int) = k)) → ¬ isR (rowsB a ka bs) (rowsB a kb bt) 2 k from fun h h2 => h (h2.2 z (by rw [rowsB_len]; exact hlt)))
          by_cases hkz : k < z
          · have HY : yOf 2 (k : Int) z = z - 1 := by unfold yOf; rw [if_neg (by omega), if_pos ⟨rfl, by omega⟩]
            have hdk : decide ((k : Int) < (z : Int)) = true := decide_eq_true (by omega)
            have HRW := Lib.hid (HROWS.out (z - 1) ((z : Int) - 1) (show (z : Int) - 1 = ((z - 1 : Nat) : Int) by omega) z (by omega) hlt _ S1.below)
            by_cases hrow : rowB a bs (z - 1) = rowB a bt z
            · rw [decide_eq_true hrow] at HRW
              have HN := Lib.hid (HNEXT.out (.inl (by rw [HY, rowsB_getD (show z - 1 < ka by omega), rowsB_getD hlt, hrow])))
              clear hrow
              go_wp2_with fail
              refine HRW.out.mono ?_
              rintro e w2 ⟨rfl, hb2⟩
              have S2 := S1.keep hb2
              clear c0 c1 c2 d0 d1 d2 e0 e1 S1
              obtain ⟨e0, e1⟩ := (S2.blk 2 rfl).cell2
              go_wp2_with fail
              go_roundw
              case rel => exact ⟨z + 1, by omega, by go_num, HN.out, S2⟩
              case measure => simp [intOf]; omega
            · rw [decide_eq_false hrow] at HRW
              have HNOT : ¬ ((2 : Int) = 3 ∧ (z : Int) = k) := fun h => hq3 h.1
              have HB := Lib.hid (HBAD.out (by rw [HY, rowsB_getD (show z - 1 < ka by omega), rowsB_getD hlt]; exact fun h => h.elim hrow HNOT))
              clear hrow
              go_wp2_with fail
              refine HRW.out.mono ?_
              rintro e w2 ⟨rfl, hb2⟩
              have S2 := S1.keep hb2
              clear c0 c1 c2 d0 d1 d2 e0 e1 S1
              obtain ⟨e0, e1⟩ := (S2.blk 2 rfl).cell2
              go_wp2_with fail
              go_ret
              exact ⟨ret_rows (decide_eq_false HB.out).symm, S2.below⟩
          · have HY : yOf 2 (k : Int) z = z := by unfold yOf; rw [if_neg (by omega), if_neg (by omega)]
            have hdk : decide ((k : Int) < (z : Int)) = false := decide_eq_false (by omega)
            have HRW := Lib.hid (HROWS.out (z) ((z : Int)) (show (z : Int) = ((z : Nat) : Int) by omega) z (by omega) hlt _ S1.below)
            by_cases hrow : rowB a bs (z) = rowB a bt z
            · rw [decide_eq_true hrow] at HRW
              have HN := Lib.hid (HNEXT.out (.inl (by rw [HY, rowsB_getD (show z < ka by omega), rowsB_getD hlt, hrow])))
              clear hrow
              go_wp2_with fail
              refine HRW.out.mono ?_
              rintro e w2 ⟨rfl, hb2⟩
              have S2 := S1.keep hb2
              clear c0 c1 c2 d0 d1 d2 e0 e1 S1
              obtain ⟨e0, e1⟩ := (S2.blk 2 rfl).cell2
              go_wp2_with fail
              go_roundw
              case rel => exact ⟨z + 1, by omega, by go_num, HN.out, S2⟩
              case measure => simp [intOf]; omega
            · rw [decide_eq_false hrow] at HRW
              have HNOT : ¬ ((2 : Int) = 3 ∧ (z : Int) = k) := fun h => hq3 h.1
              have HB := Lib.hid (HBAD.out (by rw [HY, rowsB_getD (show z < ka by omega), rowsB_getD hlt]; exact fun h => h.elim hrow HNOT))
              clear hrow
              go_wp2_with fail
              refine HRW.out.mono ?_
              rintro e w2 ⟨rfl, hb2⟩
              have S2 := S1.keep hb2
              clear c0 c1 c2 d0 d1 d2 e0 e1 S1
              obtain ⟨e0, e1⟩ := (S2.blk 2 rfl).cell2
              go_wp2_with fail
              go_ret
              exact ⟨ret_rows (decide_eq_false HB.out).symm, S2.below⟩
        · obtain rfl : z = kb := by omega
          have HOK := Lib.hid (show isR (rowsB a ka bs) (rowsB a z bt) 2 k from ⟨by rw [rowsB_len, rowsB_len]; simp [moreOf]; omega, fun z' hz' => HE.out z' (by rw [rowsB_len] at hz'; exact hz')⟩)
          go_wp2_with fail
          go_ret
          exact ⟨ret_rows (decide_eq_true HOK.out).symm, S1.below⟩
    · have hHb : ((kb : Int) != (ka : Int) + 1) = true := by simp; omega
      have HB := Lib.hid (show ¬ isR (rowsB a ka bs) (rowsB a kb bt) 2 k from fun h => hH (by have h1 := h.1; rw [rowsB_len, rowsB_len] at h1; simp [moreOf] at h1; omega))
      go_wp2_with fail
      go_ret
      exact ⟨ret_rows (decide_eq_false HB.out).symm, S0.below⟩
  by_cases hq3 : q = 3
  · subst hq3
    go_enter Try.func29, Try.ntmps29
    by_cases hH : kb = ka
    · have hHb : ((kb : Int) != (ka : Int)) = false := by simp; omega
      have hH1 := Nat.le_of_eq hH
      have hH2 := Nat.le_of_eq hH.symm
      clear hH
      go_wp2_with fail
      go_loopw [8] (fun i wr => ∃ z : Nat, z ≤ kb ∧ i = .int .i64 z ∧ (∀ z', z' < z → CD a ka kb bs bt 3 k z') ∧ St w LF wr) (fun i _ => kb - (intOf i).toNat)
      case atStart => exact ⟨0, Nat.zero_le _, rfl, fun _ h => absurd h (by omega), S0⟩
      case round =>
        obtain ⟨z, hz, rfl, heq, S1⟩ := hrel
        subst hLF
        have HE := Lib.hid heq
        clear heq c0 c1 c2 d0 d1 d2 e0 e1 S0
        obtain ⟨c0, c1, c2⟩ := (S1.blk 0 rfl).cell3
        obtain ⟨d0, d1, d2⟩ := (S1.blk 1 rfl).cell3
        obtain ⟨e0, e1⟩ := (S1.blk 2 rfl).cell2
        by_cases hlt : z < kb
        · have HNEXT := Lib.hid (show ((rowsB a ka bs).getD (yOf 3 k z) [] = (rowsB a kb bt).getD z [] ∨ ((3 : Int) = 3 ∧ (z : Int) = k)) → ∀ z', z' < z + 1 → CD a ka kb bs bt 3 k z' from fun h z' hz' => by
            by_cases hzz : z' = z
            · subst hzz; exact h
            · exact HE.out z' (by omega))
          have HBAD := Lib.hid (show ¬ ((rowsB a ka bs).getD (yOf 3 k z) [] = (rowsB a kb bt).getD z [] ∨ ((3 : Int) = 3 ∧ (z : Int) = k)) → ¬ isR (rowsB a ka bs) (rowsB a kb bt) 3 k from fun h h2 => h (h2.2 z (by rw [rowsB_len]; exact hlt)))
          have HY : yOf 3 (k : Int) z = z := by unfold yOf; rw [if_neg (by omega), if_neg (by omega)]
          have HRW := Lib.hid (HROWS.out (z) ((z : Int)) (show (z : Int) = ((z : Nat) : Int) by omega) z (by omega) hlt _ S1.below)
          by_cases hrow : rowB a bs (z) = rowB a bt z
          · rw [decide_eq_true hrow] at HRW
            have HN := Lib.hid (HNEXT.out (.inl (by rw [HY, rowsB_getD (show z < ka by omega), rowsB_getD hlt, hrow])))
            clear hrow
            go_wp2_with fail
            refine HRW.out.mono ?_
            rintro e w2 ⟨rfl, hb2⟩
            have S2 := S1.keep hb2
            clear c0 c1 c2 d0 d1 d2 e0 e1 S1
            obtain ⟨e0, e1⟩ := (S2.blk 2 rfl).cell2
            go_wp2_with fail
            go_roundw
            case rel => exact ⟨z + 1, by omega, by go_num, HN.out, S2⟩
            case measure => simp [intOf]; omega
          · rw [decide_eq_false hrow] at HRW
            by_cases hzk : z = k
            · subst hzk
              have HN := Lib.hid (HNEXT.out (.inr ⟨rfl, by omega⟩))
              clear hrow
              go_wp2_with fail
              refine HRW.out.mono ?_
              rintro e w2 ⟨rfl, hb2⟩
              have S2 := S1.keep hb2
              clear c0 c1 c2 d0 d1 d2 e0 e1 S1
              obtain ⟨e0, e1⟩ := (S2.blk 2 rfl).cell2
              go_wp2_with fail
              go_roundw
              case rel => exact ⟨z + 1, by omega, by go_num, HN.out, S2⟩
              case measure => simp [intOf]; omega
            · have hzn : ((z : Int) != (k : Int)) = true := by simp; omega
              have HNOT : ¬ ((3 : Int) = 3 ∧ (z : Int) = k) := fun h => hzk (by omega)
              have HB := Lib.hid (HBAD.out (by rw [HY, rowsB_getD (show z < ka by omega), rowsB_getD hlt]; exact fun h => h.elim hrow HNOT))
              clear hrow
              go_wp2_with fail
              refine HRW.out.mono ?_
              rintro e w2 ⟨rfl, hb2⟩
              have S2 := S1.keep hb2
              clear c0 c1 c2 d0 d1 d2 e0 e1 S1
              obtain ⟨e0, e1⟩ := (S2.blk 2 rfl).cell2
              go_wp2_with fail
              go_ret
              exact ⟨ret_rows (decide_eq_false HB.out).symm, S2.below⟩
        · obtain rfl : z = kb := by omega
          have HOK := Lib.hid (show isR (rowsB a ka bs) (rowsB a z bt) 3 k from ⟨by rw [rowsB_len, rowsB_len]; simp [moreOf]; omega, fun z' hz' => HE.out z' (by rw [rowsB_len] at hz'; exact hz')⟩)
          go_wp2_with fail
          go_ret
          exact ⟨ret_rows (decide_eq_true HOK.out).symm, S1.below⟩
    · have hHb : ((kb : Int) != (ka : Int)) = true := by simp; omega
      have HB := Lib.hid (show ¬ isR (rowsB a ka bs) (rowsB a kb bt) 3 k from fun h => hH (by have h1 := h.1; rw [rowsB_len, rowsB_len] at h1; simp [moreOf] at h1; omega))
      go_wp2_with fail
      go_ret
      exact ⟨ret_rows (decide_eq_false HB.out).symm, S0.below⟩
  have hb1 : (q == 1) = false := by simpa using hq1
  have hb2 : (q == 2) = false := by simpa using hq2
  have hb3 : (q != 3) = true := by simpa using hq3
  go_enter Try.func29, Try.ntmps29
  by_cases hH : kb = ka
  · have hHb : ((kb : Int) != (ka : Int)) = false := by simp; omega
    have hH1 := Nat.le_of_eq hH
    have hH2 := Nat.le_of_eq hH.symm
    clear hH
    go_wp2_with fail
    go_loopw [8] (fun i wr => ∃ z : Nat, z ≤ kb ∧ i = .int .i64 z ∧ (∀ z', z' < z → CD a ka kb bs bt q k z') ∧ St w LF wr) (fun i _ => kb - (intOf i).toNat)
    case atStart => exact ⟨0, Nat.zero_le _, rfl, fun _ h => absurd h (by omega), S0⟩
    case round =>
      obtain ⟨z, hz, rfl, heq, S1⟩ := hrel
      subst hLF
      have HE := Lib.hid heq
      clear heq c0 c1 c2 d0 d1 d2 e0 e1 S0
      obtain ⟨c0, c1, c2⟩ := (S1.blk 0 rfl).cell3
      obtain ⟨d0, d1, d2⟩ := (S1.blk 1 rfl).cell3
      obtain ⟨e0, e1⟩ := (S1.blk 2 rfl).cell2
      by_cases hlt : z < kb
      · have HNEXT := Lib.hid (show ((rowsB a ka bs).getD (yOf q k z) [] = (rowsB a kb bt).getD z [] ∨ (q = 3 ∧ (z : Int) = k)) → ∀ z', z' < z + 1 → CD a ka kb bs bt q k z' from fun h z' hz' => by
          by_cases hzz : z' = z
          · subst hzz; exact h
          · exact HE.out z' (by omega))
        have HBAD := Lib.hid (show ¬ ((rowsB a ka bs).getD (yOf q k z) [] = (rowsB a kb bt).getD z [] ∨ (q = 3 ∧ (z : Int) = k)) → ¬ isR (rowsB a ka bs) (rowsB a kb bt) q k from fun h h2 => h (h2.2 z (by rw [rowsB_len]; exact hlt)))
        have HY : yOf q (k : Int) z = z := by unfold yOf; rw [if_neg (by omega), if_neg (by omega)]
        have HRW := Lib.hid (HROWS.out (z) ((z : Int)) (show (z : Int) = ((z : Nat) : Int) by omega) z (by omega) hlt _ S1.below)
        by_cases hrow : rowB a bs (z) = rowB a bt z
        · rw [decide_eq_true hrow] at HRW
          have HN := Lib.hid (HNEXT.out (.inl (by rw [HY, rowsB_getD (show z < ka by omega), rowsB_getD hlt, hrow])))
          clear hrow
          go_wp2_with fail
          refine HRW.out.mono ?_
          rintro e w2 ⟨rfl, hb2⟩
          have S2 := S1.keep hb2
          clear c0 c1 c2 d0 d1 d2 e0 e1 S1
          obtain ⟨e0, e1⟩ := (S2.blk 2 rfl).cell2
          go_wp2_with fail
          go_roundw
          case rel => exact ⟨z + 1, by omega, by go_num, HN.out, S2⟩
          case measure => simp [intOf]; omega
        · rw [decide_eq_false hrow] at HRW
          have HNOT : ¬ (q = 3 ∧ (z : Int) = k) := fun h => hq3 h.1
          have HB := Lib.hid (HBAD.out (by rw [HY, rowsB_getD (show z < ka by omega), rowsB_getD hlt]; exact fun h => h.elim hrow HNOT))
          clear hrow
          go_wp2_with fail
          refine HRW.out.mono ?_
          rintro e w2 ⟨rfl, hb2⟩
          have S2 := S1.keep hb2
          clear c0 c1 c2 d0 d1 d2 e0 e1 S1
          obtain ⟨e0, e1⟩ := (S2.blk 2 rfl).cell2
          go_wp2_with fail
          go_ret
          exact ⟨ret_rows (decide_eq_false HB.out).symm, S2.below⟩
      · obtain rfl : z = kb := by omega
        have HOK := Lib.hid (show isR (rowsB a ka bs) (rowsB a z bt) q k from ⟨by rw [rowsB_len, rowsB_len]; simp [moreOf, hq1, hq2]; omega, fun z' hz' => HE.out z' (by rw [rowsB_len] at hz'; exact hz')⟩)
        go_wp2_with fail
        go_ret
        exact ⟨ret_rows (decide_eq_true HOK.out).symm, S1.below⟩
  · have hHb : ((kb : Int) != (ka : Int)) = true := by simp; omega
    have HB := Lib.hid (show ¬ isR (rowsB a ka bs) (rowsB a kb bt) q k from fun h => hH (by have h1 := h.1; rw [rowsB_len, rowsB_len] at h1; simp [moreOf, hq1, hq2] at h1; omega))
    go_wp2_with fail
    go_ret
    exact ⟨ret_rows (decide_eq_false HB.out).symm, S0.below⟩
end Go.Proofs.Ytfjdlbilnoojkaa
