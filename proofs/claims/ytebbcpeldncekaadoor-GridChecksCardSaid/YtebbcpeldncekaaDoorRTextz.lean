/- raddleref01.Text gives the text of a grid, or its error. -/
import Derived.Test.YtebbcpeldncekaaDoorTextz
import Derived.Test.YtebbcpeldncekaaDoorRChkz
import Derived.Test.YtebbcpeldncekaaDoorRAtz
import Derived.Laws.Concat
namespace Go.Proofs.YtebbcpeldncekaaDoor
open Go.RowKit

theorem row_at {a x y : Nat} {bs : List Bool} (hx : x < a) : bs.getD (y * a + x) false = (rowAt a bs y).getD x false := by
  unfold rowAt
  rw [List.getD_eq_getElem?_getD, List.getD_eq_getElem?_getD, List.getElem?_take, if_pos hx, List.getElem?_drop]
theorem str_is {a b : List UInt8} (h : a = b) : Value.string ⟨a.toArray⟩ = Value.string ⟨b.toArray⟩ := by rw [h]

set_option maxHeartbeats 2000000 in
set_option maxRecDepth 100000 in
theorem rtext_any (g : Gd) (A : Option Addr) (n c : Nat) (w : World) (hr : Rd w A n (g.bits.map Value.bool)) :
    Calls Tryd.prog 13 #[.agg #[.int .i64 g.w, .int .i64 g.h, .slice A n c]] w (RetS (textG g) w) := by
  obtain ⟨W, H, bs⟩ := g
  simp only at hr ⊢
  have hn : bs.length = n := by simpa using hr.len
  have hs : chkG ⟨W, H, bs⟩ = chk W H n := by unfold chkG; rw [hn]
  have S0 := ((St.start w).addRd hr).box #[.int .i64 W, .int .i64 H, .slice A n c] 24
  simp only [List.nil_append, List.cons_append] at S0
  obtain ⟨c0, c1, c2⟩ := (S0.blk 1 rfl).cell3
  by_cases hc : chk W H n = 0
  · have hcb : (chk W H n != 0) = false := by simpa using hc
    obtain ⟨a, b, rfl, rfl, ha1, ha, hbb, hb, hl⟩ := chk_zero hc
    have HQ := Lib.hid (textG_ok (hs.trans hc))
    subst hl
    have HN := Lib.hid hn
    have HL := Lib.hid (textL_length hn)
    clear hs hc hn hr
    go_enter Tryd.func13, Tryd.ntmps13
    go_wp2_with fail
    refine (rcheck_any _ _ _ _ _ _).mono ?_
    rintro e w1 ⟨rfl, hb1⟩
    have S := S0.keep hb1
    clear S0 c0 c1 c2 hb1
    obtain ⟨c0, c1, c2⟩ := (S.blk 1 rfl).cell3
    go_wp2_with fail
    go_loopw [4, 5] (fun s y wr => ∃ (k : Nat) (acc : List UInt8), k ≤ b ∧ y = .int .i64 ((k : Int) - 1) ∧ s = .string ⟨acc.toArray⟩ ∧ acc ++ downT (fun y => rowT (rowAt a bs y)) k = textL a b bs ∧ Below w1.heap.size w1 wr) (fun _ y _ => (intOf y + 1).toNat)
    case atStart => exact ⟨b, [], Nat.le_refl _, by go_num, rfl, rfl, Below.refl _ _⟩
    case round =>
      clear c0 c1 c2
      obtain ⟨k, acc, hk, rfl, rfl, hacc, hB⟩ := hrel
      have SR := S.keep hB
      obtain ⟨c0, c1, c2⟩ := (SR.blk 1 rfl).cell3
      rcases k with _ | k
      · have hq : textL a b bs = acc := by rw [← hacc]; simp [downT]
        clear hacc
        subst hq
        go_wp2_with fail
        go_ret2
        exact ⟨by rw [HQ.out]; rfl, SR.below⟩
      · have HACC := Lib.hid hacc
        have hlacc : acc.length + a + 1 ≤ 4160 := by
          have h1 := congrArg List.length hacc
          have h2 := HL.out
          rw [List.length_append] at h1
          have h3 : (downT (fun y => rowT (rowAt a bs y)) (k + 1)).length = (k + 1) * (a + 1) := downT_length fun j hj => by rw [rowT_length, rowAt_length HN.out (by omega)]
          have h4 : b * (a + 1) ≤ 64 * 65 := Nat.mul_le_mul hb (by omega)
          rw [h3, Nat.succ_mul] at h1
          omega
        clear hacc
        have hk1 : ((k + 1 : Nat) : Int) - 1 = (k : Int) := by omega
        have hkb : k < b := by omega
        have hlr := Lib.hid (rowAt_length HN.out hkb)
        rw [hk1]
        clear hk1
        go_wp2_with fail
        clear c0 c1 c2
        go_loopw [4, 6] (fun s i wr => ∃ x : Nat, x ≤ a ∧ i = .int .i64 x ∧ s = .string ⟨(acc ++ ((rowAt a bs k).take x).map ch).toArray⟩ ∧ Below w1.heap.size w1 wr) (fun _ i _ => a - (intOf i).toNat)
        case atStart => exact ⟨0, Nat.zero_le _, rfl, str_is (by simp), hB⟩
        case round =>
          clear hB SR
          obtain ⟨x, hx, rfl, rfl, hB⟩ := hrel
          have SR := S.keep hB
          obtain ⟨c0, c1, c2⟩ := (SR.blk 1 rfl).cell3
          by_cases hlx : x < a
          · have HT := Lib.hid (acc_take acc (rowAt a bs k) x (by rw [hlr.out]; exact hlx))
            have HRW := Lib.hid (row_at (y := k) (bs := bs) hlx)
            have hlen : ((acc ++ ((rowAt a bs k).take x).map ch).length : Int) ≤ 8388608 := by rw [List.length_append, List.length_map, List.length_take]; omega
            generalize acc ++ ((rowAt a bs k).take x).map ch = acc2 at *
            have hadd1 := fun wz => run_string_add_lists (P := Tryd.prog) wz acc2 [120] hlen (by simp)
            have hadd2 := fun wz => run_string_add_lists (P := Tryd.prog) wz acc2 [46] hlen (by simp)
            go_wp2_with fail
            refine (at_any a b x k bs _ A c _ ha hb hlx hkb (SR.rd 0 rfl)).mono ?_
            rintro e w2 ⟨rfl, hb2⟩
            have hB2 := below_then hB hb2
            rw [HRW.out]
            generalize (rowAt a bs k).getD x false = v at *
            clear c0 c1 c2
            cases v with
            | true =>
              go_wp2_with fail
              go_roundw
              case rel => exact ⟨x + 1, by omega, by go_num, str_is (by rw [HT.out]; rfl), hB2⟩
              case measure => simp [intOf]; omega
            | false =>
              go_wp2_with fail
              go_roundw
              case rel => exact ⟨x + 1, by omega, by go_num, str_is (by rw [HT.out]; rfl), hB2⟩
              case measure => simp [intOf]; omega
          · have hxe : (rowAt a bs k).take x = rowAt a bs k := List.take_of_length_le (by rw [hlr.out]; omega)
            rw [hxe]
            have hlen : ((acc ++ (rowAt a bs k).map ch).length : Int) ≤ 8388608 := by rw [List.length_append, List.length_map, hlr.out]; omega
            have hadd := fun wz => run_string_add_lists (P := Tryd.prog) wz (acc ++ (rowAt a bs k).map ch) [10] hlen (by simp)
            go_wp2_with fail
            go_roundw
            case rel => exact ⟨k, _, by omega, by go_num, rfl, by rw [← HACC.out]; simp [downT, rowT], hB⟩
            case measure => simp [intOf]
  · have hcb : (chk W H n != 0) = true := by simpa using hc
    have HQ : Hid (textG ⟨W, H, bs⟩ = ([], chk W H n)) := Lib.hid (by rw [textG_bad (by rw [hs]; exact hc), hs])
    clear hs hc
    go_enter Tryd.func13, Tryd.ntmps13
    go_wp2_with fail
    refine (rcheck_any _ _ _ _ _ _).mono ?_
    rintro e w1 ⟨rfl, hb1⟩
    have S := S0.keep hb1
    clear S0 c0 c1 c2
    obtain ⟨c0, c1, c2⟩ := (S.blk 1 rfl).cell3
    go_wp2_with fail
    refine (rcheck_any _ _ _ _ _ _).mono ?_
    rintro e w2 ⟨rfl, hb2⟩
    go_wp2_with fail
    go_ret2
    exact ⟨by rw [HQ.out]; rfl, (S.keep hb2).below⟩
end Go.Proofs.YtebbcpeldncekaaDoor
