/- raddleref01.Count counts the cells that are up. -/
import Derived.Test.YtebbcpeldncekaaDoorRChkz
import Derived.Test.YtebbcpeldncekaaDoorCountz
namespace Go.Proofs.YtebbcpeldncekaaDoor
open Go.RowKit

set_option maxHeartbeats 1000000 in
theorem rcount_any (g : Gd) (A : Option Addr) (n c : Nat) (w : World) (hr : Rd w A n (g.bits.map Value.bool)) :
    Calls Tryd.prog 11 #[.agg #[.int .i64 g.w, .int .i64 g.h, .slice A n c]] w fun e w' => e = .returned (.tuple #[.int .i64 (countG g).1, .int .i64 (countG g).2]) ∧ Below w.heap.size w w' := by
  obtain ⟨W, H, bs⟩ := g
  simp only at hr ⊢
  have hn : bs.length = n := by simpa using hr.len
  have hs : chkG ⟨W, H, bs⟩ = chk W H n := by unfold chkG; rw [hn]
  have S0 := ((St.start w).addRd hr).box #[.int .i64 W, .int .i64 H, .slice A n c] 24
  simp only [List.nil_append, List.cons_append] at S0
  obtain ⟨c0, c1, c2⟩ := (S0.blk 1 rfl).cell3
  by_cases hc : chk W H n = 0
  · have hcb : (chk W H n != 0) = false := by simpa using hc
    have HQ := Lib.hid (countG_ok (hs.trans hc))
    obtain ⟨a, b, rfl, rfl, ha1, ha, hbb, hb, hl⟩ := chk_zero hc
    have hsm : n ≤ 64 * 64 := by rw [hl]; exact Nat.mul_le_mul hb ha
    have HN := Lib.hid hn
    clear hs hc hn hl
    go_enter Tryd.func11, Tryd.ntmps11
    go_wp2_with fail
    refine (rcheck_any _ _ _ _ _ _).mono ?_
    rintro e w1 ⟨rfl, hb1⟩
    have S := S0.keep hb1
    clear S0 c0 c1 c2
    obtain ⟨c0, c1, c2⟩ := (S.blk 1 rfl).cell3
    go_wp2_with fail
    go_loopw [4, 5] (fun u i wr => ∃ k : Nat, k ≤ n ∧ i = .int .i64 k ∧ u = .int .i64 (ups (bs.take k) : Nat) ∧ wr = w1) (fun _ i _ => n - (intOf i).toNat)
    case atStart => exact ⟨0, Nat.zero_le _, rfl, rfl, rfl⟩
    case round =>
      obtain ⟨k, hk, rfl, rfl, rfl⟩ := hrel
      have hle : ups (bs.take k) ≤ k := Nat.le_trans (ups_le _) (by simp; omega)
      by_cases hlt : k < n
      · obtain ⟨bl, o, hA, _, hcell⟩ := (S.rd 0 rfl).at_ (by omega)
        have hll : k < bs.length := by have := HN.out; omega
        have g0 := hcell k (.bool (bs.getD k false)) (by rw [List.getElem?_map, List.getElem?_eq_getElem hll]; simp [List.getD, hll])
        have HU := Lib.hid (ups_take hll)
        subst hA
        clear hcell
        generalize ups (bs.take k) = u at *
        cases hp : bs.getD k false with
        | true =>
          rw [hp] at g0 HU
          clear hp
          go_wp2_with fail
          go_roundw
          case rel => exact ⟨k + 1, by omega, by go_num, by rw [HU.out]; go_num, by trivial⟩
          case measure => simp [intOf]; omega
        | false =>
          rw [hp] at g0 HU
          clear hp
          go_wp2_with fail
          go_roundw
          case rel => exact ⟨k + 1, by omega, by go_num, by rw [HU.out]; rfl, by trivial⟩
          case measure => simp [intOf]; omega
      · have hT : bs.take k = bs := List.take_of_length_le (by have := HN.out; omega)
        rw [hT]
        go_wp2_with fail
        go_ret2
        exact ⟨by rw [HQ.out]; rfl, S.below⟩
  · have hcb : (chk W H n != 0) = true := by simpa using hc
    have HQ : Hid (countG ⟨W, H, bs⟩ = (0, chk W H n)) := Lib.hid (by rw [countG_bad (by rw [hs]; exact hc), hs])
    clear hs hc
    go_enter Tryd.func11, Tryd.ntmps11
    go_wp2_with fail
    refine (rcheck_any _ _ _ _ _ _).mono ?_
    rintro e w1 ⟨rfl, hb1⟩
    have S := S0.keep hb1
    clear S0 c0 c1 c2
    obtain ⟨c0, c1, c2⟩ := (S.blk 1 rfl).cell3
    go_wp2_with fail
    refine (rcheck_any _ _ _ _ _ _).mono ?_
    rintro e w2 ⟨rfl, hb2⟩
    go_wp2_with fail
    go_ret2
    exact ⟨by rw [HQ.out]; rfl, (S.keep hb2).below⟩
end Go.Proofs.YtebbcpeldncekaaDoor
