/- grid.Count counts the cells that are up. -/
import Derived.Test.YtebbcpeldncekaaDoorChkz
import Derived.Test.YtebbcpeldncekaaDoorStz
import Derived.Outline
import Derived.IntWalk
namespace Go.Proofs.YtebbcpeldncekaaDoor
open Go.RowKit

/-- How many are up. -/
def ups (l : List Bool) : Nat := (l.filter id).length
theorem ups_nil : ups [] = 0 := rfl
theorem ups_snoc (l : List Bool) (b : Bool) : ups (l ++ [b]) = ups l + (if b then 1 else 0) := by unfold ups; cases b <;> simp
theorem ups_le (l : List Bool) : ups l ≤ l.length := List.length_filter_le _ _
theorem ups_take {l : List Bool} {k : Nat} (h : k < l.length) : ups (l.take (k + 1)) = ups (l.take k) + (if l.getD k false then 1 else 0) := by
  rw [List.take_add_one, List.getElem?_eq_getElem h, List.getD_eq_getElem?_getD, List.getElem?_eq_getElem h]
  exact ups_snoc _ _
def countG (g : Gd) : Int × Int := if chkG g = 0 then ((ups g.bits : Nat), 0) else (0, chkG g)
theorem countG_ok {g : Gd} (h : chkG g = 0) : countG g = (((ups g.bits : Nat) : Int), 0) := if_pos h
theorem countG_bad {g : Gd} (h : chkG g ≠ 0) : countG g = (0, chkG g) := if_neg h

set_option maxHeartbeats 1000000 in
theorem count_any (g : Gd) (A : Option Addr) (n c : Nat) (w : World) (hr : Rd w A n (g.bits.map Value.bool)) :
    Calls Tryd.prog 10 #[.agg #[.int .i64 g.w, .int .i64 g.h, .slice A n c]] w fun e w' => e = .returned (.tuple #[.int .i64 (countG g).1, .int .i64 (countG g).2]) ∧ Below w.heap.size w w' := by
  obtain ⟨W, H, bs⟩ := g
  simp only at hr ⊢
  have hn : bs.length = n := by simpa using hr.len
  have hs : chkG ⟨W, H, bs⟩ = chk W H n := by unfold chkG; rw [hn]
  have S0 := ((St.start w).addRd hr).box #[.int .i64 W, .int .i64 H, .slice A n c] 24
  simp only [List.nil_append, List.cons_append] at S0
  obtain ⟨c0, c1, c2⟩ := (S0.blk 1 rfl).cell3
  by_cases hc : chk W H n = 0
  · have hcb : (chk W H n != 0) = false := by simpa using hc
    have HQ := Lib.hid (countG_ok (hs.trans hc))
    obtain ⟨a, b, rfl, rfl, ha1, ha, hbb, hb, hl⟩ := chk_zero hc
    have hsm : n ≤ 64 * 64 := by rw [hl]; exact Nat.mul_le_mul hb ha
    have HN := Lib.hid hn
    clear hs hc hn hl
    go_enter Tryd.func10, Tryd.ntmps10
    go_wp2_with fail
    refine (check_any _ _ _ _ _ _).mono ?_
    rintro e w1 ⟨rfl, hb1⟩
    have S := S0.keep hb1
    clear S0 c0 c1 c2
    obtain ⟨c0, c1, c2⟩ := (S.blk 1 rfl).cell3
    go_wp2_with fail
    go_loopw [16, 5] (fun i u wr => ∃ k : Nat, k ≤ n ∧ i = .int .i64 k ∧ u = .int .i64 (ups (bs.take k) : Nat) ∧ wr = w1) (fun i _ _ => n - (intOf i).toNat)
    case atStart => exact ⟨0, Nat.zero_le _, rfl, rfl, rfl⟩
    case round =>
      obtain ⟨k, hk, rfl, rfl, rfl⟩ := hrel
      have hle : ups (bs.take k) ≤ k := Nat.le_trans (ups_le _) (by simp; omega)
      by_cases hlt : k < n
      · obtain ⟨bl, o, hA, _, hcell⟩ := (S.rd 0 rfl).at_ (by omega)
        have hll : k < bs.length := by have := HN.out; omega
        have g0 := hcell k (.bool (bs.getD k false)) (by rw [List.getElem?_map, List.getElem?_eq_getElem hll]; simp [List.getD, hll])
        have HU := Lib.hid (ups_take hll)
        rw [hA]
        clear hcell hA c0 c1 c2
        generalize ups (bs.take k) = u at *
        cases hp : bs.getD k false with
        | true =>
          rw [hp] at g0 HU
          clear hp
          go_wp2_with fail
          go_roundw
          case rel => exact ⟨k + 1, by omega, by go_num, by rw [HU.out]; go_num, by trivial⟩
          case measure => simp [intOf]; omega
        | false =>
          rw [hp] at g0 HU
          clear hp
          go_wp2_with fail
          go_roundw
          case rel => exact ⟨k + 1, by omega, by go_num, by rw [HU.out]; rfl, by trivial⟩
          case measure => simp [intOf]; omega
      · have hT : bs.take k = bs := List.take_of_length_le (by have := HN.out; omega)
        rw [hT]
        go_wp2_with fail
        go_ret2
        exact ⟨by rw [HQ.out]; rfl, S.below⟩
  · have hcb : (chk W H n != 0) = true := by simpa using hc
    have HQ : Hid (countG ⟨W, H, bs⟩ = (0, chk W H n)) := Lib.hid (by rw [countG_bad (by rw [hs]; exact hc), hs])
    clear hs hc hn
    go_enter Tryd.func10, Tryd.ntmps10
    go_wp2_with fail
    refine (check_any _ _ _ _ _ _).mono ?_
    rintro e w1 ⟨rfl, hb1⟩
    have S := S0.keep hb1
    go_wp2_with fail
    go_ret2
    exact ⟨by rw [HQ.out]; rfl, S.below⟩
end Go.Proofs.YtebbcpeldncekaaDoor
