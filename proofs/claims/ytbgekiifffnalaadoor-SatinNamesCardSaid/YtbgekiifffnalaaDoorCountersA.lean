/- Counters of layer 9: the moves of a number. -/
import Derived.Test.YtbgekiifffnalaaDoorMoveA9
import Derived.Test.YtbgekiifffnalaaDoorRetL
namespace Go.Proofs.YtbgekiifffnalaaDoor
open Go.RowKit

/-- The moves of n below k. -/
def movesB (n : Int) (k : Nat) : List Int := ((List.range k).filter fun (m : Nat) => moveB n (m : Int)).map fun (m : Nat) => (m : Int)
theorem movesB_zero (n : Int) : movesB n 0 = [] := rfl
theorem movesB_yes {n : Int} {k : Nat} (h : moveB n (k : Int) = true) : movesB n (k + 1) = movesB n k ++ [(k : Int)] := by unfold movesB; rw [List.range_succ, List.filter_append]; simp [h]
theorem movesB_no {n : Int} {k : Nat} (h : moveB n (k : Int) = false) : movesB n (k + 1) = movesB n k := by unfold movesB; rw [List.range_succ, List.filter_append]; simp [h]
theorem movesB_le (n : Int) (k : Nat) : (movesB n k).length ≤ k := by
  unfold movesB
  rw [List.length_map]
  exact Nat.le_trans (List.length_filter_le _ _) (by simp)
theorem movesB_two (n : Int) : movesB n 2 = [] := by
  rw [movesB_no (moveB_no (by omega)), movesB_no (moveB_no (by omega)), movesB_zero]
def countersG (n : Int) : List Int × Int := if n < 5 ∨ 64 < n then ([], 2) else (movesB n n.toNat, 0)
theorem countersG_bad {n : Int} (h : n < 5 ∨ 64 < n) : countersG n = ([], 2) := if_pos h
theorem countersG_ok {n : Nat} (h : 5 ≤ n) (h2 : n ≤ 64) : countersG (n : Int) = (movesB (n : Int) n, 0) := by unfold countersG; rw [if_neg (by omega)]; simp

set_option maxHeartbeats 1000000 in
set_option maxRecDepth 100000 in
theorem counters_any (n : Int) (w : World) : Calls Tryd.prog 5 #[.int .i64 n] w (RetL (countersG n) w) := by
  obtain ⟨i0, hi, hz0, hz1, hz2⟩ := info_parts Tryd.infoI
  by_cases h1 : n < 5
  · rw [countersG_bad (.inl h1)]
    go_enter Tryd.func5, Tryd.ntmps5
    go_wp2_with fail
    go_ret2
    exact retL_bad (Below.refl _ _)
  by_cases h2 : 64 < n
  · rw [countersG_bad (.inr h2)]
    go_enter Tryd.func5, Tryd.ntmps5
    go_wp2_with fail
    go_ret2
    exact retL_bad (Below.refl _ _)
  obtain ⟨n, rfl⟩ : ∃ k : Nat, n = (k : Int) := ⟨n.toNat, by omega⟩
  rw [countersG_ok (by omega) (by omega)]
  go_enter Tryd.func5, Tryd.ntmps5
  go_wp2_with fail
  go_loopw [13, 4] (fun i s wr => ∃ (k n1 c1 : Nat) (A : Option Addr), k ≤ n ∧ i = .int .i64 k ∧ s = .slice A n1 c1 ∧ wr.ownsRow w.heap.size 3 1 (.slice A n1 c1) n1 ((movesB n k).map (Value.int .i64)) ∧ Below w.heap.size w wr) (fun i _ _ => n - (intOf i).toNat)
  case atStart => exact ⟨0, 0, 0, none, Nat.zero_le _, rfl, rfl, World.ownsRow_nil _ _ _ _, Below.refl _ _⟩
  case round =>
    obtain ⟨k, n1, c1, A, hk, rfl, rfl, hown, hbel⟩ := hrel
    have hn1 : n1 ≤ 64 := by have h := hown.1; have h3 := movesB_le (n : Int) k; simp at h; omega
    by_cases hlt : k < n
    · obtain ⟨mb, hmb⟩ : ∃ mb, moveB (n : Int) (k : Int) = mb := ⟨_, rfl⟩
      have HM := Lib.hid (fun W => hmb ▸ move_any (n : Int) (k : Int) W)
      have HB := Lib.hid hmb
      clear hmb
      go_wp2_with fail
      refine (HM.out _).mono ?_
      rintro e w1 ⟨rfl, hb1⟩
      have hown1 := own_below hown hb1
      have hbel1 := below_then hbel hb1
      have hsz := size_alloc_le hbel1.size (.cells #[.int .i64 k] 3)
      generalize hxs : (movesB (n : Int) k).map (Value.int .i64) = xs at hown1
      have HX := Lib.hid hxs
      clear hxs hown hbel
      cases mb with
      | true =>
        go_wp2_with (at_builtin; go_loud (refine wpList_app _ rfl (.tmp 19) (.tmp 21) 28 rfl w.heap.size 3 i0 (.int .i64 0) 8 Tryd.underlying28 hi hz0 hz1 hz2 rfl (by decide) (.slice A n1 c1) n1 _ rfl (hown1.alloc _) w1.heap.size (.int .i64 k) rfl (new_cell w1 _ _) rfl (by omega) hsz ?_))
        intro g3 c3 w3 hown3 hgr3
        have hbel3 := (hbel1.alloc hbel1.size _).grown hgr3 (size_alloc_le hbel1.size _) (fun k hk => (hown1.lt k hk).1)
        clear hown1 hgr3
        go_wp2_with fail
        go_roundw
        case rel => exact ⟨k + 1, n1 + 1, c3, some ⟨g3, 0, none⟩, by omega, by go_num, rfl, by rw [movesB_yes HB.out, List.map_append, HX.out]; exact hown3, hbel3⟩
        case measure => simp [intOf]; omega
      | false =>
        go_wp2_with fail
        go_roundw
        case rel => exact ⟨k + 1, n1, c1, A, by omega, by go_num, rfl, by rw [movesB_no HB.out, HX.out]; exact hown1, hbel1⟩
        case measure => simp [intOf]; omega
    · have HL : Hid (movesB (n : Int) n = movesB (n : Int) k) := Lib.hid (by
        rw [show n = k by omega])
      generalize movesB (n : Int) k = xs at *
      go_wp2_with fail
      go_ret2
      exact ⟨A, n1, c1, by first | rfl | (rw [HL.out]; rfl), by rw [HL.out]; exact hown, hbel⟩
end Go.Proofs.YtbgekiifffnalaaDoor
