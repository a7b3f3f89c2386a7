/- The contracts of layer 9 at the examples of the law SatinNames. -/
import Derived.Test.YtbgekiifffnalaaDoorNames9P
import Derived.Test.YtbgekiifffnalaaDoorAlive9
import Derived.Test.YtbgekiifffnalaaDoorSatA9
import Derived.Test.YtbgekiifffnalaaDoorNot
import Derived.Test.YtbgekiifffnalaaDoorParse
namespace Go.Proofs.YtbgekiifffnalaaDoor
open Go.RowKit

/-- A grid that is not there, with its error. -/
def ErrG (t : Int) (w : World) (e : Ending) (w' : World) : Prop := ∃ A n c, e = .returned (.tuple #[.agg #[.int .i64 0, .int .i64 0, .slice A n c], .int .i64 t]) ∧ Below w.heap.size w w'
theorem errG_of {t : Int} {w w' : World} {e : Ending} (h : RetG (Gd.zero, t) w e w') : ErrG t w e w' := by
  obtain ⟨A, n, c, rfl, _, hb⟩ := h
  exact ⟨A, n, c, rfl, hb⟩
theorem k1 (A : Option Addr) (n c : Nat) (W : World) (hr : Rd W A n (([1, 2, 2, 1] : List Int).map (Value.int .i64))) (hn : n ≤ 1048576) : Calls Tryd.prog 4 #[.slice A n c, .int .i64 2] W (RetG (gA, 0) W) := by
  have h := twill_any [1, 2, 2, 1] 2 A n c W hr hn
  rw [nm1] at h
  exact h
theorem k2 (A : Option Addr) (n c : Nat) (W : World) (hr : Rd W A n (([3, 1] : List Int).map (Value.int .i64))) (hn : n ≤ 1048576) : Calls Tryd.prog 4 #[.slice A n c, .int .i64 (-4)] W (RetG (gB, 0) W) := by
  have h := twill_any [3, 1] (-4) A n c W hr hn
  rw [nm2] at h
  exact h
theorem k3 (W : World) : Calls Tryd.prog 5 #[.int .i64 64] W (RetL (cL, 0) W) := by
  have h := counters_any 64 W
  rw [nm3] at h
  exact h
theorem k4 (W : World) : Calls Tryd.prog 6 #[.int .i64 7, .int .i64 3] W (RetG (gS, 0) W) := by
  have h := satin_any 7 3 W
  rw [nm4] at h
  exact h
theorem k5 (A : Option Addr) (n c : Nat) (W : World) (hr : Rd W A n (gS.bits.map Value.bool)) (_hc : n ≤ c) : Calls Tryd.prog 7 #[.agg #[.int .i64 gS.w, .int .i64 gS.h, .slice A n c]] W (RetG (gO, 0) W) := by
  have h := not_any gS A n c W hr
  rw [nm5] at h
  exact h
theorem k6 (A : Option Addr) (n c : Nat) (W : World) (hr : Rd W A n (gO.bits.map Value.bool)) (hc : n ≤ c) : Calls Tryd.prog 8 #[.agg #[.int .i64 gO.w, .int .i64 gO.h, .slice A n c]] W (fun e w' => e = .returned (.tuple #[.int .i64 7, .int .i64 3, .bool false, .int .i64 0]) ∧ Below W.heap.size W w') := by
  have h := sat_any gO A n c W hr hc
  unfold SatRet at h
  rw [nm6] at h
  exact h
theorem k7 (A : Option Addr) (n c : Nat) (W : World) (hr : Rd W A n (gA.bits.map Value.bool)) (hc : n ≤ c) : Calls Tryd.prog 9 #[.agg #[.int .i64 gA.w, .int .i64 gA.h, .slice A n c]] W (RetL ([2], 0) W) := by
  have h := moves_any gA A n c W hr hc
  rw [nm7] at h
  exact h
theorem k8 (A : Option Addr) (n c : Nat) (W : World) (hr : Rd W A n (gS.bits.map Value.bool)) (hc : n ≤ c) : Calls Tryd.prog 9 #[.agg #[.int .i64 gS.w, .int .i64 gS.h, .slice A n c]] W (RetL ([3], 0) W) := by
  have h := moves_any gS A n c W hr hc
  rw [nm8] at h
  exact h
theorem k10 (A : Option Addr) (n c : Nat) (W : World) (hr : Rd W A n (gN.bits.map Value.bool)) (hc : n ≤ c) : Calls Tryd.prog 9 #[.agg #[.int .i64 gN.w, .int .i64 gN.h, .slice A n c]] W (RetL ([], 0) W) := by
  have h := moves_any gN A n c W hr hc
  rw [nm10] at h
  exact h
theorem k9 (W : World) : Calls Tryd.prog 10 #[str [120, 46, 10, 46, 46, 10]] W (RetG (gN, 0) W) := by
  have h := parse_any [120, 46, 10, 46, 46, 10] W (by decide)
  rw [nm9] at h
  exact h
theorem k12 (W : World) : Calls Tryd.prog 5 #[.int .i64 4] W (RetL ([], 2) W) := by
  have h := counters_any 4 W
  rw [nm11] at h
  exact h
theorem k13 (W : World) : Calls Tryd.prog 5 #[.int .i64 65] W (RetL ([], 2) W) := by
  have h := counters_any 65 W
  rw [nm12] at h
  exact h
theorem k14 (W : World) : Calls Tryd.prog 6 #[.int .i64 6, .int .i64 2] W (ErrG 2 W) := by
  have h := satin_any 6 2 W
  rw [nm13] at h
  exact h.mono fun _ _ h => errG_of h
theorem k15 (W : World) : Calls Tryd.prog 6 #[.int .i64 7, .int .i64 6] W (ErrG 2 W) := by
  have h := satin_any 7 6 W
  rw [nm14] at h
  exact h.mono fun _ _ h => errG_of h
theorem k16 (A : Option Addr) (n c : Nat) (W : World) (hr : Rd W A n (([1, 2, 1] : List Int).map (Value.int .i64))) (hn : n ≤ 1048576) : Calls Tryd.prog 4 #[.slice A n c, .int .i64 1] W (ErrG 8 W) := by
  have h := twill_any [1, 2, 1] 1 A n c W hr hn
  rw [nm15] at h
  exact h.mono fun _ _ h => errG_of h
theorem k17 (A : Option Addr) (n c : Nat) (W : World) (hr : Rd W A n (([60, 5] : List Int).map (Value.int .i64))) (hn : n ≤ 1048576) : Calls Tryd.prog 4 #[.slice A n c, .int .i64 1] W (ErrG 8 W) := by
  have h := twill_any [60, 5] 1 A n c W hr hn
  rw [nm16] at h
  exact h.mono fun _ _ h => errG_of h
theorem k18 (A : Option Addr) (n c : Nat) (W : World) (hr : Rd W A n (([1, 0] : List Int).map (Value.int .i64))) (hn : n ≤ 1048576) : Calls Tryd.prog 4 #[.slice A n c, .int .i64 1] W (ErrG 8 W) := by
  have h := twill_any [1, 0] 1 A n c W hr hn
  rw [nm17] at h
  exact h.mono fun _ _ h => errG_of h
theorem k24 (A : Option Addr) (n c : Nat) (W : World) (hr : Rd W A n (([] : List Int).map (Value.int .i64))) (hn : n ≤ 1048576) : Calls Tryd.prog 4 #[.slice A n c, .int .i64 1] W (ErrG 8 W) := by
  have h := twill_any [] 1 A n c W hr hn
  rw [nm23] at h
  exact h.mono fun _ _ h => errG_of h
theorem k19 (A : Option Addr) (n c : Nat) (W : World) (hr : Rd W A n ((List.replicate 65 false).map Value.bool)) (hc : n ≤ c) : Calls Tryd.prog 13 #[.slice A n c] W (RetL ([], 4) W) := by
  have h := runs_any (List.replicate 65 false) A n c W hr hc
  rw [nm18] at h
  exact h
theorem k20 (A : Option Addr) (n c : Nat) (W : World) (hr : Rd W A n (([true, true] : List Bool).map Value.bool)) (hc : n ≤ c) : Calls Tryd.prog 13 #[.slice A n c] W (RetL ([], 8) W) := by
  have h := runs_any ([true, true] : List Bool) A n c W hr hc
  rw [nm19] at h
  exact h
theorem k21 (A : Option Addr) (n c : Nat) (W : World) (hr : Rd W A n (([] : List Bool).map Value.bool)) (hc : n ≤ c) : Calls Tryd.prog 13 #[.slice A n c] W (RetL ([], 8) W) := by
  have h := runs_any ([] : List Bool) A n c W hr hc
  rw [nm20] at h
  exact h
theorem k22 (A : Option Addr) (n c : Nat) (W : World) (hr : Rd W A n (gA.bits.map Value.bool)) (hc : n ≤ c) : Calls Tryd.prog 8 #[.agg #[.int .i64 gA.w, .int .i64 gA.h, .slice A n c]] W (fun e w' => e = .returned (.tuple #[.int .i64 0, .int .i64 0, .bool false, .int .i64 6]) ∧ Below W.heap.size W w') := by
  have h := sat_any gA A n c W hr hc
  unfold SatRet at h
  rw [nm21] at h
  exact h
theorem k23 (W : World) : Calls Tryd.prog 8 #[.agg #[.int .i64 0, .int .i64 0, .slice none 0 0]] W (fun e w' => e = .returned (.tuple #[.int .i64 0, .int .i64 0, .bool false, .int .i64 8]) ∧ Below W.heap.size W w') := by
  have h := sat_any Gd.zero none 0 0 W (rd_none rfl rfl) (Nat.le_refl _)
  unfold SatRet at h
  rw [nm22] at h
  exact h
theorem kt1 (A : Option Addr) (n c : Nat) (w : World) (hr : Rd w A n (gA.bits.map Value.bool)) (hnc : n ≤ c) : Calls Tryd.prog 11 #[.agg #[.int .i64 gA.w, .int .i64 gA.h, .slice A n c], .int .i64 0, .string ⟨txA.toArray⟩] w fun e w' => e = .returned (.bool true) ∧ Below w.heap.size w w' := reads_true _ _ nm1t A n c w hr hnc
theorem kt2 (A : Option Addr) (n c : Nat) (w : World) (hr : Rd w A n (gB.bits.map Value.bool)) (hnc : n ≤ c) : Calls Tryd.prog 11 #[.agg #[.int .i64 gB.w, .int .i64 gB.h, .slice A n c], .int .i64 0, .string ⟨txB.toArray⟩] w fun e w' => e = .returned (.bool true) ∧ Below w.heap.size w w' := reads_true _ _ nm2t A n c w hr hnc
end Go.Proofs.YtbgekiifffnalaaDoor
