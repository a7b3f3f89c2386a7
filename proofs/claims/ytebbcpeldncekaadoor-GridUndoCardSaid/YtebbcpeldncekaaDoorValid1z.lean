/- raddlelaw01.valid: a grid of at most 4,200 cells without an error. -/
import Derived.Test.YtebbcpeldncekaaDoorStz
import Derived.Test.YtebbcpeldncekaaDoorRChkz
import Derived.Test.YtebbcpeldncekaaDoorGreatz
namespace Go.Proofs.YtebbcpeldncekaaDoor
open Go.RowKit

def validB (g : Gd) : Bool := decide (g.bits.length ≤ 4200 ∧ chkG g = 0)
set_option maxHeartbeats 1000000 in
set_option maxRecDepth 100000 in
theorem valid_any (g : Gd) (A : Option Addr) (n c : Nat) (w : World) (hl : g.bits.length = n) :
    Calls Tryd.prog 20 #[.agg #[.int .i64 g.w, .int .i64 g.h, .slice A n c]] w fun e w' => e = .returned (.bool (validB g)) ∧ Below w.heap.size w w' := by
  have hV : validB g = decide (n ≤ 4200 ∧ chk g.w g.h n = 0) := by unfold validB chkG; rw [hl]
  rw [hV]
  have S0 := (St.start w).box #[.int .i64 g.w, .int .i64 g.h, .slice A n c] 24
  simp only [List.nil_append] at S0
  obtain ⟨c0, c1, c2⟩ := (S0.blk 0 rfl).cell3
  clear hV hl
  have HGr := Lib.hid (fun W => great_any g.w g.h A n c W)
  have HCk := Lib.hid (fun W => rcheck_any g.w g.h A n c W)
  by_cases h42 : n ≤ 4200
  · have hd : decide (4200 < n) = false := by simp; omega
    have hc : Hid (decide (n ≤ 4200 ∧ chk g.w g.h n = 0) = decide (chk g.w g.h n = 0)) := Lib.hid (by rw [decide_eq_decide]; exact ⟨fun h => h.2, fun h => ⟨h42, h⟩⟩)
    rw [hd] at HGr
    rw [hc.out]
    generalize chk g.w g.h n = k at *
    clear hc hd h42
    go_enter Tryd.func20, Tryd.ntmps20
    go_wp2_with fail
    refine (HGr.out _).mono ?_
    rintro e w1 ⟨rfl, hb1⟩
    have S2 := S0.keep hb1
    clear c0 c1 c2
    obtain ⟨c0, c1, c2⟩ := (S2.blk 0 rfl).cell3
    go_wp2_with fail
    refine (HCk.out _).mono ?_
    rintro e w2 ⟨rfl, hb2⟩
    go_wp2_with fail
    go_ret
    exact ⟨rfl, (S2.keep hb2).below⟩
  · have hd : decide (4200 < n) = true := by simp; omega
    have hc : decide (n ≤ 4200 ∧ chk g.w g.h n = 0) = false := decide_eq_false fun h => h42 h.1
    rw [hd] at HGr
    rw [hc]
    clear hc hd h42
    go_enter Tryd.func20, Tryd.ntmps20
    go_wp2_with fail
    refine (HGr.out _).mono ?_
    rintro e w1 ⟨rfl, hb1⟩
    go_wp2_with fail
    go_ret
    exact ⟨rfl, (S0.keep hb1).below⟩
end Go.Proofs.YtebbcpeldncekaaDoor
