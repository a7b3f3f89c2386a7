/- raddlelaw06.valid: a grid of at most 100 cells without an error. -/
import Derived.Test.YtkhochbkjhpfgaaDoorSt
import Derived.Test.YtkhochbkjhpfgaaDoorRChk
namespace Go.Proofs.YtkhochbkjhpfgaaDoor
open Go.RowKit

theorem great6v_any (W H : Int) (A : Option Addr) (n c : Nat) (w : World) :
    Calls Tryd.prog 27 #[.agg #[.int .i64 W, .int .i64 H, .slice A n c]] w fun e w' => e = .returned (.bool (decide (100 < n))) ∧ Below w.heap.size w w' := by
  go_enter Tryd.func27, Tryd.ntmps27
  go_wp2
  go_ret
  exact ⟨by simp; omega, (Below.refl _ _).alloc (Nat.le_refl _) _⟩
def valid6B (g : Gd) : Bool := decide (g.bits.length ≤ 100 ∧ chkG g = 0)
set_option maxHeartbeats 1000000 in
set_option maxRecDepth 100000 in
theorem valid6_any (g : Gd) (A : Option Addr) (n c : Nat) (w : World) (hl : g.bits.length = n) :
    Calls Tryd.prog 12 #[.agg #[.int .i64 g.w, .int .i64 g.h, .slice A n c]] w fun e w' => e = .returned (.bool (valid6B g)) ∧ Below w.heap.size w w' := by
  have hV : valid6B g = decide (n ≤ 100 ∧ chk g.w g.h n = 0) := by unfold valid6B chkG; rw [hl]
  rw [hV]
  have S0 := (St.start w).box #[.int .i64 g.w, .int .i64 g.h, .slice A n c] 33
  simp only [List.nil_append] at S0
  obtain ⟨c0, c1, c2⟩ := (S0.blk 0 rfl).cell3
  clear hV hl
  have HGr := Lib.hid (fun W => great6v_any g.w g.h A n c W)
  have HCk := Lib.hid (fun W => rcheck_any g.w g.h A n c W)
  by_cases h42 : n ≤ 100
  · have hd : decide (100 < n) = false := by simp; omega
    have hc : Hid (decide (n ≤ 100 ∧ chk g.w g.h n = 0) = decide (chk g.w g.h n = 0)) := Lib.hid (by rw [decide_eq_decide]; exact ⟨fun h => h.2, fun h => ⟨h42, h⟩⟩)
    rw [hd] at HGr
    rw [hc.out]
    generalize chk g.w g.h n = k at *
    clear hc hd h42
    go_enter Tryd.func12, Tryd.ntmps12
    go_wp2_with fail
    refine (HGr.out _).mono ?_
    rintro e w1 ⟨rfl, hb1⟩
    have S2 := S0.keep hb1
    clear c0 c1 c2
    obtain ⟨c0, c1, c2⟩ := (S2.blk 0 rfl).cell3
    go_wp2_with fail
    refine (HCk.out _).mono ?_
    rintro e w2 ⟨rfl, hb2⟩
    go_wp2_with fail
    go_ret
    exact ⟨rfl, (S2.keep hb2).below⟩
  · have hd : decide (100 < n) = true := by simp; omega
    have hc : decide (n ≤ 100 ∧ chk g.w g.h n = 0) = false := decide_eq_false fun h => h42 h.1
    rw [hd] at HGr
    rw [hc]
    clear hc hd h42
    go_enter Tryd.func12, Tryd.ntmps12
    go_wp2_with fail
    refine (HGr.out _).mono ?_
    rintro e w1 ⟨rfl, hb1⟩
    go_wp2_with fail
    go_ret
    exact ⟨rfl, (S0.keep hb1).below⟩
end Go.Proofs.YtkhochbkjhpfgaaDoor
