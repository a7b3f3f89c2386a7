/- repeat.Is. -/
import Derived.Test.YtkhochbkjhpfgaaDoorOf
import Derived.Test.YtkhochbkjhpfgaaDoorInP
namespace Go.Proofs.YtkhochbkjhpfgaaDoor
open Go.RowKit

def isG (g : Gd) (dx dy : Int) : Bool × Int := if chkG g = 0 then (repB g.w.toNat g.h.toNat g.bits dx dy, 0) else (false, chkG g)
theorem isG_ok {a b : Nat} {bs : List Bool} {dx dy : Int} (h : chkG ⟨a, b, bs⟩ = 0) : isG ⟨a, b, bs⟩ dx dy = (repB a b bs dx dy, 0) := if_pos h
theorem isG_bad {g : Gd} {dx dy : Int} (h : chkG g ≠ 0) : isG g dx dy = (false, chkG g) := if_neg h

set_option maxHeartbeats 1000000 in
theorem is_any (g : Gd) (dx dy : Int) (A : Option Addr) (n c : Nat) (w : World) (hr : Rd w A n (g.bits.map Value.bool)) (hc : n ≤ c) :
    Calls Tryd.prog 14 #[.agg #[.int .i64 g.w, .int .i64 g.h, .slice A n c], .int .i64 dx, .int .i64 dy] w fun e w' => e = .returned (.tuple #[.bool (isG g dx dy).1, .int .i64 (isG g dx dy).2]) ∧ Below w.heap.size w w' := by
  have lb : g.bits.length = n := by simpa using hr.len
  have S0 := ((St.start w).addRd hr).box #[.int .i64 g.w, .int .i64 g.h, .slice A n c] 33
  simp only [List.nil_append, List.cons_append] at S0
  obtain ⟨c0, c1, c2⟩ := (S0.blk 1 rfl).cell3
  by_cases h0 : chkG g = 0
  · obtain ⟨W, H, bs⟩ := g
    obtain ⟨a, b, h1, h2, ha1, ha, hbb1, hb, hl⟩ := chk_zero h0
    simp only at h1 h2 hl lb
    subst h1 h2
    have HC := Lib.hid (isG_ok (dx := dx) (dy := dy) h0)
    have hcb : (chk (a : Int) (b : Int) n != 0) = false := by
      have h := h0
      unfold chkG at h
      simp only [lb] at h
      simpa using h
    obtain rfl : n = b * a := by omega
    simp only at S0 c0 c1 c2 hr ⊢
    obtain ⟨bl, o, hA, _⟩ := hr.at_ (Nat.mul_pos hbb1 ha1)
    subst hA
    clear h0 lb hl
    generalize hIs : isG ⟨a, b, bs⟩ dx dy = r at *
    obtain ⟨r1, r2⟩ := r
    clear hIs
    go_enter Tryd.func14, Tryd.ntmps14
    go_wp2_with fail
    refine (check_any _ _ _ _ _ _).mono ?_
    rintro e w1 ⟨rfl, hb1⟩
    have S1 := S0.keep hb1
    clear c0 c1 c2
    obtain ⟨c0, c1, c2⟩ := (S1.blk 1 rfl).cell3
    go_wp2_with fail
    refine (repeats_any a b bl o c bs dx dy _ ha1 hbb1 ha hb hc (S1.rd 0 rfl)).mono ?_
    rintro e w2 ⟨rfl, hb2⟩
    have S2 := S1.keep hb2
    go_wp2_with fail
    go_ret2
    have h := HC.out
    injection h with h1 h2
    exact ⟨ret_bi h1.symm h2.symm, S2.below⟩
  · have hn0 : chk g.w g.h n ≠ 0 := by
      have h := h0
      unfold chkG at h
      rw [lb] at h
      exact h
    have hcb : (chk g.w g.h n != 0) = true := by simpa using hn0
    have HC : Hid (isG g dx dy = (false, chk g.w g.h n)) := Lib.hid (by rw [isG_bad h0]; unfold chkG; rw [lb])
    clear h0 lb hr hn0
    generalize isG g dx dy = r at *
    obtain ⟨r1, r2⟩ := r
    go_enter Tryd.func14, Tryd.ntmps14
    go_wp2_with fail
    refine (check_any _ _ _ _ _ _).mono ?_
    rintro e w1 ⟨rfl, hb1⟩
    have S1 := S0.keep hb1
    clear c0 c1 c2
    go_wp2_with fail
    go_ret2
    have h := HC.out
    injection h with h1 h2
    exact ⟨ret_bi h1.symm h2.symm, S1.below⟩
end Go.Proofs.YtkhochbkjhpfgaaDoor
