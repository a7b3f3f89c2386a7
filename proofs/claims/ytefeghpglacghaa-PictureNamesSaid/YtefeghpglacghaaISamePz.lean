/- colour.Same compares images. -/
import Derived.Test.YtefeghpglacghaaEqIz
import Derived.Test.YtefeghpglacghaaColPz
import Derived.Outline
namespace Go.Proofs.Ytefeghpglacghaa
open Go.RowKit

set_option maxHeartbeats 1000000 in
theorem isame_any (g g2 : Im) (A A2 : Option Addr) (n c n2 c2 : Nat) (w : World) (hr : Rd w A n (g.c.map (Value.int .i64))) (hr2 : Rd w A2 n2 (g2.c.map (Value.int .i64))) (hn : n ≤ 1048576) :
    Calls Try.prog 61 #[.agg #[.int .i64 g.w, .int .i64 g.h, .slice A n c], .agg #[.int .i64 g2.w, .int .i64 g2.h, .slice A2 n2 c2]] w fun e w' => e = .returned (.bool (sameI g g2)) ∧ Below w.heap.size w w' := by
  obtain ⟨W, H, l⟩ := g
  obtain ⟨W2, H2, l2⟩ := g2
  simp only at hr hr2 ⊢
  have S0 := ((((St.start w).addRd hr).addRd hr2).box #[.int .i64 W, .int .i64 H, .slice A n c] 24).box #[.int .i64 W2, .int .i64 H2, .slice A2 n2 c2] 24
  simp only [size_alloc1, List.nil_append, List.cons_append] at S0
  obtain ⟨c0, c1, c2'⟩ := (S0.blk 2 rfl).cell3
  obtain ⟨d0, d1, d2⟩ := (S0.blk 3 rfl).cell3
  have HE := Lib.hid (eqi_any l l2 A A2 n c n2 c2 _ (S0.rd 0 rfl) (S0.rd 1 rfl) hn)
  clear hr hr2
  by_cases h1 : W = W2
  · have e1 : (W == W2) = true := by simpa using h1
    by_cases h2 : H = H2
    · have e2 : (H == H2) = true := by simpa using h2
      have HS : Hid (sameI ⟨W, H, l⟩ ⟨W2, H2, l2⟩ = decide (l = l2)) := Lib.hid (by unfold sameI; simp [h1, h2])
      clear h1 h2
      go_enter Try.func61, Try.ntmps61
      go_wp2_with fail
      refine HE.out.mono ?_
      rintro e w1 ⟨rfl, m, rfl⟩
      go_wp2_with fail
      go_ret
      exact ⟨by rw [HS.out]; rfl, below_drewN S0.below m⟩
    · have e2 : (H == H2) = false := by simpa using h2
      have HS : Hid (sameI ⟨W, H, l⟩ ⟨W2, H2, l2⟩ = false) := Lib.hid (sameI_not (fun h => h2 h.2.1))
      clear h1 h2
      go_enter Try.func61, Try.ntmps61
      go_wp2_with fail
      go_ret
      exact ⟨by rw [HS.out]; rfl, S0.below⟩
  · have e1 : (W == W2) = false := by simpa using h1
    have HS : Hid (sameI ⟨W, H, l⟩ ⟨W2, H2, l2⟩ = false) := Lib.hid (sameI_not (fun h => h1 h.1))
    clear h1
    go_enter Try.func61, Try.ntmps61
    go_wp2_with fail
    go_ret
    exact ⟨by rw [HS.out]; rfl, S0.below⟩
end Go.Proofs.Ytefeghpglacghaa
