/- The chapter's examples of layer 15: the least fit of one image, and an image that nothing fits. No program in sight. -/
import Derived.Test.YtefeghpglacghaaFirstFz
namespace Go.Proofs.Ytefeghpglacghaa
open Go.RowKit

instance pickDec (cs : List Int) (a b : Nat) (w : List Int) : Decidable (PicksOk cs a b w) := by unfold PicksOk; exact inferInstance
def valB (a b : Nat) (cs : List Int) : Bool := (List.range a).all fun x => (List.range b).all fun y => decide (0 ≤ cs.getD (y * a + x) 0) && decide (cs.getD (y * a + x) 0 ≤ 15) && decide (cs.getD (y * a + x) 0 ∈ cs)
theorem val_of {a b : Nat} {cs : List Int} (h : valB a b cs = true) : Val a b cs := fun x y hx hy => by
  unfold valB at h
  rw [List.all_eq_true] at h
  have h1 := h x (List.mem_range.2 hx)
  rw [List.all_eq_true] at h1
  have h2 := h1 y (List.mem_range.2 hy)
  simp only [Bool.and_eq_true, decide_eq_true_eq] at h2
  exact ⟨⟨h2.1.1, h2.1.2⟩, h2.2⟩
theorem first_ex : FirstR 2 2 [0, 1, 1, 1] [0, 0] [1, 1] 0 := by
  have h := Tried.done (a := 2) (b := 2) (cs := [0, 1, 1, 1]) (l := List.replicate 2 0) (val_of (by decide +kernel)) Tried.start rfl (Dig.zeros 2 pal_pos) (by decide +kernel)
  rw [show colL (pal [0, 1, 1, 1]) (List.replicate 2 0) = [0, 0] by decide +kernel, show picksL [0, 1, 1, 1] 2 [0, 0] 2 = [1, 1] by decide +kernel] at h
  exact h
def sqL : List Int := [0, 1, 2, 1, 2, 0, 2, 0, 1]
theorem no_square : ¬ ∃ F, FitF (N2 3 3) (M2 3 sqL) F := fun ⟨F, hF⟩ => by
  have hV : Val 3 3 sqL := val_of (by decide +kernel)
  obtain ⟨l, h1, h2, h3, _⟩ := pal_fit hV hF
  have hok := picks_of_fit hV h1 h2 h3
  have hn : (pal sqL).length = 4 := by decide +kernel
  rw [hn] at h2
  have key : ∀ x y z : Fin 4, ¬ PicksOk sqL 3 3 (colL (pal sqL) [((x : Nat) : Int), ((y : Nat) : Int), ((z : Nat) : Int)]) := by decide +kernel
  match l, h1 with
  | [x, y, z], _ =>
    have hx := h2 x (by simp)
    have hy := h2 y (by simp)
    have hz := h2 z (by simp)
    refine key ⟨x.toNat, by omega⟩ ⟨y.toNat, by omega⟩ ⟨z.toNat, by omega⟩ ?_
    simp only [show ((x.toNat : Nat) : Int) = x by omega, show ((y.toNat : Nat) : Int) = y by omega, show ((z.toNat : Nat) : Int) = z by omega]
    exact hok
theorem firstI_ex {p q : List Int} {e : Int} (h : FirstI ⟨2, 2, [0, 1, 1, 1]⟩ p q e) : p = [0, 0] ∧ q = [1, 1] ∧ e = 0 := by
  rcases h with ⟨h, _⟩ | ⟨_, h⟩
  · exact absurd (by decide +kernel) h
  · exact h.unique first_ex
theorem firstI_sq {p q : List Int} {e : Int} (h : FirstI ⟨3, 3, sqL⟩ p q e) : p = [] ∧ q = [] ∧ e = 6 := by
  rcases h with ⟨h, _⟩ | ⟨_, h⟩
  · exact absurd (by decide +kernel) h
  · exact h.unique (.inr ⟨rfl, rfl, rfl, no_square⟩)
end Go.Proofs.Ytefeghpglacghaa
