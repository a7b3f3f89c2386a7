/- Fits and choices of a turned image. No program in sight. -/
import Derived.Test.YtefeghpglacghaaHas15z
namespace Go.Proofs.Ytefeghpglacghaa
open Go.RowKit

section
variable {a b : Nat} {cs ds P Q : List Int}
/-- ds is cs with ends and picks exchanged. -/
def Turned (a b : Nat) (cs ds : List Int) : Prop := ∀ x y, x < a → y < b → ds.getD (x * b + y) 0 = cs.getD (y * a + x) 0
theorem Turned.symm (h : Turned a b cs ds) : Turned b a ds cs := fun y x hy hx => (h x y hx hy).symm
theorem turned_tab (a b : Nat) (cs : List Int) : Turned a b cs (Pl.tab b a fun x y => cs.getD (x * a + y) 0) := fun _ _ hx hy => tab_getD (fun x y => cs.getD (x * a + y) 0) 0 hy hx
theorem fit_turn (h : Turned a b cs ds) {F : Nat → Nat → Int} (hF : FitF (N2 a b) (M2 a cs) F) : FitF (N2 b a) (M2 b ds) (fun k i => F (1 - k) i) := by
  refine ⟨fun y x hy hx => ?_, fun k i hk hi => ?_⟩
  · have h1 := hF.fit x y hx hy
    have h2 := h x y hx hy
    show F 1 y = ds.getD (x * b + y) 0 ∨ F 0 x = ds.getD (x * b + y) 0
    rw [h2]
    exact h1.symm
  · refine hF.val (1 - k) i (by omega) ?_
    rcases (show k = 0 ∨ k = 1 by omega) with rfl | rfl
    · exact hi
    · exact hi
theorem fit_turned (h : Turned a b cs ds) : (∃ F, FitF (N2 a b) (M2 a cs) F) ↔ ∃ F, FitF (N2 b a) (M2 b ds) F :=
  ⟨fun ⟨_, hF⟩ => ⟨_, fit_turn h hF⟩, fun ⟨_, hF⟩ => ⟨_, fit_turn h.symm hF⟩⟩
theorem lists_turn (h : Turned a b cs ds) (hP : P.length = a) (hQ : Q.length = b) (hF : FitF (N2 a b) (M2 a cs) (F2 P Q)) : fitB b a ds Q P = true := by
  obtain ⟨hfP, hfQ⟩ := fitF_fine hP hQ hF
  refine (fitF_lists hQ hP hfQ hfP).1 ((fit_turn h hF).congr fun k i hk hi => ?_)
  rcases (show k = 0 ∨ k = 1 by omega) with rfl | rfl
  · have hi' : i < b := hi
    show F2 P Q 1 i = _
    rw [f2_1 (by omega), f2_0 (by omega)]
  · have hi' : i < a := hi
    show F2 P Q 0 i = _
    rw [f2_0 (by omega), f2_1 (by omega)]
theorem ch_turned (h : Turned a b cs ds) (k i : Nat) (hk : k < 2) (c : Int) : Ch a b cs k i c ↔ Ch b a ds (1 - k) i c := by
  refine ⟨ch_turn h k i hk c, fun h2 => ?_⟩
  have := ch_turn h.symm (1 - k) i (by omega) c h2
  rwa [show 1 - (1 - k) = k by omega] at this
theorem chLs_turn (h : Turned a b cs ds) (k n : Nat) (hk : k < 2) : chLs a b cs k n = chLs b a ds (1 - k) n := by
  unfold chLs
  exact List.map_congr_left fun i _ => chL_congr fun c _ _ => ch_turned h k i hk c
end
end Go.Proofs.Ytefeghpglacghaa
