/- The contracts of layer 6 at the examples of the law RepeatNames. -/
import Derived.Test.YtkhochbkjhpfgaaDoorRNames6P
import Derived.Test.YtkhochbkjhpfgaaDoorErrG
namespace Go.Proofs.YtkhochbkjhpfgaaDoor
open Go.RowKit

theorem kc_gs (W : World) : Calls Tryd.prog 24 #[str [46, 46, 120, 46, 46, 10, 120, 46, 46, 46, 46, 10, 46, 46, 46, 120, 46, 10, 46, 120, 46, 46, 46, 10, 46, 46, 46, 46, 120, 10]] W (RetT gs W) := cloth_to _ gs 0 (by decide) gs_p W
theorem kc_gx (W : World) : Calls Tryd.prog 24 #[str [120, 120, 46, 10]] W (RetT gx W) := cloth_to _ gx 0 (by decide) gx_p W
theorem kc_gm (W : World) : Calls Tryd.prog 24 #[str [120, 120, 46, 120, 120, 46, 10, 46, 46, 120, 46, 46, 120, 10, 120, 120, 46, 120, 120, 46, 10, 46, 46, 120, 46, 46, 120, 10]] W (RetT gm W) := cloth_to _ gm 0 (by decide) gm_p W
theorem kc_ga (W : World) : Calls Tryd.prog 24 #[str [120, 46, 10]] W (RetT ga W) := cloth_to _ ga 0 (by decide) ga_p W
theorem kc_gb (W : World) : Calls Tryd.prog 24 #[str [120, 120, 10]] W (RetT gb W) := cloth_to _ gb 0 (by decide) gb_p W
theorem kc_go (W : World) : Calls Tryd.prog 24 #[str [120, 10]] W (RetT go W) := cloth_to _ go 0 (by decide) go_p W
theorem nko1 (A : Option Addr) (n c : Nat) (W : World) (hr : Rd W A n (gs.bits.map Value.bool)) (hc : n ≤ c) : Calls Tryd.prog 13 #[.agg #[.int .i64 gs.w, .int .i64 gs.h, .slice A n c]] W (fun e w' => e = .returned (.tuple #[.agg #[.int .i64 5, .int .i64 2, .int .i64 1], .int .i64 0]) ∧ Below W.heap.size W w') := by
  have h := of_any gs A n c W hr hc
  rw [rn1] at h
  exact h
theorem nkr1 (A : Option Addr) (n c : Nat) (W : World) (hr : Rd W A n (gs.bits.map Value.bool)) (hc : n ≤ c) : Calls Tryd.prog 17 #[.agg #[.int .i64 gs.w, .int .i64 gs.h, .slice A n c]] W (fun e w' => e = .returned (.tuple #[.int .i64 5, .int .i64 5, .int .i64 0]) ∧ Below W.heap.size W w') := by
  have h := rect_any gs A n c W hr hc
  rw [rn2] at h
  exact h
theorem nks1 (A : Option Addr) (n c : Nat) (W : World) (hr : Rd W A n (gx.bits.map Value.bool)) (hc : n ≤ c) : Calls Tryd.prog 16 #[.agg #[.int .i64 gx.w, .int .i64 gx.h, .slice A n c], .int .i64 1, .int .i64 6, .int .i64 3] W (RetG (gc, 0) W) := by
  have h := spread_any gx 1 6 3 A n c W hr hc
  rw [rn3] at h
  exact h
theorem nki1 (W : World) : Calls Tryd.prog 11 #[.agg #[.int .i64 4, .int .i64 2, .int .i64 3], .int .i64 (-2), .int .i64 (-9)] W (fun e w' => e = .returned (.tuple #[.bool true, .int .i64 0]) ∧ Below W.heap.size W w') := by
  have h := in_any 4 2 3 (-2) (-9) W (by decide) (by decide)
  rw [rn4] at h
  exact h
theorem nki2 (W : World) : Calls Tryd.prog 11 #[.agg #[.int .i64 4, .int .i64 2, .int .i64 3], .int .i64 0, .int .i64 3] W (fun e w' => e = .returned (.tuple #[.bool false, .int .i64 0]) ∧ Below W.heap.size W w') := by
  have h := in_any 4 2 3 0 3 W (by decide) (by decide)
  rw [rn5] at h
  exact h
theorem nki3 (W : World) : Calls Tryd.prog 11 #[.agg #[.int .i64 0, .int .i64 0, .int .i64 0], .int .i64 0, .int .i64 0] W (fun e w' => e = .returned (.tuple #[.bool false, .int .i64 8]) ∧ Below W.heap.size W w') := by
  have h := in_any 0 0 0 0 0 W (by decide) (by decide)
  rw [rn13] at h
  exact h
theorem nkq1 (A : Option Addr) (n c : Nat) (W : World) (hr : Rd W A n (gs.bits.map Value.bool)) (hc : n ≤ c) : Calls Tryd.prog 14 #[.agg #[.int .i64 gs.w, .int .i64 gs.h, .slice A n c], .int .i64 5000000000, .int .i64 (-5000000000)] W (fun e w' => e = .returned (.tuple #[.bool true, .int .i64 0]) ∧ Below W.heap.size W w') := by
  have h := is_any gs 5000000000 (-5000000000) A n c W hr hc
  rw [rn6] at h
  exact h
theorem nko2 (A : Option Addr) (n c : Nat) (W : World) (hr : Rd W A n (gm.bits.map Value.bool)) (hc : n ≤ c) : Calls Tryd.prog 13 #[.agg #[.int .i64 gm.w, .int .i64 gm.h, .slice A n c]] W (fun e w' => e = .returned (.tuple #[.agg #[.int .i64 3, .int .i64 0, .int .i64 2], .int .i64 0]) ∧ Below W.heap.size W w') := by
  have h := of_any gm A n c W hr hc
  rw [rn7] at h
  exact h
theorem nkf1 (A A' : Option Addr) (n c n' c' : Nat) (W : World) (hr : Rd W A n (ga.bits.map Value.bool)) (hr' : Rd W A' n' (gb.bits.map Value.bool)) (hc : n ≤ c) (hc' : n' ≤ c') : Calls Tryd.prog 22 #[.agg #[.int .i64 ga.w, .int .i64 ga.h, .slice A n c], .agg #[.int .i64 gb.w, .int .i64 gb.h, .slice A' n' c']] W (fun e w' => e = .returned (.tuple #[.agg #[.int .i64 0, .int .i64 0], .int .i64 6]) ∧ Below W.heap.size W w') := by
  have h := offset_any ga gb A A' n c n' c' W hr hr' hc hc'
  skip
  exact h.mono fun e w' q => by
    obtain ⟨r, hR, rfl, hb⟩ := q
    rw [rn8 hR]
    exact ⟨rfl, hb⟩
theorem nkf2 (A : Option Addr) (n c : Nat) (W : World) (hr : Rd W A n (go.bits.map Value.bool)) (hc : n ≤ c) : Calls Tryd.prog 22 #[.agg #[.int .i64 go.w, .int .i64 go.h, .slice A n c], .agg #[.int .i64 0, .int .i64 0, .slice none 0 0]] W (fun e w' => e = .returned (.tuple #[.agg #[.int .i64 0, .int .i64 0], .int .i64 8]) ∧ Below W.heap.size W w') := by
  have h := offset_any go Gd.zero A none n c 0 0 W hr Rd.nil_ hc (Nat.le_refl _)
  skip
  exact h.mono fun e w' q => by
    obtain ⟨r, hR, rfl, hb⟩ := q
    rw [rn9 hR]
    exact ⟨rfl, hb⟩
theorem nks2 (A : Option Addr) (n c : Nat) (W : World) (hr : Rd W A n (ga.bits.map Value.bool)) (hc : n ≤ c) : Calls Tryd.prog 16 #[.agg #[.int .i64 ga.w, .int .i64 ga.h, .slice A n c], .int .i64 2, .int .i64 1, .int .i64 1] W (ErrG 2 W) := by
  have h := spread_any ga 2 1 1 A n c W hr hc
  rw [rn10] at h
  exact h.mono fun _ _ h => errG_of h
theorem nks3 (A : Option Addr) (n c : Nat) (W : World) (hr : Rd W A n (ga.bits.map Value.bool)) (hc : n ≤ c) : Calls Tryd.prog 16 #[.agg #[.int .i64 ga.w, .int .i64 ga.h, .slice A n c], .int .i64 0, .int .i64 0, .int .i64 1] W (ErrG 2 W) := by
  have h := spread_any ga 0 0 1 A n c W hr hc
  rw [rn11] at h
  exact h.mono fun _ _ h => errG_of h
theorem nks4 (A : Option Addr) (n c : Nat) (W : World) (hr : Rd W A n (ga.bits.map Value.bool)) (hc : n ≤ c) : Calls Tryd.prog 16 #[.agg #[.int .i64 ga.w, .int .i64 ga.h, .slice A n c], .int .i64 0, .int .i64 65, .int .i64 1] W (ErrG 4 W) := by
  have h := spread_any ga 0 65 1 A n c W hr hc
  rw [rn12] at h
  exact h.mono fun _ _ h => errG_of h
theorem nkq2 (W : World) : Calls Tryd.prog 14 #[.agg #[.int .i64 0, .int .i64 0, .slice none 0 0], .int .i64 0, .int .i64 0] W (fun e w' => e = .returned (.tuple #[.bool false, .int .i64 8]) ∧ Below W.heap.size W w') := by
  have h := is_any Gd.zero 0 0 none 0 0 W Rd.nil_ (Nat.le_refl _)
  rw [rn14] at h
  exact h
theorem nko3 (W : World) : Calls Tryd.prog 13 #[.agg #[.int .i64 65, .int .i64 0, .slice none 0 0]] W (fun e w' => e = .returned (.tuple #[.agg #[.int .i64 0, .int .i64 0, .int .i64 0], .int .i64 4]) ∧ Below W.heap.size W w') := by
  have h := of_any ⟨65, 0, []⟩ none 0 0 W Rd.nil_ (Nat.le_refl _)
  rw [rn15] at h
  exact h
theorem nkr2 (W : World) : Calls Tryd.prog 17 #[.agg #[.int .i64 0, .int .i64 0, .slice none 0 0]] W (fun e w' => e = .returned (.tuple #[.int .i64 0, .int .i64 0, .int .i64 8]) ∧ Below W.heap.size W w') := by
  have h := rect_any Gd.zero none 0 0 W Rd.nil_ (Nat.le_refl _)
  rw [rn16] at h
  exact h
theorem nkl1 (W : World) : Calls Tryd.prog 8 #[.agg #[.int .i64 64, .int .i64 63, .int .i64 64]] W (fun e w' => e = .returned (.int .i64 0) ∧ Below W.heap.size W w') := by
  have h := lcheck_any 64 63 64 W
  rw [rn17] at h
  exact h
theorem nkl2 (W : World) : Calls Tryd.prog 8 #[.agg #[.int .i64 65, .int .i64 0, .int .i64 1]] W (fun e w' => e = .returned (.int .i64 8) ∧ Below W.heap.size W w') := by
  have h := lcheck_any 65 0 1 W
  rw [rn18] at h
  exact h
theorem nkl3 (W : World) : Calls Tryd.prog 8 #[.agg #[.int .i64 2, .int .i64 2, .int .i64 1]] W (fun e w' => e = .returned (.int .i64 8) ∧ Below W.heap.size W w') := by
  have h := lcheck_any 2 2 1 W
  rw [rn19] at h
  exact h
theorem nkl4 (W : World) : Calls Tryd.prog 8 #[.agg #[.int .i64 2, .int .i64 (-1), .int .i64 1]] W (fun e w' => e = .returned (.int .i64 8) ∧ Below W.heap.size W w') := by
  have h := lcheck_any 2 (-1) 1 W
  rw [rn20] at h
  exact h
theorem nkt1 (A : Option Addr) (n c : Nat) (W : World) (hr : Rd W A n (gc.bits.map Value.bool)) (hc : n ≤ c) : Calls Tryd.prog 25 #[.agg #[.int .i64 gc.w, .int .i64 gc.h, .slice A n c], .int .i64 0, str [46, 120, 120, 120, 120, 120, 10]] W fun e w' => e = .returned (.bool false) ∧ Below W.heap.size W w' := reads_to gc _ rn3t [46, 120, 120, 120, 120, 120, 10] false (by decide) A n c W hr hc
theorem nkt2 (A : Option Addr) (n c : Nat) (W : World) (hr : Rd W A n (gc.bits.map Value.bool)) (hc : n ≤ c) : Calls Tryd.prog 25 #[.agg #[.int .i64 gc.w, .int .i64 gc.h, .slice A n c], .int .i64 0, str [120, 46, 120, 120, 46, 120, 10, 46, 120, 120, 46, 120, 120, 10, 120, 120, 46, 120, 120, 46, 10]] W fun e w' => e = .returned (.bool true) ∧ Below W.heap.size W w' := reads_to gc _ rn3t [120, 46, 120, 120, 46, 120, 10, 46, 120, 120, 46, 120, 120, 10, 120, 120, 46, 120, 120, 46, 10] true (by decide) A n c W hr hc
end Go.Proofs.YtkhochbkjhpfgaaDoor
