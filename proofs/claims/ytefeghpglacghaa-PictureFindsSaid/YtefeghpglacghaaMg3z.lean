/- Parts of the proof, in their order. -/
import Derived.Test.YtefeghpglacghaaMg2z
import Derived.Test.YtefeghpglacghaaImz
import Derived.Lib.SliceRun
import Derived.Deep.RegionHeld3
/- The reference's Check of layer 1 gives the error 'chk', for any grid. -/
namespace Go.Proofs.Ytefeghpglacghaa
open Go.RowKit

theorem rcheck_any (W H : Int) (A : Option Addr) (n c : Nat) (w : World) :
    Calls Try.prog 38 #[.agg #[.int .i64 W, .int .i64 H, .slice A n c]] w fun e w' => e = .returned (.int .i64 (chk W H n)) ∧ Below w.heap.size w w' := by
  by_cases hb : 64 < W ∨ 64 < H
  · go_enter Try.func38, Try.ntmps38
    go_wp2
    all_goals (go_ret; exact ⟨ret_i (chk_big hb).symm, (Below.refl _ _).alloc (Nat.le_refl _) _⟩)
  by_cases hs : W < 1 ∨ H < 1
  · have hW : W ≤ 64 := by omega
    have hH : H ≤ 64 := by omega
    go_enter Try.func38, Try.ntmps38
    go_wp2
    all_goals (go_ret; exact ⟨ret_i (chk_bad hW hH (by omega)).symm, (Below.refl _ _).alloc (Nat.le_refl _) _⟩)
  have hW : W ≤ 64 := by omega
  have hH : H ≤ 64 := by omega
  have hW1 : 1 ≤ W := by omega
  have hH1 : 1 ≤ H := by omega
  have hm := mul_wrap hW hH hW1 hH1
  by_cases hl : (n : Int) = W * H
  · have hl' : ((n : Int) != wrap64 (W * H)) = false := by rw [hm, bne_eq_false_iff_eq]; exact hl
    have HL := Lib.hid hl; clear hl
    have HM := Lib.hid hm; clear hm
    go_enter Try.func38, Try.ntmps38
    go_wp2
    all_goals (go_ret; exact ⟨ret_i (chk_ok hW hH hW1 hH1 HL.out).symm, (Below.refl _ _).alloc (Nat.le_refl _) _⟩)
  · have hl' : ((n : Int) != wrap64 (W * H)) = true := by rw [hm, bne_iff_ne]; exact hl
    have HL := Lib.hid hl; clear hl
    have HM := Lib.hid hm; clear hm
    go_enter Try.func38, Try.ntmps38
    go_wp2
    all_goals (go_ret; exact ⟨ret_i (chk_bad hW hH (.inr (.inr HL.out))).symm, (Below.refl _ _).alloc (Nat.le_refl _) _⟩)
end Go.Proofs.Ytefeghpglacghaa
/- slices.Clone of ints: the same numbers in new memory. -/
namespace Go.Proofs.Ytefeghpglacghaa
open Go.RowKit

set_option maxHeartbeats 4000000 in
set_option maxRecDepth 100000 in
theorem clone_any (ad : Addr) (n c : Nat) (xs : List Int) (w : World) (hr : Rd w (some ad) n (xs.map (Value.int .i64))) (hn : n ≤ 1048576) :
    Calls Try.prog 47 #[.slice (some ad) n c] w fun e w' => ∃ A' c', e = .returned (.slice A' n c') ∧ w'.ownsRow w.heap.size 3 1 (.slice A' n c') n (xs.map (Value.int .i64)) ∧ Below w.heap.size w w' := by
  obtain ⟨i0, hi, hz0, hz1, hz2⟩ := info_parts Try.infoI
  have hown0 : (w.alloc (.cells #[] 3)).drew.ownsRow w.heap.size 3 1 (.slice (some ⟨w.heap.size, 0, none⟩) 0 0) 0 [] := World.ownsRow_lit w #[] 0 (by omega) (Nat.zero_le _) rfl
  have hr0 : Rd (w.alloc (.cells #[] 3)).drew (some ad) n (xs.map (Value.int .i64)) := (hr.alloc _).drew
  have q22 : ∀ (w : World) (a : Option Addr) (n c n' c' : Nat), (binOp .eql 22 (.slice a n c) (.slice none n' c')).run Try.prog w = .ok (.bool a.isNone) w := fun w a n c n' c' => Lib.run_eql_slice_nil w _ _ a n c n' c' Try.underlying22
  have hB0 : Below w.heap.size w (w.alloc (.cells #[] 3)) := (Below.refl _ _).alloc (Nat.le_refl _) _
  go_enter Try.func47, Try.ntmps47
  go_wp2_with (first
    | (at_builtin; go_loud (refine wpList_app_all _ rfl (.tmp 5) (.tmp 6) 22 rfl w.heap.size 3 i0 (.int .i64 0) 8 Try.underlying22 hi hz0 hz1 hz2 rfl (by decide) (.slice (some ⟨w.heap.size, 0, none⟩) 0 0) 0 [] rfl hown0 (some ad) n c _ rfl hr0 (oneCell_ints xs) (by omega) (by simp) ?_))
    | fail)
  intro A' c' w' hown hgr
  go_wp2_with fail
  go_ret
  exact ⟨A', c', rfl, hown, hB0.grown hgr (by simp) (fun k hk => by simp [Value.ownBlock] at hk; omega)⟩
end Go.Proofs.Ytefeghpglacghaa
/- raddleref14.Twin and Great; an image of at most 1,048,576 cells. -/
namespace Go.Proofs.Ytefeghpglacghaa
open Go.RowKit

set_option maxHeartbeats 4000000 in
set_option maxRecDepth 100000 in
theorem twinI_any (W H : Int) (A : Option Addr) (n c : Nat) (bs : List Int) (w : World) (hr : Rd w A n (bs.map (Value.int .i64))) (hn : n ≤ 1048576) :
    Calls Try.prog 19 #[.agg #[.int .i64 W, .int .i64 H, .slice A n c]] w (RetJ ⟨W, H, bs⟩ w) := by
  obtain ⟨i0, hi, hz0, hz1, hz2⟩ := info_parts Try.infoI
  obtain ⟨W0, hW0⟩ : ∃ W0, W0 = (w.alloc (.cells #[.int .i64 W, .int .i64 H, .slice A n c] 24)).alloc (.cells #[.int .i64 0, .int .i64 0, .slice none 0 0] 24) := ⟨_, rfl⟩
  have hG0 : Blk W0 w.heap.size 24 #[.int .i64 W, .int .i64 H, .slice A n c] := by rw [hW0]; exact (Blk.new w _ _).alloc _
  have hR0 : Blk W0 (w.heap.size + 1) 24 #[.int .i64 0, .int .i64 0, .slice none 0 0] := by rw [hW0]; simpa using Blk.new (w.alloc (.cells #[.int .i64 W, .int .i64 H, .slice A n c] 24)) 24 #[.int .i64 0, .int .i64 0, .slice none 0 0]
  have hB0 : Below w.heap.size w W0 := by rw [hW0]; exact Joins.below_alloc2 w _ _
  have hs0 : W0.heap.size = w.heap.size + 1 + 1 := by rw [hW0]; simp
  have hown0 : (W0.alloc (.cells #[] 3)).drew.ownsRow (w.heap.size + 1 + 1) 3 1 (.slice (some ⟨W0.heap.size, 0, none⟩) 0 0) 0 [] := World.ownsRow_lit W0 #[] 0 (by omega) (Nat.zero_le _) rfl
  obtain ⟨c0, c1, c2⟩ := hG0.cell3
  have hr0 : Rd (W0.alloc (.cells #[] 3)).drew A n (bs.map (Value.int .i64)) := ((hr.below hB0).alloc _).drew
  have HS0 := Lib.hid hs0
  go_enter Try.func19, Try.ntmps19
  go_wp2_with fail
  rw [← hW0]
  clear hW0 hs0
  go_region_held3 (fun w' => w'.cell? ⟨w.heap.size, 0, none⟩ = some (.int .i64 W) ∧ w'.cell? ⟨w.heap.size, 1, none⟩ = some (.int .i64 H) ∧ w'.cell? ⟨w.heap.size, 2, none⟩ = some (.slice A n c))
    (first | exact hG3.cell3 | exact (hG0.alloc _).cell3 | exact hG0.cell3 | go_keep)
    (first
      | (refine step_app_all _ rfl (.tmp 7) (.tmp 9) 22 rfl (w.heap.size + 1 + 1) 3 i0 (.int .i64 0) 8 Try.underlying22 hi hz0 hz1 hz2 rfl (by decide) (.slice (some ⟨W0.heap.size, 0, none⟩) 0 0) 0 [] rfl hown0 A n c _ rfl hr0 (oneCell_ints bs) (by omega) (size_alloc_le (Nat.le_of_eq HS0.out.symm) _) ?_; intro A3 c3 w3 hown3 hgr3; have hG3 := (hG0.alloc _).drew.grown hgr3 (own_blk_ne hown0 ((hG0.alloc _).drew) (by decide)); have hR3 := (hR0.alloc _).drew.grown hgr3 (own_blk_ne hown0 ((hR0.alloc _).drew) (by decide)); obtain ⟨r0, r1, r2⟩ := hR3.cell3; obtain ⟨f0, f1, f2⟩ := hR3.frozen3)
      | fail)
  clear r0 r1 r2 f0 f1 f2 c0 c1 c2
  obtain ⟨q0, q1, q2⟩ := (hR3.set3 (.int .i64 W) (.int .i64 H) (.slice A3 (0 + n) c3)).cell3
  have hb3 : Below w.heap.size w w3 := ((hB0.alloc hB0.size _).drew).grown hgr3 (Nat.le_trans hB0.size (by simp)) (fun k hk => Nat.le_trans (by omega) (hown0.lt k hk).1)
  have R1 := Lib.hid (own_set3 (own_base hown3 (B := w.heap.size) (by omega)) hR3 (by decide) (.int .i64 W) (.int .i64 H) (.slice A3 (0 + n) c3))
  have R2 := Lib.hid (below_set3 hb3 (R := w.heap.size + 1) (by omega) (.int .i64 W) (.int .i64 H) (.slice A3 (0 + n) c3))
  clear hown3 hgr3 hG3 hR3 hb3 hown0 hr0 hG0 hR0 hB0
  go_wp2_with fail
  simp only [Nat.zero_add] at q0 q1 q2 R1 R2
  refine bodyPost_ret (v := .agg #[.int .i64 W, .int .i64 H, .slice A3 n c3]) (by simp [results, Try.results19, go_sem, q0, q1, q2]) rfl ?_
  exact ⟨A3, n, c3, rfl, R1.out, R2.out⟩

theorem greatI_any (W H : Int) (A : Option Addr) (n c : Nat) (w : World) :
    Calls Try.prog 17 #[.agg #[.int .i64 W, .int .i64 H, .slice A n c]] w fun e w' => e = .returned (.bool (decide (4200 < n))) ∧ Below w.heap.size w w' := by
  go_enter Try.func17, Try.ntmps17
  go_wp2
  go_ret
  exact ⟨by simp; omega, (Below.refl _ _).alloc (Nat.le_refl _) _⟩
end Go.Proofs.Ytefeghpglacghaa
