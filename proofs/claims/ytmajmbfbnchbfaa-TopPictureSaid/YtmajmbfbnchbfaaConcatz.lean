/- slices.Grow of nil and slices.Concat of two lists of numbers. -/
import Derived.Test.YtmajmbfbnchbfaaMg3z
import Derived.Test.YtmajmbfbnchbfaaImz
import Derived.Lib.SliceRun
import Derived.Lib.AppendZerosOnto
import Derived.Lib.AppendZeros
import Derived.Laws.Append
namespace Go.Proofs.Ytmajmbfbnchbfaa
open Go.RowKit Go.Lib

set_option maxHeartbeats 1000000 in
set_option maxRecDepth 100000 in
theorem grow_any (n : Nat) (w : World) (h1 : 1 ≤ n) (h2 : n ≤ 1000000) :
    Calls Try.prog 59 #[.slice none 0 0, .int .i64 n] w fun e w' => ∃ g c, e = .returned (.slice (some ⟨g, 0, none⟩) 0 c) ∧ w'.ownsRow w.heap.size 3 1 (.slice (some ⟨g, 0, none⟩) 0 c) 0 [] ∧ Below w.heap.size w w' := by
  obtain ⟨i0, hi, hz0, hz1, hz2⟩ := info_parts Try.infoI
  have hold : (Builtin.firstCells i0.size 0 (.slice none 0 0)).run Try.prog w.drew = .ok ([] : List Value).toArray w.drew := run_firstCells_none w.drew i0.size 0 0 0
  have hrz : ∀ ty, (Builtin.append_ #[22, 3] ty #[.slice none 0 0, .int .i64 (n : Int)]).run Try.prog w =
      .ok (.slice (some ⟨w.heap.size, 0, none⟩) (0 + n) (grownCap w (0 + n) 0 3)) (w.drew.alloc (.cells (([] : List Value).toArray ++ Builtin.zeroCells (Value.int .i64 0).cells n ++ Builtin.zeroCells (Value.int .i64 0).cells (grownCap w (0 + n) 0 3 - (0 + n))) 3)) := fun ty =>
    Lib.run_append_grow_zeros w 22 3 ty 3 i0 (.int .i64 0) .i64 .i64 Try.underlying22 Try.underlying3 hi hz0 none 0 0 [] hold n (by omega) (by omega) (by omega) (by omega) (by rw [hz2]; omega)
      (by rw [hz2]; exact growslice_fits (by omega) (by omega))
  have hGn : 0 + n ≤ grownCap w (0 + n) 0 3 := grownCap_ge w _ _ _
  have hG63 := grownCap_le_maxLen w (0 + n) 0 3 (by unfold maxLen; omega)
  generalize grownCap w (0 + n) 0 3 = G at *
  rw [Nat.zero_add] at hrz hGn
  have hG2 : G ≤ 9223372036854775807 := by unfold maxLen at hG63; omega
  obtain ⟨Z, hZ⟩ : ∃ Z, Z = ([] : List Value).toArray ++ Builtin.zeroCells (Value.int .i64 0).cells n ++ Builtin.zeroCells (Value.int .i64 0).cells (G - n) := ⟨_, rfl⟩
  have hZs : Z.size = G := by rw [hZ]; simp [size_zeroCells, Value.cells]; omega
  rw [← hZ] at hrz
  have HZ := Lib.hid hZs
  clear hold hZ hZs
  go_enter Try.func59, Try.ntmps59
  go_wp2_with (at_builtin; refine Lib.wpList_append_run _ rfl _ _ _ _ rfl _ _ rfl rfl _ _ (hrz _) ?_)
  go_ret
  refine ⟨_, G, rfl, ⟨by simp, .inr ⟨w.heap.size, G, Z, rfl, Nat.le_refl _, Blk.new _ _ _, Nat.zero_le _, hG63, by rw [HZ.out]; simp, by simp⟩⟩, (Below.refl _ _).drew.alloc (Nat.le_refl _) _⟩

/-- The two lists, one behind the other, in new memory. -/
def CatRet (xs : List Int) (w : World) (e : Ending) (w' : World) : Prop :=
  ∃ A n c, e = .returned (.slice A n c) ∧ w'.ownsRow w.heap.size 3 1 (.slice A n c) n (xs.map (Value.int .i64)) ∧ Below w.heap.size w w'
set_option maxHeartbeats 4000000 in
set_option maxRecDepth 100000 in
theorem concat_any (bg n m : Nat) (xs ys : List Int) (A A' : Option Addr) (c c' : Nat) (w : World) (hb : Blk w bg 22 #[.slice A n c, .slice A' m c'])
    (hr : Rd w A n (xs.map (Value.int .i64))) (hr' : Rd w A' m (ys.map (Value.int .i64))) (hn : 1 ≤ n) (hn2 : n ≤ 1000) (hm : m ≤ 1000) :
    Calls Try.prog 45 #[.slice (some ⟨bg, 0, none⟩) 2 2] w (CatRet (xs ++ ys) w) := by
  obtain ⟨i0, hi, hz0, hz1, hz2⟩ := info_parts Try.infoI
  have S0 := (((St.start w).addRd hr).addRd hr').addBlk hb
  simp only [List.nil_append, List.cons_append] at S0
  clear hr hr' hb
  go_enter Try.func45, Try.ntmps45
  go_wp2_with fail
  go_loopw [11, 3] (fun i s wr => wr = w ∧ ((i = .int .i64 0 ∧ s = .int .i64 0) ∨ (i = .int .i64 1 ∧ s = .int .i64 n) ∨ (i = .int .i64 2 ∧ s = .int .i64 ((n + m : Nat) : Int)))) (fun i _ _ => 2 - (intOf i).toNat)
  case atStart => exact ⟨rfl, .inl ⟨rfl, rfl⟩⟩
  case round =>
    obtain ⟨rfl, ⟨rfl, rfl⟩ | ⟨rfl, rfl⟩ | ⟨rfl, rfl⟩⟩ := hrel
    · have d0 : wr.cell? ⟨bg, 0, none⟩ = some (.slice A n c) := (S0.blk 2 rfl).cell 0
      go_wp2_with fail
      go_roundw
      case rel => exact ⟨by trivial, .inr (.inl ⟨rfl, by go_num⟩)⟩
      case measure => simp [intOf]
    · have d1 : wr.cell? ⟨bg, 1, none⟩ = some (.slice A' m c') := (S0.blk 2 rfl).cell 1
      go_wp2_with fail
      go_roundw
      case rel => exact ⟨by trivial, .inr (.inr ⟨rfl, by go_num⟩)⟩
      case measure => simp [intOf]
    · obtain ⟨t, ht⟩ : ∃ t, n + m = t := ⟨_, rfl⟩
      have ht1 : 1 ≤ t := by omega
      have ht2 : t ≤ 2000 := by omega
      have HT := Lib.hid ht
      rw [HT.out]
      clear ht
      go_wp2_with fail
      refine (grow_any t _ ht1 (by omega)).mono ?_
      rintro e w1 ⟨g, c1, rfl, hown1, hb1⟩
      have hsz : wr.heap.size ≤ w1.heap.size := hb1.size
      go_wp2_with fail
      go_loopw [27, 6] (fun i s wz => Below wr.heap.size wr wz ∧ ∃ (B : Option Addr) (k : Nat),
          ((i = .int .i64 0 ∧ s = .slice B 0 k ∧ wz.ownsRow wr.heap.size 3 1 (.slice B 0 k) 0 []) ∨
           (i = .int .i64 1 ∧ s = .slice B n k ∧ wz.ownsRow wr.heap.size 3 1 (.slice B n k) n (xs.map (Value.int .i64))) ∨
           (i = .int .i64 2 ∧ s = .slice B (n + m) k ∧ wz.ownsRow wr.heap.size 3 1 (.slice B (n + m) k) (n + m) ((xs ++ ys).map (Value.int .i64))))) (fun i _ _ => 2 - (intOf i).toNat)
      case atStart => exact ⟨hb1, _, c1, .inl ⟨rfl, rfl, hown1⟩⟩
      case round =>
        obtain ⟨hbz, B, k, ⟨rfl, rfl, hown⟩ | ⟨rfl, rfl, hown⟩ | ⟨rfl, rfl, hown⟩⟩ := hrel
        · have S := S0.keep hbz
          have d0 : _ = some (Value.slice A n c) := (S.blk 2 rfl).cell 0
          have hsz2 := hbz.size
          clear hown1
          go_wp2_with (at_builtin; go_loud (refine wpList_app_all _ rfl (.tmp 31) (.tmp 32) 22 rfl _ 3 i0 (.int .i64 0) 8 Try.underlying22 hi hz0 hz1 hz2 rfl (by decide) (.slice B 0 k) 0 _ rfl hown A n c _ rfl (S.rd 0 rfl) (oneCell_ints _) (by omega) hsz2 ?_))
          intro A3 c3 w3 hown3 hgr3
          have hb3 := hbz.grown hgr3 hsz2 (fun q hq => (hown.lt q hq).1)
          go_wp2_with fail
          go_roundw
          case rel => exact ⟨hb3, A3, c3, .inr (.inl ⟨rfl, rfl, hown3⟩)⟩
          case measure => simp [intOf]
        · have S := S0.keep hbz
          have d1 : _ = some (Value.slice A' m c') := (S.blk 2 rfl).cell 1
          have hsz2 := hbz.size
          clear hown1
          go_wp2_with (at_builtin; go_loud (refine wpList_app_all _ rfl (.tmp 31) (.tmp 32) 22 rfl _ 3 i0 (.int .i64 0) 8 Try.underlying22 hi hz0 hz1 hz2 rfl (by decide) (.slice B n k) n _ rfl hown A' m c' _ rfl (S.rd 1 rfl) (oneCell_ints _) (by omega) hsz2 ?_))
          intro A3 c3 w3 hown3 hgr3
          have hb3 := hbz.grown hgr3 hsz2 (fun q hq => (hown.lt q hq).1)
          go_wp2_with fail
          go_roundw
          case rel => exact ⟨hb3, A3, c3, .inr (.inr ⟨rfl, rfl, by rw [List.map_append]; exact hown3⟩)⟩
          case measure => simp [intOf]
        · go_wp2_with fail
          go_ret
          exact ⟨B, _, k, rfl, hown, hbz⟩
end Go.Proofs.Ytmajmbfbnchbfaa
