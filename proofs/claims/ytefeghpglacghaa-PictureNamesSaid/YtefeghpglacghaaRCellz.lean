/- raddleref01.Zero, At and Set: a grid of empty cells, a cell's value, a cell set in place. -/
import Derived.Test.YtefeghpglacghaaMg8z
import Derived.Test.YtefeghpglacghaaMg4z
import Derived.Test.YtefeghpglacghaaMg3z
import Derived.Laws.OwnMore
namespace Go.Proofs.Ytefeghpglacghaa
open Go.RowKit

set_option maxHeartbeats 1000000 in
theorem zero_any (a b : Nat) (w : World) (ha : a ≤ 64) (hb : b ≤ 64) :
    Calls Try.prog 40 #[.int .i64 a, .int .i64 b] w (RetT ⟨a, b, List.replicate (b * a) false⟩ w) := by
  obtain ⟨i0, hi, hz0, hz1, hz2⟩ := info_parts Try.infoB
  obtain ⟨hm0, hm1⟩ := mul_bound (p := (a : Int)) (q := (b : Int)) (by omega) (by omega) (by omega) (by omega)
  go_enter Try.func40, Try.ntmps40
  go_wp2_with (at_make; go_loud (refine wpList_make_full _ rfl _ _ 38 rfl (w.heap.size + 1) 4 i0 (.bool false) 1 Try.underlying38 hi hz0 hz1 _ _ _ _ (b * a) rfl rfl ?c1 ?c1' ?c2 ?c3 ?c4 ?_))
  case c1 => rw [Nat.mul_comm]; exact (Int.natCast_mul a b).symm
  case c1' => rw [Nat.mul_comm]; exact (Int.natCast_mul a b).symm
  case c2 => rw [hz2]; have : ((b * a : Nat) : Int) ≤ 4096 := by rw [Nat.mul_comm, Int.natCast_mul]; exact hm1
             omega
  case c3 => have : ((b * a : Nat) : Int) ≤ 4096 := by rw [Nat.mul_comm, Int.natCast_mul]; exact hm1
             unfold maxLen; omega
  case c4 => simp
  intro w1 hown1 hg1
  have hb1 : Below w.heap.size w w1 := (((Below.refl _ _).alloc (Nat.le_refl _) _).grown hg1 (by simp) (fun _ h => by cases h))
  have hr1 : Blk w1 w.heap.size 40 #[.int .i64 0, .int .i64 0, .slice none 0 0] := (Blk.new w _ _).grown hg1 (by simp)
  have hown2 := own_base (B := w.heap.size) hown1 (by omega)
  have e : (madeCells #[Value.bool false] (b * a)).toList = (List.replicate (b * a) false).map Value.bool := by
    rw [toList_madeCells_one]; simp
  rw [e] at hown2
  clear hown1
  obtain ⟨r0, r1, r2⟩ := hr1.cell3
  obtain ⟨f0, f1, f2⟩ := hr1.frozen3
  obtain ⟨q0, q1, q2⟩ := (hr1.set3 (.int .i64 a) (.int .i64 b) (.slice (some ⟨w.heap.size + 1, 0, none⟩) (b * a) (b * a))).cell3
  go_wp2_with fail
  refine bodyPost_ret (v := .agg #[.int .i64 a, .int .i64 b, .slice (some ⟨w.heap.size + 1, 0, none⟩) (b * a) (b * a)]) (by simp [results, Try.results40, go_sem, q0, q1, q2]) rfl ?_
  exact ⟨_, _, _, rfl, own_set3 hown2 hr1 (by decide) _ _ _, below_set3 hb1 (Nat.le_refl _) _ _ _⟩

theorem set_any (a b x y base g c : Nat) (l : List Bool) (H : Int) (up : Bool) (w : World) (ha : a ≤ 64) (hb : b ≤ 64) (hx : x < a) (hy : y < b) (ho : w.ownsRow base 4 1 (.slice (some ⟨g, 0, none⟩) (b * a) c) (b * a) (l.map Value.bool)) :
    Calls Try.prog 57 #[.agg #[.int .i64 a, .int .i64 H, .slice (some ⟨g, 0, none⟩) (b * a) c], .int .i64 x, .int .i64 y, .bool up] w fun e w' => e = .returned (.tuple #[]) ∧
      w'.ownsRow base 4 1 (.slice (some ⟨g, 0, none⟩) (b * a) c) (b * a) ((l.set (y * a + x) up).map Value.bool) ∧ w.grownBy w' (some g) := by
  have hbs : l.length = b * a := by simpa using ho.1
  have hlt := Pl.cell_lt (w := a) (h := b) hx hy
  have hG := Blk.new w 40 #[.int .i64 a, .int .i64 H, .slice (some ⟨g, 0, none⟩) (b * a) c]
  have ho' := ho.alloc (.cells #[.int .i64 a, .int .i64 H, .slice (some ⟨g, 0, none⟩) (b * a) c] 40)
  have hB : Below w.heap.size w (w.alloc (.cells #[.int .i64 a, .int .i64 H, .slice (some ⟨g, 0, none⟩) (b * a) c] 40)) := (Below.refl _ _).alloc (Nat.le_refl _) _
  obtain ⟨i0, i1, i2⟩ := idx_bounds ha hb hx hy
  obtain ⟨c0, c1, c2⟩ := hG.cell3
  have hcell := ho'.cellAt (y * a + x) (by omega)
  have hfr := ho'.frozenAt (y * a + x)
  have hst := ho'.stored (y * a + x) (.bool up)
  rw [List.getElem?_map, List.getElem?_eq_getElem (by omega)] at hcell
  simp only [Option.map_some] at hcell
  have R1 := Lib.hid hst.1
  have R2 := Lib.hid hst.2
  clear hst ho' hG
  go_enter Try.func57, Try.ntmps57
  go_wp2
  go_end0
  refine ⟨rfl, ?_, ?_⟩
  · have := R1.out
    rw [← List.map_set] at this
    exact this
  · have h2 := R2.out
    exact ⟨h2.os, h2.tape, h2.output, Nat.le_trans (by simp) h2.size, fun k hk hne => (h2.block k (by simp; omega) hne).trans (hB.block k hk)⟩
