/- raddleref01.Zero: a grid of empty cells. -/
import Derived.Test.YtfjdlbilnoojkaaMg3z
import Derived.Test.YtfjdlbilnoojkaaMvDefz
import Derived.Laws.OwnMore
namespace Go.Proofs.Ytfjdlbilnoojkaa
open Go.RowKit

set_option maxHeartbeats 1000000 in
theorem zero_any (a b : Nat) (w : World) (ha : a ≤ 64) (hb : b ≤ 64) :
    Calls Try.prog 34 #[.int .i64 a, .int .i64 b] w (RetT ⟨a, b, List.replicate (b * a) false⟩ w) := by
  obtain ⟨i0, hi, hz0, hz1, hz2⟩ := info_parts Try.infoB
  obtain ⟨hm0, hm1⟩ := mul_bound (p := (a : Int)) (q := (b : Int)) (by omega) (by omega) (by omega) (by omega)
  go_enter Try.func34, Try.ntmps34
  go_wp2_with (at_make; go_loud (refine wpList_make_full _ rfl _ _ 23 rfl (w.heap.size + 1) 4 i0 (.bool false) 1 Try.underlying23 hi hz0 hz1 _ _ _ _ (b * a) rfl rfl ?c1 ?c1' ?c2 ?c3 ?c4 ?_))
  case c1 => rw [Nat.mul_comm]; exact (Int.natCast_mul a b).symm
  case c1' => rw [Nat.mul_comm]; exact (Int.natCast_mul a b).symm
  case c2 => rw [hz2]; have : ((b * a : Nat) : Int) ≤ 4096 := by rw [Nat.mul_comm, Int.natCast_mul]; exact hm1
             omega
  case c3 => have : ((b * a : Nat) : Int) ≤ 4096 := by rw [Nat.mul_comm, Int.natCast_mul]; exact hm1
             unfold maxLen; omega
  case c4 => simp
  intro w1 hown1 hg1
  have hb1 : Below w.heap.size w w1 := (((Below.refl _ _).alloc (Nat.le_refl _) _).grown hg1 (by simp) (fun _ h => by cases h))
  have hr1 : Blk w1 w.heap.size 25 #[.int .i64 0, .int .i64 0, .slice none 0 0] := (Blk.new w _ _).grown hg1 (by simp)
  have hown2 := own_base (B := w.heap.size) hown1 (by omega)
  have e : (madeCells #[Value.bool false] (b * a)).toList = (List.replicate (b * a) false).map Value.bool := by
    rw [toList_madeCells_one]; simp
  rw [e] at hown2
  clear hown1
  obtain ⟨r0, r1, r2⟩ := hr1.cell3
  obtain ⟨f0, f1, f2⟩ := hr1.frozen3
  obtain ⟨q0, q1, q2⟩ := (hr1.set3 (.int .i64 a) (.int .i64 b) (.slice (some ⟨w.heap.size + 1, 0, none⟩) (b * a) (b * a))).cell3
  go_wp2_with fail
  refine bodyPost_ret (v := .agg #[.int .i64 a, .int .i64 b, .slice (some ⟨w.heap.size + 1, 0, none⟩) (b * a) (b * a)]) (by simp [results, Try.results34, go_sem, q0, q1, q2]) rfl ?_
  exact ⟨_, _, _, rfl, own_set3 hown2 hr1 (by decide) _ _ _, below_set3 hb1 (Nat.le_refl _) _ _ _⟩
end Go.Proofs.Ytfjdlbilnoojkaa
