/- Parts of the proof, in their order. -/
import Derived.Test.YtmajmbfbnchbfaaMg5z
import Derived.Test.YtmajmbfbnchbfaaMg3z
import Derived.Laws.OwnMore
/- A grid changed by a grouping, and its cost, plain. Nothing here names a function of the program. -/
namespace Go.Proofs.Ytmajmbfbnchbfaa
open Go.RowKit

/-- How many more of the first k ends of a group are up than down. -/
def moreTo (r : Nat → Bool) (l : List Int) : Nat → Int → Int
  | 0, _ => 0
  | k + 1, c => moreTo r l k c + (if l.getD k 0 = c then (if r k = true then 1 else -1) else 0)
theorem moreTo_bound (r : Nat → Bool) (l : List Int) (c : Int) : ∀ k : Nat, -(k : Int) ≤ moreTo r l k c ∧ moreTo r l k c ≤ (k : Int)
  | 0 => by unfold moreTo; omega
  | k + 1 => by
    have := moreTo_bound r l c k
    unfold moreTo
    split
    · split <;> omega
    · omega
theorem moreTo_up {r : Nat → Bool} {l : List Int} {k : Nat} (h : r k = true) (c : Int) : moreTo r l (k + 1) c = if c = l.getD k 0 then moreTo r l k (l.getD k 0) + 1 else moreTo r l k c := by
  show moreTo r l k c + _ = _
  by_cases hc : c = l.getD k 0
  · subst hc
    rw [if_pos rfl, if_pos rfl, if_pos h]
  · rw [if_neg hc, if_neg (fun e => hc e.symm), Int.add_zero]
theorem moreTo_down {r : Nat → Bool} {l : List Int} {k : Nat} (h : r k = false) (c : Int) : moreTo r l (k + 1) c = if c = l.getD k 0 then moreTo r l k (l.getD k 0) - 1 else moreTo r l k c := by
  show moreTo r l k c + _ = _
  by_cases hc : c = l.getD k 0
  · subst hc
    rw [if_pos rfl, if_pos rfl, if_neg (by rw [h]; simp)]; rfl
  · rw [if_neg hc, if_neg (fun e => hc e.symm), Int.add_zero]
/-- A cell of the changed grid. -/
def chgF (a : Nat) (bs : List Bool) (l : List Int) (x y : Nat) : Bool := decide (0 < moreTo (fun x => bs.getD (y * a + x) false) l a (l.getD x 0))
def chgL (a h : Nat) (bs : List Bool) (l : List Int) : List Bool := Pl.tab a h (chgF a bs l)
theorem chgL_len (a h : Nat) (bs : List Bool) (l : List Int) : (chgL a h bs l).length = h * a := Pl.tab_length
theorem chgL_at {a h x y : Nat} {bs : List Bool} {l : List Int} (hx : x < a) (hy : y < h) : (chgL a h bs l).getD (y * a + x) false = chgF a bs l x y := by
  rw [List.getD_eq_getElem?_getD]
  unfold chgL
  rw [Pl.tab_get hx hy]; rfl
/-- In how many of the first z cells two lists differ. -/
def diffTo (p q : List Bool) : Nat → Nat
  | 0 => 0
  | z + 1 => diffTo p q z + (if p.getD z false = q.getD z false then 0 else 1)
theorem diffTo_le (p q : List Bool) : ∀ z, diffTo p q z ≤ z
  | 0 => Nat.le_refl _
  | z + 1 => by
    have := diffTo_le p q z
    unfold diffTo
    split <;> omega
theorem diffTo_same {p q : List Bool} {z : Nat} (h : p.getD z false = q.getD z false) : diffTo p q (z + 1) = diffTo p q z := by show diffTo p q z + _ = _; rw [if_pos h]; rfl
theorem diffTo_other {p q : List Bool} {z : Nat} (h : p.getD z false ≠ q.getD z false) : diffTo p q (z + 1) = diffTo p q z + 1 := by show diffTo p q z + _ = _; rw [if_neg h]
/-- The cost of a grouping. -/
def costL (a h : Nat) (bs : List Bool) (l : List Int) : Nat := diffTo (chgL a h bs l) bs (h * a)
/-- What a cell's group makes of it depends on its group alone. -/
theorem chgF_group {a x x' y : Nat} {bs : List Bool} {l : List Int} (h : l.getD x 0 = l.getD x' 0) : chgF a bs l x y = chgF a bs l x' y := by unfold chgF; rw [h]
end Go.Proofs.Ytmajmbfbnchbfaa
/- raddleref01.Zero: a grid of empty cells. -/
namespace Go.Proofs.Ytmajmbfbnchbfaa
open Go.RowKit

set_option maxHeartbeats 1000000 in
theorem zero_any (a b : Nat) (w : World) (ha : a ≤ 64) (hb : b ≤ 64) :
    Calls Try.prog 52 #[.int .i64 a, .int .i64 b] w (RetT ⟨a, b, List.replicate (b * a) false⟩ w) := by
  obtain ⟨i0, hi, hz0, hz1, hz2⟩ := info_parts Try.infoB
  obtain ⟨hm0, hm1⟩ := mul_bound (p := (a : Int)) (q := (b : Int)) (by omega) (by omega) (by omega) (by omega)
  go_enter Try.func52, Try.ntmps52
  go_wp2_with (at_make; go_loud (refine wpList_make_full _ rfl _ _ 23 rfl (w.heap.size + 1) 4 i0 (.bool false) 1 Try.underlying23 hi hz0 hz1 _ _ _ _ (b * a) rfl rfl ?c1 ?c1' ?c2 ?c3 ?c4 ?_))
  case c1 => rw [Nat.mul_comm]; exact (Int.natCast_mul a b).symm
  case c1' => rw [Nat.mul_comm]; exact (Int.natCast_mul a b).symm
  case c2 => rw [hz2]; have : ((b * a : Nat) : Int) ≤ 4096 := by rw [Nat.mul_comm, Int.natCast_mul]; exact hm1
             omega
  case c3 => have : ((b * a : Nat) : Int) ≤ 4096 := by rw [Nat.mul_comm, Int.natCast_mul]; exact hm1
             unfold maxLen; omega
  case c4 => simp
  intro w1 hown1 hg1
  have hb1 : Below w.heap.size w w1 := (((Below.refl _ _).alloc (Nat.le_refl _) _).grown hg1 (by simp) (fun _ h => by cases h))
  have hr1 : Blk w1 w.heap.size 25 #[.int .i64 0, .int .i64 0, .slice none 0 0] := (Blk.new w _ _).grown hg1 (by simp)
  have hown2 := own_base (B := w.heap.size) hown1 (by omega)
  have e : (madeCells #[Value.bool false] (b * a)).toList = (List.replicate (b * a) false).map Value.bool := by
    rw [toList_madeCells_one]; simp
  rw [e] at hown2
  clear hown1
  obtain ⟨r0, r1, r2⟩ := hr1.cell3
  obtain ⟨f0, f1, f2⟩ := hr1.frozen3
  obtain ⟨q0, q1, q2⟩ := (hr1.set3 (.int .i64 a) (.int .i64 b) (.slice (some ⟨w.heap.size + 1, 0, none⟩) (b * a) (b * a))).cell3
  go_wp2_with fail
  refine bodyPost_ret (v := .agg #[.int .i64 a, .int .i64 b, .slice (some ⟨w.heap.size + 1, 0, none⟩) (b * a) (b * a)]) (by simp [results, Try.results52, go_sem, q0, q1, q2]) rfl ?_
  exact ⟨_, _, _, rfl, own_set3 hown2 hr1 (by decide) _ _ _, below_set3 hb1 (Nat.le_refl _) _ _ _⟩
end Go.Proofs.Ytmajmbfbnchbfaa
