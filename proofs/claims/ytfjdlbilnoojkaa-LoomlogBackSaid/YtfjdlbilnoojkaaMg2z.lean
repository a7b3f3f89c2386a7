/- Parts of the proof, in their order. -/
import Derived.RangeFuncNested
import Derived.RangeFuncBound
import Derived.RangeFuncCalls
import Derived.RangeFuncLeaves
import Derived.Test.YtfjdlbilnoojkaaLibz
import Derived.Test.YtfjdlbilnoojkaaProg
import Derived.Test.YtfjdlbilnoojkaaGdz
import Derived.KernelRfl
/- A range over a function: what a round keeps; the elements that have come. Nothing here names a function of the program. -/
namespace Go.Proofs.Ytfjdlbilnoojkaa
open Go.RowKit

/-- These blocks lie as they lay. -/
def KB (L : List Nat) (W W' : World) : Prop := ∀ k ∈ L, W'.heap[k]? = W.heap[k]?
theorem KB.refl (L : List Nat) (W : World) : KB L W W := fun _ _ => rfl
theorem KB.trans {L : List Nat} {A B C : World} (h : KB L A B) (k : KB L B C) : KB L A C := fun i hi => (k i hi).trans (h i hi)
theorem KB.blk {L : List Nat} {A B : World} (h : KB L A B) {g : Nat} {t : TypeId} {cs : Array Value} (hg : g ∈ L) (hb : Blk A g t cs) : Blk B g t cs := (h g hg).trans hb
theorem KB.below {L : List Nat} {n : Nat} {A B : World} (h : Below n A B) (hL : ∀ k ∈ L, k < n) : KB L A B := fun k hk => h.block k (hL k hk)
theorem kb_t {L : List Nat} {A B C : World} (h : KB L A B) (k : KB L B C) : KB L A C := h.trans k
theorem kb_b {L : List Nat} {w : World} (hL : ∀ k ∈ L, k < w.heap.size) (W : World) (l : Nat) (o o' : Obj) (hl : w.heap.size ≤ l) (_ : W.heap[l]? = some o) (_ : o.isCells = false) (_ : o.isWalk = false) : KB L W (W.putObj l o') :=
  fun k hk => World.putObj_heap_other (by have := hL k hk; omega)

/-- The first k of n. -/
def firstF (n k : Nat) : List (Fin n) := (List.finRange n).take k
theorem firstF_length {n k : Nat} (h : k ≤ n) : (firstF n k).length = k := by simp [firstF, h]
theorem firstF_succ {n k : Nat} (h : k < n) : firstF n (k + 1) = firstF n k ++ [⟨k, h⟩] := by
  unfold firstF
  rw [List.take_add_one, List.getElem?_eq_getElem (by simpa using h)]
  simp
theorem firstF_all (n : Nat) (i : Nat) (h : i < n) : (⟨i, h⟩ : Fin n) ∈ firstF n n := by
  unfold firstF
  rw [List.take_of_length_le (by simp)]
  exact List.mem_finRange _
/-- What a function of the number gives at the first k. -/
theorem firstF_flat {α : Type} {n : Nat} (f : Nat → List α) (l : List (List α)) (hl : l.length = n) (hf : ∀ i, i < n → f i = l.getD i []) : ((firstF n n).flatMap fun i => f i.1) = l.flatten := by
  have : ∀ k, k ≤ n → ((firstF n k).flatMap fun i => f i.1) = (l.take k).flatten := by
    intro k
    induction k with
    | zero => intro _; simp [firstF]
    | succ k ih =>
      intro h
      rw [firstF_succ (by omega), List.flatMap_append, ih (by omega), List.take_add_one, List.getElem?_eq_getElem (by omega)]
      simp only [List.flatMap_cons, List.flatMap_nil, List.append_nil, Option.toList_some, List.flatten_append, List.flatten_cons, List.flatten_nil]
      rw [hf k (by omega), List.getD_eq_getElem?_getD, List.getElem?_eq_getElem (by omega)]
      rfl
  rw [this n (Nat.le_refl _), List.take_of_length_le (by omega)]
end Go.Proofs.Ytfjdlbilnoojkaa
/- grid.Check gives the error 'chk', for any grid. -/
namespace Go.Proofs.Ytfjdlbilnoojkaa
open Go.RowKit

theorem ret_i {k : IntKind} {a b : Int} (h : a = b) : Ending.returned (.int k a) = Ending.returned (.int k b) := by rw [h]

theorem check_any (W H : Int) (A : Option Addr) (n c : Nat) (w : World) :
    Calls Try.prog 50 #[.agg #[.int .i64 W, .int .i64 H, .slice A n c]] w fun e w' => e = .returned (.int .i64 (chk W H n)) ∧ Below w.heap.size w w' := by
  by_cases hb : 64 < W ∨ 64 < H
  · go_enter Try.func50, Try.ntmps50
    go_wp2
    all_goals (go_ret; exact ⟨ret_i (chk_big hb).symm, (Below.refl _ _).alloc (Nat.le_refl _) _⟩)
  by_cases hs : W < 1 ∨ H < 1
  · have hW : W ≤ 64 := by omega
    have hH : H ≤ 64 := by omega
    go_enter Try.func50, Try.ntmps50
    go_wp2
    all_goals (go_ret; exact ⟨ret_i (chk_bad hW hH (by omega)).symm, (Below.refl _ _).alloc (Nat.le_refl _) _⟩)
  have hW : W ≤ 64 := by omega
  have hH : H ≤ 64 := by omega
  have hW1 : 1 ≤ W := by omega
  have hH1 : 1 ≤ H := by omega
  have hm := mul_wrap hW hH hW1 hH1
  by_cases hl : (n : Int) = W * H
  · have hl' : ((n : Int) != wrap64 (W * H)) = false := by rw [hm, bne_eq_false_iff_eq]; exact hl
    have HL := Lib.hid hl; clear hl
    have HM := Lib.hid hm; clear hm
    go_enter Try.func50, Try.ntmps50
    go_wp2
    all_goals (go_ret; exact ⟨ret_i (chk_ok hW hH hW1 hH1 HL.out).symm, (Below.refl _ _).alloc (Nat.le_refl _) _⟩)
  · have hl' : ((n : Int) != wrap64 (W * H)) = true := by rw [hm, bne_iff_ne]; exact hl
    have HL := Lib.hid hl; clear hl
    have HM := Lib.hid hm; clear hm
    go_enter Try.func50, Try.ntmps50
    go_wp2
    all_goals (go_ret; exact ⟨ret_i (chk_bad hW hH (.inr (.inr HL.out))).symm, (Below.refl _ _).alloc (Nat.le_refl _) _⟩)
end Go.Proofs.Ytfjdlbilnoojkaa
/- The reference's Check of layer 1 gives the error 'chk', for any grid. -/
namespace Go.Proofs.Ytfjdlbilnoojkaa
open Go.RowKit

theorem rcheck_any (W H : Int) (A : Option Addr) (n c : Nat) (w : World) :
    Calls Try.prog 53 #[.agg #[.int .i64 W, .int .i64 H, .slice A n c]] w fun e w' => e = .returned (.int .i64 (chk W H n)) ∧ Below w.heap.size w w' := by
  by_cases hb : 64 < W ∨ 64 < H
  · go_enter Try.func53, Try.ntmps53
    go_wp2
    all_goals (go_ret; exact ⟨ret_i (chk_big hb).symm, (Below.refl _ _).alloc (Nat.le_refl _) _⟩)
  by_cases hs : W < 1 ∨ H < 1
  · have hW : W ≤ 64 := by omega
    have hH : H ≤ 64 := by omega
    go_enter Try.func53, Try.ntmps53
    go_wp2
    all_goals (go_ret; exact ⟨ret_i (chk_bad hW hH (by omega)).symm, (Below.refl _ _).alloc (Nat.le_refl _) _⟩)
  have hW : W ≤ 64 := by omega
  have hH : H ≤ 64 := by omega
  have hW1 : 1 ≤ W := by omega
  have hH1 : 1 ≤ H := by omega
  have hm := mul_wrap hW hH hW1 hH1
  by_cases hl : (n : Int) = W * H
  · have hl' : ((n : Int) != wrap64 (W * H)) = false := by rw [hm, bne_eq_false_iff_eq]; exact hl
    have HL := Lib.hid hl; clear hl
    have HM := Lib.hid hm; clear hm
    go_enter Try.func53, Try.ntmps53
    go_wp2
    all_goals (go_ret; exact ⟨ret_i (chk_ok hW hH hW1 hH1 HL.out).symm, (Below.refl _ _).alloc (Nat.le_refl _) _⟩)
  · have hl' : ((n : Int) != wrap64 (W * H)) = true := by rw [hm, bne_iff_ne]; exact hl
    have HL := Lib.hid hl; clear hl
    have HM := Lib.hid hm; clear hm
    go_enter Try.func53, Try.ntmps53
    go_wp2
    all_goals (go_ret; exact ⟨ret_i (chk_bad hW hH (.inr (.inr HL.out))).symm, (Below.refl _ _).alloc (Nat.le_refl _) _⟩)
end Go.Proofs.Ytfjdlbilnoojkaa
