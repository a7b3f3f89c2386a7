/- Parts of the proof, in their order. -/
import Derived.Test.YtfjdlbilnoojkaaGdz
import Derived.Test.YtfjdlbilnoojkaaLiftz
import Derived.Test.YtfjdlbilnoojkaaProg
import Derived.KernelRfl
import Derived.Test.YtfjdlbilnoojkaaStz
import Derived.RangeFuncNested
import Derived.RangeFuncBound
import Derived.RangeFuncCalls
import Derived.RangeFuncLeaves
import Derived.Test.YtfjdlbilnoojkaaLibz
/- Arguments of the program's own types, opened. -/
namespace Go.Proofs.Ytfjdlbilnoojkaa
open Go.RowKit Go.ChangeShapes Go.WideShapes Go.Joins

theorem Try.cellsGrid : Try.prog.cellsOf 25 = 3 := by kernel_rfl
theorem Try.cellsBool : Try.prog.cellsOf 4 = 1 := by kernel_rfl

/-- An int64 that came in is in its range. -/
theorem wf_range {n : Int} (h : (Lit.int .i64 n).wf = true) : -9223372036854775808 ≤ n ∧ n ≤ 9223372036854775807 := by
  have hmin : IntKind.i64.min = -9223372036854775808 := rfl
  have hmax : IntKind.i64.max = 9223372036854775807 := rfl
  simp only [Lit.wf, Bool.and_eq_true, decide_eq_true_eq] at h
  omega

set_option maxRecDepth 100000 in
theorem open_grid {H : Type} {enc : TypeId × Value → H} {W : World} {base : Nat} {v : Value} {d : DataW H} {p : List MemPlace}
    (hv : Value.okWide Try.prog W .any base 25 v) (h : DataW.Trod enc Try.prog W 0 (fun _ => true) true 25 v d p) :
    ∃ (g : Gd) (A : Option Addr) (n c : Nat), v = .agg #[.int .i64 g.w, .int .i64 g.h, .slice A n c] ∧ Rd W A n (g.bits.map Value.bool) ∧ n ≤ c ∧ c ≤ maxLen ∧
      (-9223372036854775808 ≤ g.w ∧ g.w ≤ 9223372036854775807) ∧ (-9223372036854775808 ≤ g.h ∧ g.h ≤ 9223372036854775807) := by
  obtain ⟨v0, v1, v2, y0, y1, y2, m, rfl, _, _, h0, h1, h2⟩ := open_agg3 Try.underlying25 (by kernel_rfl) Try.cellsGrid hv h
  obtain ⟨a, e0, _, wa⟩ := DataW.trod_int Try.underlying3 h0
  obtain ⟨b, e1, _, wb⟩ := DataW.trod_int Try.underlying3 h1
  obtain ⟨A, n, c, bs, rfl, hn, hc, hr⟩ := rd_bools Try.underlying23 Try.underlying4 Try.cellsBool h2
  simp only [List.cons.injEq, and_true] at e0 e1
  subst e0 e1
  exact ⟨⟨a, b, bs⟩, A, n, c, rfl, hr, hn, hc, wf_range wa, wf_range wb⟩

end Go.Proofs.Ytfjdlbilnoojkaa
/- More on slices that are read: writes elsewhere. Nothing here names a function of the program. -/
namespace Go.Proofs.Ytfjdlbilnoojkaa
open Go.RowKit

theorem Rd.grown2 {w w' : World} {A : Option Addr} {n : Nat} {xs : List Value} {row : Option Nat} (h : Rd w A n xs) (hg : w.grownBy w' row) (ho : ∀ b o, A = some ⟨b, o, none⟩ → 0 < n → some b ≠ row) : Rd w' A n xs := by
  refine ⟨h.1, fun hn => ?_⟩
  obtain ⟨b, o, hA, hb, hc⟩ := h.at_ hn
  exact ⟨b, o, hA, fun j u hu => (World.cell?_of_block (w := w) (a := ⟨b, o + j, none⟩) (hg.block b hb (ho b o hA hn))).trans (hc j u hu)⟩
theorem Rd.far {w : World} {A : Option Addr} {n : Nat} {xs : List Value} (h : Rd w A n xs) {p : Addr} (hp : ∀ b o, A = some ⟨b, o, none⟩ → 0 < n → b ≠ p.block) (u : Value) : Rd (w.setCell p u) A n xs := by
  refine ⟨h.1, fun hn => ?_⟩
  obtain ⟨b, o, hA, hb, hc⟩ := h.at_ hn
  exact ⟨b, o, hA, fun j v hv => (World.cell?_of_block (w := w) (a := ⟨b, o + j, none⟩) (Below.heap_setCell w p u b (fun e => hp b o hA hn e))).trans (hc j v hv)⟩

end Go.Proofs.Ytfjdlbilnoojkaa
/- A range over a function: what a round keeps; the elements that have come. Nothing here names a function of the program. -/
namespace Go.Proofs.Ytfjdlbilnoojkaa
open Go.RowKit

/-- These blocks lie as they lay. -/
def KB (L : List Nat) (W W' : World) : Prop := ∀ k ∈ L, W'.heap[k]? = W.heap[k]?
theorem KB.refl (L : List Nat) (W : World) : KB L W W := fun _ _ => rfl
theorem KB.trans {L : List Nat} {A B C : World} (h : KB L A B) (k : KB L B C) : KB L A C := fun i hi => (k i hi).trans (h i hi)
theorem KB.blk {L : List Nat} {A B : World} (h : KB L A B) {g : Nat} {t : TypeId} {cs : Array Value} (hg : g ∈ L) (hb : Blk A g t cs) : Blk B g t cs := (h g hg).trans hb
theorem KB.below {L : List Nat} {n : Nat} {A B : World} (h : Below n A B) (hL : ∀ k ∈ L, k < n) : KB L A B := fun k hk => h.block k (hL k hk)
theorem kb_t {L : List Nat} {A B C : World} (h : KB L A B) (k : KB L B C) : KB L A C := h.trans k
theorem kb_b {L : List Nat} {w : World} (hL : ∀ k ∈ L, k < w.heap.size) (W : World) (l : Nat) (o o' : Obj) (hl : w.heap.size ≤ l) (_ : W.heap[l]? = some o) (_ : o.isCells = false) (_ : o.isWalk = false) : KB L W (W.putObj l o') :=
  fun k hk => World.putObj_heap_other (by have := hL k hk; omega)

/-- The first k of n. -/
def firstF (n k : Nat) : List (Fin n) := (List.finRange n).take k
theorem firstF_length {n k : Nat} (h : k ≤ n) : (firstF n k).length = k := by simp [firstF, h]
theorem firstF_succ {n k : Nat} (h : k < n) : firstF n (k + 1) = firstF n k ++ [⟨k, h⟩] := by
  unfold firstF
  rw [List.take_add_one, List.getElem?_eq_getElem (by simpa using h)]
  simp
theorem firstF_all (n : Nat) (i : Nat) (h : i < n) : (⟨i, h⟩ : Fin n) ∈ firstF n n := by
  unfold firstF
  rw [List.take_of_length_le (by simp)]
  exact List.mem_finRange _
/-- What a function of the number gives at the first k. -/
theorem firstF_flat {α : Type} {n : Nat} (f : Nat → List α) (l : List (List α)) (hl : l.length = n) (hf : ∀ i, i < n → f i = l.getD i []) : ((firstF n n).flatMap fun i => f i.1) = l.flatten := by
  have : ∀ k, k ≤ n → ((firstF n k).flatMap fun i => f i.1) = (l.take k).flatten := by
    intro k
    induction k with
    | zero => intro _; simp [firstF]
    | succ k ih =>
      intro h
      rw [firstF_succ (by omega), List.flatMap_append, ih (by omega), List.take_add_one, List.getElem?_eq_getElem (by omega)]
      simp only [List.flatMap_cons, List.flatMap_nil, List.append_nil, Option.toList_some, List.flatten_append, List.flatten_cons, List.flatten_nil]
      rw [hf k (by omega), List.getD_eq_getElem?_getD, List.getElem?_eq_getElem (by omega)]
      rfl
  rw [this n (Nat.le_refl _), List.take_of_length_le (by omega)]
end Go.Proofs.Ytfjdlbilnoojkaa
