/- Parts of the proof, in their order. -/
import Derived.Test.YtefeghpglacghaaMg2z
import Derived.Handy
import Derived.Outline
import Derived.Deep.DeepMust
import Derived.Deep.RegionLaw
import Derived.Shelf.Abstract
import Derived.Deep.RegionHeld3
import Derived.Deep.AppendLies
import Derived.Test.YtefeghpglacghaaMg1z
import Derived.Test.YtefeghpglacghaaProg
import Derived.KernelRfl
import Derived.Deep.WholeRow
import Derived.Deep.MidRow
import Derived.Test.YtefeghpglacghaaLibz
import Derived.WalkKit
/- The type bool's entry; a function value that gives cells. -/
namespace Go.Proofs.Ytefeghpglacghaa
open Go.RowKit

/-- A function value that gives the cell (x, y) of a table, whatever has been made since w. -/
def Gives (f : FuncId) (caps : Array Value) (a b : Nat) (F : Nat → Nat → Bool) (w : World) : Prop :=
  ∀ (w' : World) (x y : Nat), Below w.heap.size w w' → x < a → y < b →
    Calls Try.prog f (#[.int .i64 x, .int .i64 y] ++ caps) w' fun e w'' => e = .returned (.bool (F x y)) ∧ Below w'.heap.size w' w''

theorem Try.infoB : (Try.prog.info? 4).map (fun i => (i.zero, i.size, i.bytes)) = some (some (.bool false), 1, 1) := by kernel_rfl

end Go.Proofs.Ytefeghpglacghaa
/- Whole states out of and into memory. -/
namespace Go.Proofs.Ytefeghpglacghaa
open Go.RowKit

theorem Try.infoState : (Try.prog.info? 85).map (fun i => (i.zero, i.size)) = some (some (.agg (stL 0 0 .nilFunc .nilFunc (List.replicate 64 0) (List.replicate 64 0)).toArray), 132) := by kernel_rfl
theorem size_state {a b : Nat} {F0 F1 : Value} {p q : List Int} (hp : p.length = 64) (hq : q.length = 64) : (Try.prog.info? 85).map (·.size) = some (stL a b F0 F1 p q).toArray.size := by
  rw [List.size_toArray, stL_length hp hq]
  exact (zero_of_info Try.infoState).2
theorem zeros_state : ∃ zs : Array Value, (∀ w, (zeroValue 85).run Try.prog w = .ok (.agg zs) w) ∧ zs.size = 132 :=
  ⟨_, (zero_of_info Try.infoState).1, by rw [List.size_toArray, stL_length (by simp) (by simp)]⟩
theorem one_state {a b : Nat} {f0 f1 : FuncId} {c0 c1 : Array Value} {p q : List Int} : (stL a b (.func (.func f0) #[] c0) (.func (.func f1) #[] c1) p q).toArray.all (·.oneCell') = true := all_oneCell_toArray fun v hv => by
  unfold stL at hv
  simp only [List.mem_append, List.mem_cons, List.mem_map] at hv
  rcases hv with (rfl | rfl | ⟨x, _, rfl⟩) | (rfl | rfl | ⟨x, _, rfl⟩) <;> rfl
section
variable {P : Program}
theorem blk_setRow {w : World} {g : Nat} {t : TypeId} {old cs : Array Value} (h : Blk w g t old) : Blk (w.setRow g cs) g t cs := setRow_heap w g old cs t (0, 0) h
theorem grown_setRow (w : World) (g : Nat) (cs : Array Value) : w.grownBy (w.setRow g cs) (some g) := ⟨rfl, rfl, rfl, by simp [World.setRow], fun k hk hne => by
  unfold World.setRow
  simp only
  rw [Array.getElem?_modify, if_neg (fun e => hne (by rw [e]))]⟩
/-- A whole variable is stored: the rest stands. -/
theorem wpList_store_all {ops : Array Oper} {rest : List Oper} {o : Oper} {a : Act} {w : World} {Q : Exit → Act → World → Prop} (hgd : o.guard = none) (ty : TypeId) (x y : Operand) (ho : o.op = .store ty x y)
    (g : Nat) (cells : Array Value) (hx : a.eval x = .pointer (some ⟨g, 0, none⟩)) (hy : a.eval y = .agg cells) (t : TypeId) (old : Array Value) (hg : Blk w g t old) (hi : (P.info? ty).map (·.size) = some cells.size)
    (hold : old.size = cells.size) (h1 : cells.all (·.oneCell') = true)
    (h : ∀ w2, Blk w2 g t cells → w.grownBy w2 (some g) → wpList P ops Q rest (a.put o.dst undef) w2) : wpList P ops Q (o :: rest) a w :=
  wpList_store_row hgd ty x y ho g cells hx hy t old hg hi hold h1 (h _ (blk_setRow hg) (grown_setRow w g cells))
/-- A whole variable is stored into the block that was made last. -/
theorem wpList_store_new {ops : Array Oper} {rest : List Oper} {o : Oper} {a : Act} {w : World} {Q : Exit → Act → World → Prop} (hgd : o.guard = none) (ty : TypeId) (x y : Operand) (ho : o.op = .store ty x y)
    (old cells : Array Value) (t : TypeId) (hx : a.eval x = .pointer (some ⟨w.heap.size, 0, none⟩)) (hy : a.eval y = .agg cells) (hi : (P.info? ty).map (·.size) = some cells.size)
    (hold : old.size = cells.size) (h1 : cells.all (·.oneCell') = true)
    (h : wpList P ops Q rest (a.put o.dst undef) (w.alloc (.cells cells t))) : wpList P ops Q (o :: rest) a (w.alloc (.cells old t)) :=
  wpList_store_row hgd ty x y ho w.heap.size cells hx hy t old (heap_alloc_last w _) hi hold h1 (by rw [World.setRow_alloc_new]; exact h)
end
end Go.Proofs.Ytefeghpglacghaa
/- What the program says of the type int. -/
namespace Go.Proofs.Ytefeghpglacghaa
open Go.RowKit
theorem Try.infoI : (Try.prog.info? 3).map (fun i => (i.zero, i.size, i.bytes)) = some (some (.int .i64 0), 1, 8) := by kernel_rfl
end Go.Proofs.Ytefeghpglacghaa
