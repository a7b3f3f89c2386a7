/- Parts of the proof, in their order. -/
import Derived.Test.YtmajmbfbnchbfaaMg11z
import Derived.Test.YtmajmbfbnchbfaaProg
import Derived.KernelRfl
import Derived.Deep.WholeRow
import Derived.Deep.MidRow
import Derived.Test.YtmajmbfbnchbfaaGrpPz
import Derived.Test.YtmajmbfbnchbfaaMg3z
/- Whole states out of and into memory. -/
namespace Go.Proofs.Ytmajmbfbnchbfaa
open Go.RowKit

theorem Try.infoState : (Try.prog.info? 77).map (fun i => (i.zero, i.size)) = some (some (.agg (stL 0 0 .nilFunc .nilFunc (List.replicate 64 0) (List.replicate 64 0)).toArray), 132) := by kernel_rfl
theorem size_state {a b : Nat} {F0 F1 : Value} {p q : List Int} (hp : p.length = 64) (hq : q.length = 64) : (Try.prog.info? 77).map (·.size) = some (stL a b F0 F1 p q).toArray.size := by
  rw [List.size_toArray, stL_length hp hq]
  exact (zero_of_info Try.infoState).2
theorem zeros_state : ∃ zs : Array Value, (∀ w, (zeroValue 77).run Try.prog w = .ok (.agg zs) w) ∧ zs.size = 132 :=
  ⟨_, (zero_of_info Try.infoState).1, by rw [List.size_toArray, stL_length (by simp) (by simp)]⟩
theorem one_state {a b : Nat} {f0 f1 : FuncId} {c0 c1 : Array Value} {p q : List Int} : (stL a b (.func (.func f0) #[] c0) (.func (.func f1) #[] c1) p q).toArray.all (·.oneCell') = true := all_oneCell_toArray fun v hv => by
  unfold stL at hv
  simp only [List.mem_append, List.mem_cons, List.mem_map] at hv
  rcases hv with (rfl | rfl | ⟨x, _, rfl⟩) | (rfl | rfl | ⟨x, _, rfl⟩) <;> rfl
section
variable {P : Program}
theorem blk_setRow {w : World} {g : Nat} {t : TypeId} {old cs : Array Value} (h : Blk w g t old) : Blk (w.setRow g cs) g t cs := setRow_heap w g old cs t (0, 0) h
theorem grown_setRow (w : World) (g : Nat) (cs : Array Value) : w.grownBy (w.setRow g cs) (some g) := ⟨rfl, rfl, rfl, by simp [World.setRow], fun k hk hne => by
  unfold World.setRow
  simp only
  rw [Array.getElem?_modify, if_neg (fun e => hne (by rw [e]))]⟩
/-- A whole variable is stored: the rest stands. -/
theorem wpList_store_all {ops : Array Oper} {rest : List Oper} {o : Oper} {a : Act} {w : World} {Q : Exit → Act → World → Prop} (hgd : o.guard = none) (ty : TypeId) (x y : Operand) (ho : o.op = .store ty x y)
    (g : Nat) (cells : Array Value) (hx : a.eval x = .pointer (some ⟨g, 0, none⟩)) (hy : a.eval y = .agg cells) (t : TypeId) (old : Array Value) (hg : Blk w g t old) (hi : (P.info? ty).map (·.size) = some cells.size)
    (hold : old.size = cells.size) (h1 : cells.all (·.oneCell') = true)
    (h : ∀ w2, Blk w2 g t cells → w.grownBy w2 (some g) → wpList P ops Q rest (a.put o.dst undef) w2) : wpList P ops Q (o :: rest) a w :=
  wpList_store_row hgd ty x y ho g cells hx hy t old hg hi hold h1 (h _ (blk_setRow hg) (grown_setRow w g cells))
/-- A whole variable is stored into the block that was made last. -/
theorem wpList_store_new {ops : Array Oper} {rest : List Oper} {o : Oper} {a : Act} {w : World} {Q : Exit → Act → World → Prop} (hgd : o.guard = none) (ty : TypeId) (x y : Operand) (ho : o.op = .store ty x y)
    (old cells : Array Value) (t : TypeId) (hx : a.eval x = .pointer (some ⟨w.heap.size, 0, none⟩)) (hy : a.eval y = .agg cells) (hi : (P.info? ty).map (·.size) = some cells.size)
    (hold : old.size = cells.size) (h1 : cells.all (·.oneCell') = true)
    (h : wpList P ops Q rest (a.put o.dst undef) (w.alloc (.cells cells t))) : wpList P ops Q (o :: rest) a (w.alloc (.cells old t)) :=
  wpList_store_row hgd ty x y ho w.heap.size cells hx hy t old (heap_alloc_last w _) hi hold h1 (by rw [World.setRow_alloc_new]; exact h)
end
end Go.Proofs.Ytmajmbfbnchbfaa
/- raddletop.stripes: plain weave of two colours. -/
namespace Go.Proofs.Ytmajmbfbnchbfaa
open Go.RowKit

theorem rd_lit {w : World} {g : Nat} {t : TypeId} {xs : List Value} (h : Blk w g t xs.toArray) : Rd w (some ⟨g, 0, none⟩) xs.length xs := by
  refine ⟨rfl, fun _ => ⟨g, 0, rfl, fun j u hu => ?_⟩⟩
  have h1 := h.cell (0 + j)
  rw [h1]
  simpa using hu
set_option maxHeartbeats 2000000 in
set_option maxRecDepth 100000 in
theorem stripes_any (w : World) : Calls Try.prog 17 #[] w fun e w' => ∃ B1 B2 B3 B4 bt c1 c2 c3 c4 ct,
    e = .returned (.tuple #[.agg (dC 2 2 (.slice (some ⟨B1, 0, none⟩) 2 c1) (.slice (some ⟨B2, 0, none⟩) 2 c2) bt 0 ct), .slice (some ⟨B3, 0, none⟩) 2 c3, .slice (some ⟨B4, 0, none⟩) 2 c4]) ∧ Rd w' (some ⟨B1, 0, none⟩) 2 (([0, 1] : List Int).map (Value.int .i64)) ∧ Rd w' (some ⟨B2, 0, none⟩) 2 (([0, 1] : List Int).map (Value.int .i64)) ∧
    Rd w' (some ⟨B3, 0, none⟩) 2 (([0, 1] : List Int).map (Value.int .i64)) ∧ Rd w' (some ⟨B4, 0, none⟩) 2 (([0, 1] : List Int).map (Value.int .i64)) ∧ Rd w' (some ⟨bt, 0, none⟩) 4 ([true, false, false, true].map Value.bool) ∧ Below w.heap.size w w' := by
  have S0 := (((((((St.start w).box #[.int .i64 2, .int .i64 2, .slice (some ⟨w.heap.size + 1 + 1 + 1, 0, none⟩) 2 2, .slice (some ⟨w.heap.size + 1 + 1 + 1 + 1, 0, none⟩) 2 2, .int .i64 2, .int .i64 2, .slice (some ⟨w.heap.size + 1, 0, none⟩) 4 4] 27).box #[.bool true, .bool false, .bool false, .bool true] 4).box #[.int .i64 2, .int .i64 2, .slice (some ⟨w.heap.size + 1, 0, none⟩) 4 4] 25).box #[.int .i64 0, .int .i64 1] 3).box #[.int .i64 0, .int .i64 1] 3).box #[.int .i64 0, .int .i64 1] 3).box #[.int .i64 0, .int .i64 1] 3
  simp only [size_alloc1, List.nil_append, List.cons_append] at S0
  obtain ⟨q0, q1, q2, q3, q4, q5, q6⟩ := (S0.blk 0 rfl).cell7
  go_enter Try.func17, Try.ntmps17
  go_wp2_with fail
  refine bodyPost_ret (v := .tuple #[.agg #[.int .i64 2, .int .i64 2, .slice (some ⟨w.heap.size + 1 + 1 + 1, 0, none⟩) 2 2, .slice (some ⟨w.heap.size + 1 + 1 + 1 + 1, 0, none⟩) 2 2, .int .i64 2, .int .i64 2, .slice (some ⟨w.heap.size + 1, 0, none⟩) 4 4], .slice (some ⟨w.heap.size + 1 + 1 + 1 + 1 + 1, 0, none⟩) 2 2, .slice (some ⟨w.heap.size + 1 + 1 + 1 + 1 + 1 + 1, 0, none⟩) 2 2]) (by simp [results, Try.results17, go_sem, q0, q1, q2, q3, q4, q5, q6]) rfl ?_
  exact ⟨_, _, _, _, _, _, _, _, _, _, rfl, rd_lit (S0.blk 3 rfl), rd_lit (S0.blk 4 rfl), rd_lit (S0.blk 5 rfl), rd_lit (S0.blk 6 rfl), rd_lit (S0.blk 1 rfl), S0.below⟩
end Go.Proofs.Ytmajmbfbnchbfaa
