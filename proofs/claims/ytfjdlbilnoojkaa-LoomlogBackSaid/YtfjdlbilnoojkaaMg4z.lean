/- Parts of the proof, in their order. -/
import Derived.Test.YtfjdlbilnoojkaaMg2z
import Derived.Handy
import Derived.Outline
import Derived.Deep.DeepMust
import Derived.Deep.RegionLaw
import Derived.Shelf.Abstract
import Derived.Deep.RegionHeld3
import Derived.Deep.AppendLies
import Derived.Test.YtfjdlbilnoojkaaLibz
import Derived.Test.YtfjdlbilnoojkaaStz
import Derived.Test.YtfjdlbilnoojkaaProg
import Derived.WalkKit
import Derived.KernelRfl
import Derived.Lib.SliceRun
import Derived.IntWalk
import Derived.Test.YtfjdlbilnoojkaaGdz
import Derived.RegionTactic
/- The type bool's entry; a function value that gives cells. -/
namespace Go.Proofs.Ytfjdlbilnoojkaa
open Go.RowKit

/-- A function value that gives the cell (x, y) of a table, whatever has been made since w. -/
def Gives (f : FuncId) (caps : Array Value) (a b : Nat) (F : Nat → Nat → Bool) (w : World) : Prop :=
  ∀ (w' : World) (x y : Nat), Below w.heap.size w w' → x < a → y < b →
    Calls Try.prog f (#[.int .i64 x, .int .i64 y] ++ caps) w' fun e w'' => e = .returned (.bool (F x y)) ∧ Below w'.heap.size w' w''

theorem Try.infoB : (Try.prog.info? 4).map (fun i => (i.zero, i.size, i.bytes)) = some (some (.bool false), 1, 1) := by kernel_rfl

end Go.Proofs.Ytfjdlbilnoojkaa
/- slices.Clone of bools: the same values in new memory. -/
namespace Go.Proofs.Ytfjdlbilnoojkaa
open Go.RowKit

set_option maxHeartbeats 4000000 in
set_option maxRecDepth 100000 in
theorem cloneB_any (ad : Addr) (n c : Nat) (xs : List Bool) (w : World) (hr : Rd w (some ad) n (xs.map (Value.bool))) (hn : n ≤ 1048576) :
    Calls Try.prog 52 #[.slice (some ad) n c] w fun e w' => ∃ A' c', e = .returned (.slice A' n c') ∧ w'.ownsRow w.heap.size 4 1 (.slice A' n c') n (xs.map (Value.bool)) ∧ Below w.heap.size w w' := by
  obtain ⟨i0, hi, hz0, hz1, hz2⟩ := info_parts Try.infoB
  have hown0 : (w.alloc (.cells #[] 4)).drew.ownsRow w.heap.size 4 1 (.slice (some ⟨w.heap.size, 0, none⟩) 0 0) 0 [] := World.ownsRow_lit w #[] 0 (by omega) (Nat.zero_le _) rfl
  have hr0 : Rd (w.alloc (.cells #[] 4)).drew (some ad) n (xs.map (Value.bool)) := (hr.alloc _).drew
  have q22 : ∀ (w : World) (a : Option Addr) (n c n' c' : Nat), (binOp .eql 23 (.slice a n c) (.slice none n' c')).run Try.prog w = .ok (.bool a.isNone) w := fun w a n c n' c' => Lib.run_eql_slice_nil w _ _ a n c n' c' Try.underlying23
  have hB0 : Below w.heap.size w (w.alloc (.cells #[] 4)) := (Below.refl _ _).alloc (Nat.le_refl _) _
  go_enter Try.func52, Try.ntmps52
  go_wp2_with (first
    | (at_builtin; go_loud (refine wpList_app_all _ rfl (.tmp 5) (.tmp 6) 23 rfl w.heap.size 4 i0 (.bool false) 1 Try.underlying23 hi hz0 hz1 hz2 rfl (by decide) (.slice (some ⟨w.heap.size, 0, none⟩) 0 0) 0 [] rfl hown0 (some ad) n c _ rfl hr0 (oneCell_bools xs) (by omega) (by simp) ?_))
    | fail)
  intro A' c' w' hown hgr
  go_wp2_with fail
  go_ret
  exact ⟨A', c', rfl, hown, hB0.grown hgr (by simp) (fun k hk => by simp [Value.ownBlock] at hk; omega)⟩
end Go.Proofs.Ytfjdlbilnoojkaa
/- math/bits.Mul of one and a small number. -/
namespace Go.Proofs.Ytfjdlbilnoojkaa
open Go.RowKit

theorem and32_all : ((List.range 65).all fun n => decide (bits .and .u64 (n : Int) 4294967295 = (n : Int))) = true := by decide +kernel
theorem and32_of {n : Nat} (h : n ≤ 64) : bits .and .u64 (n : Int) 4294967295 = (n : Int) := by
  have k := and32_all
  simp only [List.all_eq_true, List.mem_range, decide_eq_true_eq] at k
  exact k n (by omega)
theorem mul64_one (n : Nat) (w : World) (h : n ≤ 64) : Calls Try.prog 65 #[.int .u64 1, .int .u64 n] w fun e w' => e = .returned (.tuple #[.int .u64 0, .int .u64 n]) ∧ w' = w := by
  have a1 := and32_of h
  have a2 := and32_of (show 1 ≤ 64 by omega)
  have a3 := and32_of (show 0 ≤ 64 by omega)
  have b1 : bits .and .u64 1 4294967295 = 1 := a2
  have b0 : bits .and .u64 0 4294967295 = 0 := a3
  clear a2 a3
  have d1 : (n : Int) / 4294967296 = 0 := by omega
  go_enter Try.func65, Try.ntmps65
  go_wp2_with fail
  go_ret2
  exact ⟨by simp, rfl⟩
end Go.Proofs.Ytfjdlbilnoojkaa
/- Small laws for comparing grids and images. Nothing here names a function of the program. -/
namespace Go.Proofs.Ytfjdlbilnoojkaa
open Go.RowKit

/-- Two grids are equal. -/
def sameG (a b : Gd) : Bool := decide (a.w = b.w ∧ a.h = b.h ∧ a.bits = b.bits)
theorem sameG_iff {a b : Gd} : sameG a b = true ↔ a = b := by
  obtain ⟨w, h, l⟩ := a
  obtain ⟨w', h', l'⟩ := b
  simp [sameG]
theorem sameG_self (a : Gd) : sameG a a = true := sameG_iff.2 rfl
theorem sameG_not {a b : Gd} (h : ¬ (a.w = b.w ∧ a.h = b.h ∧ a.bits = b.bits)) : sameG a b = false := by simp [sameG]; intro h1 h2 h3; exact h ⟨h1, h2, h3⟩
theorem ret_b {a b : Bool} (h : a = b) : Ending.returned (.bool a) = Ending.returned (.bool b) := by rw [h]

end Go.Proofs.Ytfjdlbilnoojkaa
