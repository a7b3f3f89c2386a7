/- Parts of the proof, in their order. -/
import Derived.Test.YtfjdlbilnoojkaaLEz
import Derived.Test.YtfjdlbilnoojkaaMg2z
import Derived.Handy
import Derived.Outline
import Derived.Deep.DeepMust
import Derived.Deep.RegionLaw
import Derived.Shelf.Abstract
import Derived.Deep.RegionHeld3
import Derived.Deep.AppendLies
import Derived.Test.YtfjdlbilnoojkaaLibz
import Derived.Test.YtfjdlbilnoojkaaStz
import Derived.Test.YtfjdlbilnoojkaaProg
import Derived.WalkKit
import Derived.KernelRfl
import Derived.Lib.SliceRun
/- append of one event to a list of events that is the call's own. Nothing here names a function of the program. -/
namespace Go.Proofs.Ytfjdlbilnoojkaa
open Go.RowKit

theorem Try.infoEv : (Try.prog.info? 59).map (fun i => (i.zero, i.size, i.bytes)) = some (some (.agg #[.int .u8 0, .slice none 0 0]), 2, 32) := by kernel_rfl
theorem info_parts2 {i : Option TypeInfo} {z : Value} {s b : Nat} (h : i.map (fun i => (i.zero, i.size, i.bytes)) = some (some z, s, b)) : ∃ i0, i = some i0 ∧ i0.zero = some z ∧ i0.size = s ∧ i0.bytes = b := by
  cases i with
  | none => cases h
  | some i0 =>
    simp at h
    exact ⟨i0, rfl, h.1, h.2.1, h.2.2⟩
section
variable {P : Program}
theorem wpList_ev (w : World) {ops : Array Oper} {rest : List Oper} {o : Oper} {a : Act} {Q : Exit → Act → World → Prop} (hgd : o.guard = none) (s x : Operand) (t : TypeId)
    (ho : o.op = .call { callee := .builtin .append, args := #[s, x], argTypes := #[t, t] })
    (base tL tE : Nat) (i : TypeInfo) (z : Value) (ht : P.underlying t = some (.slice tL)) (hi : P.info? tL = some i) (hz : i.zero = some z)
    (hsize : i.size = 2) (hby : i.bytes = 32) (hzs : z.cells.size = 2) (hne : tL ≠ tE)
    (v : Value) (n : Nat) (l : List Ev) (hs : a.eval s = v) (hle : LE w base tL tE v n l)
    (b : Nat) (q : Int) (A' : Option Addr) (m c' : Nat) (r : List Bool) (hx : a.eval x = .slice (some ⟨b, 0, none⟩) 1 1) (hb : Blk w b tL #[.int .u8 q, .slice A' m c']) (hm : r.length = m) (hra : RowAt w base tE A' r)
    (hn : n + 1 ≤ 1048576) (hbase : base ≤ w.heap.size)
    (h : ∀ g cap w', LE w' base tL tE (.slice (some ⟨g, 0, none⟩) (n + 1) cap) (n + 1) (l ++ [(q, r)]) → w.grownBy w' v.ownBlock → (∀ g, v.ownBlock = some g → base ≤ g) → wpList P ops Q rest (a.put o.dst (.slice (some ⟨g, 0, none⟩) (n + 1) cap)) w') :
    wpList P ops Q (o :: rest) a w := by
  subst hm
  obtain ⟨xs, hown, happ⟩ := hle.open hne
  refine wpList_append_lies w hgd s x t ho base tL i z 2 32 ht hi hz hsize hby hzs (by omega) v n xs hs hown ⟨b, 0, none⟩ 1 1 [.int .u8 q, .slice A' r.length c'] hx rfl ?_ ?_ (by omega) (by unfold maxLen; omega) (by omega) hbase _ rfl ?_
  · intro j y hj
    exact World.news_of_block hb j y (by simpa using hj)
  · intro u hu
    simp at hu
    rcases hu with rfl | rfl <;> rfl
  · intro g cap w' h2 h3 _ _
    exact h g cap w' (happ w' _ q A' c' r hra h2 h3) h3 (fun g e => (hown.lt g e).1)
end
theorem chkP_zero {W H : Int} {n : Nat} (h : chkP W H n = 0) : ∃ a b : Nat, W = (a : Int) ∧ H = (b : Int) ∧ 1 ≤ a ∧ a ≤ 40 ∧ 1 ≤ b ∧ b ≤ 64 ∧ n = b * a := by
  unfold chkP at h
  split at h
  · rename_i h1; exact absurd h h1
  · rename_i h1
    split at h
    · simp at h
    · obtain ⟨a, b, h2, h3, h4, _, h5, h6, h7⟩ := chk_zero (show chk W H n = 0 by simpa using h1)
      exact ⟨a, b, h2, h3, h4, by omega, h5, h6, h7⟩
/-- What hands back a log and an error. -/
def RetE (r : List Ev × Int) (w : World) (e : Ending) (w' : World) : Prop :=
  ∃ A n c, e = .returned (.tuple #[.slice A n c, .int .i64 r.2]) ∧ LogR w' A n r.1 ∧ n ≤ c ∧ c ≤ maxLen ∧ Below w.heap.size w w'
theorem LogR.nil (w : World) (A : Option Addr) : LogR w A 0 [] := ⟨rfl, fun h => absurd h (by omega)⟩
theorem retE_bad {t : Int} {r : List Ev × Int} {w w' : World} (h : r = ([], t)) (hb : Below w.heap.size w w') : RetE r w (.returned (.tuple #[.slice none 0 0, .int .i64 t])) w' := by
  subst h
  exact ⟨none, 0, 0, rfl, LogR.nil _ _, Nat.le_refl _, Nat.zero_le _, hb⟩
end Go.Proofs.Ytfjdlbilnoojkaa
/- The type bool's entry; a function value that gives cells. -/
namespace Go.Proofs.Ytfjdlbilnoojkaa
open Go.RowKit

/-- A function value that gives the cell (x, y) of a table, whatever has been made since w. -/
def Gives (f : FuncId) (caps : Array Value) (a b : Nat) (F : Nat → Nat → Bool) (w : World) : Prop :=
  ∀ (w' : World) (x y : Nat), Below w.heap.size w w' → x < a → y < b →
    Calls Try.prog f (#[.int .i64 x, .int .i64 y] ++ caps) w' fun e w'' => e = .returned (.bool (F x y)) ∧ Below w'.heap.size w' w''

theorem Try.infoB : (Try.prog.info? 4).map (fun i => (i.zero, i.size, i.bytes)) = some (some (.bool false), 1, 1) := by kernel_rfl

end Go.Proofs.Ytfjdlbilnoojkaa
/- slices.Clone of bools: the same values in new memory. -/
namespace Go.Proofs.Ytfjdlbilnoojkaa
open Go.RowKit

set_option maxHeartbeats 4000000 in
set_option maxRecDepth 100000 in
theorem cloneB_any (ad : Addr) (n c : Nat) (xs : List Bool) (w : World) (hr : Rd w (some ad) n (xs.map (Value.bool))) (hn : n ≤ 1048576) :
    Calls Try.prog 52 #[.slice (some ad) n c] w fun e w' => ∃ A' c', e = .returned (.slice A' n c') ∧ w'.ownsRow w.heap.size 4 1 (.slice A' n c') n (xs.map (Value.bool)) ∧ Below w.heap.size w w' := by
  obtain ⟨i0, hi, hz0, hz1, hz2⟩ := info_parts Try.infoB
  have hown0 : (w.alloc (.cells #[] 4)).drew.ownsRow w.heap.size 4 1 (.slice (some ⟨w.heap.size, 0, none⟩) 0 0) 0 [] := World.ownsRow_lit w #[] 0 (by omega) (Nat.zero_le _) rfl
  have hr0 : Rd (w.alloc (.cells #[] 4)).drew (some ad) n (xs.map (Value.bool)) := (hr.alloc _).drew
  have q22 : ∀ (w : World) (a : Option Addr) (n c n' c' : Nat), (binOp .eql 23 (.slice a n c) (.slice none n' c')).run Try.prog w = .ok (.bool a.isNone) w := fun w a n c n' c' => Lib.run_eql_slice_nil w _ _ a n c n' c' Try.underlying23
  have hB0 : Below w.heap.size w (w.alloc (.cells #[] 4)) := (Below.refl _ _).alloc (Nat.le_refl _) _
  go_enter Try.func52, Try.ntmps52
  go_wp2_with (first
    | (at_builtin; go_loud (refine wpList_app_all _ rfl (.tmp 5) (.tmp 6) 23 rfl w.heap.size 4 i0 (.bool false) 1 Try.underlying23 hi hz0 hz1 hz2 rfl (by decide) (.slice (some ⟨w.heap.size, 0, none⟩) 0 0) 0 [] rfl hown0 (some ad) n c _ rfl hr0 (oneCell_bools xs) (by omega) (by simp) ?_))
    | fail)
  intro A' c' w' hown hgr
  go_wp2_with fail
  go_ret
  exact ⟨A', c', rfl, hown, hB0.grown hgr (by simp) (fun k hk => by simp [Value.ownBlock] at hk; omega)⟩
end Go.Proofs.Ytfjdlbilnoojkaa
