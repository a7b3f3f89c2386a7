/- Parts of the proof, in their order. -/
import Derived.Test.YtefeghpglacghaaMg5z
import Derived.Test.YtefeghpglacghaaImz
import Derived.Lib.SliceRun
import Derived.Test.YtefeghpglacghaaGdz
import Derived.Test.YtefeghpglacghaaProg
import Derived.KernelRfl
import Derived.RegionTactic
import Derived.Handy
import Derived.Test.YtefeghpglacghaaMg4z
/- slices.Clone of ints: the same numbers in new memory. -/
namespace Go.Proofs.Ytefeghpglacghaa
open Go.RowKit

set_option maxHeartbeats 4000000 in
set_option maxRecDepth 100000 in
theorem clone_any (ad : Addr) (n c : Nat) (xs : List Int) (w : World) (hr : Rd w (some ad) n (xs.map (Value.int .i64))) (hn : n ≤ 1048576) :
    Calls Try.prog 47 #[.slice (some ad) n c] w fun e w' => ∃ A' c', e = .returned (.slice A' n c') ∧ w'.ownsRow w.heap.size 3 1 (.slice A' n c') n (xs.map (Value.int .i64)) ∧ Below w.heap.size w w' := by
  obtain ⟨i0, hi, hz0, hz1, hz2⟩ := info_parts Try.infoI
  have hown0 : (w.alloc (.cells #[] 3)).drew.ownsRow w.heap.size 3 1 (.slice (some ⟨w.heap.size, 0, none⟩) 0 0) 0 [] := World.ownsRow_lit w #[] 0 (by omega) (Nat.zero_le _) rfl
  have hr0 : Rd (w.alloc (.cells #[] 3)).drew (some ad) n (xs.map (Value.int .i64)) := (hr.alloc _).drew
  have q22 : ∀ (w : World) (a : Option Addr) (n c n' c' : Nat), (binOp .eql 22 (.slice a n c) (.slice none n' c')).run Try.prog w = .ok (.bool a.isNone) w := fun w a n c n' c' => Lib.run_eql_slice_nil w _ _ a n c n' c' Try.underlying22
  have hB0 : Below w.heap.size w (w.alloc (.cells #[] 3)) := (Below.refl _ _).alloc (Nat.le_refl _) _
  go_enter Try.func47, Try.ntmps47
  go_wp2_with (first
    | (at_builtin; go_loud (refine wpList_app_all _ rfl (.tmp 5) (.tmp 6) 22 rfl w.heap.size 3 i0 (.int .i64 0) 8 Try.underlying22 hi hz0 hz1 hz2 rfl (by decide) (.slice (some ⟨w.heap.size, 0, none⟩) 0 0) 0 [] rfl hown0 (some ad) n c _ rfl hr0 (oneCell_ints xs) (by omega) (by simp) ?_))
    | fail)
  intro A' c' w' hown hgr
  go_wp2_with fail
  go_ret
  exact ⟨A', c', rfl, hown, hB0.grown hgr (by simp) (fun k hk => by simp [Value.ownBlock] at hk; omega)⟩
end Go.Proofs.Ytefeghpglacghaa
/- Small laws for comparing grids and images. Nothing here names a function of the program. -/
namespace Go.Proofs.Ytefeghpglacghaa
open Go.RowKit

/-- Two grids are equal. -/
def sameG (a b : Gd) : Bool := decide (a.w = b.w ∧ a.h = b.h ∧ a.bits = b.bits)
theorem sameG_iff {a b : Gd} : sameG a b = true ↔ a = b := by
  obtain ⟨w, h, l⟩ := a
  obtain ⟨w', h', l'⟩ := b
  simp [sameG]
theorem sameG_self (a : Gd) : sameG a a = true := sameG_iff.2 rfl
theorem sameG_not {a b : Gd} (h : ¬ (a.w = b.w ∧ a.h = b.h ∧ a.bits = b.bits)) : sameG a b = false := by simp [sameG]; intro h1 h2 h3; exact h ⟨h1, h2, h3⟩
theorem ret_b {a b : Bool} (h : a = b) : Ending.returned (.bool a) = Ending.returned (.bool b) := by rw [h]

end Go.Proofs.Ytefeghpglacghaa
/- A part of a state by value: how many threads a side has. -/
namespace Go.Proofs.Ytefeghpglacghaa
open Go.RowKit
section
variable {P : Program}
theorem run_part_row {e : TypeId} {s off : Nat} {cs : Array Value} {d : TypeDesc} (hu : P.underlying e = some d) (hd : d.isRow = true) (hi : (P.info? e).map (·.size) = some s) (w : World) : (part e cs off).run P w = .ok (.agg (cs.extract off (off + s))) w := by
  have hagg : (isAgg e).run P w = .ok true w := by
    unfold isAgg
    rw [Sem.run_bind, run_underlying hu w]
    cases d <;> simp_all
  cases hq : P.info? e with
  | none => simp [hq] at hi
  | some i =>
    have hs : i.size = s := by simpa [hq] using hi
    simp [part, Sem.run_bind, hagg, sizeOf, typeInfo, hq, hs]
theorem run_index_row {t e : TypeId} {n s k : Nat} {cs : Array Value} {d : TypeDesc} (ht : P.underlying t = some (.array n e)) (hu : P.underlying e = some d) (hd : d.isRow = true) (hi : (P.info? e).map (·.size) = some s) (hk : k < n) (K : Int) (hK : K = k) (w : World) :
    (Instr.index t (.agg cs) (.int .i64 K)).run P w = .ok (.agg (cs.extract (k * s) (k * s + s))) w := by
  subst hK
  have hsz : (sizeOf e).run P w = .ok s w := by
    cases hq : P.info? e with
    | none => simp [hq] at hi
    | some i =>
      have hs : i.size = s := by simpa [hq] using hi
      simp [sizeOf, typeInfo, hq, hs]
  simp [Instr.index, run_underlying ht, asIntOf, hk, hsz, run_part_row hu hd hi]
end
theorem Try.infoYarns : (Try.prog.info? 83).map (·.size) = some 66 := by kernel_rfl
theorem Try.infoSid2 : (Try.prog.info? 80).map (·.size) = some 2 := by kernel_rfl
theorem state_n (k a b : Nat) (F0 F1 : Value) (p q : List Int) (hp : p.length = 64) (hk : k < 2) (K : Int) (hK : K = k) : ∃ X1 X2 : Array Value,
    (∀ w, (Instr.index 85 (.agg (stL a b F0 F1 p q).toArray) (.int .i64 K)).run Try.prog w = .ok (.agg X1) w) ∧ (∀ w, (Instr.field 83 (.agg X1) 0).run Try.prog w = .ok (.agg X2) w) ∧
    ∀ w, (Instr.field 80 (.agg X2) 0).run Try.prog w = .ok (.int .i64 (N2 a b k)) w := by
  refine ⟨(stL a b F0 F1 p q).toArray.extract (k * 66) (k * 66 + 66), ((stL a b F0 F1 p q).toArray.extract (k * 66) (k * 66 + 66)).extract 0 (0 + 2), fun w => run_index_row Try.underlying85 Try.underlying83 rfl Try.infoYarns hk K hK w, fun w => ?_, fun w => ?_⟩
  · simp [Instr.field, run_underlying Try.underlying83, asAgg, run_part_row Try.underlying80 rfl Try.infoSid2]
  · have h0 : (stL a b F0 F1 p q)[k * 66]? = some (.int .i64 (N2 a b k)) := by
      rcases (show k = 0 ∨ k = 1 by omega) with rfl | rfl
      · exact stL_0
      · exact stL_66 hp
    have hz : (isAgg 3).run Try.prog w = .ok false w := by
      unfold isAgg
      rw [Sem.run_bind, run_underlying Try.underlying3 w]
      rfl
    simp [Instr.field, run_underlying Try.underlying80, asAgg, part, hz, h0]
end Go.Proofs.Ytefeghpglacghaa
