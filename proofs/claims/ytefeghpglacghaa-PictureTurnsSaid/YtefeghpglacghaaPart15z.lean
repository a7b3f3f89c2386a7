/- A part of a state by value: how many threads a side has. -/
import Derived.Test.YtefeghpglacghaaMg5z
namespace Go.Proofs.Ytefeghpglacghaa
open Go.RowKit
section
variable {P : Program}
theorem run_part_row {e : TypeId} {s off : Nat} {cs : Array Value} {d : TypeDesc} (hu : P.underlying e = some d) (hd : d.isRow = true) (hi : (P.info? e).map (·.size) = some s) (w : World) : (part e cs off).run P w = .ok (.agg (cs.extract off (off + s))) w := by
  have hagg : (isAgg e).run P w = .ok true w := by
    unfold isAgg
    rw [Sem.run_bind, run_underlying hu w]
    cases d <;> simp_all
  cases hq : P.info? e with
  | none => simp [hq] at hi
  | some i =>
    have hs : i.size = s := by simpa [hq] using hi
    simp [part, Sem.run_bind, hagg, sizeOf, typeInfo, hq, hs]
theorem run_index_row {t e : TypeId} {n s k : Nat} {cs : Array Value} {d : TypeDesc} (ht : P.underlying t = some (.array n e)) (hu : P.underlying e = some d) (hd : d.isRow = true) (hi : (P.info? e).map (·.size) = some s) (hk : k < n) (K : Int) (hK : K = k) (w : World) :
    (Instr.index t (.agg cs) (.int .i64 K)).run P w = .ok (.agg (cs.extract (k * s) (k * s + s))) w := by
  subst hK
  have hsz : (sizeOf e).run P w = .ok s w := by
    cases hq : P.info? e with
    | none => simp [hq] at hi
    | some i =>
      have hs : i.size = s := by simpa [hq] using hi
      simp [sizeOf, typeInfo, hq, hs]
  simp [Instr.index, run_underlying ht, asIntOf, hk, hsz, run_part_row hu hd hi]
end
theorem Try.infoYarns : (Try.prog.info? 83).map (·.size) = some 66 := by kernel_rfl
theorem Try.infoSid2 : (Try.prog.info? 80).map (·.size) = some 2 := by kernel_rfl
theorem state_n (k a b : Nat) (F0 F1 : Value) (p q : List Int) (hp : p.length = 64) (hk : k < 2) (K : Int) (hK : K = k) : ∃ X1 X2 : Array Value,
    (∀ w, (Instr.index 85 (.agg (stL a b F0 F1 p q).toArray) (.int .i64 K)).run Try.prog w = .ok (.agg X1) w) ∧ (∀ w, (Instr.field 83 (.agg X1) 0).run Try.prog w = .ok (.agg X2) w) ∧
    ∀ w, (Instr.field 80 (.agg X2) 0).run Try.prog w = .ok (.int .i64 (N2 a b k)) w := by
  refine ⟨(stL a b F0 F1 p q).toArray.extract (k * 66) (k * 66 + 66), ((stL a b F0 F1 p q).toArray.extract (k * 66) (k * 66 + 66)).extract 0 (0 + 2), fun w => run_index_row Try.underlying85 Try.underlying83 rfl Try.infoYarns hk K hK w, fun w => ?_, fun w => ?_⟩
  · simp [Instr.field, run_underlying Try.underlying83, asAgg, run_part_row Try.underlying80 rfl Try.infoSid2]
  · have h0 : (stL a b F0 F1 p q)[k * 66]? = some (.int .i64 (N2 a b k)) := by
      rcases (show k = 0 ∨ k = 1 by omega) with rfl | rfl
      · exact stL_0
      · exact stL_66 hp
    have hz : (isAgg 3).run Try.prog w = .ok false w := by
      unfold isAgg
      rw [Sem.run_bind, run_underlying Try.underlying3 w]
      rfl
    simp [Instr.field, run_underlying Try.underlying80, asAgg, part, hz, h0]
end Go.Proofs.Ytefeghpglacghaa
