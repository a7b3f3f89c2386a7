/- Parts of the proof, in their order. -/
import Derived.Test.YtefeghpglacghaaFirstFz
import Derived.Test.YtefeghpglacghaaPicPz
import Derived.Test.YtefeghpglacghaaMg4z
/- Fits as functions and as lists; least fits and lists in order. No program in sight. -/
namespace Go.Proofs.Ytefeghpglacghaa
open Go.RowKit

section
variable {a b : Nat} {cs p q P Q : List Int}
theorem fineL_of {l : List Int} (h : ∀ i, i < l.length → 0 ≤ l.getD i 0 ∧ l.getD i 0 ≤ 15) : fineL l = true := by
  unfold fineL
  rw [List.all_eq_true]
  intro z hz
  obtain ⟨i, hi, rfl⟩ := List.getElem_of_mem hz
  have := h i hi
  rw [List.getD_eq_getElem?_getD, List.getElem?_eq_getElem hi] at this
  exact decide_eq_true this
theorem fitF_fine (hp : p.length = a) (hq : q.length = b) (h : FitF (N2 a b) (M2 a cs) (F2 p q)) : fineL p = true ∧ fineL q = true := by
  refine ⟨fineL_of fun i hi => ?_, fineL_of fun i hi => ?_⟩
  · have := h.val 0 i (by omega) (by rw [n2_0]; omega)
    rw [f2_0 hi] at this
    exact this
  · have := h.val 1 i (by omega) (by rw [n2_1]; omega)
    rw [f2_1 hi] at this
    exact this
theorem fitF_lists (hp : p.length = a) (hq : q.length = b) (hfp : fineL p = true) (hfq : fineL q = true) : FitF (N2 a b) (M2 a cs) (F2 p q) ↔ fitB a b cs p q = true := by
  constructor
  · intro h
    refine fitB_true fun j hj => ?_
    obtain ⟨x, y, hx, hy, rfl⟩ := Pl.cell_split hj
    rw [fitC_at hx]
    have := (f2_fit hp hq).1 h.fit x y hx hy
    rw [Bool.or_eq_true, decide_eq_true_eq, decide_eq_true_eq]
    exact this
  · intro h
    refine ⟨(f2_fit hp hq).2 fun x y hx hy => ?_, fun k i hk hi => ?_⟩
    · unfold fitB at h
      rw [List.all_eq_true] at h
      have := h (y * a + x) (List.mem_range.2 (Pl.cell_lt hx hy))
      rw [fitC_at hx, Bool.or_eq_true, decide_eq_true_eq, decide_eq_true_eq] at this
      exact this
    · rcases (show k = 0 ∨ k = 1 by omega) with rfl | rfl
      · have hi' : i < a := hi
        rw [f2_0 (by omega)]
        exact fineL_get hfp (by omega)
      · have hi' : i < b := hi
        rw [f2_1 (by omega)]
        exact fineL_get hfq (by omega)
theorem app_left {x : Nat} (hp : p.length = a) (hx : x < a) : (p ++ q).getD x 0 = p.getD x 0 := by
  rw [List.getD_eq_getElem?_getD, List.getElem?_append_left (by omega), List.getD_eq_getElem?_getD]
theorem app_right {y : Nat} (hp : p.length = a) : (p ++ q).getD (a + y) 0 = q.getD y 0 := by
  rw [List.getD_eq_getElem?_getD, List.getElem?_append_right (by omega), List.getD_eq_getElem?_getD, hp, Nat.add_sub_cancel_left]
/-- The least fit before another one, as lists. -/
theorem lex_lists (hP : P.length = a) (hQ : Q.length = b) (hp : p.length = a) (hq : q.length = b) (h : LexLe (N2 a b) 2 0 (F2 P Q) (F2 p q)) :
    (∀ i, i < a + b → (P ++ Q).getD i 0 = (p ++ q).getD i 0) ∨ ∃ d, d < a + b ∧ (P ++ Q).getD d 0 < (p ++ q).getD d 0 ∧ ∀ i, i < d → (P ++ Q).getD i 0 = (p ++ q).getD i 0 := by
  rcases h with h | ⟨kd, jd, h1, h2, _, h4, h5⟩
  · refine .inl fun i hi => ?_
    by_cases hia : i < a
    · rw [app_left hP hia, app_left hp hia, ← f2_0 (q := Q) (by omega), ← f2_0 (p := p) (q := q) (by omega)]
      exact (h 0 i (by omega) hia (.inl (by omega))).symm
    · obtain ⟨y, rfl⟩ : ∃ y, i = a + y := ⟨i - a, by omega⟩
      rw [app_right hP, app_right hp, ← f2_1 (p := P) (by omega), ← f2_1 (p := p) (q := q) (by omega)]
      exact (h 1 y (by omega) (by rw [n2_1]; omega) (.inl (by omega))).symm
  · rcases (show kd = 0 ∨ kd = 1 by omega) with rfl | rfl
    · have hj : jd < a := h2
      rw [f2_0 (by omega), f2_0 (by omega)] at h4
      refine .inr ⟨jd, by omega, by rw [app_left hP hj, app_left hp hj]; exact h4, fun i hi => ?_⟩
      rw [app_left hP (by omega), app_left hp (by omega), ← f2_0 (q := Q) (by omega), ← f2_0 (p := p) (q := q) (by omega)]
      exact (h5 0 i (by omega) (by rw [n2_0]; omega) (.inr ⟨rfl, hi⟩)).symm
    · have hj : jd < b := h2
      rw [f2_1 (by omega), f2_1 (by omega)] at h4
      refine .inr ⟨a + jd, by omega, by rw [app_right hP, app_right hp]; exact h4, fun i hi => ?_⟩
      by_cases hia : i < a
      · rw [app_left hP hia, app_left hp hia, ← f2_0 (q := Q) (by omega), ← f2_0 (p := p) (q := q) (by omega)]
        exact (h5 0 i (by omega) hia (.inl (by omega))).symm
      · obtain ⟨y, rfl⟩ : ∃ y, i = a + y := ⟨i - a, by omega⟩
        rw [app_right hP, app_right hp, ← f2_1 (p := P) (by omega), ← f2_1 (p := p) (q := q) (by omega)]
        exact (h5 1 y (by omega) (by rw [n2_1]; omega) (.inr ⟨rfl, by omega⟩)).symm
/-- What a walk over both lists meets: equal numbers, or a lesser one. -/
theorem lex_step {L O : List Int} {n i : Nat} (h : (∀ i, i < n → L.getD i 0 = O.getD i 0) ∨ ∃ d, d < n ∧ L.getD d 0 < O.getD d 0 ∧ ∀ i, i < d → L.getD i 0 = O.getD i 0) (hi : i < n) (hb : ∀ j, j < i → L.getD j 0 = O.getD j 0) (hne : L.getD i 0 ≠ O.getD i 0) : L.getD i 0 < O.getD i 0 := by
  rcases h with h | ⟨d, h1, h2, h3⟩
  · exact absurd (h i hi) hne
  · rcases Nat.lt_trichotomy d i with hd | hd | hd
    · have := hb d hd
      omega
    · subst hd; exact h2
    · exact absurd (h3 i hd) hne
/-- The front of a cloth fits its own colours. -/
theorem front_fits {bs : List Bool} (hp : p.length = a) (hq : q.length = b) (hfp : fineL p = true) (hfq : fineL q = true) : FitF (N2 a b) (M2 a (Pl.tab a b (frontF a bs p q))) (F2 p q) := by
  rw [fitF_lists hp hq hfp hfq]
  refine fitB_true fun j hj => ?_
  obtain ⟨x, y, hx, hy, rfl⟩ := Pl.cell_split hj
  rw [fitC_at hx, tab_getD _ 0 hx hy]
  unfold frontF
  cases bs.getD (y * a + x) false <;> simp
end
end Go.Proofs.Ytefeghpglacghaa
/- A part of a state by value: how many threads a side has. -/
namespace Go.Proofs.Ytefeghpglacghaa
open Go.RowKit
section
variable {P : Program}
theorem run_part_row {e : TypeId} {s off : Nat} {cs : Array Value} {d : TypeDesc} (hu : P.underlying e = some d) (hd : d.isRow = true) (hi : (P.info? e).map (·.size) = some s) (w : World) : (part e cs off).run P w = .ok (.agg (cs.extract off (off + s))) w := by
  have hagg : (isAgg e).run P w = .ok true w := by
    unfold isAgg
    rw [Sem.run_bind, run_underlying hu w]
    cases d <;> simp_all
  cases hq : P.info? e with
  | none => simp [hq] at hi
  | some i =>
    have hs : i.size = s := by simpa [hq] using hi
    simp [part, Sem.run_bind, hagg, sizeOf, typeInfo, hq, hs]
theorem run_index_row {t e : TypeId} {n s k : Nat} {cs : Array Value} {d : TypeDesc} (ht : P.underlying t = some (.array n e)) (hu : P.underlying e = some d) (hd : d.isRow = true) (hi : (P.info? e).map (·.size) = some s) (hk : k < n) (K : Int) (hK : K = k) (w : World) :
    (Instr.index t (.agg cs) (.int .i64 K)).run P w = .ok (.agg (cs.extract (k * s) (k * s + s))) w := by
  subst hK
  have hsz : (sizeOf e).run P w = .ok s w := by
    cases hq : P.info? e with
    | none => simp [hq] at hi
    | some i =>
      have hs : i.size = s := by simpa [hq] using hi
      simp [sizeOf, typeInfo, hq, hs]
  simp [Instr.index, run_underlying ht, asIntOf, hk, hsz, run_part_row hu hd hi]
end
theorem Try.infoYarns : (Try.prog.info? 83).map (·.size) = some 66 := by kernel_rfl
theorem Try.infoSid2 : (Try.prog.info? 80).map (·.size) = some 2 := by kernel_rfl
theorem state_n (k a b : Nat) (F0 F1 : Value) (p q : List Int) (hp : p.length = 64) (hk : k < 2) (K : Int) (hK : K = k) : ∃ X1 X2 : Array Value,
    (∀ w, (Instr.index 85 (.agg (stL a b F0 F1 p q).toArray) (.int .i64 K)).run Try.prog w = .ok (.agg X1) w) ∧ (∀ w, (Instr.field 83 (.agg X1) 0).run Try.prog w = .ok (.agg X2) w) ∧
    ∀ w, (Instr.field 80 (.agg X2) 0).run Try.prog w = .ok (.int .i64 (N2 a b k)) w := by
  refine ⟨(stL a b F0 F1 p q).toArray.extract (k * 66) (k * 66 + 66), ((stL a b F0 F1 p q).toArray.extract (k * 66) (k * 66 + 66)).extract 0 (0 + 2), fun w => run_index_row Try.underlying85 Try.underlying83 rfl Try.infoYarns hk K hK w, fun w => ?_, fun w => ?_⟩
  · simp [Instr.field, run_underlying Try.underlying83, asAgg, run_part_row Try.underlying80 rfl Try.infoSid2]
  · have h0 : (stL a b F0 F1 p q)[k * 66]? = some (.int .i64 (N2 a b k)) := by
      rcases (show k = 0 ∨ k = 1 by omega) with rfl | rfl
      · exact stL_0
      · exact stL_66 hp
    have hz : (isAgg 3).run Try.prog w = .ok false w := by
      unfold isAgg
      rw [Sem.run_bind, run_underlying Try.underlying3 w]
      rfl
    simp [Instr.field, run_underlying Try.underlying80, asAgg, part, hz, h0]
end Go.Proofs.Ytefeghpglacghaa
