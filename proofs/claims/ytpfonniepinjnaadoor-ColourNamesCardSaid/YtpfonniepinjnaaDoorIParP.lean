/- What colour.Parse reads: plain. No program in sight. -/
import Derived.Test.YtpfonniepinjnaaDoorIm
import Derived.Test.YtpfonniepinjnaaDoorSplP
namespace Go.Proofs.YtpfonniepinjnaaDoor
open Go.RowKit

/-- The colours of a line. -/
def colsC (l : List UInt8) : List Int := l.map fun u => (u.toNat : Int) - 97
def cellsC (R : List (List UInt8)) : List Int := R.reverse.flatMap colsC
theorem colsC_len (l : List UInt8) : (colsC l).length = l.length := List.length_map _
theorem colsC_take {l : List UInt8} {x : Nat} (hx : x < l.length) : colsC (l.take (x + 1)) = colsC (l.take x) ++ [((l.getD x 0).toNat : Int) - 97] := by
  unfold colsC
  rw [List.take_add_one, List.getElem?_eq_getElem hx, List.getD_eq_getElem?_getD, List.getElem?_eq_getElem hx, List.map_append]
  rfl
/-- The image with some lines, if they make one. -/
def imgL (R : List (List UInt8)) : Im × Int :=
  if (∀ l ∈ R, l.length = (R.headD []).length) ∧ chkI ⟨(R.headD []).length, R.length, cellsC R⟩ = 0 then (⟨(R.headD []).length, R.length, cellsC R⟩, 0) else (Im.zero, 12)
def parseI (s : List UInt8) : Im × Int :=
  if Lib.hasSuffix s [10] = true ∧ (spl (Lib.trimSuffix s [10])).length ≤ 64 then imgL (spl (Lib.trimSuffix s [10])) else (Im.zero, 12)
theorem parseI_no {s : List UInt8} (h : Lib.hasSuffix s [10] = false ∨ 64 < (spl (Lib.trimSuffix s [10])).length) : parseI s = (Im.zero, 12) := by
  unfold parseI
  rw [if_neg]
  rintro ⟨h1, h2⟩
  rcases h with h | h
  · rw [h] at h1; cases h1
  · omega
theorem parseI_lines {s : List UInt8} (h : Lib.hasSuffix s [10] = true) (h2 : (spl (Lib.trimSuffix s [10])).length ≤ 64) : parseI s = imgL (spl (Lib.trimSuffix s [10])) := by
  unfold parseI
  rw [if_pos ⟨h, h2⟩]
theorem imgL_no {R : List (List UInt8)} {l : List UInt8} (hl : l ∈ R) (h : l.length ≠ (R.headD []).length) : imgL R = (Im.zero, 12) := by
  unfold imgL
  rw [if_neg]
  rintro ⟨h1, _⟩
  exact h (h1 l hl)
theorem imgL_bad {R : List (List UInt8)} (h : chkI ⟨(R.headD []).length, R.length, cellsC R⟩ ≠ 0) : imgL R = (Im.zero, 12) := by
  unfold imgL
  rw [if_neg]
  rintro ⟨_, h1⟩
  exact h h1
theorem imgL_ok {R : List (List UInt8)} (h0 : ∀ l ∈ R, l.length = (R.headD []).length) (h : chkI ⟨(R.headD []).length, R.length, cellsC R⟩ = 0) : imgL R = (⟨(R.headD []).length, R.length, cellsC R⟩, 0) := by
  unfold imgL
  rw [if_pos ⟨h0, h⟩]
/-- The lines of a text are no longer than it. -/
theorem spl_le {s : List UInt8} {l : List UInt8} (hl : l ∈ spl s) : l.length ≤ s.length := by
  have e := congrArg List.length (nl_spl s)
  rw [List.length_append, List.length_singleton] at e
  unfold nl at e
  obtain ⟨a, b, hab⟩ := List.append_of_mem hl
  rw [hab, List.flatMap_append, List.flatMap_cons] at e
  simp only [List.length_append, List.length_singleton] at e
  omega
theorem cells_len (R : List (List UInt8)) : (cellsC R).length + R.length = (nl R).length := by
  unfold cellsC nl
  rw [List.length_flatMap, List.length_flatMap]
  induction R with
  | nil => rfl
  | cons r R ih =>
    simp only [List.reverse_cons, List.map_append, List.sum_append, List.map_cons, List.map_nil, List.sum_cons, List.sum_nil, List.length_cons, List.length_append, List.length_nil] at ih ⊢
    rw [colsC_len]
    omega
theorem cells_le (s : List UInt8) : (cellsC (spl s)).length ≤ s.length := by
  have h1 := cells_len (spl s)
  rw [nl_spl, List.length_append, List.length_singleton] at h1
  have h2 : 1 ≤ (spl s).length := List.length_pos_iff.2 (spl_ne s)
  omega
end Go.Proofs.YtpfonniepinjnaaDoor
