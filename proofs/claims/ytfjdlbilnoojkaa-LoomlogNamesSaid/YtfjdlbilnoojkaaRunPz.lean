/- What a log weaves, in plain lists. Nothing here names a function of the program. -/
import Derived.Test.YtfjdlbilnoojkaaLogz
namespace Go.Proofs.Ytfjdlbilnoojkaa
open Go.RowKit

/-- One event: its error, and the picks behind it. -/
def stepL (p : List (List Bool)) (e : Ev) : Int × List (List Bool) :=
  if e.1 = 1 then (if p.length = 64 then (4, []) else (0, p ++ [e.2])) else if e.1 = 2 then (if p = [] then (36, []) else (0, p.dropLast)) else (0, p)
/-- What the events weave, up to the first error. -/
def runL (l : List Ev) : Int × List (List Bool) := l.foldl (fun s e => if s.1 ≠ 0 then s else stepL s.2 e) (0, [])
theorem runL_nil : runL [] = (0, []) := rfl
theorem runL_snoc (l : List Ev) (e : Ev) : runL (l ++ [e]) = if (runL l).1 ≠ 0 then runL l else stepL (runL l).2 e := by unfold runL; rw [List.foldl_append]; rfl
theorem take_snoc {α : Type} {l : List α} {k : Nat} {e : α} (h : l[k]? = some e) : l.take (k + 1) = l.take k ++ [e] := by
  have hk := (List.getElem?_eq_some_iff.1 h).1
  rw [List.take_add_one, h]; rfl
theorem runL_next {l : List Ev} {k : Nat} {e : Ev} {p : List (List Bool)} (h : runL (l.take k) = (0, p)) (he : l[k]? = some e) : runL (l.take (k + 1)) = stepL p e := by
  rw [take_snoc he, runL_snoc, h]; rfl
theorem foldl_stuck (l : List Ev) (s : Int × List (List Bool)) (h : s.1 ≠ 0) : l.foldl (fun s e => if s.1 ≠ 0 then s else stepL s.2 e) s = s := by
  induction l with
  | nil => rfl
  | cons a l ih => rw [List.foldl_cons, if_pos h]; exact ih
theorem runL_stuck {l : List Ev} {k : Nat} {s : Int × List (List Bool)} (h : runL (l.take k) = s) (hs : s.1 ≠ 0) : runL l = s := by
  have : runL (l.take k ++ l.drop k) = s := by
    unfold runL at h ⊢
    rw [List.foldl_append, h]
    exact foldl_stuck _ _ hs
  rwa [List.take_append_drop] at this
theorem runL_all {l : List Ev} {n : Nat} {s : Int × List (List Bool)} (hl : l.length = n) (h : runL (l.take n) = s) : runL l = s := by rwa [List.take_of_length_le (by omega)] at h
theorem stepL_len {p : List (List Bool)} {e : Ev} (h : p.length ≤ 64) : (stepL p e).2.length ≤ 64 := by
  unfold stepL
  split
  · split
    · simp
    · simp; omega
  · split
    · split
      · simp
      · simp; omega
    · exact h
theorem runL_len (l : List Ev) : (runL l).2.length ≤ 64 := by
  have : ∀ (l : List Ev) (s : Int × List (List Bool)), s.2.length ≤ 64 → (l.foldl (fun s e => if s.1 ≠ 0 then s else stepL s.2 e) s).2.length ≤ 64 := by
    intro l
    induction l with
    | nil => intro s h; exact h
    | cons a l ih =>
      intro s h
      rw [List.foldl_cons]
      refine ih _ ?_
      split
      · exact h
      · exact stepL_len h
  exact this l _ (by simp)
/-- All picks have an element for each shaft. -/
def RowsN (N : Nat) (p : List (List Bool)) : Prop := ∀ r ∈ p, r.length = N
theorem stepL_rows {N : Nat} {p : List (List Bool)} {e : Ev} (he : evOk N e) (h : RowsN N p) : RowsN N (stepL p e).2 := by
  unfold stepL
  split
  · rename_i h1
    split
    · exact fun r hr => by simp at hr
    · intro r hr
      rcases List.mem_append.1 hr with h2 | h2
      · exact h r h2
      · rw [List.mem_singleton.1 h2]
        rcases he with ⟨_, h3⟩ | ⟨h3, _⟩
        · omega
        · omega
  · split
    · split
      · exact fun r hr => by simp at hr
      · exact fun r hr => h r ((List.dropLast_sublist _).mem hr)
    · exact h
theorem runL_rows {N : Nat} {l : List Ev} (hl : ∀ e ∈ l, evOk N e) : RowsN N (runL l).2 := by
  have : ∀ (l : List Ev) (s : Int × List (List Bool)), (∀ e ∈ l, evOk N e) → RowsN N s.2 → RowsN N (l.foldl (fun s e => if s.1 ≠ 0 then s else stepL s.2 e) s).2 := by
    intro l
    induction l with
    | nil => intro s _ h; exact h
    | cons a l ih =>
      intro s hl h
      rw [List.foldl_cons]
      refine ih _ (fun e he => hl e (List.mem_cons_of_mem _ he)) ?_
      split
      · exact h
      · exact stepL_rows (hl a (List.mem_cons_self ..)) h
  exact this l _ hl (fun r hr => by simp at hr)
/-- What a log weaves on N shafts, with its error. -/
def runE (N : Int) (l : List Ev) : Int × List (List Bool) := if chkE N l ≠ 0 then (chkE N l, []) else if (runL l).1 ≠ 0 then ((runL l).1, []) else (0, (runL l).2)
theorem runE_chk {N : Int} {l : List Ev} (h : chkE N l ≠ 0) : runE N l = (chkE N l, []) := by unfold runE; rw [if_pos h]
theorem runE_err {N : Int} {l : List Ev} (h : chkE N l = 0) (h2 : (runL l).1 ≠ 0) : runE N l = ((runL l).1, []) := by unfold runE; rw [if_neg (by simpa using h), if_pos h2]
theorem runE_ok {N : Int} {l : List Ev} {p : List (List Bool)} (h : chkE N l = 0) (h2 : runL l = (0, p)) : runE N l = (0, p) := by unfold runE; rw [if_neg (by simpa using h), if_neg (by rw [h2]; simp), h2]
theorem runE_rows {N : Nat} {l : List Ev} : RowsN N (runE N l).2 ∧ (runE N l).2.length ≤ 64 := by
  unfold runE
  split
  · exact ⟨fun r hr => by simp at hr, by simp⟩
  · rename_i h
    split
    · exact ⟨fun r hr => by simp at hr, by simp⟩
    · exact ⟨runL_rows (chkE_zero (by simpa using h)).2.2, runL_len l⟩
end Go.Proofs.Ytfjdlbilnoojkaa
