/- Logs of looms as lists: what a log reads, and its error. Nothing here names a function of the program. -/
import Derived.Test.YtfjdlbilnoojkaaLQz
namespace Go.Proofs.Ytfjdlbilnoojkaa
open Go.RowKit

/-- An event: its kind and its lifts. -/
abbrev Ev := Int × List Bool
/-- The slice of n events reads the log l. -/
def LogR (w : World) (A : Option Addr) (n : Nat) (l : List Ev) : Prop :=
  l.length = n ∧ (0 < n → ∃ b o, A = some ⟨b, o, none⟩ ∧ b < w.heap.size ∧ ∀ i q r, l[i]? = some (q, r) →
    w.cell? ⟨b, o + i * 2, none⟩ = some (.int .u8 q) ∧ ∃ A' c, w.cell? ⟨b, o + i * 2 + 1, none⟩ = some (.slice A' r.length c) ∧ Rd w A' r.length (r.map Value.bool))
section
variable {w w' : World} {A : Option Addr} {n : Nat} {l : List Ev}
theorem LogR.len (h : LogR w A n l) : l.length = n := h.1
theorem LogR.below (h : LogR w A n l) (hb : Below w.heap.size w w') : LogR w' A n l := by
  refine ⟨h.1, fun hn => ?_⟩
  obtain ⟨b, o, hA, hlt, hc⟩ := h.2 hn
  refine ⟨b, o, hA, Nat.lt_of_lt_of_le hlt hb.size, fun i q r hi => ?_⟩
  obtain ⟨h1, A', c, h2, h3⟩ := hc i q r hi
  exact ⟨(hb.cell hlt).trans h1, A', c, (hb.cell hlt).trans h2, h3.below hb⟩
theorem LogR.drew (h : LogR w A n l) : LogR w.drew A n l := h
theorem LogR.at_ (h : LogR w A n l) {i : Nat} (hi : i < n) : ∃ b o q r A' c, A = some ⟨b, o, none⟩ ∧ b < w.heap.size ∧ l[i]? = some (q, r) ∧
    w.cell? ⟨b, o + i * 2, none⟩ = some (.int .u8 q) ∧ w.cell? ⟨b, o + i * 2 + 1, none⟩ = some (.slice A' r.length c) ∧ Rd w A' r.length (r.map Value.bool) := by
  obtain ⟨b, o, hA, hlt, hc⟩ := h.2 (by omega)
  have hi' : i < l.length := by rw [h.1]; exact hi
  obtain ⟨h1, A', c, h2, h3⟩ := hc i l[i].1 l[i].2 (List.getElem?_eq_getElem hi')
  exact ⟨b, o, _, _, A', c, hA, hlt, List.getElem?_eq_getElem hi', h1, h2, h3⟩
theorem LogR.base {b o : Nat} (h : LogR w (some ⟨b, o, none⟩) n l) (hn : 0 < n) : b < w.heap.size := by
  obtain ⟨b', o', hA, hlt, _⟩ := h.2 hn
  injection hA with e
  injection e with e1 _
  omega
theorem LogR.lit {b o i : Nat} (h : LogR w (some ⟨b, o, none⟩) n l) {q : Int} {r : List Bool} (hi : l[i]? = some (q, r)) :
    w.cell? ⟨b, o + i * 2, none⟩ = some (.int .u8 q) ∧ ∃ A' c, w.cell? ⟨b, o + i * 2 + 1, none⟩ = some (.slice A' r.length c) ∧ Rd w A' r.length (r.map Value.bool) := by
  have hn : 0 < n := by
    have h1 := (List.getElem?_eq_some_iff.1 hi).1
    have h2 := h.1
    omega
  obtain ⟨b', o', hA, hlt, hc⟩ := h.2 hn
  injection hA with e
  injection e with e1 e2
  subst e1 e2
  exact hc i q r hi
end

/-- An event is valid. -/
def evOk (N : Int) (e : Ev) : Prop := (e.1 = 1 ∧ (e.2.length : Int) = N) ∨ ((e.1 = 2 ∨ e.1 = 3) ∧ e.2.length = 0)
instance (N : Int) (e : Ev) : Decidable (evOk N e) := by unfold evOk; exact inferInstance
/-- The error of a log. -/
def chkE (N : Int) (l : List Ev) : Int := if N < 1 ∨ 40 < N then 2 else if 400 < l.length then 4 else if ∀ e ∈ l, evOk N e then 0 else 8
theorem chkE_arg {N : Int} {l : List Ev} (h : N < 1 ∨ 40 < N) : chkE N l = 2 := by unfold chkE; rw [if_pos h]
theorem chkE_many {N : Int} {l : List Ev} (h : ¬ (N < 1 ∨ 40 < N)) (h2 : 400 < l.length) : chkE N l = 4 := by unfold chkE; rw [if_neg h, if_pos h2]
theorem chkE_ok {N : Int} {l : List Ev} (h : ¬ (N < 1 ∨ 40 < N)) (h2 : ¬ 400 < l.length) (h3 : ∀ e ∈ l, evOk N e) : chkE N l = 0 := by unfold chkE; rw [if_neg h, if_neg h2, if_pos h3]
theorem chkE_bad {N : Int} {l : List Ev} (h : ¬ (N < 1 ∨ 40 < N)) (h2 : ¬ 400 < l.length) {i : Nat} {e : Ev} (hi : l[i]? = some e) (h3 : ¬ evOk N e) : chkE N l = 8 := by
  unfold chkE
  rw [if_neg h, if_neg h2, if_neg (fun h4 => h3 (h4 e (List.mem_of_getElem? hi)))]
theorem chkE_zero {N : Int} {l : List Ev} (h : chkE N l = 0) : (1 ≤ N ∧ N ≤ 40) ∧ l.length ≤ 400 ∧ ∀ e ∈ l, evOk N e := by
  unfold chkE at h
  split at h
  · simp at h
  · split at h
    · simp at h
    · split at h
      · rename_i h1 h2 h3
        exact ⟨by omega, by omega, h3⟩
      · simp at h
/-- The events before k are valid. -/
def okTo (N : Int) (l : List Ev) (k : Nat) : Prop := ∀ i e, i < k → l[i]? = some e → evOk N e
theorem okTo_zero (N : Int) (l : List Ev) : okTo N l 0 := fun i e h => absurd h (by omega)
theorem okTo_succ {N : Int} {l : List Ev} {k : Nat} {e : Ev} (h : okTo N l k) (he : l[k]? = some e) (h1 : evOk N e) : okTo N l (k + 1) := fun i e' hi hi' => by
  by_cases hik : i = k
  · subst hik
    rw [he] at hi'
    injection hi' with h2
    exact h2 ▸ h1
  · exact h i e' (by omega) hi'
theorem okTo_all {N : Int} {l : List Ev} {n : Nat} (hl : l.length = n) (h : okTo N l n) : ∀ e ∈ l, evOk N e := fun e he => by
  obtain ⟨i, hi, rfl⟩ := List.getElem_of_mem he
  exact h i _ (by omega) (List.getElem?_eq_getElem hi)
/-- A log is larger than the statements consider. -/
def greatE (l : List Ev) : Bool := decide ((∃ e ∈ l, 50 < e.2.length) ∨ (60 < l.length ∧ l.length ≤ 400) ∨ 410 < l.length)
theorem greatE_yes {l : List Ev} {i : Nat} {q : Int} {r : List Bool} (hi : l[i]? = some (q, r)) (h : 50 < r.length) : greatE l = true := decide_eq_true (.inl ⟨_, List.mem_of_getElem? hi, h⟩)
theorem greatE_rest {l : List Ev} {n : Nat} (hl : l.length = n) (h : ∀ i q r, i < n → l[i]? = some (q, r) → r.length ≤ 50) : greatE l = decide ((60 < n ∧ n ≤ 400) ∨ 410 < n) := by
  unfold greatE
  refine decide_eq_decide.2 ⟨?_, fun h => .inr (hl ▸ h)⟩
  rintro (⟨e, he, h1⟩ | h1)
  · obtain ⟨i, hi, rfl⟩ := List.getElem_of_mem he
    have := h i l[i].1 l[i].2 (by omega) (List.getElem?_eq_getElem hi)
    omega
  · exact hl ▸ h1
theorem greatE_no {l : List Ev} (h : greatE l = false) : (∀ e ∈ l, e.2.length ≤ 50) ∧ l.length ≤ 410 := by
  unfold greatE at h
  have := of_decide_eq_false h
  refine ⟨fun e he => ?_, by omega⟩
  by_cases h1 : 50 < e.2.length
  · exact absurd (.inl ⟨e, he, h1⟩) this
  · omega
end Go.Proofs.Ytfjdlbilnoojkaa
