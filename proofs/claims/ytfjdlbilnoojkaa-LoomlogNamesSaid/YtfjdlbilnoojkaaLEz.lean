/- Lists of events that are the call's own: each has two cells, its kind and its lifts. Nothing here names a function of the program. -/
import Derived.Test.YtfjdlbilnoojkaaLogz
namespace Go.Proofs.Ytfjdlbilnoojkaa
open Go.RowKit

/-- The slice v of n events is the call's own, from base on; it reads the log l. -/
def LE (w : World) (base tL tE : Nat) (v : Value) (n : Nat) (l : List Ev) : Prop :=
  l.length = n ∧ ∃ xs : List Value, w.ownsRow base tL 2 v n xs ∧ ∀ (i : Nat) (q : Int) (r : List Bool), l[i]? = some (q, r) → xs[i * 2]? = some (.int .u8 q) ∧ ∃ A c, xs[i * 2 + 1]? = some (.slice A r.length c) ∧ RowAt w base tE A r
section
variable {w w' : World} {base tL tE n : Nat} {v : Value} {l : List Ev} {row : Option Nat}
theorem own_shape2 {e : TypeId} {size : Nat} {xs : List Value} (h : w.ownsRow base e size v n xs) : ∃ A c, v = .slice A n c ∧ n ≤ c ∧ c ≤ maxLen := by
  rcases h.2 with ⟨rfl, rfl⟩ | ⟨g, cap, cur, rfl, _, _, h1, h2, _⟩
  · exact ⟨none, 0, rfl, Nat.le_refl _, Nat.zero_le _⟩
  · exact ⟨_, cap, rfl, h1, h2⟩
theorem LE.nil (w : World) (base tL tE : Nat) : LE w base tL tE (.slice none 0 0) 0 [] := ⟨rfl, [], World.ownsRow_nil _ _ _ _, fun i q r h => by simp at h⟩
theorem LE.len (h : LE w base tL tE v n l) : l.length = n := h.1
theorem LE.shape (h : LE w base tL tE v n l) : ∃ A c, v = .slice A n c ∧ n ≤ c ∧ c ≤ maxLen := by
  obtain ⟨_, xs, ho, _⟩ := h
  exact own_shape2 ho
theorem LE.below (h : LE w base tL tE v n l) (hb : Below w.heap.size w w') : LE w' base tL tE v n l := by
  obtain ⟨hl, xs, ho, hr⟩ := h
  refine ⟨hl, xs, ho.kept (below_grown hb none) ?_, fun i q r hi => ?_⟩
  · cases hv : v.ownBlock with
    | none => exact .inl rfl
    | some k => exact .inr (by simp)
  · obtain ⟨h1, A', c', h2, h3⟩ := hr i q r hi
    exact ⟨h1, A', c', h2, h3.below hb⟩
theorem LE.mono {base' : Nat} (h : LE w base tL tE v n l) (hb : base' ≤ base) (hl : ∀ b, b < base → b < base' ∨ ∃ cs fz, w.heap[b]? = some (.cells cs tE fz)) : LE w base' tL tE v n l := by
  obtain ⟨hl', xs, ho, hr⟩ := h
  refine ⟨hl', xs, ?_, fun i q r hi => ?_⟩
  · refine ⟨ho.1, ho.2.imp id fun ⟨g, cap, cur, h1, h2, h3⟩ => ⟨g, cap, cur, h1, Nat.le_trans hb h2, h3⟩⟩
  · obtain ⟨h1, A', c', h2, h3⟩ := hr i q r hi
    exact ⟨h1, A', c', h2, h3.1, fun b o hA hl'' => (h3.2 b o hA hl'').elim (fun h => hl b h) .inr⟩
theorem LE.read {A : Option Addr} {c : Nat} (h : LE w base tL tE (.slice A n c) n l) : LogR w A n l := by
  obtain ⟨hl, xs, ho, hr⟩ := h
  refine ⟨hl, fun hn => ?_⟩
  obtain ⟨g, cap, e, hb, hlt⟩ := ho.form hn
  injection e with e1 _ e3
  subst e1
  subst e3
  refine ⟨g, 0, rfl, hlt, fun i q r hi => ?_⟩
  obtain ⟨h1, A', c', h2, h3⟩ := hr i q r hi
  have hi' := (List.getElem?_eq_some_iff.1 hi).1
  rw [Nat.zero_add]
  refine ⟨?_, A', c', ?_, h3.1⟩
  · rw [ho.cellAt _ (by omega)]; exact h1
  · rw [ho.cellAt _ (by omega)]; exact h2
/-- The list, and what an append of one event leaves. -/
theorem LE.open (h : LE w base tL tE v n l) (hne : tL ≠ tE) : ∃ xs, w.ownsRow base tL 2 v n xs ∧ ∀ (w' : World) (v' : Value) (q : Int) (A' : Option Addr) (c' : Nat) (r : List Bool), RowAt w base tE A' r →
    w'.ownsRow base tL 2 v' (n + 1) (xs ++ [.int .u8 q, .slice A' r.length c']) → w.grownBy w' v.ownBlock → LE w' base tL tE v' (n + 1) (l ++ [(q, r)]) := by
  obtain ⟨hn, xs, hx, hr⟩ := h
  refine ⟨xs, hx, fun w' v' q A' c' r hl hx2 hg => ?_⟩
  have hxl : xs.length = n * 2 := hx.1
  have hrow : ∀ g, v.ownBlock = some g → base ≤ g ∧ ∀ cs fz, w.heap[g]? ≠ some (.cells cs tE fz) := fun g e => by
    refine ⟨(hx.lt g e).1, fun cs fz hh => ?_⟩
    rcases hx.2 with ⟨h0, _⟩ | ⟨g', cap, cur, hv, _, hB, _⟩
    · rw [h0] at e; simp [Value.ownBlock] at e
    · rw [hv] at e
      obtain rfl : g' = g := by simpa [Value.ownBlock] using e
      rw [hB] at hh
      injection hh with e1
      injection e1 with _ e2 _
      exact hne e2
  refine ⟨by rw [List.length_append, hn]; rfl, xs ++ [.int .u8 q, .slice A' r.length c'], hx2, fun i q' r' hi => ?_⟩
  by_cases hlt : i < l.length
  · rw [List.getElem?_append_left hlt] at hi
    obtain ⟨h0, A2, c2, h1, h2⟩ := hr i q' r' hi
    exact ⟨by rw [List.getElem?_append_left (by omega)]; exact h0, A2, c2, by rw [List.getElem?_append_left (by omega)]; exact h1, h2.grown hg hrow⟩
  · rw [List.getElem?_append_right (by omega)] at hi
    have hi0 : i - l.length = 0 := by
      have := (List.getElem?_eq_some_iff.1 hi).1
      simp at this
      omega
    have hin : i = n := by omega
    rw [hi0] at hi
    simp at hi
    obtain ⟨rfl, rfl⟩ := hi
    subst hin
    exact ⟨by rw [List.getElem?_append_right (by omega), hxl, Nat.sub_self]; rfl, A', c', by rw [List.getElem?_append_right (by omega), hxl, show i * 2 + 1 - i * 2 = 1 by omega]; rfl, hl.grown hg hrow⟩
end
end Go.Proofs.Ytfjdlbilnoojkaa
