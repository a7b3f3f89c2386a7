/- Rows of 16 flags each, of the call's own: they grow, and are stored into in place. -/
import Derived.Test.YtefeghpglacghaaLLz
namespace Go.Proofs.Ytefeghpglacghaa
open Go.RowKit

/-- A row of flags. -/
def flags (f : Nat → Bool) : List Value := (List.range 16).map fun d => Value.bool (f d)
theorem flags_len (f : Nat → Bool) : (flags f).length = 16 := by simp [flags]
theorem flags_at {f : Nat → Bool} {d : Nat} (hd : d < 16) : (flags f)[d]? = some (Value.bool (f d)) := by simp [flags, hd]
theorem flags_congr {f g : Nat → Bool} (h : ∀ d, d < 16 → f d = g d) : flags f = flags g := by
  unfold flags
  refine List.map_congr_left fun d hd => ?_
  rw [h d (List.mem_range.1 hd)]
theorem flags_set (f : Nat → Bool) (k : Nat) (v : Bool) : (flags f).set k (.bool v) = flags fun d => if d = k then v else f d := by
  refine List.ext_getElem? fun i => ?_
  by_cases hi : i < 16
  · by_cases e : k = i
    · subst e
      rw [List.getElem?_set_self (by rw [flags_len]; exact hi), flags_at hi, if_pos rfl]
    · rw [List.getElem?_set_ne e, flags_at hi, flags_at hi, if_neg (fun q => e q.symm)]
  · rw [List.getElem?_eq_none (by rw [List.length_set, flags_len]; omega), List.getElem?_eq_none (by rw [flags_len]; omega)]
theorem flags_none : flags (fun _ => false) = (List.replicate 16 false).map Value.bool := rfl

theorem blk_of_own {w : World} {base e g n c : Nat} {xs : List Value} (h : w.ownsRow base e 1 (.slice (some ⟨g, 0, none⟩) n c) n xs) : ∃ cs, Blk w g e cs := by
  rcases h.2 with ⟨e0, _⟩ | ⟨g', cap, cur, e0, _, hB, _⟩
  · cases e0
  · injection e0 with e1 _ _
    injection e1 with e1
    injection e1 with e1 _
    subst e1
    exact ⟨_, hB⟩
/-- A row that the call owns is kept where a block of another kind is stored into. -/
theorem own_other {w w' : World} {base e k n : Nat} {v : Value} {xs : List Value} (h : w.ownsRow base e 1 v n xs) (hg : w.grownBy w' (some k)) (hk : ∃ t cs, Blk w k t cs ∧ e ≠ t) : w'.ownsRow base e 1 v n xs := by
  obtain ⟨t, cs, hB, hne⟩ := hk
  exact h.kept (row := some k) hg (.inr fun e => own_blk_ne h hB hne e.symm)

structure Al (w : World) (base tL tE : Nat) (v : Value) (n : Nat) (gs : List Nat) (F : Nat → Nat → Bool) : Prop where
  len : gs.length = n
  outer : w.ownsRow base tL 1 v n (gs.map fun g => Value.slice (some ⟨g, 0, none⟩) 16 16)
  row : ∀ i g, gs[i]? = some g → w.ownsRow base tE 1 (.slice (some ⟨g, 0, none⟩) 16 16) 16 (flags (F i))
  nodup : gs.Nodup
section
variable {w w' : World} {base tL tE n : Nat} {v : Value} {gs : List Nat} {F : Nat → Nat → Bool}
theorem Al.nil (w : World) (base tL tE : Nat) (F : Nat → Nat → Bool) : Al w base tL tE (.slice none 0 0) 0 [] F := ⟨rfl, World.ownsRow_nil _ _ _ _, fun i l h => by simp at h, List.nodup_nil⟩
theorem Al.below (h : Al w base tL tE v n gs F) (hb : Below w.heap.size w w') : Al w' base tL tE v n gs F := by
  obtain ⟨hl, ho, hr, hn⟩ := h
  obtain ⟨A, c, rfl, _⟩ := own_shape ho
  exact ⟨hl, own_below ho hb, fun i g hi => own_below (hr i g hi) hb, hn⟩
theorem Al.push (h : Al w base tL tE v n gs F) (hne : tE ≠ tL) (hF : ∀ d, F n d = false) {g' : Nat} {v' : Value} (hfr : ∀ g ∈ gs, g < g') (hnew : w.ownsRow base tE 1 (.slice (some ⟨g', 0, none⟩) 16 16) 16 ((List.replicate 16 false).map Value.bool))
    (hx2 : w'.ownsRow base tL 1 v' (n + 1) ((gs.map fun g => Value.slice (some ⟨g, 0, none⟩) 16 16) ++ [.slice (some ⟨g', 0, none⟩) 16 16])) (hg : w.grownBy w' v.ownBlock) : Al w' base tL tE v' (n + 1) (gs ++ [g']) F := by
  obtain ⟨hl, ho, hr, hn⟩ := h
  have kept : ∀ {g2 : Nat} {ys : List Value}, w.ownsRow base tE 1 (.slice (some ⟨g2, 0, none⟩) 16 16) 16 ys → w'.ownsRow base tE 1 (.slice (some ⟨g2, 0, none⟩) 16 16) 16 ys := fun {g2 ys} hh => by
    refine hh.kept (row := v.ownBlock) hg ?_
    obtain ⟨cs, hB⟩ := blk_of_own hh
    exact .inr (own_blk_ne (g := g2) ho hB (fun e => hne e.symm))
  refine ⟨by rw [List.length_append, hl]; rfl, by rw [List.map_append]; exact hx2, fun i g hi => ?_, ?_⟩
  · by_cases hlt : i < gs.length
    · rw [List.getElem?_append_left hlt] at hi
      exact kept (hr i g hi)
    · rw [List.getElem?_append_right (by omega)] at hi
      have hi0 : i - gs.length = 0 := by
        have := (List.getElem?_eq_some_iff.1 hi).1
        simp at this
        omega
      rw [hi0] at hi
      simp at hi
      subst hi
      obtain rfl : i = n := by omega
      rw [show F i = fun _ => false from funext hF, flags_none]
      exact kept hnew
  · rw [List.nodup_append]
    refine ⟨hn, by simp, fun x hx y hy => ?_⟩
    rw [List.mem_singleton] at hy
    subst hy
    have := hfr x hx
    omega
theorem Al.put (h : Al w base tL tE v n gs F) (hne : tE ≠ tL) {i g : Nat} {f : Nat → Bool} (hi : gs[i]? = some g) (hrow : w'.ownsRow base tE 1 (.slice (some ⟨g, 0, none⟩) 16 16) 16 (flags f)) (hg : w.grownBy w' (some g)) :
    Al w' base tL tE v n gs (fun j d => if j = i then f d else F j d) := by
  obtain ⟨hl, ho, hr, hn⟩ := h
  obtain ⟨cs, hB⟩ := blk_of_own (hr i g hi)
  refine ⟨hl, own_other ho hg ⟨_, _, hB, fun e => hne e.symm⟩, fun j g2 hj => ?_, hn⟩
  by_cases e : j = i
  · subst e
    rw [hi] at hj
    injection hj with hj
    subst hj
    simp only [if_true]
    exact hrow
  · simp only [if_neg e]
    refine (hr j g2 hj).kept (row := some g) hg (.inr fun q => ?_)
    have hq : some g2 = some g := q
    injection hq with hq
    subst hq
    obtain ⟨hi1, hi2⟩ := List.getElem?_eq_some_iff.1 hi
    obtain ⟨hj1, hj2⟩ := List.getElem?_eq_some_iff.1 hj
    exact e ((List.getElem_inj hn).1 (hj2.trans hi2.symm))
theorem Al.other (h : Al w base tL tE v n gs F) {k : Nat} (hg : w.grownBy w' (some k)) (hk : ∃ t cs, Blk w k t cs ∧ tL ≠ t ∧ tE ≠ t) : Al w' base tL tE v n gs F := by
  obtain ⟨hl, ho, hr, hn⟩ := h
  obtain ⟨t, cs, hB, h1, h2⟩ := hk
  exact ⟨hl, own_other ho hg ⟨t, cs, hB, h1⟩, fun i g hi => own_other (hr i g hi) hg ⟨t, cs, hB, h2⟩, hn⟩
theorem Al.lt (h : Al w base tL tE v n gs F) {g : Nat} (hg : g ∈ gs) : base ≤ g ∧ g < w.heap.size := by
  obtain ⟨i, hi⟩ := List.getElem?_of_mem hg
  exact (h.row i g hi).lt g rfl
theorem Al.congr {F' : Nat → Nat → Bool} (h : Al w base tL tE v n gs F) (he : ∀ i d, i < n → d < 16 → F i d = F' i d) : Al w base tL tE v n gs F' := by
  obtain ⟨hl, ho, hr, hn⟩ := h
  refine ⟨hl, ho, fun i g hi => ?_, hn⟩
  have := (List.getElem?_eq_some_iff.1 hi).1
  rw [← flags_congr (fun d hd => he i d (by omega) hd)]
  exact hr i g hi
end
end Go.Proofs.Ytefeghpglacghaa
