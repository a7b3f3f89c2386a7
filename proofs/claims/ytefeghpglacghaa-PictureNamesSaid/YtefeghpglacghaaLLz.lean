/- Lists of lists of numbers that grow in memory of the call's own. -/
import Derived.Test.YtefeghpglacghaaLibz
import Derived.Deep.AppendLies
namespace Go.Proofs.Ytefeghpglacghaa
open Go.RowKit

/-- The slice v of n slices (of type tL, with elements of type tE) reads the lists ls; all of it is the call's own, from base on. -/
def LL (w : World) (base tL tE : Nat) (v : Value) (n : Nat) (ls : List (List Int)) : Prop :=
  ls.length = n ∧ ∃ xs : List Value, w.ownsRow base tL 1 v n xs ∧ ∀ (i : Nat) (l : List Int), ls[i]? = some l → ∃ A c, xs[i]? = some (.slice A l.length c) ∧ w.ownsRow base tE 1 (.slice A l.length c) l.length (l.map (Value.int .i64))
/-- The same, to be read alone. -/
def LR (w : World) (A : Option Addr) (ls : List (List Int)) : Prop :=
  ∃ xs : List Value, Rd w A ls.length xs ∧ ∀ (i : Nat) (l : List Int), ls[i]? = some l → ∃ A' c, xs[i]? = some (.slice A' l.length c) ∧ Rd w A' l.length (l.map (Value.int .i64))
section
variable {w w' : World} {base tL tE n c : Nat} {v : Value} {ls : List (List Int)} {A : Option Addr}
theorem LL.nil (w : World) (base tL tE : Nat) : LL w base tL tE (.slice none 0 0) 0 [] := ⟨rfl, [], World.ownsRow_nil _ _ _ _, fun i l h => by simp at h⟩
theorem LL.below (h : LL w base tL tE v n ls) (hb : Below w.heap.size w w') : LL w' base tL tE v n ls := by
  obtain ⟨hl, xs, ho, hr⟩ := h
  obtain ⟨A, c, rfl, _⟩ := own_shape ho
  exact ⟨hl, xs, own_below ho hb, fun i l hi => by
    obtain ⟨A', c', h1, h2⟩ := hr i l hi
    exact ⟨A', c', h1, own_below h2 hb⟩⟩
theorem LL.rebase {B : Nat} (h : LL w base tL tE v n ls) (hb : B ≤ base) : LL w B tL tE v n ls := by
  obtain ⟨hl, xs, ho, hr⟩ := h
  obtain ⟨A, c, rfl, _⟩ := own_shape ho
  exact ⟨hl, xs, own_base ho hb, fun i l hi => by
    obtain ⟨A', c', h1, h2⟩ := hr i l hi
    exact ⟨A', c', h1, own_base h2 hb⟩⟩
theorem LL.only {S : List Nat} (h : LL w base tL tE v n ls) (ho : Only S w w') (hS : ∀ g ∈ S, ∃ t cs, Blk w g t cs ∧ t ≠ tL ∧ t ≠ tE) : LL w' base tL tE v n ls := by
  obtain ⟨hl, xs, hx, hr⟩ := h
  obtain ⟨A, c, rfl, _⟩ := own_shape hx
  refine ⟨hl, xs, own_only hx ho (fun g hg hm => ?_), fun i l hi => ?_⟩
  · obtain ⟨t, cs, hB, h1, _⟩ := hS g hm
    exact own_blk_ne hx hB (fun e => h1 e.symm) hg.symm
  · obtain ⟨A', c', h1, h2⟩ := hr i l hi
    refine ⟨A', c', h1, own_only h2 ho (fun g hg hm => ?_)⟩
    obtain ⟨t, cs, hB, _, h3⟩ := hS g hm
    exact own_blk_ne h2 hB (fun e => h3 e.symm) hg.symm
theorem LL.far (h : LL w base tL tE v n ls) {p : Addr} (hp : p.block < base) (u : Value) : LL (w.setCell p u) base tL tE v n ls := by
  obtain ⟨hl, xs, hx, hr⟩ := h
  have ne : ∀ {e n2 : Nat} {v2 : Value} {ys : List Value}, w.ownsRow base e 1 v2 n2 ys → some p.block ≠ v2.ownBlock := fun ho he => by
    have := (ho.lt _ he.symm).1
    omega
  refine ⟨hl, xs, own_far hx (ne hx) u, fun i l hi => ?_⟩
  obtain ⟨A', c', h1, h2⟩ := hr i l hi
  exact ⟨A', c', h1, own_far h2 (ne h2) u⟩
/-- The outer slice, and what an append to it leaves. -/
theorem LL.open (h : LL w base tL tE v n ls) (hne : tL ≠ tE) : ∃ xs, w.ownsRow base tL 1 v n xs ∧ ∀ (w' : World) (v' : Value) (A' : Option Addr) (c' : Nat) (l : List Int), w.ownsRow base tE 1 (.slice A' l.length c') l.length (l.map (Value.int .i64)) →
    w'.ownsRow base tL 1 v' (n + 1) (xs ++ [.slice A' l.length c']) → w.grownBy w' v.ownBlock → LL w' base tL tE v' (n + 1) (ls ++ [l]) := by
  obtain ⟨hn, xs, hx, hr⟩ := h
  refine ⟨xs, hx, fun w' v' A' c' l hl hx2 hg => ?_⟩
  have hxl : xs.length = n := by
    have := hx.1
    simpa using this
  have kept : ∀ {A2 : Option Addr} {n2 c2 : Nat} {ys : List Value}, w.ownsRow base tE 1 (.slice A2 n2 c2) n2 ys → w'.ownsRow base tE 1 (.slice A2 n2 c2) n2 ys := fun {A2 n2 c2 ys} ho => by
    rcases ho.2 with ⟨e, h0⟩ | ⟨g, cap, cur, e, _, hB, _⟩
    · have h1 := ho.1
      rw [e, h0] at *
      simp at h1
      subst h1
      exact World.ownsRow_nil _ _ _ _
    · refine ho.kept (row := v.ownBlock) hg ?_
      rw [e]
      exact .inr (own_blk_ne (g := g) hx hB hne)
  refine ⟨by rw [List.length_append, hn]; rfl, xs ++ [.slice A' l.length c'], hx2, fun i l' hi => ?_⟩
  by_cases hlt : i < ls.length
  · rw [List.getElem?_append_left hlt] at hi
    obtain ⟨A2, c2, h1, h2⟩ := hr i l' hi
    exact ⟨A2, c2, by rw [List.getElem?_append_left (by omega)]; exact h1, kept h2⟩
  · rw [List.getElem?_append_right (by omega)] at hi
    have hi0 : i - ls.length = 0 := by
      have := (List.getElem?_eq_some_iff.1 hi).1
      simp at this
      omega
    rw [hi0] at hi
    simp at hi
    subst hi
    exact ⟨A', c', by rw [List.getElem?_append_right (by omega), hxl, ← hn, hi0]; rfl, kept hl⟩
theorem Only.of_below {S : List Nat} (h : Below w.heap.size w w') : Only S w w' := ⟨h.os, h.tape, h.output, h.size, fun k hk _ => h.block k hk⟩
theorem Only.grown {S : List Nat} {w0 : World} {row : Option Nat} (h : Only S w0 w) (hg : w.grownBy w' row) (hr : ∀ k, row = some k → w0.heap.size ≤ k) : Only S w0 w' :=
  ⟨hg.os.trans h.os, hg.tape.trans h.tape, hg.output.trans h.output, Nat.le_trans h.size hg.size, fun k hk hs => (hg.block k (Nat.lt_of_lt_of_le hk h.size) (fun e => by have := hr k e.symm; omega)).trans (h.block k hk hs)⟩
theorem LL.read (h : LL w base tL tE (.slice A n c) n ls) : LR w A ls := by
  obtain ⟨hl, xs, hx, hr⟩ := h
  refine ⟨xs, by rw [hl]; exact rd_of_own hx, fun i l hi => ?_⟩
  obtain ⟨A', c', h1, h2⟩ := hr i l hi
  exact ⟨A', c', h1, rd_of_own h2⟩
theorem LL.shape (h : LL w base tL tE v n ls) : ∃ A c, v = .slice A n c := by
  obtain ⟨hl, xs, hx, hr⟩ := h
  obtain ⟨A, c, rfl, _⟩ := own_shape hx
  exact ⟨A, c, rfl⟩
theorem LR.below (h : LR w A ls) (hb : Below w.heap.size w w') : LR w' A ls := by
  obtain ⟨xs, hx, hr⟩ := h
  refine ⟨xs, hx.below hb, fun i l hi => ?_⟩
  obtain ⟨A', c', h1, h2⟩ := hr i l hi
  exact ⟨A', c', h1, h2.below hb⟩
end
end Go.Proofs.Ytefeghpglacghaa
