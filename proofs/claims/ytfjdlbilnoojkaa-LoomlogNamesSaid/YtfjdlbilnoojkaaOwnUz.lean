/- Lists of rows that are the call's own and may have been cut short: the array may be longer than the capacity. Nothing here names a function of the program. -/
import Derived.Test.YtfjdlbilnoojkaaLQz
namespace Go.Proofs.Ytfjdlbilnoojkaa
open Go.RowKit

/-- A slice of the call's own, of n one-cell elements; its array may go on behind its capacity. -/
def OwnU (w : World) (base e : Nat) (v : Value) (n : Nat) (xs : List Value) : Prop :=
  xs.length = n ∧ ((v = .slice none 0 0 ∧ n = 0) ∨ ∃ g cap cur, v = .slice (some ⟨g, 0, none⟩) n cap ∧ base ≤ g ∧ w.heap[g]? = some (.cells cur e (0, 0)) ∧ n ≤ cap ∧ cap ≤ maxLen ∧ cap ≤ cur.size ∧ cur.toList.take n = xs)
section
variable {w w' : World} {base e n : Nat} {v : Value} {xs : List Value} {row : Option Nat}
theorem OwnU.nil (w : World) (base e : Nat) : OwnU w base e (.slice none 0 0) 0 [] := ⟨rfl, .inl ⟨rfl, rfl⟩⟩
theorem OwnU.shape (h : OwnU w base e v n xs) : ∃ A c, v = .slice A n c ∧ n ≤ c ∧ c ≤ maxLen := by
  rcases h.2 with ⟨rfl, rfl⟩ | ⟨g, cap, cur, rfl, hb, hh, hnc, hcm, hcs, ht⟩
  · exact ⟨none, 0, rfl, Nat.le_refl _, Nat.zero_le _⟩
  · exact ⟨_, cap, rfl, hnc, hcm⟩
theorem OwnU.block (h : OwnU w base e v n xs) : ∀ g, v.ownBlock = some g → base ≤ g ∧ g < w.heap.size ∧ ∃ cs, w.heap[g]? = some (.cells cs e (0, 0)) := by
  rintro g hg
  rcases h.2 with ⟨rfl, _⟩ | ⟨g', cap, cur, rfl, hb, hh, hnc, hcm, hcs, ht⟩
  · simp [Value.ownBlock] at hg
  · obtain rfl : g' = g := by simpa [Value.ownBlock] using hg
    exact ⟨hb, (Array.getElem?_eq_some_iff.1 hh).1, cur, hh⟩
theorem OwnU.kept (h : OwnU w base e v n xs) (hg : w.grownBy w' row) (hne : ∀ g, v.ownBlock = some g → some g ≠ row) : OwnU w' base e v n xs := by
  refine ⟨h.1, ?_⟩
  rcases h.2 with h0 | ⟨g, cap, cur, rfl, hb, hh, r⟩
  · exact .inl h0
  · exact .inr ⟨g, cap, cur, rfl, hb, (hg.block g (Array.getElem?_eq_some_iff.1 hh).1 (hne g rfl)).trans hh, r⟩
theorem OwnU.below (h : OwnU w base e v n xs) (hb : Below w.heap.size w w') : OwnU w' base e v n xs := h.kept (below_grown hb none) (fun g _ => by simp)
theorem OwnU.far (h : OwnU w base e v n xs) {p : Addr} (hp : v.ownBlock ≠ some p.block) (u : Value) : OwnU (w.setCell p u) base e v n xs :=
  h.kept (row := some p.block) ⟨rfl, rfl, rfl, by simp [World.setCell], fun k _ hk => Below.heap_setCell w p u k (fun e => hk (by rw [e]))⟩ (fun g hg e => hp (hg.trans e))
theorem OwnU.rd {A : Option Addr} {c : Nat} (h : OwnU w base e (.slice A n c) n xs) : Rd w A n xs := by
  refine ⟨h.1, fun hn => ?_⟩
  rcases h.2 with ⟨_, h0⟩ | ⟨g, cap, cur, hv, hb, hh, hnc, hcm, hcs, ht⟩
  · omega
  · injection hv with h1
    subst h1
    refine ⟨g, 0, rfl, fun j u hu => ?_⟩
    rw [Nat.zero_add, cell_of_row w g j cur e (0, 0) hh]
    rw [← ht, List.getElem?_take] at hu
    split at hu
    · simpa using hu
    · simp at hu
/-- The last element is left out; the capacity is the length. -/
theorem OwnU.cut {A : Option Addr} {c : Nat} (h : OwnU w base e (.slice A (n + 1) c) (n + 1) xs) : OwnU w base e (.slice A n n) n xs.dropLast := by
  have hl := h.1
  refine ⟨by rw [List.length_dropLast, hl]; rfl, ?_⟩
  rcases h.2 with ⟨_, h0⟩ | ⟨g, cap, cur, hv, hb, hh, hnc, hcm, hcs, ht⟩
  · omega
  · injection hv with h1
    subst h1
    refine .inr ⟨g, n, cur, rfl, hb, hh, Nat.le_refl _, by omega, by omega, ?_⟩
    rw [← ht, List.dropLast_eq_take, List.take_take]
    simp only [List.length_take, Array.length_toList]
    congr 1
    omega
end
section
variable {P : Program}
/-- 'append(out, u)': u lies in a block of its own. -/
theorem run_app_U (w : World) (base : Nat) (t ty e : TypeId) (i : TypeInfo) (z : Value) (bytes : Nat) (ht : P.underlying t = some (.slice e)) (hi : P.info? e = some i) (hz : i.zero = some z)
    (hsize : i.size = 1) (hby : i.bytes = bytes) (hzs : z.cells.size = 1) (v : Value) (n : Nat) (xs : List Value) (hown : OwnU w base e v n xs)
    (a : Addr) (u : Value) (hu : w.cell? a = some u) (h1 : u.oneCell' = true) (h63 : n + 1 ≤ maxLen) (hbytes : (n + 1) * bytes ≤ 140737488355328) (hbase : base ≤ w.heap.size) :
    ∃ g c w', (Builtin.append_ #[t, t] ty #[v, .slice (some a) 1 1]).run P w = .ok (.slice (some ⟨g, 0, none⟩) (n + 1) c) w' ∧ OwnU w' base e (.slice (some ⟨g, 0, none⟩) (n + 1) c) (n + 1) (xs ++ [u]) ∧ w.grownBy w' v.ownBlock := by
  subst hby
  have hsmall : n + 1 ≤ 9223372036854775807 := by simp only [maxLen] at h63; omega
  have hlen : (xs ++ [u]).length = n + 1 := by rw [List.length_append, hown.1]; rfl
  have hnews : ∀ j y, [u][j]? = some y → w.cell? (a.add j) = some y := fun j y hj => by
    match j, hj with
    | 0, hj => simp at hj; subst hj; simpa [Addr.add] using hu
    | j + 1, hj => simp at hj
  have grown : ∀ (old : Nat), old < n + 1 → ∀ (row : Option Nat),
      OwnU (w.drew.alloc (.cells (xs.toArray ++ #[u] ++ Builtin.zeroCells z.cells (grownCap w (n + 1) old e - (n + 1))) e)) base e
        (.slice (some ⟨w.heap.size, 0, none⟩) (n + 1) (grownCap w (n + 1) old e)) (n + 1) (xs ++ [u]) ∧
      w.grownBy (w.drew.alloc (.cells (xs.toArray ++ #[u] ++ Builtin.zeroCells z.cells (grownCap w (n + 1) old e - (n + 1))) e)) row := by
    intro old ho row
    have hge := grownCap_ge w (n + 1) old e
    have hcm : grownCap w (n + 1) old e ≤ maxLen := grownCap_le_maxLen w (n + 1) old e h63
    refine ⟨⟨hlen, .inr ⟨w.heap.size, _, _, rfl, hbase, heap_alloc_new w.drew _, hge, hcm, ?_, ?_⟩⟩, ⟨rfl, rfl, rfl, by simp, fun k hk _ => Below.heap_alloc w.drew _ k hk⟩⟩
    · simp only [Array.size_append, List.size_toArray, size_zeroCells, hzs, hown.1]
      simp
      omega
    · simp only [Array.toList_append]
      rw [← hlen]
      exact List.take_left
  rcases hown.2 with ⟨rfl, rfl⟩ | ⟨g, cap, cur, rfl, hbg, hg, hnc, hcm, hcs, htake⟩
  · have hx : xs = [] := List.eq_nil_of_length_eq_zero hown.1
    subst hx
    have hr := run_append_nil (P := P) w t ty e i z ht hi hz a 1 1 [u] (by rw [hsize]; rfl) hnews (by omega) (by omega) (by omega)
    have hgr := grown 0 (by omega) (Value.ownBlock (.slice none 0 0))
    simp only [Nat.zero_add, List.nil_append, Array.empty_append] at hgr ⊢
    exact ⟨_, _, _, hr, hgr.1, hgr.2⟩
  · by_cases hroom : n + 1 ≤ cap
    · have hfit : n * i.size + [u].length ≤ cur.size := by rw [hsize]; simp; omega
      have hr := run_append_room (P := P) w t ty e i ht hi g n cap cur hg a 1 1 [u] (by rw [hsize]; rfl) hnews (by simpa using h1) hroom hfit
      rw [hsize] at hr
      refine ⟨_, _, _, hr, ⟨hlen, .inr ⟨g, cap, _, rfl, hbg, setRow_heap w g cur _ e _ hg, hroom, hcm, ?_, ?_⟩⟩, ⟨rfl, rfl, rfl, by simp, fun k _ hk => setRow_other w g k _ (fun e => hk (by simp [Value.ownBlock, e]))⟩⟩
      · simp only [List.size_toArray, List.length_append, List.length_take, List.length_drop, Array.length_toList, List.length_cons, List.length_nil]
        omega
      · rw [Nat.mul_one, htake, ← hlen]
        exact List.take_left
    · have holds : ∀ j y, xs[j]? = some y → w.cell? ((⟨g, 0, none⟩ : Addr).add j) = some y := fun j y hj => by
        have := (OwnU.rd hown).lit j y hj
        rw [Addr.add_lit]
        exact this
      have hr := run_append_grow (P := P) w t ty e i z ht hi hz ⟨g, 0, none⟩ n cap xs (by rw [hsize, hown.1]; omega) holds a 1 1 [u] (by rw [hsize]; rfl) hnews (by omega) (by omega) (growslice_fits (by omega) hbytes)
      have hgr := grown cap (by omega) (Value.ownBlock (.slice (some ⟨g, 0, none⟩) n cap))
      exact ⟨_, _, _, hr, hgr.1, hgr.2⟩
end
/-- Rows of bools in an outer slice that is the call's own and may have been cut. -/
def LU (w : World) (base tL tE : Nat) (v : Value) (n : Nat) (ls : List (List Bool)) : Prop :=
  ls.length = n ∧ ∃ xs : List Value, OwnU w base tL v n xs ∧ ∀ (i : Nat) (l : List Bool), ls[i]? = some l → ∃ A c, xs[i]? = some (.slice A l.length c) ∧ RowAt w base tE A l
section
variable {w w' : World} {base tL tE n : Nat} {v : Value} {ls : List (List Bool)} {row : Option Nat}
theorem LU.nil (w : World) (base tL tE : Nat) : LU w base tL tE (.slice none 0 0) 0 [] := ⟨rfl, [], OwnU.nil _ _ _, fun i l h => by simp at h⟩
theorem LU.shape (h : LU w base tL tE v n ls) : ∃ A c, v = .slice A n c ∧ n ≤ c ∧ c ≤ maxLen := by
  obtain ⟨hl, xs, ho, hr⟩ := h
  exact ho.shape
theorem LU.below (h : LU w base tL tE v n ls) (hb : Below w.heap.size w w') : LU w' base tL tE v n ls := by
  obtain ⟨hl, xs, ho, hr⟩ := h
  exact ⟨hl, xs, ho.below hb, fun i l hi => by
    obtain ⟨A', c', h1, h2⟩ := hr i l hi
    exact ⟨A', c', h1, h2.below hb⟩⟩
theorem LU.read {A : Option Addr} {c : Nat} (h : LU w base tL tE (.slice A n c) n ls) : LRB w A ls := by
  obtain ⟨hl, xs, hx, hr⟩ := h
  refine ⟨xs, by rw [hl]; exact hx.rd, fun i l hi => ?_⟩
  obtain ⟨A', c', h1, h2⟩ := hr i l hi
  exact ⟨A', c', h1, h2.1⟩
theorem LU.cut {A : Option Addr} {c : Nat} (h : LU w base tL tE (.slice A (n + 1) c) (n + 1) ls) : LU w base tL tE (.slice A n n) n ls.dropLast := by
  obtain ⟨hl, xs, hx, hr⟩ := h
  refine ⟨by rw [List.length_dropLast, hl]; rfl, _, hx.cut, fun i l hi => ?_⟩
  rw [List.getElem?_dropLast] at hi
  split at hi
  · obtain ⟨A', c', h1, h2⟩ := hr i l hi
    refine ⟨A', c', ?_, h2⟩
    rw [List.getElem?_dropLast, if_pos (by have := hx.1; omega)]
    exact h1
  · simp at hi
/-- A store to a block of another type keeps the list. -/
theorem LU.far (h : LU w base tL tE v n ls) {g : Nat} {t : TypeId} {cs : Array Value} (hg : Blk w g t cs) (hb : base ≤ g) (h1 : t ≠ tL) (h2 : t ≠ tE) (i : Nat) (u : Value) : LU (w.setCell ⟨g, i, none⟩ u) base tL tE v n ls := by
  have hgr : w.grownBy (w.setCell ⟨g, i, none⟩ u) (some g) := ⟨rfl, rfl, rfl, by simp [World.setCell], fun k _ hk => Below.heap_setCell w ⟨g, i, none⟩ u k (fun e => hk (by rw [e]))⟩
  obtain ⟨hl, xs, hx, hr⟩ := h
  refine ⟨hl, xs, hx.kept hgr (fun g' hg' e => ?_), fun i' l hi => ?_⟩
  · injection e with e
    subst e
    obtain ⟨_, _, cs', h3⟩ := hx.block _ hg'
    have := (show w.heap[g']? = _ from hg).symm.trans h3
    injection this with e1
    injection e1 with _ e2 _
    exact h1 e2
  · obtain ⟨A', c', h3, h4⟩ := hr i' l hi
    refine ⟨A', c', h3, h4.grown hgr (fun g' e => ?_)⟩
    injection e with e
    subst e
    refine ⟨hb, fun cs' fz hh => ?_⟩
    have := (show w.heap[g]? = _ from hg).symm.trans hh
    injection this with e1
    injection e1 with _ e2 _
    exact h2 e2
/-- What an append of one row leaves. -/
theorem LU.open (h : LU w base tL tE v n ls) (hne : tL ≠ tE) : ∃ xs, OwnU w base tL v n xs ∧ ∀ (w' : World) (v' : Value) (A' : Option Addr) (c' : Nat) (l : List Bool), RowAt w base tE A' l →
    OwnU w' base tL v' (n + 1) (xs ++ [.slice A' l.length c']) → w.grownBy w' v.ownBlock → LU w' base tL tE v' (n + 1) (ls ++ [l]) := by
  obtain ⟨hn, xs, hx, hr⟩ := h
  refine ⟨xs, hx, fun w' v' A' c' l hl hx2 hg => ?_⟩
  have hxl : xs.length = n := hx.1
  have hrow : ∀ g, v.ownBlock = some g → base ≤ g ∧ ∀ cs fz, w.heap[g]? ≠ some (.cells cs tE fz) := fun g e => by
    obtain ⟨h1, _, cs', h3⟩ := hx.block _ e
    refine ⟨h1, fun cs fz hh => ?_⟩
    rw [h3] at hh
    injection hh with e1
    injection e1 with _ e2 _
    exact hne e2
  refine ⟨by rw [List.length_append, hn]; rfl, xs ++ [.slice A' l.length c'], hx2, fun i l' hi => ?_⟩
  by_cases hlt : i < ls.length
  · rw [List.getElem?_append_left hlt] at hi
    obtain ⟨A2, c2, h1, h2⟩ := hr i l' hi
    exact ⟨A2, c2, by rw [List.getElem?_append_left (by omega)]; exact h1, h2.grown hg hrow⟩
  · rw [List.getElem?_append_right (by omega)] at hi
    have hi0 : i - ls.length = 0 := by
      have := (List.getElem?_eq_some_iff.1 hi).1
      simp at this
      omega
    rw [hi0] at hi
    simp at hi
    subst hi
    exact ⟨A', c', by rw [List.getElem?_append_right (by omega), hxl, ← hn, hi0]; rfl, hl.grown hg hrow⟩
end
end Go.Proofs.Ytfjdlbilnoojkaa
