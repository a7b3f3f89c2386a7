/- Lists of picks: the outer slice is the call's own, the rows are read alone. Nothing here names a function of the program. -/
import Derived.Test.YtfjdlbilnoojkaaLibz
import Derived.Test.YtfjdlbilnoojkaaMg1z
import Derived.Test.YtfjdlbilnoojkaaStz
import Derived.Deep.AppendLies
namespace Go.Proofs.Ytfjdlbilnoojkaa
open Go.RowKit

theorem blk_kept {W W' : World} {g : Nat} {t : TypeId} {cs : Array Value} {row : Option Nat} (hb : Blk W g t cs) (hg : W.grownBy W' row) (hr : ∀ r, row = some r → ∃ o : Obj, W.heap[r]? = some o ∧ o.isCells = false) : Blk W' g t cs :=
  Blk.grown hb hg fun e => by
    obtain ⟨o, ho, hc⟩ := hr _ e.symm
    have := (show W.heap[g]? = _ from hb).symm.trans ho
    injection this with e1
    subst e1
    simp [Obj.isCells] at hc
theorem own_kept {W W' : World} {base n : Nat} {e : TypeId} {v : Value} {xs : List Value} {row : Option Nat} (h : W.ownsRow base e 1 v n xs) (hg : W.grownBy W' row) (hr : ∀ r, row = some r → ∃ o : Obj, W.heap[r]? = some o ∧ o.isCells = false) : W'.ownsRow base e 1 v n xs := by
  refine h.kept hg ?_
  rcases h.2 with ⟨h0, _⟩ | ⟨g, cap, cur, hv, _, hh, _⟩
  · rw [h0]; simp [Value.ownBlock]
  · refine Or.inr fun e' => ?_
    rw [hv] at e'
    obtain ⟨o, ho, hc⟩ := hr g (by first | simpa [Value.ownBlock] using e' | simpa [Value.ownBlock] using e'.symm)
    rw [hh] at ho
    injection ho with e1
    subst e1
    simp [Obj.isCells] at hc
/-- A row of bools that is read, in memory below base or of the type tE. -/
def RowAt (W : World) (base tE : Nat) (A : Option Addr) (l : List Bool) : Prop :=
  Rd W A l.length (l.map Value.bool) ∧ ∀ b o, A = some ⟨b, o, none⟩ → 0 < l.length → b < base ∨ ∃ cs fz, W.heap[b]? = some (.cells cs tE fz)
/-- The slice v of n slices reads the rows ls; the outer one is the call's own, from base on. -/
def LQ (w : World) (base tL tE : Nat) (v : Value) (n : Nat) (ls : List (List Bool)) : Prop :=
  ls.length = n ∧ ∃ xs : List Value, w.ownsRow base tL 1 v n xs ∧ ∀ (i : Nat) (l : List Bool), ls[i]? = some l → ∃ A c, xs[i]? = some (.slice A l.length c) ∧ RowAt w base tE A l
section
variable {w w' : World} {base tL tE n c : Nat} {v : Value} {ls : List (List Bool)} {A : Option Addr} {l : List Bool} {row : Option Nat}
theorem RowAt.below (h : RowAt w base tE A l) (hb : Below w.heap.size w w') : RowAt w' base tE A l :=
  ⟨h.1.below hb, fun b o hA hl => (h.2 b o hA hl).imp id fun ⟨cs, fz, e⟩ => ⟨cs, fz, (hb.block b (h.1.lt b o hA hl)).trans e⟩⟩
theorem RowAt.grown (h : RowAt w base tE A l) (hg : w.grownBy w' row) (hr : ∀ g, row = some g → base ≤ g ∧ ∀ cs fz, w.heap[g]? ≠ some (.cells cs tE fz)) : RowAt w' base tE A l := by
  have ne : ∀ b o, A = some ⟨b, o, none⟩ → 0 < l.length → some b ≠ row := fun b o hA hl e => by
    obtain ⟨h1, h2⟩ := hr b e.symm
    rcases h.2 b o hA hl with h3 | ⟨cs, fz, h3⟩
    · omega
    · exact h2 cs fz h3
  exact ⟨h.1.grown2 hg ne, fun b o hA hl => (h.2 b o hA hl).imp id fun ⟨cs, fz, e⟩ => ⟨cs, fz, (hg.block b (h.1.lt b o hA hl) (ne b o hA hl)).trans e⟩⟩
theorem LQ.nil (w : World) (base tL tE : Nat) : LQ w base tL tE (.slice none 0 0) 0 [] := ⟨rfl, [], World.ownsRow_nil _ _ _ _, fun i l h => by simp at h⟩
theorem LQ.shape (h : LQ w base tL tE v n ls) : ∃ A c, v = .slice A n c ∧ n ≤ c := by
  obtain ⟨hl, xs, ho, hr⟩ := h
  obtain ⟨A, c, rfl, hc, _⟩ := own_shape ho
  exact ⟨A, c, rfl, hc⟩
theorem LQ.below (h : LQ w base tL tE v n ls) (hb : Below w.heap.size w w') : LQ w' base tL tE v n ls := by
  obtain ⟨hl, xs, ho, hr⟩ := h
  obtain ⟨A, c, rfl, _⟩ := own_shape ho
  exact ⟨hl, xs, own_below ho hb, fun i l hi => by
    obtain ⟨A', c', h1, h2⟩ := hr i l hi
    exact ⟨A', c', h1, h2.below hb⟩⟩
theorem LQ.kept (h : LQ w base tL tE v n ls) (hg : w.grownBy w' row) (hr : ∀ r, row = some r → base ≤ r ∧ ∃ o : Obj, w.heap[r]? = some o ∧ o.isCells = false) : LQ w' base tL tE v n ls := by
  obtain ⟨hl, xs, ho, hq⟩ := h
  refine ⟨hl, xs, own_kept ho hg (fun r e => (hr r e).2), fun i l hi => ?_⟩
  obtain ⟨A', c', h1, h2⟩ := hq i l hi
  refine ⟨A', c', h1, h2.grown hg fun g e => ⟨(hr g e).1, fun cs fz hh => ?_⟩⟩
  obtain ⟨o, ho, hc⟩ := (hr g e).2
  rw [ho] at hh
  injection hh with e1
  subst e1
  simp [Obj.isCells] at hc
theorem LQ.far (h : LQ w base tL tE v n ls) {p : Addr} {t : TypeId} {cs : Array Value} (hb : Blk w p.block t cs) (h1 : tL ≠ t) (h2 : base ≤ p.block) (h3 : tE ≠ t) (u : Value) : LQ (w.setCell p u) base tL tE v n ls := by
  obtain ⟨hl, xs, ho, hq⟩ := h
  have hg : w.grownBy (w.setCell p u) (some p.block) := ⟨rfl, rfl, rfl, by simp [World.setCell], fun k _ hk => Below.heap_setCell w p u k (fun e => hk (by rw [e]))⟩
  refine ⟨hl, xs, own_far ho (own_blk_ne (g := p.block) ho hb h1) u, fun i l hi => ?_⟩
  obtain ⟨A', c', k1, k2⟩ := hq i l hi
  refine ⟨A', c', k1, k2.grown hg fun g e => ?_⟩
  cases e
  refine ⟨h2, fun cs' fz hh => ?_⟩
  rw [show w.heap[p.block]? = _ from hb] at hh
  injection hh with e1
  injection e1 with _ e2 _
  exact h3 e2.symm
theorem LQ.farLow (h : LQ w base tL tE v n ls) {p : Addr} {t : TypeId} {cs : Array Value} (hb : Blk w p.block t cs) (h2 : p.block < base) (hnb : ∀ (j : Nat) (x : Bool), cs[j]? ≠ some (.bool x)) (u : Value) : LQ (w.setCell p u) base tL tE v n ls := by
  obtain ⟨hl, xs, ho, hq⟩ := h
  have hg : w.grownBy (w.setCell p u) (some p.block) := ⟨rfl, rfl, rfl, by simp [World.setCell], fun k _ hk => Below.heap_setCell w p u k (fun e => hk (by rw [e]))⟩
  refine ⟨hl, xs, own_far ho (fun e => by have := (ho.lt _ e.symm).1; omega) u, fun i l hi => ?_⟩
  obtain ⟨A', c', k1, k2⟩ := hq i l hi
  have ne : ∀ b o, A' = some ⟨b, o, none⟩ → 0 < l.length → b ≠ p.block := fun b o hA hlen e => by
    subst e
    have hc := Rd.lit (hA ▸ k2.1) 0 (.bool (l.getD 0 false)) (by rw [List.getElem?_map, List.getElem?_eq_getElem hlen, List.getD_eq_getElem?_getD, List.getElem?_eq_getElem hlen]; rfl)
    rw [hb.cell] at hc
    exact hnb _ _ hc
  refine ⟨A', c', k1, k2.1.grown2 hg (fun b o hA hlen e => ne b o hA hlen (by injection e)), fun b o hA hlen => (k2.2 b o hA hlen).imp id fun ⟨cs', fz, e⟩ => ⟨cs', fz, (Below.heap_setCell w p u b (ne b o hA hlen)).trans e⟩⟩
/-- The outer slice, and what an append to it leaves. -/
theorem LQ.open (h : LQ w base tL tE v n ls) (hne : tL ≠ tE) : ∃ xs, w.ownsRow base tL 1 v n xs ∧ ∀ (w' : World) (v' : Value) (A' : Option Addr) (c' : Nat) (l : List Bool), RowAt w base tE A' l →
    w'.ownsRow base tL 1 v' (n + 1) (xs ++ [.slice A' l.length c']) → w.grownBy w' v.ownBlock → LQ w' base tL tE v' (n + 1) (ls ++ [l]) := by
  obtain ⟨hn, xs, hx, hr⟩ := h
  refine ⟨xs, hx, fun w' v' A' c' l hl hx2 hg => ?_⟩
  have hxl : xs.length = n := by
    have := hx.1
    simpa using this
  have hrow : ∀ g, v.ownBlock = some g → base ≤ g ∧ ∀ cs fz, w.heap[g]? ≠ some (.cells cs tE fz) := fun g e => by
    refine ⟨(hx.lt g e).1, fun cs fz hh => ?_⟩
    rcases hx.2 with ⟨h0, _⟩ | ⟨g', cap, cur, hv, _, hB, _⟩
    · rw [h0] at e; simp [Value.ownBlock] at e
    · rw [hv] at e
      obtain rfl : g' = g := by simpa [Value.ownBlock] using e
      rw [hB] at hh
      injection hh with e1
      injection e1 with _ e2 _
      exact hne e2
  refine ⟨by rw [List.length_append, hn]; rfl, xs ++ [.slice A' l.length c'], hx2, fun i l' hi => ?_⟩
  by_cases hlt : i < ls.length
  · rw [List.getElem?_append_left hlt] at hi
    obtain ⟨A2, c2, h1, h2⟩ := hr i l' hi
    exact ⟨A2, c2, by rw [List.getElem?_append_left (by omega)]; exact h1, h2.grown hg hrow⟩
  · rw [List.getElem?_append_right (by omega)] at hi
    have hi0 : i - ls.length = 0 := by
      have := (List.getElem?_eq_some_iff.1 hi).1
      simp at this
      omega
    rw [hi0] at hi
    simp at hi
    subst hi
    exact ⟨A', c', by rw [List.getElem?_append_right (by omega), hxl, ← hn, hi0]; rfl, hl.grown hg hrow⟩
/-- The same, to be read alone. -/
def LRB (w : World) (A : Option Addr) (ls : List (List Bool)) : Prop :=
  ∃ xs : List Value, Rd w A ls.length xs ∧ ∀ (i : Nat) (l : List Bool), ls[i]? = some l → ∃ A' c, xs[i]? = some (.slice A' l.length c) ∧ Rd w A' l.length (l.map Value.bool)
theorem LQ.read (h : LQ w base tL tE (.slice A n c) n ls) : LRB w A ls := by
  obtain ⟨hl, xs, hx, hr⟩ := h
  refine ⟨xs, by rw [hl]; exact rd_of_own hx, fun i l hi => ?_⟩
  obtain ⟨A', c', h1, h2⟩ := hr i l hi
  exact ⟨A', c', h1, h2.1⟩
theorem LRB.below (h : LRB w A ls) (hb : Below w.heap.size w w') : LRB w' A ls := by
  obtain ⟨xs, hx, hr⟩ := h
  refine ⟨xs, hx.below hb, fun i l hi => ?_⟩
  obtain ⟨A', c', h1, h2⟩ := hr i l hi
  exact ⟨A', c', h1, h2.below hb⟩
end
end Go.Proofs.Ytfjdlbilnoojkaa
