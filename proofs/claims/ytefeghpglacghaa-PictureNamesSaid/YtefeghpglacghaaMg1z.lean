/- Parts of the proof, in their order. -/
import Derived.Test.YtefeghpglacghaaFirstPz
import Derived.Test.YtefeghpglacghaaLibz
import Derived.WalkKit
import Derived.Deep.RegionHeld3
/- The block of a state of picture: the sides, the function values, the colours so far. -/
namespace Go.Proofs.Ytefeghpglacghaa
open Go.RowKit

def stL (a b : Nat) (F0 F1 : Value) (p q : List Int) : List Value := (.int .i64 a :: F0 :: p.map (Value.int .i64)) ++ (.int .i64 b :: F1 :: q.map (Value.int .i64))
section
variable {a b : Nat} {F0 F1 : Value} {p q : List Int} {w : World} {g : Nat} {t : TypeId}
theorem stL_length (hp : p.length = 64) (hq : q.length = 64) : (stL a b F0 F1 p q).length = 132 := by simp [stL, hp, hq]
theorem stL_0 : (stL a b F0 F1 p q)[0]? = some (.int .i64 a) := rfl
theorem stL_1 : (stL a b F0 F1 p q)[1]? = some F0 := rfl
theorem stL_p {i : Nat} (hp : p.length = 64) (hi : i < 64) : (stL a b F0 F1 p q)[2 + i]? = some (.int .i64 (p.getD i (-1))) := by
  unfold stL
  rw [List.getElem?_append_left (by simp; omega), show 2 + i = i + 1 + 1 by omega, List.getElem?_cons_succ, List.getElem?_cons_succ, List.getElem?_map, List.getD_eq_getElem?_getD, List.getElem?_eq_getElem (by omega)]
  rfl
theorem stL_66 (hp : p.length = 64) : (stL a b F0 F1 p q)[66]? = some (.int .i64 b) := by
  unfold stL
  rw [List.getElem?_append_right (by simp; omega)]
  simp [hp]
theorem stL_67 (hp : p.length = 64) : (stL a b F0 F1 p q)[67]? = some F1 := by
  unfold stL
  rw [List.getElem?_append_right (by simp; omega)]
  simp [hp]
theorem stL_q {i : Nat} (hp : p.length = 64) (hq : q.length = 64) (hi : i < 64) : (stL a b F0 F1 p q)[68 + i]? = some (.int .i64 (q.getD i (-1))) := by
  unfold stL
  rw [List.getElem?_append_right (by simp; omega)]
  have e : 68 + i - (Value.int .i64 a :: F0 :: p.map (Value.int .i64)).length = i + 1 + 1 := by simp [hp]; omega
  rw [e, List.getElem?_cons_succ, List.getElem?_cons_succ, List.getElem?_map, List.getD_eq_getElem?_getD, List.getElem?_eq_getElem (by omega)]
  rfl
theorem stL_setp {i : Nat} {c : Int} (hp : p.length = 64) (hi : i < 64) : (stL a b F0 F1 p q).set (2 + i) (.int .i64 c) = stL a b F0 F1 (p.set i c) q := by
  unfold stL
  rw [List.set_append_left _ _ (by simp; omega), show 2 + i = i + 1 + 1 by omega, List.set_cons_succ, List.set_cons_succ, List.map_set]
theorem stL_setq {i : Nat} {c : Int} (hp : p.length = 64) : (stL a b F0 F1 p q).set (68 + i) (.int .i64 c) = stL a b F0 F1 p (q.set i c) := by
  unfold stL
  rw [List.set_append_right _ _ (by simp; omega)]
  have e : 68 + i - (Value.int .i64 a :: F0 :: p.map (Value.int .i64)).length = i + 1 + 1 := by simp [hp]; omega
  rw [e, List.set_cons_succ, List.set_cons_succ, List.map_set]
abbrev StB (w : World) (g : Nat) (t : TypeId) (a b : Nat) (F0 F1 : Value) (p q : List Int) : Prop := Blk w g t (stL a b F0 F1 p q).toArray
theorem StB.cell (h : StB w g t a b F0 F1 p q) (j : Nat) {v : Value} (e : (stL a b F0 F1 p q)[j]? = some v) : w.cell? ⟨g, j, none⟩ = some v := by
  rw [Blk.cell h]
  simpa using e
theorem StB.setp (h : StB w g t a b F0 F1 p q) {i : Nat} (hp : p.length = 64) (hi : i < 64) (c : Int) : StB (w.setCell ⟨g, 2 + i, none⟩ (.int .i64 c)) g t a b F0 F1 (p.set i c) q := by
  have k := Blk.set_ h (2 + i) (.int .i64 c)
  rw [List.setIfInBounds_toArray, stL_setp hp hi] at k
  exact k
theorem StB.setq (h : StB w g t a b F0 F1 p q) {i : Nat} (hp : p.length = 64) (c : Int) : StB (w.setCell ⟨g, 68 + i, none⟩ (.int .i64 c)) g t a b F0 F1 p (q.set i c) := by
  have k := Blk.set_ h (68 + i) (.int .i64 c)
  rw [List.setIfInBounds_toArray, stL_setq hp] at k
  exact k
end
end Go.Proofs.Ytefeghpglacghaa
/- A region that draws its order, walked operation by operation, also where a guard says no. Nothing here names a function of the program. -/
namespace Go.Proofs.Ytefeghpglacghaa
open Go.RowKit

section
variable {P : Program} {md : Region.Mode} {ops : Array Oper} {Q : Exit → Act → World → Prop} {S : World → Prop} {fuel : Nat} {listed : Array Bool} {a : Act} {w : World}
/-- An operation that only reads is taken first. -/
theorem man_take (i d : Nat) {v : Value} (hd : ∃ oi, ops[i]? = some oi ∧ oi.dst = some d) (hs : Region.noSelect ops = true) (hf : Region.free md ops listed i = true) (hr : (Region.ready md ops listed).contains i = true)
    (hQ : ∀ c a w, Q (.panic c) (a.put (some d) v) w → Q (.panic c) a w) (hS : S w) (hy : ∀ oi, ops[i]? = some oi → Region.wanted oi (yielded ops a.tmps) = true ∧ ∀ w, S w → (execOp a.eval oi).run P w = .ok (.value v) w)
    (h : wpAnyH P md ops Q S fuel (listed.setIfInBounds i true) (a.put (some d) v) w) : wpAnyH P md ops Q S (fuel + 1) listed a w := by
  obtain ⟨oi, h1, h2⟩ := hd
  subst_vars
  exact wpAnyH_take h1 hs hf hr (by rw [h2]; exact hQ) (Or.inl (hy oi h1)) hS (by rw [h2]; exact h)
/-- An operation that is not wanted is passed. -/
theorem man_skip (i d : Nat) (hd : ∃ oi, ops[i]? = some oi ∧ oi.dst = some d) (hs : Region.noSelect ops = true) (hf : Region.free md ops listed i = true) (hr : (Region.ready md ops listed).contains i = true)
    (hQ : ∀ c a w, Q (.panic c) (a.put (some d) undef) w → Q (.panic c) a w) (hS : S w) (hy : ∀ oi, ops[i]? = some oi → Region.wanted oi (yielded ops a.tmps) = false)
    (h : wpAnyH P md ops Q S fuel (listed.setIfInBounds i true) (a.put (some d) undef) w) : wpAnyH P md ops Q S (fuel + 1) listed a w := by
  obtain ⟨oi, h1, h2⟩ := hd
  exact wpAnyH_take h1 hs hf hr (by rw [h2]; exact hQ) (Or.inr ⟨hy oi h1, rfl⟩) hS (by rw [h2]; exact h)
/-- The one operation that may come up is run. -/
theorem man_run (i : Nat) {o : Oper} (ho : ops[i]? = some o) (hr : Region.ready md ops listed = [i])
    (h : ∀ K' : Act → World → Prop, Shut (∀ a w, S w → (S w → wpAnyH P md ops Q S fuel (listed.setIfInBounds i true) a w) → K' a w) → if Region.wanted o (yielded ops a.tmps) = true then Oper.wp P o a w K' Q else K' (a.put o.dst undef) w) :
    wpAnyH P md ops Q S (fuel + 1) listed a w := wpAnyH_ready hr (by simp) (AllReadyH.cons ho h AllReadyH.nil)
/-- One of two operations comes up. -/
theorem man_two (i j : Nat) {o o' : Oper} (ho : ops[i]? = some o) (ho' : ops[j]? = some o') (hr : Region.ready md ops listed = [i, j])
    (h : ∀ K' : Act → World → Prop, Shut (∀ a w, S w → (S w → wpAnyH P md ops Q S fuel (listed.setIfInBounds i true) a w) → K' a w) → if Region.wanted o (yielded ops a.tmps) = true then Oper.wp P o a w K' Q else K' (a.put o.dst undef) w)
    (h' : ∀ K' : Act → World → Prop, Shut (∀ a w, S w → (S w → wpAnyH P md ops Q S fuel (listed.setIfInBounds j true) a w) → K' a w) → if Region.wanted o' (yielded ops a.tmps) = true then Oper.wp P o' a w K' Q else K' (a.put o'.dst undef) w) :
    wpAnyH P md ops Q S (fuel + 1) listed a w := wpAnyH_ready hr (by simp) (AllReadyH.cons ho h (AllReadyH.cons ho' h' AllReadyH.nil))
end
end Go.Proofs.Ytefeghpglacghaa
