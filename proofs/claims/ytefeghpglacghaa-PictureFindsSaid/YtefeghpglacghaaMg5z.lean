/- Parts of the proof, in their order. -/
import Derived.Test.YtefeghpglacghaaFirstPz
import Derived.Test.YtefeghpglacghaaLibz
import Derived.Test.YtefeghpglacghaaThr15z
import Derived.Test.YtefeghpglacghaaMg3z
import Derived.Test.YtefeghpglacghaaMg4z
/- The block of a state of picture: the sides, the function values, the colours so far. -/
namespace Go.Proofs.Ytefeghpglacghaa
open Go.RowKit

def stL (a b : Nat) (F0 F1 : Value) (p q : List Int) : List Value := (.int .i64 a :: F0 :: p.map (Value.int .i64)) ++ (.int .i64 b :: F1 :: q.map (Value.int .i64))
section
variable {a b : Nat} {F0 F1 : Value} {p q : List Int} {w : World} {g : Nat} {t : TypeId}
theorem stL_length (hp : p.length = 64) (hq : q.length = 64) : (stL a b F0 F1 p q).length = 132 := by simp [stL, hp, hq]
theorem stL_0 : (stL a b F0 F1 p q)[0]? = some (.int .i64 a) := rfl
theorem stL_1 : (stL a b F0 F1 p q)[1]? = some F0 := rfl
theorem stL_p {i : Nat} (hp : p.length = 64) (hi : i < 64) : (stL a b F0 F1 p q)[2 + i]? = some (.int .i64 (p.getD i (-1))) := by
  unfold stL
  rw [List.getElem?_append_left (by simp; omega), show 2 + i = i + 1 + 1 by omega, List.getElem?_cons_succ, List.getElem?_cons_succ, List.getElem?_map, List.getD_eq_getElem?_getD, List.getElem?_eq_getElem (by omega)]
  rfl
theorem stL_66 (hp : p.length = 64) : (stL a b F0 F1 p q)[66]? = some (.int .i64 b) := by
  unfold stL
  rw [List.getElem?_append_right (by simp; omega)]
  simp [hp]
theorem stL_67 (hp : p.length = 64) : (stL a b F0 F1 p q)[67]? = some F1 := by
  unfold stL
  rw [List.getElem?_append_right (by simp; omega)]
  simp [hp]
theorem stL_q {i : Nat} (hp : p.length = 64) (hq : q.length = 64) (hi : i < 64) : (stL a b F0 F1 p q)[68 + i]? = some (.int .i64 (q.getD i (-1))) := by
  unfold stL
  rw [List.getElem?_append_right (by simp; omega)]
  have e : 68 + i - (Value.int .i64 a :: F0 :: p.map (Value.int .i64)).length = i + 1 + 1 := by simp [hp]; omega
  rw [e, List.getElem?_cons_succ, List.getElem?_cons_succ, List.getElem?_map, List.getD_eq_getElem?_getD, List.getElem?_eq_getElem (by omega)]
  rfl
theorem stL_setp {i : Nat} {c : Int} (hp : p.length = 64) (hi : i < 64) : (stL a b F0 F1 p q).set (2 + i) (.int .i64 c) = stL a b F0 F1 (p.set i c) q := by
  unfold stL
  rw [List.set_append_left _ _ (by simp; omega), show 2 + i = i + 1 + 1 by omega, List.set_cons_succ, List.set_cons_succ, List.map_set]
theorem stL_setq {i : Nat} {c : Int} (hp : p.length = 64) : (stL a b F0 F1 p q).set (68 + i) (.int .i64 c) = stL a b F0 F1 p (q.set i c) := by
  unfold stL
  rw [List.set_append_right _ _ (by simp; omega)]
  have e : 68 + i - (Value.int .i64 a :: F0 :: p.map (Value.int .i64)).length = i + 1 + 1 := by simp [hp]; omega
  rw [e, List.set_cons_succ, List.set_cons_succ, List.map_set]
abbrev StB (w : World) (g : Nat) (t : TypeId) (a b : Nat) (F0 F1 : Value) (p q : List Int) : Prop := Blk w g t (stL a b F0 F1 p q).toArray
theorem StB.cell (h : StB w g t a b F0 F1 p q) (j : Nat) {v : Value} (e : (stL a b F0 F1 p q)[j]? = some v) : w.cell? ⟨g, j, none⟩ = some v := by
  rw [Blk.cell h]
  simpa using e
theorem StB.setp (h : StB w g t a b F0 F1 p q) {i : Nat} (hp : p.length = 64) (hi : i < 64) (c : Int) : StB (w.setCell ⟨g, 2 + i, none⟩ (.int .i64 c)) g t a b F0 F1 (p.set i c) q := by
  have k := Blk.set_ h (2 + i) (.int .i64 c)
  rw [List.setIfInBounds_toArray, stL_setp hp hi] at k
  exact k
theorem StB.setq (h : StB w g t a b F0 F1 p q) {i : Nat} (hp : p.length = 64) (c : Int) : StB (w.setCell ⟨g, 68 + i, none⟩ (.int .i64 c)) g t a b F0 F1 p (q.set i c) := by
  have k := Blk.set_ h (68 + i) (.int .i64 c)
  rw [List.setIfInBounds_toArray, stL_setq hp] at k
  exact k
end
end Go.Proofs.Ytefeghpglacghaa
/- Contracts of the checks of layer 15's laws, their results handed in. -/
namespace Go.Proofs.Ytefeghpglacghaa
open Go.RowKit
theorem ggreat_to {b : Bool} (W H : Int) (n : Nat) (h : decide (4200 < n) = b) (A : Option Addr) (c : Nat) (w : World) :
    Calls Try.prog 18 #[.agg #[.int .i64 W, .int .i64 H, .slice A n c]] w fun e w' => e = .returned (.bool b) ∧ Below w.heap.size w w' := h ▸ great_any W H A n c w
theorem igreat_to {b : Bool} (W H : Int) (n : Nat) (h : decide (4200 < n) = b) (A : Option Addr) (c : Nat) (w : World) :
    Calls Try.prog 17 #[.agg #[.int .i64 W, .int .i64 H, .slice A n c]] w fun e w' => e = .returned (.bool b) ∧ Below w.heap.size w w' := h ▸ greatI_any W H A n c w
theorem gcheck_to {v : Int} (W H : Int) (n : Nat) (h : chk W H n = v) (A : Option Addr) (c : Nat) (w : World) :
    Calls Try.prog 38 #[.agg #[.int .i64 W, .int .i64 H, .slice A n c]] w fun e w' => e = .returned (.int .i64 v) ∧ Below w.heap.size w w' := h ▸ rcheck_any W H A n c w
theorem thr15_to {v : Int} (m : Im) (p q : List Int) (h : thrI m p q = v) (A Ap Aq : Option Addr) (n c np cp nq cq : Nat) (w : World) (hr : Rd w A n (m.c.map (Value.int .i64))) (hn : n ≤ 1048576) (hrp : Rd w Ap np (p.map (Value.int .i64))) (hrq : Rd w Aq nq (q.map (Value.int .i64))) :
    Calls Try.prog 35 #[.agg #[.int .i64 m.w, .int .i64 m.h, .slice A n c], .slice Ap np cp, .slice Aq nq cq] w fun e w' => e = .returned (.int .i64 v) ∧ Below w.heap.size w w' := h ▸ rthrI_any m p q A Ap Aq n c np cp nq cq w hr hn hrp hrq
end Go.Proofs.Ytefeghpglacghaa
