/- Parts of the proof, in their order. -/
import Derived.Test.YtefeghpglacghaaMg2z
import Derived.Test.YtefeghpglacghaaThr15z
import Derived.Test.YtefeghpglacghaaMg7z
import Derived.Test.YtefeghpglacghaaMg4z
/- raddleref01.Great: more than 4,200 cells. -/
namespace Go.Proofs.Ytefeghpglacghaa
open Go.RowKit

theorem great_any (W H : Int) (A : Option Addr) (n c : Nat) (w : World) :
    Calls Try.prog 18 #[.agg #[.int .i64 W, .int .i64 H, .slice A n c]] w fun e w' => e = .returned (.bool (decide (4200 < n))) ∧ Below w.heap.size w w' := by
  go_enter Try.func18, Try.ntmps18
  go_wp2
  go_ret
  exact ⟨by simp; omega, (Below.refl _ _).alloc (Nat.le_refl _) _⟩

end Go.Proofs.Ytefeghpglacghaa
/- Contracts of the checks of layer 15's laws, their results handed in. -/
namespace Go.Proofs.Ytefeghpglacghaa
open Go.RowKit
theorem ggreat_to {b : Bool} (W H : Int) (n : Nat) (h : decide (4200 < n) = b) (A : Option Addr) (c : Nat) (w : World) :
    Calls Try.prog 18 #[.agg #[.int .i64 W, .int .i64 H, .slice A n c]] w fun e w' => e = .returned (.bool b) ∧ Below w.heap.size w w' := h ▸ great_any W H A n c w
theorem igreat_to {b : Bool} (W H : Int) (n : Nat) (h : decide (4200 < n) = b) (A : Option Addr) (c : Nat) (w : World) :
    Calls Try.prog 17 #[.agg #[.int .i64 W, .int .i64 H, .slice A n c]] w fun e w' => e = .returned (.bool b) ∧ Below w.heap.size w w' := h ▸ greatI_any W H A n c w
theorem gcheck_to {v : Int} (W H : Int) (n : Nat) (h : chk W H n = v) (A : Option Addr) (c : Nat) (w : World) :
    Calls Try.prog 38 #[.agg #[.int .i64 W, .int .i64 H, .slice A n c]] w fun e w' => e = .returned (.int .i64 v) ∧ Below w.heap.size w w' := h ▸ rcheck_any W H A n c w
theorem thr15_to {v : Int} (m : Im) (p q : List Int) (h : thrI m p q = v) (A Ap Aq : Option Addr) (n c np cp nq cq : Nat) (w : World) (hr : Rd w A n (m.c.map (Value.int .i64))) (hn : n ≤ 1048576) (hrp : Rd w Ap np (p.map (Value.int .i64))) (hrq : Rd w Aq nq (q.map (Value.int .i64))) :
    Calls Try.prog 35 #[.agg #[.int .i64 m.w, .int .i64 m.h, .slice A n c], .slice Ap np cp, .slice Aq nq cq] w fun e w' => e = .returned (.int .i64 v) ∧ Below w.heap.size w w' := h ▸ rthrI_any m p q A Ap Aq n c np cp nq cq w hr hn hrp hrq
end Go.Proofs.Ytefeghpglacghaa
