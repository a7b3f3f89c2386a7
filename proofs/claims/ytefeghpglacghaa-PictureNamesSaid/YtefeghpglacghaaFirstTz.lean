/- picture.First where some colours fit, and where none do; the checks of layer 14 with their results handed in. -/
import Derived.Test.YtefeghpglacghaaMg7z
import Derived.Test.YtefeghpglacghaaThrz
import Derived.Test.YtefeghpglacghaaColPz
namespace Go.Proofs.Ytefeghpglacghaa
open Go.RowKit

theorem First_fit (a b : Nat) (cs : List Int) (A : Option Addr) (c : Nat) (w : World) (h0 : chkI ⟨a, b, cs⟩ = 0) (hF : ∃ F, FitF (N2 a b) (M2 a cs) F) (hr : Rd w A (b * a) (cs.map (Value.int .i64))) (hn : b * a ≤ 1048576) :
    Calls Try.prog 11 #[.agg #[.int .i64 a, .int .i64 b, .slice A (b * a) c]] w fun e w' => ∃ (P Q : List Int) (A1 A2 : Option Addr) (k1 k2 : Nat),
      e = .returned (.tuple #[.slice A1 a k1, .slice A2 b k2, .int .i64 0]) ∧ P.length = a ∧ Q.length = b ∧ FitF (N2 a b) (M2 a cs) (F2 P Q) ∧ (∀ F, FitF (N2 a b) (M2 a cs) F → LexLe (N2 a b) 2 0 (F2 P Q) F) ∧
      Rd w' A1 a (P.map (Value.int .i64)) ∧ Rd w' A2 b (Q.map (Value.int .i64)) ∧ Below w.heap.size w w' := by
  refine (First_any ⟨a, b, cs⟩ A (b * a) c w hr hn).mono ?_
  rintro e w' ⟨P, Q, er, A1, A2, k1, k2, rfl, hI, o1, o2, hb⟩
  rcases hI with ⟨hx, _⟩ | ⟨_, ⟨rfl, h1, h2, h3, h4⟩ | ⟨rfl, rfl, rfl, hno⟩⟩
  · exact absurd h0 hx
  · simp only [Int.toNat_natCast] at h1 h2 h3 h4
    rw [h1] at o1
    rw [h2] at o2
    exact ⟨P, Q, A1, A2, k1, k2, by rw [h1, h2], h1, h2, h3, h4, rd_of_own o1, rd_of_own o2, hb⟩
  · exact absurd hF hno
theorem First_none (a b : Nat) (cs : List Int) (A : Option Addr) (c : Nat) (w : World) (h0 : chkI ⟨a, b, cs⟩ = 0) (hF : ¬ ∃ F, FitF (N2 a b) (M2 a cs) F) (hr : Rd w A (b * a) (cs.map (Value.int .i64))) (hn : b * a ≤ 1048576) :
    Calls Try.prog 11 #[.agg #[.int .i64 a, .int .i64 b, .slice A (b * a) c]] w fun e w' => ∃ (A1 A2 : Option Addr) (k1 k2 : Nat),
      e = .returned (.tuple #[.slice A1 0 k1, .slice A2 0 k2, .int .i64 6]) ∧ Below w.heap.size w w' := by
  refine (First_any ⟨a, b, cs⟩ A (b * a) c w hr hn).mono ?_
  rintro e w' ⟨P, Q, er, A1, A2, k1, k2, rfl, hI, o1, o2, hb⟩
  rcases hI with ⟨hx, _⟩ | ⟨_, ⟨rfl, h1, h2, h3, h4⟩ | ⟨rfl, rfl, rfl, hno⟩⟩
  · exact absurd h0 hx
  · exact absurd ⟨_, h3⟩ hF
  · exact ⟨A1, A2, k1, k2, rfl, hb⟩
theorem rthr14_to {v : Int} (g : Gd) (p q : List Int) (h : thr g p q = v) (A Ap Aq : Option Addr) (n c np cp nq cq : Nat) (w : World) (hn : g.bits.length = n) (hrp : Rd w Ap np (p.map (Value.int .i64))) (hrq : Rd w Aq nq (q.map (Value.int .i64))) :
    Calls Try.prog 30 #[.agg #[.int .i64 g.w, .int .i64 g.h, .slice A n c], .slice Ap np cp, .slice Aq nq cq] w fun e w' => e = .returned (.int .i64 v) ∧ Below w.heap.size w w' := h ▸ rthr_any g p q A Ap Aq n c np cp nq cq w hn hrp hrq
end Go.Proofs.Ytefeghpglacghaa
