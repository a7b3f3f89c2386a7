/- Parts of the proof, in their order. -/
import Derived.Test.YtmajmbfbnchbfaaMg14z
import Derived.Test.YtmajmbfbnchbfaaColPz
import Derived.Outline
import Derived.Test.YtmajmbfbnchbfaaMg13z
import Derived.Test.YtmajmbfbnchbfaaThrz
/- colour.Same compares images. -/
namespace Go.Proofs.Ytmajmbfbnchbfaa
open Go.RowKit

set_option maxHeartbeats 1000000 in
theorem isame_any (g g2 : Im) (A A2 : Option Addr) (n c n2 c2 : Nat) (w : World) (hr : Rd w A n (g.c.map (Value.int .i64))) (hr2 : Rd w A2 n2 (g2.c.map (Value.int .i64))) (hn : n ≤ 1048576) :
    Calls Try.prog 36 #[.agg #[.int .i64 g.w, .int .i64 g.h, .slice A n c], .agg #[.int .i64 g2.w, .int .i64 g2.h, .slice A2 n2 c2]] w fun e w' => e = .returned (.bool (sameI g g2)) ∧ Below w.heap.size w w' := by
  obtain ⟨W, H, l⟩ := g
  obtain ⟨W2, H2, l2⟩ := g2
  simp only at hr hr2 ⊢
  have S0 := ((((St.start w).addRd hr).addRd hr2).box #[.int .i64 W, .int .i64 H, .slice A n c] 36).box #[.int .i64 W2, .int .i64 H2, .slice A2 n2 c2] 36
  simp only [size_alloc1, List.nil_append, List.cons_append] at S0
  obtain ⟨c0, c1, c2'⟩ := (S0.blk 2 rfl).cell3
  obtain ⟨d0, d1, d2⟩ := (S0.blk 3 rfl).cell3
  have HE := Lib.hid (eqi_any l l2 A A2 n c n2 c2 _ (S0.rd 0 rfl) (S0.rd 1 rfl) hn)
  clear hr hr2
  by_cases h1 : W = W2
  · have e1 : (W == W2) = true := by simpa using h1
    by_cases h2 : H = H2
    · have e2 : (H == H2) = true := by simpa using h2
      have HS : Hid (sameI ⟨W, H, l⟩ ⟨W2, H2, l2⟩ = decide (l = l2)) := Lib.hid (by unfold sameI; simp [h1, h2])
      clear h1 h2
      go_enter Try.func36, Try.ntmps36
      go_wp2_with fail
      refine HE.out.mono ?_
      rintro e w1 ⟨rfl, m, rfl⟩
      go_wp2_with fail
      go_ret
      exact ⟨by rw [HS.out]; rfl, below_drewN S0.below m⟩
    · have e2 : (H == H2) = false := by simpa using h2
      have HS : Hid (sameI ⟨W, H, l⟩ ⟨W2, H2, l2⟩ = false) := Lib.hid (sameI_not (fun h => h2 h.2.1))
      clear h1 h2
      go_enter Try.func36, Try.ntmps36
      go_wp2_with fail
      go_ret
      exact ⟨by rw [HS.out]; rfl, S0.below⟩
  · have e1 : (W == W2) = false := by simpa using h1
    have HS : Hid (sameI ⟨W, H, l⟩ ⟨W2, H2, l2⟩ = false) := Lib.hid (sameI_not (fun h => h1 h.1))
    clear h1
    go_enter Try.func36, Try.ntmps36
    go_wp2_with fail
    go_ret
    exact ⟨by rw [HS.out]; rfl, S0.below⟩
end Go.Proofs.Ytmajmbfbnchbfaa
/- picture.First where some colours fit, and where none do; the checks of layer 14 with their results handed in. -/
namespace Go.Proofs.Ytmajmbfbnchbfaa
open Go.RowKit

theorem First_fit (a b : Nat) (cs : List Int) (A : Option Addr) (c : Nat) (w : World) (h0 : chkI ⟨a, b, cs⟩ = 0) (hF : ∃ F, FitF (N2 a b) (M2 a cs) F) (hr : Rd w A (b * a) (cs.map (Value.int .i64))) (hn : b * a ≤ 1048576) :
    Calls Try.prog 12 #[.agg #[.int .i64 a, .int .i64 b, .slice A (b * a) c]] w fun e w' => ∃ (P Q : List Int) (A1 A2 : Option Addr) (k1 k2 : Nat),
      e = .returned (.tuple #[.slice A1 a k1, .slice A2 b k2, .int .i64 0]) ∧ P.length = a ∧ Q.length = b ∧ FitF (N2 a b) (M2 a cs) (F2 P Q) ∧ (∀ F, FitF (N2 a b) (M2 a cs) F → LexLe (N2 a b) 2 0 (F2 P Q) F) ∧
      Rd w' A1 a (P.map (Value.int .i64)) ∧ Rd w' A2 b (Q.map (Value.int .i64)) ∧ Below w.heap.size w w' := by
  refine (First_any ⟨a, b, cs⟩ A (b * a) c w hr hn).mono ?_
  rintro e w' ⟨P, Q, er, A1, A2, k1, k2, rfl, hI, o1, o2, hb⟩
  rcases hI with ⟨hx, _⟩ | ⟨_, ⟨rfl, h1, h2, h3, h4⟩ | ⟨rfl, rfl, rfl, hno⟩⟩
  · exact absurd h0 hx
  · simp only [Int.toNat_natCast] at h1 h2 h3 h4
    rw [h1] at o1
    rw [h2] at o2
    exact ⟨P, Q, A1, A2, k1, k2, by rw [h1, h2], h1, h2, h3, h4, rd_of_own o1, rd_of_own o2, hb⟩
  · exact absurd hF hno
theorem First_none (a b : Nat) (cs : List Int) (A : Option Addr) (c : Nat) (w : World) (h0 : chkI ⟨a, b, cs⟩ = 0) (hF : ¬ ∃ F, FitF (N2 a b) (M2 a cs) F) (hr : Rd w A (b * a) (cs.map (Value.int .i64))) (hn : b * a ≤ 1048576) :
    Calls Try.prog 12 #[.agg #[.int .i64 a, .int .i64 b, .slice A (b * a) c]] w fun e w' => ∃ (A1 A2 : Option Addr) (k1 k2 : Nat),
      e = .returned (.tuple #[.slice A1 0 k1, .slice A2 0 k2, .int .i64 6]) ∧ Below w.heap.size w w' := by
  refine (First_any ⟨a, b, cs⟩ A (b * a) c w hr hn).mono ?_
  rintro e w' ⟨P, Q, er, A1, A2, k1, k2, rfl, hI, o1, o2, hb⟩
  rcases hI with ⟨hx, _⟩ | ⟨_, ⟨rfl, h1, h2, h3, h4⟩ | ⟨rfl, rfl, rfl, hno⟩⟩
  · exact absurd h0 hx
  · exact absurd ⟨_, h3⟩ hF
  · exact ⟨A1, A2, k1, k2, rfl, hb⟩
theorem rthr14_to {v : Int} (g : Gd) (p q : List Int) (h : thr g p q = v) (A Ap Aq : Option Addr) (n c np cp nq cq : Nat) (w : World) (hn : g.bits.length = n) (hrp : Rd w Ap np (p.map (Value.int .i64))) (hrq : Rd w Aq nq (q.map (Value.int .i64))) :
    Calls Try.prog 8 #[.agg #[.int .i64 g.w, .int .i64 g.h, .slice A n c], .slice Ap np cp, .slice Aq nq cq] w fun e w' => e = .returned (.int .i64 v) ∧ Below w.heap.size w w' := h ▸ rthr_any g p q A Ap Aq n c np cp nq cq w hn hrp hrq
end Go.Proofs.Ytmajmbfbnchbfaa
