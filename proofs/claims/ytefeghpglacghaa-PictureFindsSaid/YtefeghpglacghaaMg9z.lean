/- Parts of the proof, in their order. -/
import Derived.Test.YtefeghpglacghaaRMark15z
import Derived.Test.YtefeghpglacghaaChoices15z
import Derived.Test.YtefeghpglacghaaMg8z
import Derived.Test.YtefeghpglacghaaThrz
import Derived.Test.YtefeghpglacghaaColPz
/- Which colours the reference marks: after all lists of indices, the choices of every thread. -/
namespace Go.Proofs.Ytefeghpglacghaa

/-- Whether colour d is marked for a pick whose only colour is q (all colours: q is negative). -/
def mkQ (q : Int) (d : Nat) : Bool := decide (q < 0) || q == (d : Int)
def mkI (cs : List Int) (a : Nat) (wv : List Int) (i d : Nat) : Bool := if i < a then mkE cs (wv.getD i 0) d else mkQ (pickN cs a wv (i - a) a) d
def Marks (a b : Nat) (cs : List Int) (v : Int) (F : Nat → Nat → Bool) : Prop :=
  ∀ i d, i < a + b → d < 16 → (F i d = true ↔ ∃ l, l.length = a ∧ Dig (pal cs).length l ∧ valN (pal cs).length l < v ∧ PicksOk cs a b (colL (pal cs) l) ∧ mkI cs a (colL (pal cs) l) i d = true)
section
variable {a b : Nat} {cs l : List Int} {F : Nat → Nat → Bool}
theorem Marks.start : Marks a b cs 0 (fun _ _ => false) := fun i d hi hd => by
  constructor
  · intro h; cases h
  · rintro ⟨l, _, h2, h3, _⟩
    have := (valN_lt h2).1
    omega
theorem Marks.skip (h : Marks a b cs (valN (pal cs).length l) F) (hl : l.length = a) (hd : Dig (pal cs).length l) (hno : ¬ PicksOk cs a b (colL (pal cs) l)) : Marks a b cs (valN (pal cs).length l + 1) F := fun i d hi hd16 => by
  rw [h i d hi hd16]
  constructor
  · rintro ⟨l', h1, h2, h3, h4⟩
    exact ⟨l', h1, h2, by omega, h4⟩
  · rintro ⟨l', h1, h2, h3, h4, h5⟩
    refine ⟨l', h1, h2, ?_, h4, h5⟩
    by_cases e : valN (pal cs).length l' = valN (pal cs).length l
    · rw [valN_inj h2 hd (h1.trans hl.symm) e] at h4
      exact absurd h4 hno
    · omega
theorem Marks.add (h : Marks a b cs (valN (pal cs).length l) F) (hl : l.length = a) (hd : Dig (pal cs).length l) (hok : PicksOk cs a b (colL (pal cs) l)) :
    Marks a b cs (valN (pal cs).length l + 1) (fun i d => F i d || mkI cs a (colL (pal cs) l) i d) := fun i d hi hd16 => by
  rw [Bool.or_eq_true, h i d hi hd16]
  constructor
  · rintro (⟨l', h1, h2, h3, h4⟩ | h1)
    · exact ⟨l', h1, h2, by omega, h4⟩
    · exact ⟨l, hl, hd, by omega, hok, h1⟩
  · rintro ⟨l', h1, h2, h3, h4, h5⟩
    by_cases e : valN (pal cs).length l' = valN (pal cs).length l
    · rw [valN_inj h2 hd (h1.trans hl.symm) e] at h5
      exact .inr h5
    · exact .inl ⟨l', h1, h2, by omega, h4, h5⟩
theorem Marks.all (hV : Val a b cs) (h : Marks a b cs (((pal cs).length ^ a : Nat) : Int) F) {i d : Nat} (hi : i < a + b) (hd : d < 16) : F i d = true ↔ Ch a b cs (if i < a then 0 else 1) (if i < a then i else i - a) (d : Int) := by
  rw [h i d hi hd]
  by_cases hia : i < a
  · rw [if_pos hia, if_pos hia, ch_end hV hia (by omega) (by omega)]
    constructor
    · rintro ⟨l, h1, h2, _, h4, h5⟩
      refine ⟨l, h1, h2, h4, ?_⟩
      unfold mkI mkE at h5
      rw [if_pos hia] at h5
      simpa using h5
    · rintro ⟨l, h1, h2, h4, h5⟩
      have hv := (valN_lt h2).2
      rw [h1] at hv
      refine ⟨l, h1, h2, hv, h4, ?_⟩
      unfold mkI mkE
      rw [if_pos hia]
      simpa using h5
  · rw [if_neg hia, if_neg hia, ch_pick hV (by omega) (by omega) (by omega)]
    constructor
    · rintro ⟨l, h1, h2, _, h4, h5⟩
      refine ⟨l, h1, h2, h4, ?_⟩
      unfold mkI mkQ at h5
      rw [if_neg hia] at h5
      simpa using h5
    · rintro ⟨l, h1, h2, h4, h5⟩
      have hv := (valN_lt h2).2
      rw [h1] at hv
      refine ⟨l, h1, h2, hv, h4, ?_⟩
      unfold mkI mkQ
      rw [if_neg hia]
      simpa using h5
theorem lstL_ch {k i : Nat} {f : Nat → Bool} (h : ∀ d, d < 16 → (f d = true ↔ Ch a b cs k i (d : Int))) : ∀ n, n ≤ 16 → lstL f n = chL a b cs k i n
  | 0, _ => rfl
  | n + 1, hn => by
    have ih := lstL_ch h n (by omega)
    have h1 := h n (by omega)
    cases hf : f n with
    | true => rw [lstL_yes hf, ih, chL_yes (h1.1 hf)]
    | false => rw [lstL_no hf, ih, chL_no (fun q => by rw [h1.2 q] at hf; cases hf)]
theorem Marks.ends (hV : Val a b cs) (h : Marks a b cs (((pal cs).length ^ a : Nat) : Int) F) {x : Nat} (hx : x < a) : lstL (F x) 16 = chL a b cs 0 x 16 :=
  lstL_ch (fun d hd => by have := h.all hV (i := x) (by omega) hd; rwa [if_pos hx, if_pos hx] at this) 16 (Nat.le_refl _)
theorem Marks.picks (hV : Val a b cs) (h : Marks a b cs (((pal cs).length ^ a : Nat) : Int) F) {y : Nat} (hy : y < b) : lstL (F (a + y)) 16 = chL a b cs 1 y 16 :=
  lstL_ch (fun d hd => by
    have := h.all hV (i := a + y) (by omega) hd
    rwa [if_neg (by omega), if_neg (by omega), show a + y - a = y by omega] at this) 16 (Nat.le_refl _)
end
end Go.Proofs.Ytefeghpglacghaa
/- picture.First where some colours fit, and where none do; the checks of layer 14 with their results handed in. -/
namespace Go.Proofs.Ytefeghpglacghaa
open Go.RowKit

theorem First_fit (a b : Nat) (cs : List Int) (A : Option Addr) (c : Nat) (w : World) (h0 : chkI ⟨a, b, cs⟩ = 0) (hF : ∃ F, FitF (N2 a b) (M2 a cs) F) (hr : Rd w A (b * a) (cs.map (Value.int .i64))) (hn : b * a ≤ 1048576) :
    Calls Try.prog 11 #[.agg #[.int .i64 a, .int .i64 b, .slice A (b * a) c]] w fun e w' => ∃ (P Q : List Int) (A1 A2 : Option Addr) (k1 k2 : Nat),
      e = .returned (.tuple #[.slice A1 a k1, .slice A2 b k2, .int .i64 0]) ∧ P.length = a ∧ Q.length = b ∧ FitF (N2 a b) (M2 a cs) (F2 P Q) ∧ (∀ F, FitF (N2 a b) (M2 a cs) F → LexLe (N2 a b) 2 0 (F2 P Q) F) ∧
      Rd w' A1 a (P.map (Value.int .i64)) ∧ Rd w' A2 b (Q.map (Value.int .i64)) ∧ Below w.heap.size w w' := by
  refine (First_any ⟨a, b, cs⟩ A (b * a) c w hr hn).mono ?_
  rintro e w' ⟨P, Q, er, A1, A2, k1, k2, rfl, hI, o1, o2, hb⟩
  rcases hI with ⟨hx, _⟩ | ⟨_, ⟨rfl, h1, h2, h3, h4⟩ | ⟨rfl, rfl, rfl, hno⟩⟩
  · exact absurd h0 hx
  · simp only [Int.toNat_natCast] at h1 h2 h3 h4
    rw [h1] at o1
    rw [h2] at o2
    exact ⟨P, Q, A1, A2, k1, k2, by rw [h1, h2], h1, h2, h3, h4, rd_of_own o1, rd_of_own o2, hb⟩
  · exact absurd hF hno
theorem First_none (a b : Nat) (cs : List Int) (A : Option Addr) (c : Nat) (w : World) (h0 : chkI ⟨a, b, cs⟩ = 0) (hF : ¬ ∃ F, FitF (N2 a b) (M2 a cs) F) (hr : Rd w A (b * a) (cs.map (Value.int .i64))) (hn : b * a ≤ 1048576) :
    Calls Try.prog 11 #[.agg #[.int .i64 a, .int .i64 b, .slice A (b * a) c]] w fun e w' => ∃ (A1 A2 : Option Addr) (k1 k2 : Nat),
      e = .returned (.tuple #[.slice A1 0 k1, .slice A2 0 k2, .int .i64 6]) ∧ Below w.heap.size w w' := by
  refine (First_any ⟨a, b, cs⟩ A (b * a) c w hr hn).mono ?_
  rintro e w' ⟨P, Q, er, A1, A2, k1, k2, rfl, hI, o1, o2, hb⟩
  rcases hI with ⟨hx, _⟩ | ⟨_, ⟨rfl, h1, h2, h3, h4⟩ | ⟨rfl, rfl, rfl, hno⟩⟩
  · exact absurd h0 hx
  · exact absurd ⟨_, h3⟩ hF
  · exact ⟨A1, A2, k1, k2, rfl, hb⟩
theorem rthr14_to {v : Int} (g : Gd) (p q : List Int) (h : thr g p q = v) (A Ap Aq : Option Addr) (n c np cp nq cq : Nat) (w : World) (hn : g.bits.length = n) (hrp : Rd w Ap np (p.map (Value.int .i64))) (hrq : Rd w Aq nq (q.map (Value.int .i64))) :
    Calls Try.prog 30 #[.agg #[.int .i64 g.w, .int .i64 g.h, .slice A n c], .slice Ap np cp, .slice Aq nq cq] w fun e w' => e = .returned (.int .i64 v) ∧ Below w.heap.size w w' := h ▸ rthr_any g p q A Ap Aq n c np cp nq cq w hn hrp hrq
end Go.Proofs.Ytefeghpglacghaa
