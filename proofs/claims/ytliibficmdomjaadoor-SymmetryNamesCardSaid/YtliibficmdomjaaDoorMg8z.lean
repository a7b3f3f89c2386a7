/- Parts of the proof, in their order. -/
import Derived.Test.YtliibficmdomjaaDoorAppNoAz
import Derived.Test.YtliibficmdomjaaDoorAppNoBz
import Derived.Test.YtliibficmdomjaaDoorAppYesAz
import Derived.Test.YtliibficmdomjaaDoorAppYesBz
import Derived.Test.YtliibficmdomjaaDoorMg2z
import Derived.Lib.Hide
import Derived.WalkKit
import Derived.Deep.RegionHeld3
/- symmetry.applied: a valid grid with an operation applied. -/
namespace Go.Proofs.YtliibficmdomjaaDoor
open Go.RowKit

theorem applied_any (a b op bl o c : Nat) (bs : List Bool) (w : World) (ha1 : 1 ≤ a) (hb1 : 1 ≤ b) (ha : a ≤ 64) (hb : b ≤ 64) (ho : op < 16) (hr : Rd w (some ⟨bl, o, none⟩) (b * a) (bs.map Value.bool)) :
    Calls Tryd.prog 33 #[.agg #[.int .i64 a, .int .i64 b, .slice (some ⟨bl, o, none⟩) (b * a) c], .int .i64 op] w (RetT (appG a b bs op) w) := by
  unfold appG appB
  rcases Bool.eq_false_or_eq_true (op.testBit 2) with h4 | h4 <;> rcases Bool.eq_false_or_eq_true (op.testBit 0) with h1 | h1 <;> rcases Bool.eq_false_or_eq_true (op.testBit 1) with h2 | h2 <;> rw [h4, h1, h2]
  · exact applied_ttt a b op bl o c bs w ha1 hb1 ha hb ho _ h1 h2 h4 rfl hr
  · exact applied_ttf a b op bl o c bs w ha1 hb1 ha hb ho _ h1 h2 h4 rfl hr
  · exact applied_tft a b op bl o c bs w ha1 hb1 ha hb ho _ h1 h2 h4 rfl hr
  · exact applied_tff a b op bl o c bs w ha1 hb1 ha hb ho _ h1 h2 h4 rfl hr
  · exact applied_ftt a b op bl o c bs w ha1 hb1 ha hb ho _ h1 h2 h4 rfl hr
  · exact applied_ftf a b op bl o c bs w ha1 hb1 ha hb ho _ h1 h2 h4 rfl hr
  · exact applied_fft a b op bl o c bs w ha1 hb1 ha hb ho _ h1 h2 h4 rfl hr
  · exact applied_fff a b op bl o c bs w ha1 hb1 ha hb ho _ h1 h2 h4 rfl hr
end Go.Proofs.YtliibficmdomjaaDoor
/- repeat.mod gives the remainder from 0 on (a divisor of at least 1). -/
namespace Go.Proofs.YtliibficmdomjaaDoor
open Go.RowKit

theorem rmod_any (a n : Int) (w : World) (hn : 1 ≤ n) (hn2 : n ≤ 1000000) :
    Calls Tryd.prog 39 #[.int .i64 a, .int .i64 n] w fun e w' => e = .returned (.int .i64 (a % n)) ∧ w' = w := by
  have h1 := Int.tmod_lt_of_pos a (show 0 < n by omega)
  have h2 := Int.lt_tmod_of_pos a (show 0 < n by omega)
  have h3 := Pl.tmod_pos a n (by omega)
  have H3 := Lib.hid h3
  clear h3
  by_cases ht : a.tmod n < 0
  all_goals
    go_enter Tryd.func39, Tryd.ntmps39
    go_wp2
    go_ret
    exact ⟨ret_i (by have := H3.out; first | (rw [if_pos ht] at this; exact this) | (rw [if_neg (by omega)] at this; exact this)), rfl⟩

end Go.Proofs.YtliibficmdomjaaDoor
/- A region that draws its order, walked operation by operation, also where a guard says no. Nothing here names a function of the program. -/
namespace Go.Proofs.YtliibficmdomjaaDoor
open Go.RowKit

section
variable {P : Program} {md : Region.Mode} {ops : Array Oper} {Q : Exit → Act → World → Prop} {S : World → Prop} {fuel : Nat} {listed : Array Bool} {a : Act} {w : World}
/-- An operation that only reads is taken first. -/
theorem man_take (i d : Nat) {v : Value} (hd : ∃ oi, ops[i]? = some oi ∧ oi.dst = some d) (hs : Region.noSelect ops = true) (hf : Region.free md ops listed i = true) (hr : (Region.ready md ops listed).contains i = true)
    (hQ : ∀ c a w, Q (.panic c) (a.put (some d) v) w → Q (.panic c) a w) (hS : S w) (hy : ∀ oi, ops[i]? = some oi → Region.wanted oi (yielded ops a.tmps) = true ∧ ∀ w, S w → (execOp a.eval oi).run P w = .ok (.value v) w)
    (h : wpAnyH P md ops Q S fuel (listed.setIfInBounds i true) (a.put (some d) v) w) : wpAnyH P md ops Q S (fuel + 1) listed a w := by
  obtain ⟨oi, h1, h2⟩ := hd
  subst_vars
  exact wpAnyH_take h1 hs hf hr (by rw [h2]; exact hQ) (Or.inl (hy oi h1)) hS (by rw [h2]; exact h)
/-- An operation that is not wanted is passed. -/
theorem man_skip (i d : Nat) (hd : ∃ oi, ops[i]? = some oi ∧ oi.dst = some d) (hs : Region.noSelect ops = true) (hf : Region.free md ops listed i = true) (hr : (Region.ready md ops listed).contains i = true)
    (hQ : ∀ c a w, Q (.panic c) (a.put (some d) undef) w → Q (.panic c) a w) (hS : S w) (hy : ∀ oi, ops[i]? = some oi → Region.wanted oi (yielded ops a.tmps) = false)
    (h : wpAnyH P md ops Q S fuel (listed.setIfInBounds i true) (a.put (some d) undef) w) : wpAnyH P md ops Q S (fuel + 1) listed a w := by
  obtain ⟨oi, h1, h2⟩ := hd
  exact wpAnyH_take h1 hs hf hr (by rw [h2]; exact hQ) (Or.inr ⟨hy oi h1, rfl⟩) hS (by rw [h2]; exact h)
/-- The one operation that may come up is run. -/
theorem man_run (i : Nat) {o : Oper} (ho : ops[i]? = some o) (hr : Region.ready md ops listed = [i])
    (h : ∀ K' : Act → World → Prop, Shut (∀ a w, S w → (S w → wpAnyH P md ops Q S fuel (listed.setIfInBounds i true) a w) → K' a w) → if Region.wanted o (yielded ops a.tmps) = true then Oper.wp P o a w K' Q else K' (a.put o.dst undef) w) :
    wpAnyH P md ops Q S (fuel + 1) listed a w := wpAnyH_ready hr (by simp) (AllReadyH.cons ho h AllReadyH.nil)
/-- One of two operations comes up. -/
theorem man_two (i j : Nat) {o o' : Oper} (ho : ops[i]? = some o) (ho' : ops[j]? = some o') (hr : Region.ready md ops listed = [i, j])
    (h : ∀ K' : Act → World → Prop, Shut (∀ a w, S w → (S w → wpAnyH P md ops Q S fuel (listed.setIfInBounds i true) a w) → K' a w) → if Region.wanted o (yielded ops a.tmps) = true then Oper.wp P o a w K' Q else K' (a.put o.dst undef) w)
    (h' : ∀ K' : Act → World → Prop, Shut (∀ a w, S w → (S w → wpAnyH P md ops Q S fuel (listed.setIfInBounds j true) a w) → K' a w) → if Region.wanted o' (yielded ops a.tmps) = true then Oper.wp P o' a w K' Q else K' (a.put o'.dst undef) w) :
    wpAnyH P md ops Q S (fuel + 1) listed a w := wpAnyH_ready hr (by simp) (AllReadyH.cons ho h (AllReadyH.cons ho' h' AllReadyH.nil))
end
end Go.Proofs.YtliibficmdomjaaDoor
