/- Parts of the proof, in their order. -/
import Derived.Test.YtliibficmdomjaaDoorMg11z
import Derived.Test.YtliibficmdomjaaDoorCompz
import Derived.Test.YtliibficmdomjaaDoorMg12z
import Derived.Test.YtliibficmdomjaaDoorAllsDz
import Derived.Test.YtliibficmdomjaaDoorHasz
import Derived.Test.YtliibficmdomjaaDoorLeastz
import Derived.Test.YtliibficmdomjaaDoorRSamez
/- Operations composed and applied, as the laws of layer 7 ask. -/
namespace Go.Proofs.YtliibficmdomjaaDoor
open Go.RowKit

theorem startG_app {a b m : Nat} {bs : List Bool} (ha1 : 1 ≤ a) (hb1 : 1 ≤ b) (ha : a ≤ 16) (hb : b ≤ 16) : startG (appG a b bs m) = 0 := by
  have hc : chkG (appG a b bs m) = 0 := by
    unfold appG appB
    cases m.testBit 2
    · exact chk_tab (by simpa) (by simpa) (by simp; omega) (by simp; omega)
    · exact chk_tab (by simpa) (by simpa) (by simp; omega) (by simp; omega)
  unfold startG
  rw [if_neg (by omega), if_neg]
  unfold appG appB
  cases m.testBit 2 <;> simp <;> omega
theorem startG_of {g : Gd} (h : chkG g = 0) (hw : g.w ≤ 16) (hh : g.h ≤ 16) : startG g = 0 := by
  unfold startG; rw [if_neg (by omega), if_neg (by omega)]
theorem applyG_ok {g : Gd} {m : Nat} (h : startG g = 0) (hm : m < 16) : applyG g (m : Int) = (appT g m, 0) := by
  unfold applyG; rw [if_neg (by omega), if_neg (by omega)]; simp [appT]
theorem compG_ok {m n : Nat} (hm : m < 16) (hn : n < 16) : compG (m : Int) (n : Int) = (((compN m n : Nat) : Int), 0) := by
  unfold compG; rw [if_neg (by omega)]; simp
theorem invG_ok {m : Nat} (hm : m < 16) : invG (m : Int) = (((invN m : Nat) : Int), 0) := by
  unfold invG; rw [if_neg (by omega)]; simp
theorem compose_to (m n : Nat) {k : Nat} (hm : m < 16) (hn : n < 16) (h : compN m n = k) (w : World) : Calls Tryd.prog 11 #[.int .i64 m, .int .i64 n] w fun e w' => e = .returned (.tuple #[.int .i64 k, .int .i64 0]) ∧ Below w.heap.size w w' := by
  have := compose_any m n w
  rw [compG_ok hm hn, h] at this
  exact this.mono fun e w' h => ⟨h.1, by rw [h.2]; exact Below.refl _ _⟩
theorem inverse_to (m : Nat) {k : Nat} (hm : m < 16) (h : invN m = k) (w : World) : Calls Tryd.prog 13 #[.int .i64 m] w fun e w' => e = .returned (.tuple #[.int .i64 k, .int .i64 0]) ∧ Below w.heap.size w w' := by
  have := inverse_any m w
  rw [invG_ok hm, h] at this
  exact this.mono fun e w' h => ⟨h.1, by rw [h.2]; exact Below.refl _ _⟩
theorem apply_to {r : Gd × Int} (g : Gd) (op : Int) (h : applyG g op = r) (A : Option Addr) (n c : Nat) (w : World) (hr : Rd w A n (g.bits.map Value.bool)) :
    Calls Tryd.prog 12 #[.agg #[.int .i64 g.w, .int .i64 g.h, .slice A n c], .int .i64 op] w (RetG r w) := h ▸ apply_any g op A n c w hr
end Go.Proofs.YtliibficmdomjaaDoor
/- The contracts of symmetry at grids that have a motif. -/
namespace Go.Proofs.YtliibficmdomjaaDoor
open Go.RowKit

theorem all_to (g : Gd) (h0 : startG g = 0) {l : List Int} (h : alkL g g = l) (A : Option Addr) (n c : Nat) (w : World) (hr : Rd w A n (g.bits.map Value.bool)) (hc : n ≤ c) :
    Calls Tryd.prog 16 #[.agg #[.int .i64 g.w, .int .i64 g.h, .slice A n c]] w (RetL (l, 0) w) :=
  (all_any g A n c w hr hc).mono fun e w' k => by
    obtain ⟨r, hR, k⟩ := k
    rw [allR_is h0 hR, h] at k
    exact k
theorem alikes_to (g g' : Gd) (h0 : startG g = 0) (h0' : startG g' = 0) {l : List Int} (h : alkL g g' = l) (A A' : Option Addr) (n c n' c' : Nat) (w : World) (hr : Rd w A n (g.bits.map Value.bool)) (hr' : Rd w A' n' (g'.bits.map Value.bool)) (hc' : n' ≤ c') :
    Calls Tryd.prog 15 #[.agg #[.int .i64 g.w, .int .i64 g.h, .slice A n c], .agg #[.int .i64 g'.w, .int .i64 g'.h, .slice A' n' c']] w (RetL (l, 0) w) :=
  (alikes_any g g' A A' n c n' c' w hr hr' hc').mono fun e w' k => by
    obtain ⟨r, hR, k⟩ := k
    rw [alikeR_is h0 h0' hR, h] at k
    exact k
theorem least_to {a : Gd} {m : Nat} {o t : Int} (g : Gd) (h : leastG g = ((a, m), t)) (ho : (m : Int) = o) (A : Option Addr) (n c : Nat) (w : World) (hr : Rd w A n (g.bits.map Value.bool)) (hc : n ≤ c) :
    Calls Tryd.prog 17 #[.agg #[.int .i64 g.w, .int .i64 g.h, .slice A n c]] w (LeastRet a o t w) := by
  have k := least_any g A n c w hr hc
  rw [h] at k
  rw [← ho]
  exact k
theorem same_self (g : Gd) (hs : g.bits.length ≤ 4096) (A A2 : Option Addr) (n c n2 c2 : Nat) (w : World) (hr : Rd w A n (g.bits.map Value.bool)) (hr2 : Rd w A2 n2 (g.bits.map Value.bool)) :
    Calls Tryd.prog 14 #[.agg #[.int .i64 g.w, .int .i64 g.h, .slice A n c], .agg #[.int .i64 g.w, .int .i64 g.h, .slice A2 n2 c2]] w fun e w' => e = .returned (.bool true) ∧ Below w.heap.size w w' := by
  have hl : g.bits.length = n := by simpa using hr.len
  have h := rsame_any g g A A2 n c n2 c2 w hr hr2 (by omega)
  rw [sameG_self] at h
  exact h
end Go.Proofs.YtliibficmdomjaaDoor
