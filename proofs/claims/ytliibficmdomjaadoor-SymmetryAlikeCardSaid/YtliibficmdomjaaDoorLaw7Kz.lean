/- The contracts of layer 7 as its laws ask: with what the lists of operations tell. -/
import Derived.Test.YtliibficmdomjaaDoorAlive7z
import Derived.Test.YtliibficmdomjaaDoorValid7z
import Derived.Test.YtliibficmdomjaaDoorMg18z
import Derived.Test.YtliibficmdomjaaDoorLaw7Pz
namespace Go.Proofs.YtliibficmdomjaaDoor
open Go.RowKit

theorem isb_to {r : Bool} (op : Int) (h : decide (0 ≤ op ∧ op < 16) = r) (w : World) : Calls Tryd.prog 9 #[.int .i64 op] w fun e w' => e = .returned (.bool r) ∧ Below w.heap.size w w' :=
  (ris7_to op w h).mono fun _ _ h => ⟨h.1, by rw [h.2]; exact Below.refl _ _⟩
theorem valid7_to {r : Bool} (g : Gd) (h : valid7B g = r) (A : Option Addr) (n c : Nat) (hl : g.bits.length = n) (w : World) : Calls Tryd.prog 8 #[.agg #[.int .i64 g.w, .int .i64 g.h, .slice A n c]] w fun e w' => e = .returned (.bool r) ∧ Below w.heap.size w w' := h ▸ valid7_any g A n c w hl
theorem is_yes {m : Nat} (h : m < 16) : decide (0 ≤ (m : Int) ∧ (m : Int) < 16) = true := by simp; omega
theorem cell_int {w : World} {gL n k : Nat} {L : List Int} (h : Rd w (some ⟨gL, 0, none⟩) n (L.map (Value.int .i64))) (hk : k < n) : w.cell? ⟨gL, 0 + k, none⟩ = some (.int .i64 (L.getD k 0)) := by
  have hl : L.length = n := by simpa using h.len
  exact h.lit k _ (by rw [List.getElem?_map, List.getElem?_eq_getElem (by omega)]; simp [List.getD, show k < L.length by omega])
section
variable {g g' : Gd} (hg : chkG g = 0) (hg' : chkG g' = 0)
include hg hg'
theorem alk_inv_mem {m : Nat} (hm : m < 16) (h : (m : Int) ∈ alkL g g') : ((invN m : Nat) : Int) ∈ alkL g' g := by
  obtain ⟨m', _, h2, h3⟩ := (alk_mem hg hg').1 h
  obtain rfl : m = m' := by omega
  exact alk_inv hg hg' hm h2
end
theorem alk_comp_mem {g : Gd} (hg : chkG g = 0) {m n : Nat} (hm : m < 16) (hn : n < 16) (h : (m : Int) ∈ alkL g g) (h' : (n : Int) ∈ alkL g g) : ((compN m n : Nat) : Int) ∈ alkL g g := by
  obtain ⟨m', _, h2, h3⟩ := (alk_mem hg hg).1 h
  obtain rfl : m = m' := by omega
  obtain ⟨n', _, k2, k3⟩ := (alk_mem hg hg).1 h'
  obtain rfl : n = n' := by omega
  exact (alk_mem hg hg).2 ⟨_, compN_lt hm hn, h2.comp hg hg hm hn k2, rfl⟩
theorem has_off {g : Gd} (h0 : startG g = 0) {k : Nat} (hk : k < 16) {r : (Bool × Int × Int) × Int} (h : HasR g (k : Int) r) :
    ∃ x y e : Int, r = ((decide (e = 0), x, y), 0) ∧ OffR g (appT g k) ((x, y), e) ∧ ((e = 0 ∧ (k : Int) ∈ alkL g g) ∨ (e = 6 ∧ x = 0 ∧ y = 0 ∧ (k : Int) ∉ alkL g g)) := by
  have hc := (startG_zero h0).1
  have hT := appT_chk hc k
  unfold HasR at h
  rw [if_neg (by omega), if_neg (by omega)] at h
  obtain ⟨⟨x, y⟩, e, h1, h2⟩ := h
  simp only [Int.toNat_natCast] at h1
  refine ⟨x, y, e, h2, h1, ?_⟩
  obtain ⟨a, b, f1, f2, a1, _, b1, _, _⟩ := chkG_sides hT
  have hbz : both2 g (appT g k) = 0 := both2_zero hc hT
  rcases h1 with ⟨k1, _⟩ | ⟨_, x', y', k2, k3⟩ | ⟨_, k2, k3⟩
  · exact absurd hbz k1
  · injection k3 with _ k3
    exact .inl ⟨k3, (alk_mem hc hc).2 ⟨k, hk, PlM.symm ⟨_, _, k2.1⟩, rfl⟩⟩
  · injection k3 with k4 k3
    injection k4 with k5 k6
    refine .inr ⟨k3, k5, k6, fun hm => ?_⟩
    obtain ⟨m, _, m2, m3⟩ := (alk_mem hc hc).1 hm
    obtain rfl : k = m := by omega
    obtain ⟨dx, dy, hM⟩ := PlM.symm m2
    rw [f1, f2] at hM
    simp only [Int.toNat_natCast] at hM
    have q := Meets.toNat_ a1 b1 hM
    have k2' := k2
    rw [show appG g.w.toNat g.h.toNat g.bits k = appT g k from rfl, f1, f2] at k2'
    simp only [Int.toNat_natCast] at k2'
    exact k2' _ _ q
theorem has_to (g : Gd) (h0 : startG g = 0) {k : Nat} (hk : k < 16) (A : Option Addr) (n c : Nat) (w : World) (hr : Rd w A n (g.bits.map Value.bool)) (hc : n ≤ c) :
    Calls Tryd.prog 20 #[.agg #[.int .i64 g.w, .int .i64 g.h, .slice A n c], .int .i64 k] w fun e w' => ∃ x y t : Int, e = .returned (.tuple #[.bool (decide (t = 0)), .agg #[.int .i64 x, .int .i64 y], .int .i64 0]) ∧ OffR g (appT g k) ((x, y), t) ∧ ((t = 0 ∧ (k : Int) ∈ alkL g g) ∨ (t = 6 ∧ x = 0 ∧ y = 0 ∧ (k : Int) ∉ alkL g g)) ∧ Below w.heap.size w w' :=
  (has_any g k A n c w hr hc).mono fun e w' h => by
    obtain ⟨r, hR, rfl, hb⟩ := h
    obtain ⟨x, y, t, rfl, h1, h2⟩ := has_off h0 hk hR
    exact ⟨x, y, t, rfl, h1, h2, hb⟩
theorem off_to (g g' : Gd) (r : (Int × Int) × Int) (hR : OffR g g' r) (A A' : Option Addr) (n c n' c' : Nat) (w : World) (hr : Rd w A n (g.bits.map Value.bool)) (hr' : Rd w A' n' (g'.bits.map Value.bool)) (hc : n ≤ c) (hc' : n' ≤ c') :
    Calls Tryd.prog 18 #[.agg #[.int .i64 g.w, .int .i64 g.h, .slice A n c], .agg #[.int .i64 g'.w, .int .i64 g'.h, .slice A' n' c']] w fun e w' => e = .returned (.tuple #[.agg #[.int .i64 r.1.1, .int .i64 r.1.2], .int .i64 r.2]) ∧ Below w.heap.size w w' :=
  (offset_any g g' A A' n c n' c' w hr hr' hc hc').mono fun e w' h => by
    obtain ⟨r', hR', rfl, hb⟩ := h
    obtain rfl := hR'.unique hR
    exact ⟨rfl, hb⟩
theorem same_no (g g2 : Gd) (hne : g ≠ g2) (hs : g.bits.length ≤ 4096) (A A2 : Option Addr) (n c n2 c2 : Nat) (w : World) (hr : Rd w A n (g.bits.map Value.bool)) (hr2 : Rd w A2 n2 (g2.bits.map Value.bool)) :
    Calls Tryd.prog 14 #[.agg #[.int .i64 g.w, .int .i64 g.h, .slice A n c], .agg #[.int .i64 g2.w, .int .i64 g2.h, .slice A2 n2 c2]] w fun e w' => e = .returned (.bool false) ∧ Below w.heap.size w w' := by
  have hl : g.bits.length = n := by simpa using hr.len
  have h := rsame_any g g2 A A2 n c n2 c2 w hr hr2 (by omega)
  rw [show sameG g g2 = false by
    rcases Bool.eq_false_or_eq_true (sameG g g2) with q | q
    · exact absurd (sameG_iff.1 q) hne
    · exact q] at h
  exact h
/-- An offset that is there. -/
theorem off_zero {g g' : Gd} (hg : chkG g = 0) (hg' : chkG g' = 0) (h : PlM g g') (A A' : Option Addr) (n c n' c' : Nat) (w : World) (hr : Rd w A n (g.bits.map Value.bool)) (hr' : Rd w A' n' (g'.bits.map Value.bool)) (hc : n ≤ c) (hc' : n' ≤ c') :
    Calls Tryd.prog 18 #[.agg #[.int .i64 g.w, .int .i64 g.h, .slice A n c], .agg #[.int .i64 g'.w, .int .i64 g'.h, .slice A' n' c']] w fun e w' => ∃ x y : Int, e = .returned (.tuple #[.agg #[.int .i64 x, .int .i64 y], .int .i64 0]) ∧ Below w.heap.size w w' :=
  (offset_any g g' A A' n c n' c' w hr hr' hc hc').mono fun e w' k => by
    obtain ⟨⟨⟨x, y⟩, t⟩, hR, rfl, hb⟩ := k
    refine ⟨x, y, ?_, hb⟩
    obtain ⟨a, b, f1, f2, a1, _, b1, _, _⟩ := chkG_sides hg'
    rcases hR with ⟨k1, _⟩ | ⟨_, _, _, _, k3⟩ | ⟨_, k2, _⟩
    · exact absurd (both2_zero hg hg') k1
    · injection k3 with _ k3
      subst k3
      rfl
    · exfalso
      obtain ⟨dx, dy, hM⟩ := h
      rw [f1, f2] at hM k2
      simp only [Int.toNat_natCast] at hM k2
      exact k2 _ _ (Meets.toNat_ a1 b1 hM)
end Go.Proofs.YtliibficmdomjaaDoor
