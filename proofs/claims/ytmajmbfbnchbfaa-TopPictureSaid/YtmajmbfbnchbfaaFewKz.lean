/- What fewer calls, with the results that it meets. -/
import Derived.Test.YtmajmbfbnchbfaaGroupedz
import Derived.Test.YtmajmbfbnchbfaaMg10z
import Derived.Test.YtmajmbfbnchbfaaMg11z
import Derived.Test.YtmajmbfbnchbfaaEqualz
import Derived.Test.YtmajmbfbnchbfaaMg14z
namespace Go.Proofs.Ytmajmbfbnchbfaa
open Go.RowKit

theorem fw_change (a h bA oA c b cl : Nat) (gb : List Bool) (l : List Int) (w : World) (ha1 : 1 ≤ a) (ha : a ≤ 8) (hh1 : 1 ≤ h) (hh : h ≤ 40) (hgl : gb.length = h * a) (hr : Rd w (some ⟨bA, oA, none⟩) (h * a) (gb.map Value.bool)) (hc : h * a ≤ c)
    (hll : l.length = a) (hrl : Rd w (some ⟨b, 0, none⟩) a (l.map (Value.int .i64))) (hx : ∀ x ∈ l, 0 ≤ x ∧ x < a) :
    Calls Try.prog 37 #[.agg #[.int .i64 a, .int .i64 h, .slice (some ⟨bA, oA, none⟩) (h * a) c], .slice (some ⟨b, 0, none⟩) a cl] w fun e w' => ∃ gc cc,
      e = .returned (.tuple #[.agg #[.int .i64 a, .int .i64 h, .slice (some ⟨gc, 0, none⟩) (h * a) cc], .int .i64 (costL a h gb l), .int .i64 0]) ∧ Rd w' (some ⟨gc, 0, none⟩) (h * a) ((chgL a h gb l).map Value.bool) ∧ Below w.heap.size w w' := by
  refine (change_any a h gb l (some ⟨bA, oA, none⟩) (h * a) c b 0 cl w ha1 (by omega) hh1 (by omega) hgl hr hc hll hrl (fun x hx' => by have := hx x hx'; omega)).mono ?_
  rintro e w' ⟨A, n, c', rfl, ho, hb⟩
  obtain rfl : n = h * a := by
    have := ho.1
    rw [List.length_map, chgL_len] at this
    omega
  obtain ⟨g, rfl⟩ := own_addr ho (Nat.mul_pos (by omega) (by omega))
  exact ⟨g, c', rfl, rd_of_own ho, hb⟩
theorem rngI_len (n : Nat) : (rngI n).length = n := by simp [rngI]
theorem rngI_get {n i : Nat} (h : i < n) : (rngI n).getD i 0 = (i : Int) := by
  rw [List.getD_eq_getElem?_getD]
  simp [rngI, h]
theorem rngI_mem {n : Nat} {x : Int} (h : x ∈ rngI n) : 0 ≤ x ∧ x < n := by
  unfold rngI at h
  obtain ⟨i, hi, rfl⟩ := List.mem_map.1 h
  have := List.mem_range.1 hi
  omega
/-- The cloth of a grouped draft is the changed grid. -/
theorem wov_grouped {a h : Nat} {cb tb : List Bool} {l : List Int} (hcl : cb.length = h * a) (H : TieOk a h cb l h 0 tb) : Pl.tab a h (wovF l (rngI h) tb h) = cb := by
  refine (Eq.trans (Pl.tab_self (d := false) hcl) (Pl.tab_congr fun x y hx hy => ?_)).symm
  unfold wovF
  rw [rngI_get hy, Int.toNat_natCast]
  exact (H.2 x y hx hy (.inl hy)).symm
theorem fw_weave (a h b o cl br cr gt ct : Nat) (cb tb : List Bool) (l : List Int) (w : World) (ha1 : 1 ≤ a) (ha : a ≤ 8) (hh1 : 1 ≤ h) (hh : h ≤ 40) (hcl : cb.length = h * a) (H : TieOk a h cb l h 0 tb)
    (hll : l.length = a) (hrl : Rd w (some ⟨b, o, none⟩) a (l.map (Value.int .i64))) (hx : ∀ x ∈ l, 0 ≤ x ∧ x < a) (hrr : Rd w (some ⟨br, 0, none⟩) h ((rngI h).map (Value.int .i64))) (hrt : Rd w (some ⟨gt, 0, none⟩) (a * h) (tb.map Value.bool)) :
    Calls Try.prog 6 #[.agg (dC a h (.slice (some ⟨b, o, none⟩) a cl) (.slice (some ⟨br, 0, none⟩) h cr) gt 0 ct)] w fun e w' => ∃ g c,
      e = .returned (.tuple #[.agg #[.int .i64 a, .int .i64 h, .slice (some ⟨g, 0, none⟩) (h * a) c], .int .i64 0]) ∧ Rd w' (some ⟨g, 0, none⟩) (h * a) (cb.map Value.bool) ∧ Below w.heap.size w w' := by
  refine (weave3_any a h gt 0 ct b o a cl br 0 h cr l (rngI h) tb w ⟨ha1, by omega, hh1, hh, ha1, by omega, hh1, by omega, hll, rngI_len h, hx, fun x hx => rngI_mem hx, H.1⟩ hrl hrr hrt).mono ?_
  rintro e w' ⟨A, c, rfl, ho, hb⟩
  obtain ⟨g, rfl⟩ := own_addr ho (Nat.mul_pos (by omega) (by omega))
  rw [wov_grouped hcl H] at ho
  exact ⟨g, c, rfl, rd_of_own ho, hb⟩
theorem fw_front (a h c cp cq : Nat) (A Ap Aq : Option Addr) (cb : List Bool) (p q : List Int) (w : World) (ha1 : 1 ≤ a) (ha : a ≤ 64) (hh1 : 1 ≤ h) (hh : h ≤ 64) (hcl : cb.length = h * a) (hp : p.length = a) (hq : q.length = h) (hfp : fineL p = true) (hfq : fineL q = true)
    (hr : Rd w A (h * a) (cb.map Value.bool)) (hrp : Rd w Ap a (p.map (Value.int .i64))) (hrq : Rd w Aq h (q.map (Value.int .i64))) :
    Calls Try.prog 9 #[.agg #[.int .i64 a, .int .i64 h, .slice A (h * a) c], .slice Ap a cp, .slice Aq h cq] w fun e w' => ∃ g c',
      e = .returned (.tuple #[.agg #[.int .i64 a, .int .i64 h, .slice (some ⟨g, 0, none⟩) (h * a) c'], .int .i64 0]) ∧ Rd w' (some ⟨g, 0, none⟩) (h * a) ((Pl.tab a h (frontF a cb p q)).map (Value.int .i64)) ∧ Below w.heap.size w w' := by
  refine (front_any ⟨a, h, cb⟩ p q A Ap Aq (h * a) c a cp h cq w hr hrp hrq).mono ?_
  rintro e w' ⟨A', n', c', rfl, ho, hb⟩
  rw [frontI_mk (thr_mk ha1 ha hh1 hh hcl hp hq hfp hfq)] at *
  obtain rfl : n' = h * a := by
    have := ho.1
    rw [List.length_map, Pl.tab_length] at this
    omega
  obtain ⟨g, rfl⟩ := own_addr ho (Nat.mul_pos (by omega) (by omega))
  exact ⟨g, c', rfl, rd_of_own ho, hb⟩
theorem fw_equal (a h cp cq : Nat) (Ap Aq : Option Addr) (p q : List Int) (w : World) (ha1 : 1 ≤ a) (ha : a ≤ 64) (hh1 : 1 ≤ h) (hh : h ≤ 64) (hp : p.length = a) (hq : q.length = h) (hfp : fineL p = true) (hfq : fineL q = true)
    (hrp : Rd w Ap a (p.map (Value.int .i64))) (hrq : Rd w Aq h (q.map (Value.int .i64))) :
    Calls Try.prog 39 #[.slice Ap a cp, .slice Aq h cq] w fun e w' => ∃ g c',
      e = .returned (.tuple #[.agg #[.int .i64 a, .int .i64 h, .slice (some ⟨g, 0, none⟩) (h * a) c'], .int .i64 0]) ∧ Rd w' (some ⟨g, 0, none⟩) (h * a) ((Pl.tab a h fun x y => decide (q.getD y 0 = p.getD x 0)).map Value.bool) ∧ Below w.heap.size w w' := by
  refine (equal_any p q Ap Aq a cp h cq w hrp hrq).mono ?_
  rintro e w' ⟨A', n', c', rfl, ho, hb⟩
  rw [equalG_mk (by omega) (by omega) (by omega) (by omega) hfp hfq, hp, hq] at *
  obtain rfl : n' = h * a := by
    have := ho.1
    rw [List.length_map, Pl.tab_length] at this
    omega
  obtain ⟨g, rfl⟩ := own_addr ho (Nat.mul_pos (by omega) (by omega))
  exact ⟨g, c', rfl, rd_of_own ho, hb⟩
/-- Where the front of a changed cloth differs. -/
theorem fronts_differ {a h x y : Nat} {cb gb : List Bool} {p q : List Int} (hx : x < a) (hy : y < h) :
    ((Pl.tab a h (frontF a cb p q)).getD (y * a + x) 0 != (Pl.tab a h (frontF a gb p q)).getD (y * a + x) 0) = ((cb.getD (y * a + x) false != gb.getD (y * a + x) false) && !((Pl.tab a h fun x y => decide (q.getD y 0 = p.getD x 0)).getD (y * a + x) false)) := by
  rw [tab_getD _ _ hx hy, tab_getD _ _ hx hy, tab_getD _ _ hx hy]
  unfold frontF
  generalize p.getD x 0 = P
  generalize q.getD y 0 = Q
  by_cases hpq : Q = P
  · subst hpq
    simp
  · have h1 : (P != Q) = true := by rw [bne_iff_ne]; exact fun e => hpq e.symm
    have h2 : (Q != P) = true := by rw [bne_iff_ne]; exact hpq
    rw [decide_eq_false hpq]
    cases cb.getD (y * a + x) false <;> cases gb.getD (y * a + x) false <;> simp [h1, h2]
end Go.Proofs.Ytmajmbfbnchbfaa
