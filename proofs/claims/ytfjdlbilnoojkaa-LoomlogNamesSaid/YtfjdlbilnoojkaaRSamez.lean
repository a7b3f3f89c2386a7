/- raddleref01.Same compares two grids; the first one of at most 1,048,576 cells. -/
import Derived.Test.YtfjdlbilnoojkaaMg4z
namespace Go.Proofs.Ytfjdlbilnoojkaa
open Go.RowKit

set_option maxHeartbeats 1600000 in
theorem rsame_any (g g2 : Gd) (A A2 : Option Addr) (n c n2 c2 : Nat) (w : World) (hr : Rd w A n (g.bits.map Value.bool)) (hr2 : Rd w A2 n2 (g2.bits.map Value.bool)) (hn : n ≤ 1048576) :
    Calls Try.prog 21 #[.agg #[.int .i64 g.w, .int .i64 g.h, .slice A n c], .agg #[.int .i64 g2.w, .int .i64 g2.h, .slice A2 n2 c2]] w fun e w' => e = .returned (.bool (sameG g g2)) ∧ Below w.heap.size w w' := by
  have hl : g.bits.length = n := by simpa using hr.len
  have hl2 : g2.bits.length = n2 := by simpa using hr2.len
  obtain ⟨W, H, bs⟩ := g
  obtain ⟨W2, H2, bs2⟩ := g2
  simp only at hr hr2 hl hl2 ⊢
  have hB0 := Joins.below_alloc2 w (.cells #[.int .i64 W, .int .i64 H, .slice A n c] 25) (.cells #[.int .i64 W2, .int .i64 H2, .slice A2 n2 c2] 25)
  by_cases hd : W = W2 ∧ H = H2 ∧ n = n2
  · obtain ⟨rfl, rfl, rfl⟩ := hd
    have k1 : (W != W) = false := by simp
    have k2 : (H != H) = false := by simp
    have k3 : ((n : Int) != (n : Int)) = false := by simp
    have hA0 := (Blk.new w 25 #[.int .i64 W, .int .i64 H, .slice A n c]).alloc (.cells #[.int .i64 W, .int .i64 H, .slice A2 n c2] 25)
    have hA1 : Blk ((w.alloc (.cells #[.int .i64 W, .int .i64 H, .slice A n c] 25)).alloc (.cells #[.int .i64 W, .int .i64 H, .slice A2 n c2] 25)) (w.heap.size + 1) 25 #[.int .i64 W, .int .i64 H, .slice A2 n c2] := by simpa using Blk.new (w.alloc (.cells #[.int .i64 W, .int .i64 H, .slice A n c] 25)) 25 #[.int .i64 W, .int .i64 H, .slice A2 n c2]
    have HL := Lib.hid hl
    have HL2 := Lib.hid hl2
    clear hl hl2
    go_enter Try.func21, Try.ntmps21
    go_wp2_with fail
    go_loopw [5] (fun i wr => ∃ k : Nat, k ≤ n ∧ i = .int .i64 k ∧ (∀ j, j < k → bs[j]? = bs2[j]?) ∧
        Below ((w.alloc (.cells #[.int .i64 W, .int .i64 H, .slice A n c] 25)).alloc (.cells #[.int .i64 W, .int .i64 H, .slice A2 n c2] 25)).heap.size ((w.alloc (.cells #[.int .i64 W, .int .i64 H, .slice A n c] 25)).alloc (.cells #[.int .i64 W, .int .i64 H, .slice A2 n c2] 25)) wr) (fun i _ => n - (intOf i).toNat)
    case atStart => exact ⟨0, Nat.zero_le _, rfl, fun _ h => absurd h (by omega), Below.refl _ _⟩
    case round =>
      obtain ⟨k, hk, rfl, heq, hbel⟩ := hrel
      have HE := Lib.hid heq
      clear heq
      obtain ⟨c0, c1, c2'⟩ := (hA0.keep hbel).cell3
      obtain ⟨d0, d1, d2⟩ := (hA1.keep hbel).cell3
      have hB1 := below_then hB0 hbel
      by_cases hlt : k < n
      · have hkl : k < bs.length := by rw [HL.out]; exact hlt
        have hkl2 : k < bs2.length := by rw [HL2.out]; exact hlt
        obtain ⟨ba, oa, rfl, hbl, hca⟩ := (hr.below hB1).at_ (by omega)
        obtain ⟨bb, ob, rfl, hbl2, hcb⟩ := (hr2.below hB1).at_ (by omega)
        have hcella : wr.cell? ⟨ba, oa + k, none⟩ = some (.bool (bs.getD k false)) := hca k _ (by rw [List.getElem?_map, List.getElem?_eq_getElem hkl]; simp [List.getD, hkl])
        have hcellb : wr.cell? ⟨bb, ob + k, none⟩ = some (.bool (bs2.getD k false)) := hcb k _ (by rw [List.getElem?_map, List.getElem?_eq_getElem hkl2]; simp [List.getD, hkl2])
        have hpq : Hid (bs.getD k false = bs2.getD k false → bs[k]? = bs2[k]?) := fun h => by
          simp [List.getD, hkl, hkl2] at h
          simp [hkl, hkl2, h]
        have hne : Hid (bs.getD k false ≠ bs2.getD k false → bs ≠ bs2) := fun h e => h (by rw [e])
        generalize bs.getD k false = p at *
        generalize bs2.getD k false = q at *
        clear hca hcb hkl hkl2 hbl hbl2
        by_cases e : p = q
        · have R1 := hpq.out e
          subst e
          have HE' : Hid (∀ j, j < k + 1 → bs[j]? = bs2[j]?) := fun j hj => by
            by_cases hjk : j = k
            · subst hjk; exact R1
            · exact HE.out j (by omega)
          clear R1 hpq hne
          go_wp2_with fail
          go_region
          all_goals
            go_wp2_with fail
            go_roundw
            case rel => exact ⟨k + 1, by omega, by go_num, HE'.out, hbel.drew⟩
            case measure => simp [intOf]; omega
        · have HN := Lib.hid (hne.out e)
          obtain rfl : q = !p := by cases p <;> cases q <;> simp_all
          clear e hne hpq
          cases p
          all_goals
            go_wp2_with fail
            go_region
          all_goals
            go_wp2_with fail
            go_ret
            exact ⟨ret_b (sameG_not (fun h => HN.out h.2.2)).symm, hB1.drew⟩
      · have hkk : k = n := by omega
        subst hkk
        have HS : Hid (bs = bs2) := List.ext_getElem? fun j => by
          by_cases hj : j < k
          · exact HE.out j hj
          · have h1 := HL.out
            have h2 := HL2.out
            rw [List.getElem?_eq_none (by omega), List.getElem?_eq_none (by omega)]
        go_wp2_with fail
        go_ret
        exact ⟨ret_b (sameG_iff.2 (by rw [HS.out])).symm, hB1⟩
  · have HR : Hid (sameG ⟨W, H, bs⟩ ⟨W2, H2, bs2⟩ = false) := sameG_not fun h => hd ⟨h.1, h.2.1, by rw [← hl, ← hl2]; exact congrArg List.length h.2.2⟩
    have hs : (W != W2) = true ∨ (W != W2) = false ∧ (H != H2) = true ∨ (W != W2) = false ∧ (H != H2) = false ∧ ((n : Int) != (n2 : Int)) = true := by
      by_cases e1 : W = W2
      · right
        by_cases e2 : H = H2
        · right
          refine ⟨by simp [e1], by simp [e2], ?_⟩
          have : n ≠ n2 := fun e => hd ⟨e1, e2, e⟩
          simp; omega
        · left; simp [e1, e2]
      · left; simp [e1]
    clear hd hl hl2
    rcases hs with k1 | ⟨k1, k2⟩ | ⟨k1, k2, k3⟩
    all_goals
      go_enter Try.func21, Try.ntmps21
      go_wp2_with fail
      go_ret
      exact ⟨ret_b HR.out.symm, hB0⟩

end Go.Proofs.Ytfjdlbilnoojkaa
