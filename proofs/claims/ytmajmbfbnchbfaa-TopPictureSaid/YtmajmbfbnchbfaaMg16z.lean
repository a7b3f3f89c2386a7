/- Parts of the proof, in their order. -/
import Derived.Test.YtmajmbfbnchbfaaMg13z
import Derived.Test.YtmajmbfbnchbfaaMg3z
import Derived.Outline
import Derived.Test.YtmajmbfbnchbfaaImz
import Derived.Test.YtmajmbfbnchbfaaMg7z
/- picture.like and raddleref15.sized: the error of a grid that must have the size of an image. -/
namespace Go.Proofs.Ytmajmbfbnchbfaa
open Go.RowKit
theorem likeG_bad {g : Gd} {m : Im} (h : chkG g ≠ 0) : likeG g m = chkG g := if_pos h
theorem likeG_no {g : Gd} {m : Im} (h : chkG g = 0) (h2 : g.w ≠ m.w ∨ g.h ≠ m.h) : likeG g m = 26 := by unfold likeG; rw [if_neg (by omega), if_pos h2]
theorem likeG_ok {g : Gd} {m : Im} (h : chkG g = 0) (h2 : g.w = m.w) (h3 : g.h = m.h) : likeG g m = 0 := by unfold likeG; rw [if_neg (by omega), if_neg (by omega)]
theorem likeG_zero {g : Gd} {m : Im} (h : likeG g m = 0) : chkG g = 0 ∧ g.w = m.w ∧ g.h = m.h := by
  unfold likeG at h
  split at h
  · contradiction
  · split at h
    · omega
    · exact ⟨by omega, by omega, by omega⟩

set_option maxHeartbeats 1000000 in
theorem like_any (g : Gd) (m : Im) (A B : Option Addr) (n c k d : Nat) (w : World) (hn : g.bits.length = n) :
    Calls Try.prog 30 #[.agg #[.int .i64 g.w, .int .i64 g.h, .slice A n c], .agg #[.int .i64 m.w, .int .i64 m.h, .slice B k d]] w fun e w' => e = .returned (.int .i64 (likeG g m)) ∧ Below w.heap.size w w' := by
  have hs : chkG g = chk g.w g.h n := by unfold chkG; rw [hn]
  have S0 := ((St.start w).box #[.int .i64 g.w, .int .i64 g.h, .slice A n c] 25).box #[.int .i64 m.w, .int .i64 m.h, .slice B k d] 36
  simp only [size_alloc1, List.nil_append, List.cons_append] at S0
  obtain ⟨c0, c1, c2⟩ := (S0.blk 0 rfl).cell3
  have hbad := likeG_bad (g := g) (m := m)
  have hno := likeG_no (g := g) (m := m)
  have hok := likeG_ok (g := g) (m := m)
  rw [hs] at hbad hno hok
  generalize likeG g m = li at *
  clear hs hn
  by_cases h0 : chk g.w g.h n = 0
  · have k0 : (chk g.w g.h n != 0) = false := by simpa using h0
    by_cases h1 : g.w = m.w
    · have k1 : (g.w != m.w) = false := by simpa using h1
      by_cases h2 : g.h = m.h
      · have k2 : (g.h != m.h) = false := by simpa using h2
        have HH := Lib.hid (hok h0 h1 h2)
        clear hbad hno hok h0 h1 h2
        go_enter Try.func30, Try.ntmps30
        go_wp2_with fail
        refine (check_any _ _ _ _ _ _).mono ?_
        rintro e w1 ⟨rfl, hb1⟩
        have S := S0.keep hb1
        clear S0 c0 c1 c2
        obtain ⟨c0, c1, c2⟩ := (S.blk 0 rfl).cell3
        obtain ⟨d0, d1, d2⟩ := (S.blk 1 rfl).cell3
        go_wp2_with fail
        go_ret
        exact ⟨by rw [HH.out]; rfl, S.below⟩
      · have k2 : (g.h != m.h) = true := by simpa using h2
        have HH := Lib.hid (hno h0 (.inr h2))
        clear hbad hno hok h0 h1 h2
        go_enter Try.func30, Try.ntmps30
        go_wp2_with fail
        refine (check_any _ _ _ _ _ _).mono ?_
        rintro e w1 ⟨rfl, hb1⟩
        have S := S0.keep hb1
        clear S0 c0 c1 c2
        obtain ⟨c0, c1, c2⟩ := (S.blk 0 rfl).cell3
        obtain ⟨d0, d1, d2⟩ := (S.blk 1 rfl).cell3
        go_wp2_with fail
        go_ret
        exact ⟨by rw [HH.out]; rfl, S.below⟩
    · have k1 : (g.w != m.w) = true := by simpa using h1
      have HH := Lib.hid (hno h0 (.inl h1))
      clear hbad hno hok h0 h1
      go_enter Try.func30, Try.ntmps30
      go_wp2_with fail
      refine (check_any _ _ _ _ _ _).mono ?_
      rintro e w1 ⟨rfl, hb1⟩
      have S := S0.keep hb1
      clear S0 c0 c1 c2
      obtain ⟨c0, c1, c2⟩ := (S.blk 0 rfl).cell3
      obtain ⟨d0, d1, d2⟩ := (S.blk 1 rfl).cell3
      go_wp2_with fail
      go_ret
      exact ⟨by rw [HH.out]; rfl, S.below⟩
  · have k0 : (chk g.w g.h n != 0) = true := by simpa using h0
    have HH := Lib.hid (hbad h0)
    clear hbad hno hok h0
    go_enter Try.func30, Try.ntmps30
    go_wp2_with fail
    refine (check_any _ _ _ _ _ _).mono ?_
    rintro e w1 ⟨rfl, hb1⟩
    have S := S0.keep hb1
    clear S0 c0 c1 c2
    obtain ⟨c0, c1, c2⟩ := (S.blk 0 rfl).cell3
    obtain ⟨d0, d1, d2⟩ := (S.blk 1 rfl).cell3
    go_wp2_with fail
    go_ret
    exact ⟨by rw [HH.out]; rfl, S.below⟩
end Go.Proofs.Ytmajmbfbnchbfaa
/- raddleref14.Same compares two images; the first one of at most 1,048,576 cells. -/
namespace Go.Proofs.Ytmajmbfbnchbfaa
open Go.RowKit

set_option maxHeartbeats 1600000 in
theorem rsameI_any (g g2 : Im) (A A2 : Option Addr) (n c n2 c2 : Nat) (w : World) (hr : Rd w A n (g.c.map (Value.int .i64))) (hr2 : Rd w A2 n2 (g2.c.map (Value.int .i64))) (hn : n ≤ 1048576) :
    Calls Try.prog 19 #[.agg #[.int .i64 g.w, .int .i64 g.h, .slice A n c], .agg #[.int .i64 g2.w, .int .i64 g2.h, .slice A2 n2 c2]] w fun e w' => e = .returned (.bool (sameI g g2)) ∧ Below w.heap.size w w' := by
  have hl : g.c.length = n := by simpa using hr.len
  have hl2 : g2.c.length = n2 := by simpa using hr2.len
  obtain ⟨W, H, bs⟩ := g
  obtain ⟨W2, H2, bs2⟩ := g2
  simp only at hr hr2 hl hl2 ⊢
  have hB0 := Joins.below_alloc2 w (.cells #[.int .i64 W, .int .i64 H, .slice A n c] 36) (.cells #[.int .i64 W2, .int .i64 H2, .slice A2 n2 c2] 36)
  by_cases hd : W = W2 ∧ H = H2 ∧ n = n2
  · obtain ⟨rfl, rfl, rfl⟩ := hd
    have k1 : (W != W) = false := by simp
    have k2 : (H != H) = false := by simp
    have k3 : ((n : Int) != (n : Int)) = false := by simp
    have hA0 := (Blk.new w 36 #[.int .i64 W, .int .i64 H, .slice A n c]).alloc (.cells #[.int .i64 W, .int .i64 H, .slice A2 n c2] 36)
    have hA1 : Blk ((w.alloc (.cells #[.int .i64 W, .int .i64 H, .slice A n c] 36)).alloc (.cells #[.int .i64 W, .int .i64 H, .slice A2 n c2] 36)) (w.heap.size + 1) 36 #[.int .i64 W, .int .i64 H, .slice A2 n c2] := by simpa using Blk.new (w.alloc (.cells #[.int .i64 W, .int .i64 H, .slice A n c] 36)) 36 #[.int .i64 W, .int .i64 H, .slice A2 n c2]
    have HL := Lib.hid hl
    have HL2 := Lib.hid hl2
    clear hl hl2
    go_enter Try.func19, Try.ntmps19
    go_wp2_with fail
    go_loopw [5] (fun i wr => ∃ k : Nat, k ≤ n ∧ i = .int .i64 k ∧ (∀ j, j < k → bs[j]? = bs2[j]?) ∧
        Below ((w.alloc (.cells #[.int .i64 W, .int .i64 H, .slice A n c] 36)).alloc (.cells #[.int .i64 W, .int .i64 H, .slice A2 n c2] 36)).heap.size ((w.alloc (.cells #[.int .i64 W, .int .i64 H, .slice A n c] 36)).alloc (.cells #[.int .i64 W, .int .i64 H, .slice A2 n c2] 36)) wr) (fun i _ => n - (intOf i).toNat)
    case atStart => exact ⟨0, Nat.zero_le _, rfl, fun _ h => absurd h (by omega), Below.refl _ _⟩
    case round =>
      obtain ⟨k, hk, rfl, heq, hbel⟩ := hrel
      have HE := Lib.hid heq
      clear heq
      obtain ⟨c0, c1, c2'⟩ := (hA0.keep hbel).cell3
      obtain ⟨d0, d1, d2⟩ := (hA1.keep hbel).cell3
      have hB1 := below_then hB0 hbel
      by_cases hlt : k < n
      · have hkl : k < bs.length := by rw [HL.out]; exact hlt
        have hkl2 : k < bs2.length := by rw [HL2.out]; exact hlt
        obtain ⟨ba, oa, rfl, hbl, hca⟩ := (hr.below hB1).at_ (by omega)
        obtain ⟨bb, ob, rfl, hbl2, hcb⟩ := (hr2.below hB1).at_ (by omega)
        have hcella : wr.cell? ⟨ba, oa + k, none⟩ = some (.int .i64 (bs.getD k 0)) := hca k _ (by rw [List.getElem?_map, List.getElem?_eq_getElem hkl]; simp [List.getD, hkl])
        have hcellb : wr.cell? ⟨bb, ob + k, none⟩ = some (.int .i64 (bs2.getD k 0)) := hcb k _ (by rw [List.getElem?_map, List.getElem?_eq_getElem hkl2]; simp [List.getD, hkl2])
        have hpq : Hid (bs.getD k 0 = bs2.getD k 0 → bs[k]? = bs2[k]?) := fun h => by
          simp [List.getD, hkl, hkl2] at h
          simp [hkl, hkl2, h]
        have hne : Hid (bs.getD k 0 ≠ bs2.getD k 0 → bs ≠ bs2) := fun h e => h (by rw [e])
        generalize bs.getD k 0 = p at *
        generalize bs2.getD k 0 = q at *
        clear hca hcb hkl hkl2 hbl hbl2
        by_cases e : p = q
        · have R1 := hpq.out e
          subst e
          have k5 : (p != p) = false := by simp
          have HE' : Hid (∀ j, j < k + 1 → bs[j]? = bs2[j]?) := fun j hj => by
            by_cases hjk : j = k
            · subst hjk; exact R1
            · exact HE.out j (by omega)
          clear R1 hpq hne
          go_wp2_with fail
          go_region
          all_goals
            go_wp2_with fail
            go_roundw
            case rel => exact ⟨k + 1, by omega, by go_num, HE'.out, hbel.drew⟩
            case measure => simp [intOf]; omega
        · have HN := Lib.hid (hne.out e)
          have k5 : (p != q) = true := by simpa using e
          clear e hne hpq
          go_wp2_with fail
          go_region
          all_goals
            go_wp2_with fail
            go_ret
            exact ⟨ret_b (sameI_not (fun h => HN.out h.2.2)).symm, hB1.drew⟩
      · have hkk : k = n := by omega
        subst hkk
        have HS : Hid (bs = bs2) := List.ext_getElem? fun j => by
          by_cases hj : j < k
          · exact HE.out j hj
          · have h1 := HL.out
            have h2 := HL2.out
            rw [List.getElem?_eq_none (by omega), List.getElem?_eq_none (by omega)]
        go_wp2_with fail
        go_ret
        exact ⟨ret_b (sameI_iff.2 (by rw [HS.out])).symm, hB1⟩
  · have HR : Hid (sameI ⟨W, H, bs⟩ ⟨W2, H2, bs2⟩ = false) := sameI_not fun h => hd ⟨h.1, h.2.1, by rw [← hl, ← hl2]; exact congrArg List.length h.2.2⟩
    have hs : (W != W2) = true ∨ (W != W2) = false ∧ (H != H2) = true ∨ (W != W2) = false ∧ (H != H2) = false ∧ ((n : Int) != (n2 : Int)) = true := by
      by_cases e1 : W = W2
      · right
        by_cases e2 : H = H2
        · right
          refine ⟨by simp [e1], by simp [e2], ?_⟩
          have : n ≠ n2 := fun e => hd ⟨e1, e2, e⟩
          simp; omega
        · left; simp [e1, e2]
      · left; simp [e1]
    clear hd hl hl2
    rcases hs with k1 | ⟨k1, k2⟩ | ⟨k1, k2, k3⟩
    all_goals
      go_enter Try.func19, Try.ntmps19
      go_wp2_with fail
      go_ret
      exact ⟨ret_b HR.out.symm, hB0⟩

end Go.Proofs.Ytmajmbfbnchbfaa
