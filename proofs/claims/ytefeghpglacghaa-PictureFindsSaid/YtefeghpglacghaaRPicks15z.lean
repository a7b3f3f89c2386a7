/- raddleref15.Picks and next: the first picks that fit the ends; the next list of indices. -/
import Derived.Test.YtefeghpglacghaaRPick15z
namespace Go.Proofs.Ytefeghpglacghaa
open Go.RowKit

set_option linter.unusedVariables false in
set_option maxHeartbeats 4000000 in
set_option maxRecDepth 100000 in
theorem picks_any (a b : Nat) (cs wv : List Int) (A : Option Addr) (gW oW c cW : Nat) (w : World) (ha : a ≤ 64) (hb : b ≤ 64) (hV : Val a b cs)
    (hr : Rd w A (b * a) (cs.map (Value.int .i64))) (hrw : Rd w (some ⟨gW, oW, none⟩) a (wv.map (Value.int .i64))) :
    Calls Try.prog 49 #[.agg #[.int .i64 a, .int .i64 b, .slice A (b * a) c], .slice (some ⟨gW, oW, none⟩) a cW] w fun e w' => Below w.heap.size w w' ∧
      ((PicksOk cs a b wv ∧ ∃ A' c', e = .returned (.tuple #[.slice A' b c', .bool true]) ∧ w'.ownsRow w.heap.size 3 1 (.slice A' b c') b ((picksL cs a wv b).map (Value.int .i64))) ∨
        (¬ PicksOk cs a b wv ∧ e = .returned (.tuple #[.slice none 0 0, .bool false]))) := by
  obtain ⟨i0, hi0, hz0, hz1, hz2⟩ := info_parts Try.infoI
  have S0 := ((((St.start w).addRd hr).addRd hrw)).box #[.int .i64 a, .int .i64 b, .slice A (b * a) c] 24
  simp only [List.nil_append, List.cons_append] at S0
  obtain ⟨c0, c1, c2⟩ := (S0.blk 2 rfl).cell3
  have hBz := S0.size
  have hB0 := S0.below
  generalize hW1 : w.alloc (.cells #[.int .i64 a, .int .i64 b, .slice A (b * a) c] 24) = w1 at S0 c0 c1 c2 hBz hB0
  have HPK := Lib.hid (fun y WW (hy : y < b) h1 h2 => pick_any a b y cs wv A gW oW c cW WW ha hb hy (fun x hx => (hV x y hx hy).1) h1 h2)
  have HLE := Lib.hid (fun y (hy : y < b) => pickN_le (w := wv) (fun x hx => (hV x y hx hy).1))
  clear hr hrw hV
  generalize hn : b * a = n at *
  clear hn
  go_enter Try.func49, Try.ntmps49
  go_wp2_with fail
  try rw [hW1]
  clear hW1
  go_loopw [6, 7] (fun ov iv wr => ∃ (y cp : Nat) (Al : Option Addr), y ≤ b ∧ iv = .int .i64 y ∧ ov = .slice Al y cp ∧ wr.ownsRow w1.heap.size 3 1 (.slice Al y cp) y ((picksL cs a wv y).map (Value.int .i64)) ∧ Hid (∀ y', y' < y → pickN cs a wv y' a ≠ -2) ∧ Below w1.heap.size w1 wr) (fun _ iv _ => b - (intOf iv).toNat)
  case atStart => exact ⟨0, 0, none, Nat.zero_le _, rfl, rfl, World.ownsRow_nil _ _ _ _, Lib.hid (fun y' h => absurd h (by omega)), Below.refl _ _⟩
  case round =>
    clear c0 c1 c2
    obtain ⟨y, cp, Al, hy, rfl, rfl, hO, HY, hB⟩ := hrel
    have S := S0.keep hB
    obtain ⟨c0, c1, c2⟩ := (S.blk 2 rfl).cell3
    by_cases hlt : y < b
    · obtain ⟨q, hq⟩ : ∃ q, pickN cs a wv y a = q := ⟨_, rfl⟩
      have hP := HPK.out y
      have hle := HLE.out y hlt
      have HN := Lib.hid (picksL_succ cs a wv y)
      have HQ := Lib.hid hq
      rw [hq] at hP hle HN
      have HPy := Lib.hid hP
      clear hP hq
      go_wp2_with fail
      refine (HPy.out _ hlt (S.rd 0 rfl) (S.rd 1 rfl)).mono ?_
      rintro e w2 ⟨rfl, hb2⟩
      have hO2 := own_below hO hb2
      have hB2 := hB.trans (hb2.mono hB.size)
      clear S c0 c1 c2
      have S := S0.keep hB2
      obtain ⟨c0, c1, c2⟩ := (S.blk 2 rfl).cell3
      clear hO hB hb2
      have hsz := hB2.size
      have HB := Lib.hid hB2
      by_cases h2 : q = -2
      · subst h2
        go_wp2_with fail
        go_ret2
        exact ⟨hB0.trans (HB.out.mono hBz), .inr ⟨fun h => h y hlt HQ.out, rfl⟩⟩
      · have e2 : (q == -2) = false := by simp [h2]
        by_cases h3 : 0 ≤ q
        · have HM : Hid (max q 0 = q) := Lib.hid (by omega)
          go_wp2_with (at_builtin; go_loud (refine wpList_app _ rfl (.tmp 21) (.tmp 24) 22 rfl w1.heap.size 3 i0 (.int .i64 0) 8 Try.underlying22 hi0 hz0 hz1 hz2 rfl (by decide) (.slice Al y cp) y _ rfl (hO2.alloc _) w2.heap.size (.int .i64 q) rfl (new_cell w2 _ _) rfl (by omega) (size_alloc_le hsz _) ?_))
          intro g' cp' w5 hO5 hgr
          have hB5 := (HB.out.alloc hsz _).grown hgr (size_alloc_le hsz _) (fun kk hkk => (hO2.lt kk hkk).1)
          go_wp2_with fail
          go_roundw
          case rel => exact ⟨y + 1, cp', some ⟨g', 0, none⟩, by omega, by go_num, rfl, by rw [HN.out, HM.out, List.map_append]; exact hO5, Lib.hid (fun y' hy' e => by
            by_cases ey : y' = y
            · subst ey; exact h2 (HQ.out.symm.trans e)
            · exact HY.out y' (by omega) e), hB5⟩
          case measure => simp [intOf]; omega
        · have HM : Hid (max q 0 = 0) := Lib.hid (by omega)
          go_wp2_with (at_builtin; go_loud (refine wpList_app _ rfl (.tmp 21) (.tmp 24) 22 rfl w1.heap.size 3 i0 (.int .i64 0) 8 Try.underlying22 hi0 hz0 hz1 hz2 rfl (by decide) (.slice Al y cp) y _ rfl (hO2.alloc _) w2.heap.size (.int .i64 0) rfl (new_cell w2 _ _) rfl (by omega) (size_alloc_le hsz _) ?_))
          intro g' cp' w5 hO5 hgr
          have hB5 := (HB.out.alloc hsz _).grown hgr (size_alloc_le hsz _) (fun kk hkk => (hO2.lt kk hkk).1)
          go_wp2_with fail
          go_roundw
          case rel => exact ⟨y + 1, cp', some ⟨g', 0, none⟩, by omega, by go_num, rfl, by rw [HN.out, HM.out, List.map_append]; exact hO5, Lib.hid (fun y' hy' e => by
            by_cases ey : y' = y
            · subst ey; exact h2 (HQ.out.symm.trans e)
            · exact HY.out y' (by omega) e), hB5⟩
          case measure => simp [intOf]; omega
    · obtain rfl : y = b := by omega
      go_wp2_with fail
      go_ret2
      exact ⟨hB0.trans (hB.mono hBz), .inl ⟨HY.out, Al, cp, rfl, own_base hO hBz⟩⟩

set_option linter.unusedVariables false in
set_option maxHeartbeats 4000000 in
set_option maxRecDepth 100000 in
theorem next_any (l : List Int) (a n g c base : Nat) (w : World) (hd : Dig n l) (ha : a ≤ 64) (hn : n ≤ 64) (ho : w.ownsRow base 3 1 (.slice (some ⟨g, 0, none⟩) a c) a (l.map (Value.int .i64))) :
    Calls Try.prog 50 #[.slice (some ⟨g, 0, none⟩) a c, .int .i64 n] w fun e w' => ∃ l' r, e = .returned (.bool r) ∧ w'.ownsRow base 3 1 (.slice (some ⟨g, 0, none⟩) a c) a (l'.map (Value.int .i64)) ∧ w.grownBy w' (some g) ∧ l'.length = a ∧ Dig n l' ∧
      (r = true → valN n l' = valN n l + 1) ∧ (r = false → valN n l + 1 = ((n ^ a : Nat) : Int)) := by
  have hl : l.length = a := by simpa using ho.1
  have HD := Lib.hid hd
  have HL := Lib.hid hl
  clear hd
  go_enter Try.func50, Try.ntmps50
  go_wp2_with fail
  go_loopw [5] (fun iv wr => ∃ (k : Nat) (cur : List Int), k ≤ a ∧ iv = .int .i64 ((k : Int) - 1) ∧ wr.ownsRow base 3 1 (.slice (some ⟨g, 0, none⟩) a c) a (cur.map (Value.int .i64)) ∧ w.grownBy wr (some g) ∧ Hid (NextInv n l cur (a - k))) (fun iv _ => (intOf iv + 1).toNat)
  case atStart => exact ⟨a, l, Nat.le_refl _, by go_num, ho, World.grownBy.refl _ _, Lib.hid (by rw [Nat.sub_self]; exact NextInv.start HD.out)⟩
  case round =>
    obtain ⟨k, cur, hk, rfl, hO, hG, HI⟩ := hrel
    by_cases hlt : 0 < k
    · obtain ⟨i, rfl⟩ : ∃ i, k = i + 1 := ⟨k - 1, by omega⟩
      rw [show ((i + 1 : Nat) : Int) - 1 = (i : Int) by omega]
      have hcl : cur.length = a := by simpa using hO.1
      have hcell := hO.cellAt i (by omega)
      rw [List.getElem?_map, List.getElem?_eq_getElem (by omega), Option.map_some] at hcell
      have hfr := hO.frozenAt i
      have hx : cur[i] = cur.getD i 0 := by rw [List.getD_eq_getElem?_getD, List.getElem?_eq_getElem (by omega)]; rfl
      rw [hx] at hcell
      have hdx := HI.out.dig.at (i := i) (by omega)
      have HI2 : Hid (NextInv n l cur (l.length - 1 - i)) := Lib.hid (by rw [HL.out, show a - 1 - i = a - (i + 1) by omega]; exact HI.out)
      obtain ⟨x, hxx⟩ : ∃ x, cur.getD i 0 = x := ⟨_, rfl⟩
      rw [hxx] at hcell hdx
      have HX := Lib.hid hxx
      have hst := hO.stored i (.int .i64 (x + 1))
      rw [← List.map_set] at hst
      have hO2 := hst.1
      have hcell2 := hO2.cellAt i (by omega)
      rw [List.getElem?_map, List.getElem?_set_self (by omega), Option.map_some] at hcell2
      have hfr2 := hO2.frozenAt i
      have hst2 := hO2.stored i (.int .i64 0)
      rw [← List.map_set, List.set_set] at hst2
      have HA := Lib.hid hst
      have HB := Lib.hid hst2
      clear hst hst2 hO hO2 hx hxx HI ho
      by_cases hn1 : x + 1 < n
      · go_wp2_with fail
        go_ret
        have h1 := HI2.out.stop (by rw [HL.out]; omega) (by rw [HX.out]; exact hn1)
        rw [HX.out] at h1
        exact ⟨_, true, rfl, HA.out.1, hG.trans HA.out.2, by rw [List.length_set]; exact hcl, h1.1, fun _ => h1.2, fun h => (by cases h)⟩
      · go_wp2_with fail
        go_roundw
        case rel => exact ⟨i, cur.set i 0, by omega, by go_num, HB.out.1, (hG.trans HA.out.2).trans HB.out.2, Lib.hid (by
          have h1 := HI2.out.round (by rw [HL.out]; omega) (by rw [HX.out]; exact hn1)
          rwa [HL.out] at h1)⟩
        case measure => simp [intOf]
    · obtain rfl : k = 0 := by omega
      rw [show ((0 : Nat) : Int) - 1 = -1 by omega]
      go_wp2_with fail
      go_ret
      exact ⟨cur, false, rfl, hO, hG, by simpa using hO.1, HI.out.dig, fun h => (by cases h), fun _ => by
        have h1 := HI.out
        rw [Nat.sub_zero, ← HL.out] at h1
        have := h1.last
        rwa [HL.out] at this⟩
end Go.Proofs.Ytefeghpglacghaa
