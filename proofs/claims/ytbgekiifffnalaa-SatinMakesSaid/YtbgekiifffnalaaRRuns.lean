/- raddleref09.Runs. -/
import Derived.Test.YtbgekiifffnalaaRunsP
import Derived.BigQuiet
import Derived.BigRegion
import Derived.IntWalk
import Derived.Outline
namespace Go.Proofs.Ytbgekiifffnalaa
open Go.RowKit

set_option maxHeartbeats 2000000 in
set_option maxRecDepth 100000 in
theorem rruns_any (l : List Bool) (A0 : Option Addr) (n c : Nat) (w : World) (hr : Rd w A0 n (l.map Value.bool)) :
    Calls Try.prog 23 #[.slice A0 n c] w (RetL (runsG l) w) := by
  obtain ⟨i0, hi, hz0, hz1, hz2⟩ := info_parts Try.infoI
  have hl : l.length = n := by simpa using hr.len
  by_cases h64 : 64 < n
  · rw [runsG_many (by omega)]
    clear hr
    go_enter Try.func23, Try.ntmps23
    go_wp2_with fail
    go_ret2
    exact retL_bad (Below.refl _ _)
  by_cases h2 : n < 2
  · rw [runsG_bad (by omega) (.inl (by omega))]
    clear hr
    go_enter Try.func23, Try.ntmps23
    go_wp2_with fail
    go_ret2
    exact retL_bad (Below.refl _ _)
  obtain ⟨bl, o, rfl, hbl, hcs⟩ := hr.at_ (by omega)
  have HC := Lib.hid (fun wz (hz : Below w.heap.size w wz) j (hj : j < n) => (by
    have h := (hr.below hz).lit j (.bool (l.getD j false)) (by rw [List.getElem?_map, List.getElem?_eq_getElem (by omega)]; simp [List.getD, show j < l.length by omega])
    exact h : wz.cell? ⟨bl, o + j, none⟩ = some (.bool (l.getD j false))))
  clear hr hcs hbl
  have g0 := HC.out w (Below.refl _ _) 0 (by omega)
  have g9 := HC.out w (Below.refl _ _) (n - 1) (by omega)
  have e9 : (n : Int) - 1 = ((n - 1 : Nat) : Int) := by omega
  by_cases hf : l.getD 0 false = false
  · rw [runsG_bad (by omega) (.inr (.inl hf))]
    rw [hf] at g0
    simp only [Nat.add_zero] at g0
    clear hf
    go_enter Try.func23, Try.ntmps23
    go_wp2_with fail
    go_ret2
    exact retL_bad (Below.refl _ _)
  have hft : l.getD 0 false = true := by simpa using hf
  rw [hft] at g0
  simp only [Nat.add_zero] at g0
  clear hf
  by_cases hla : l.getD (l.length - 1) false = true
  · rw [runsG_bad (by omega) (.inr (.inr hla))]
    rw [hl] at hla
    rw [hla] at g9
    have hn9 : n - 1 < n := by omega
    generalize n - 1 = q at *
    clear hla hft
    go_enter Try.func23, Try.ntmps23
    go_wp2_with fail
    go_ret2
    exact retL_bad (Below.refl _ _)
  have hlf : l.getD (l.length - 1) false = false := by simpa using hla
  rw [runsG_ok (by omega) (by omega) hft hlf]
  rw [hl] at hlf ⊢
  rw [hlf] at g9
  clear hla hft hlf hl
  have hn9 : n - 1 < n := by omega
  generalize n - 1 = q at *
  go_enter Try.func23, Try.ntmps23
  go_wp2_with fail
  go_loopw [5, 4] (fun i s wr => ∃ (k n1 c1 : Nat) (A : Option Addr), k ≤ n ∧ i = .int .i64 k ∧ s = .slice A n1 c1 ∧ wr.ownsRow w.heap.size 3 1 (.slice A n1 c1) n1 ((runsK l k).map (Value.int .i64)) ∧ Below w.heap.size w wr) (fun i _ _ => n - (intOf i).toNat)
  case atStart => exact ⟨0, 0, 0, none, Nat.zero_le _, rfl, rfl, World.ownsRow_nil _ _ _ _, Below.refl _ _⟩
  case round =>
    clear g0 g9 e9 hn9
    obtain ⟨k, n1, c1, A, hk, rfl, rfl, hown, hbel⟩ := hrel
    have hle := runsK_le l k
    have hn1 : (runsK l k).length = n1 := by have := hown.1; simpa using this
    by_cases hlt : k < n
    · have HBG := Lib.hid (show beginsB l k = (decide (k = 0) || (l.getD k false != l.getD (k - 1) false)) from rfl)
      have HY := Lib.hid (fun h => runsK_yes (l := l) (k := k) h)
      have HNO := Lib.hid (fun h => runsK_no (l := l) (k := k) h)
      have HPOS := Lib.hid (fun h => runsK_pos (l := l) (k := k) h)
      have g1 := HC.out wr hbel k hlt
      have g2 := HC.out wr hbel (k - 1) (by omega)
      have HIN : Hid ((runsK l k).length = n1) := Lib.hid hn1
      have HBD := Lib.hid (fun j => runsK_bound l k j)
      generalize hR : runsK l k = R at *
      clear hR
      by_cases hk0 : k = 0
      · have HB : Hid (beginsB l k = true) := Lib.hid (by rw [HBG.out]; simp [hk0])
        have k0 : ((k : Int) == 0) = true := by simp [hk0]
        clear hk0
        have HY1 : Hid (runsK l (k + 1) = R ++ [1]) := Lib.hid (HY.out HB.out)
        have hsz := size_alloc_le hbel.size (.cells #[.int .i64 0] 3)
        go_wp2_with fail
        go_quiet (fail)
        have hownq := own_below hown (below_drewN (Below.refl _ _) nq)
        have hbelq := below_drewN hbel nq
        clear hown hbel g1 g2
        go_wp2_with (at_builtin; go_loud (refine wpList_app _ rfl (.tmp 46) (.tmp 47) 26 rfl w.heap.size 3 i0 (.int .i64 0) 8 Try.underlying26 hi hz0 hz1 hz2 rfl (by decide) (.slice A n1 c1) n1 _ rfl (hownq.alloc _) wr.heap.size (.int .i64 0) rfl (new_cell _ _ _) rfl (by omega) hsz ?_))
        intro g3 c3 w3 hown3 hgr3
        have hbel3 := (hbelq.alloc hbelq.size _).grown hgr3 (size_alloc_le hbelq.size _) (fun k hk => (hownq.lt k hk).1)
        have hlen : (R.map (Value.int .i64)).length = n1 := by rw [List.length_map]; exact HIN.out
        have hc3 := hown3.cellAt n1 (by omega)
        rw [List.getElem?_append_right (by omega), hlen, Nat.sub_self] at hc3
        have hf3 := hown3.frozenAt n1
        have hst := hown3.stored n1 (.int .i64 1)
        have R1 : Hid ((w3.setCell ⟨g3, n1, none⟩ (.int .i64 1)).ownsRow w.heap.size 3 1 (.slice (some ⟨g3, 0, none⟩) (n1 + 1) c3) (n1 + 1) ((R ++ [1]).map (Value.int .i64))) := Lib.hid (by
          have h := hst.1
          rw [List.set_append_right _ _ (by omega), hlen, Nat.sub_self] at h
          rw [List.map_append]
          exact h)
        have R2 := Lib.hid (hbel3.setCell (p := ⟨g3, n1, none⟩) (hown3.lt g3 rfl).1 (.int .i64 1))
        have e1 : ((n1 + 1 : Nat) : Int) - 1 = (n1 : Int) := by omega
        clear hownq hbelq hgr3 hown3 hst hbel3
        go_wp2_with fail
        go_roundw
        case rel => exact ⟨k + 1, n1 + 1, c3, some ⟨g3, 0, none⟩, by omega, by go_num, rfl, by rw [HY1.out]; exact R1.out, R2.out⟩
        case measure => simp [intOf]; omega
      · have k0 : ((k : Int) == 0) = false := by simp; omega
        have e3 : (k : Int) - 1 = ((k - 1 : Nat) : Int) := by omega
        have e4 : IntKind.i64.wrap ((k : Int) - 1) = ((k - 1 : Nat) : Int) := by rw [e3]; exact IntWalk.i64_in _ (by omega)
        have e5 : k - 1 < n := by omega
        have HK1 := Lib.hid hk0
        generalize k - 1 = k1 at *
        cases h1 : l.getD k false <;> cases h2 : l.getD k1 false <;> rw [h1] at g1 <;> rw [h2] at g2
        · have HB : Hid (beginsB l k = false) := Lib.hid (by rw [HBG.out, h1, h2]; simp [hk0])
          clear hk0 h1 h2
          have HN1 : Hid (runsK l (k + 1) = incL R) := Lib.hid (HNO.out HB.out)
          have h1n : 1 ≤ n1 := by have := HPOS.out (by omega); have h := HIN.out; omega
          obtain ⟨g3, rfl, hgb, _, _⟩ := own_form hown h1n
          go_wp2_with fail
          go_quiet (fail)
          have hownq := own_below hown (below_drewN (Below.refl _ _) nq)
          have hbelq := below_drewN hbel nq
          clear hown hbel g1 g2
          have hbd := HBD.out (n1 - 1)
          have hc3 := hownq.cellAt (n1 - 1) (by omega)
          have hc4 : (wr.drewN nq).cell? ⟨g3, n1 - 1, none⟩ = some (.int .i64 (R.getD (n1 - 1) 0)) := by
            have h := HIN.out
            rw [hc3, List.getElem?_map, List.getElem?_eq_getElem (by omega)]
            simp [List.getD, show n1 - 1 < R.length by omega]
          have hf3 := hownq.frozenAt (n1 - 1)
          have hst := hownq.stored (n1 - 1) (.int .i64 (R.getD (n1 - 1) 0 + 1))
          have R1 : Hid (((wr.drewN nq).setCell ⟨g3, n1 - 1, none⟩ (.int .i64 (R.getD (n1 - 1) 0 + 1))).ownsRow w.heap.size 3 1 (.slice (some ⟨g3, 0, none⟩) n1 c1) n1 ((incL R).map (Value.int .i64))) := Lib.hid (by
            have h := hst.1
            unfold incL
            rw [HIN.out, List.map_set]
            exact h)
          have R2 := Lib.hid (hbelq.setCell (p := ⟨g3, n1 - 1, none⟩) hgb (.int .i64 (R.getD (n1 - 1) 0 + 1)))
          have e1 : (n1 : Int) - 1 = ((n1 - 1 : Nat) : Int) := by omega
          have e2 : n1 - 1 < n1 := by omega
          generalize R.getD (n1 - 1) 0 = z at *
          generalize n1 - 1 = q2 at *
          clear hc3 hownq hbelq hst
          go_wp2_with fail
          go_roundw
          case rel => exact ⟨k + 1, n1, c1, some ⟨g3, 0, none⟩, by omega, by go_num, rfl, by rw [HN1.out]; exact R1.out, R2.out⟩
          case measure => simp [intOf]; omega
        · have HB : Hid (beginsB l k = true) := Lib.hid (by rw [HBG.out, h1, h2]; simp)
          clear hk0 h1 h2
          have HY1 : Hid (runsK l (k + 1) = R ++ [1]) := Lib.hid (HY.out HB.out)
          have hsz := size_alloc_le hbel.size (.cells #[.int .i64 0] 3)
          go_wp2_with fail
          go_quiet (fail)
          have hownq := own_below hown (below_drewN (Below.refl _ _) nq)
          have hbelq := below_drewN hbel nq
          clear hown hbel g1 g2
          go_wp2_with (at_builtin; go_loud (refine wpList_app _ rfl (.tmp 46) (.tmp 47) 26 rfl w.heap.size 3 i0 (.int .i64 0) 8 Try.underlying26 hi hz0 hz1 hz2 rfl (by decide) (.slice A n1 c1) n1 _ rfl (hownq.alloc _) wr.heap.size (.int .i64 0) rfl (new_cell _ _ _) rfl (by omega) hsz ?_))
          intro g3 c3 w3 hown3 hgr3
          have hbel3 := (hbelq.alloc hbelq.size _).grown hgr3 (size_alloc_le hbelq.size _) (fun k hk => (hownq.lt k hk).1)
          have hlen : (R.map (Value.int .i64)).length = n1 := by rw [List.length_map]; exact HIN.out
          have hc3 := hown3.cellAt n1 (by omega)
          rw [List.getElem?_append_right (by omega), hlen, Nat.sub_self] at hc3
          have hf3 := hown3.frozenAt n1
          have hst := hown3.stored n1 (.int .i64 1)
          have R1 : Hid ((w3.setCell ⟨g3, n1, none⟩ (.int .i64 1)).ownsRow w.heap.size 3 1 (.slice (some ⟨g3, 0, none⟩) (n1 + 1) c3) (n1 + 1) ((R ++ [1]).map (Value.int .i64))) := Lib.hid (by
            have h := hst.1
            rw [List.set_append_right _ _ (by omega), hlen, Nat.sub_self] at h
            rw [List.map_append]
            exact h)
          have R2 := Lib.hid (hbel3.setCell (p := ⟨g3, n1, none⟩) (hown3.lt g3 rfl).1 (.int .i64 1))
          have e1 : ((n1 + 1 : Nat) : Int) - 1 = (n1 : Int) := by omega
          clear hownq hbelq hgr3 hown3 hst hbel3
          go_wp2_with fail
          go_roundw
          case rel => exact ⟨k + 1, n1 + 1, c3, some ⟨g3, 0, none⟩, by omega, by go_num, rfl, by rw [HY1.out]; exact R1.out, R2.out⟩
          case measure => simp [intOf]; omega
        · have HB : Hid (beginsB l k = true) := Lib.hid (by rw [HBG.out, h1, h2]; simp)
          clear hk0 h1 h2
          have HY1 : Hid (runsK l (k + 1) = R ++ [1]) := Lib.hid (HY.out HB.out)
          have hsz := size_alloc_le hbel.size (.cells #[.int .i64 0] 3)
          go_wp2_with fail
          go_quiet (fail)
          have hownq := own_below hown (below_drewN (Below.refl _ _) nq)
          have hbelq := below_drewN hbel nq
          clear hown hbel g1 g2
          go_wp2_with (at_builtin; go_loud (refine wpList_app _ rfl (.tmp 46) (.tmp 47) 26 rfl w.heap.size 3 i0 (.int .i64 0) 8 Try.underlying26 hi hz0 hz1 hz2 rfl (by decide) (.slice A n1 c1) n1 _ rfl (hownq.alloc _) wr.heap.size (.int .i64 0) rfl (new_cell _ _ _) rfl (by omega) hsz ?_))
          intro g3 c3 w3 hown3 hgr3
          have hbel3 := (hbelq.alloc hbelq.size _).grown hgr3 (size_alloc_le hbelq.size _) (fun k hk => (hownq.lt k hk).1)
          have hlen : (R.map (Value.int .i64)).length = n1 := by rw [List.length_map]; exact HIN.out
          have hc3 := hown3.cellAt n1 (by omega)
          rw [List.getElem?_append_right (by omega), hlen, Nat.sub_self] at hc3
          have hf3 := hown3.frozenAt n1
          have hst := hown3.stored n1 (.int .i64 1)
          have R1 : Hid ((w3.setCell ⟨g3, n1, none⟩ (.int .i64 1)).ownsRow w.heap.size 3 1 (.slice (some ⟨g3, 0, none⟩) (n1 + 1) c3) (n1 + 1) ((R ++ [1]).map (Value.int .i64))) := Lib.hid (by
            have h := hst.1
            rw [List.set_append_right _ _ (by omega), hlen, Nat.sub_self] at h
            rw [List.map_append]
            exact h)
          have R2 := Lib.hid (hbel3.setCell (p := ⟨g3, n1, none⟩) (hown3.lt g3 rfl).1 (.int .i64 1))
          have e1 : ((n1 + 1 : Nat) : Int) - 1 = (n1 : Int) := by omega
          clear hownq hbelq hgr3 hown3 hst hbel3
          go_wp2_with fail
          go_roundw
          case rel => exact ⟨k + 1, n1 + 1, c3, some ⟨g3, 0, none⟩, by omega, by go_num, rfl, by rw [HY1.out]; exact R1.out, R2.out⟩
          case measure => simp [intOf]; omega
        · have HB : Hid (beginsB l k = false) := Lib.hid (by rw [HBG.out, h1, h2]; simp [hk0])
          clear hk0 h1 h2
          have HN1 : Hid (runsK l (k + 1) = incL R) := Lib.hid (HNO.out HB.out)
          have h1n : 1 ≤ n1 := by have := HPOS.out (by omega); have h := HIN.out; omega
          obtain ⟨g3, rfl, hgb, _, _⟩ := own_form hown h1n
          go_wp2_with fail
          go_quiet (fail)
          have hownq := own_below hown (below_drewN (Below.refl _ _) nq)
          have hbelq := below_drewN hbel nq
          clear hown hbel g1 g2
          have hbd := HBD.out (n1 - 1)
          have hc3 := hownq.cellAt (n1 - 1) (by omega)
          have hc4 : (wr.drewN nq).cell? ⟨g3, n1 - 1, none⟩ = some (.int .i64 (R.getD (n1 - 1) 0)) := by
            have h := HIN.out
            rw [hc3, List.getElem?_map, List.getElem?_eq_getElem (by omega)]
            simp [List.getD, show n1 - 1 < R.length by omega]
          have hf3 := hownq.frozenAt (n1 - 1)
          have hst := hownq.stored (n1 - 1) (.int .i64 (R.getD (n1 - 1) 0 + 1))
          have R1 : Hid (((wr.drewN nq).setCell ⟨g3, n1 - 1, none⟩ (.int .i64 (R.getD (n1 - 1) 0 + 1))).ownsRow w.heap.size 3 1 (.slice (some ⟨g3, 0, none⟩) n1 c1) n1 ((incL R).map (Value.int .i64))) := Lib.hid (by
            have h := hst.1
            unfold incL
            rw [HIN.out, List.map_set]
            exact h)
          have R2 := Lib.hid (hbelq.setCell (p := ⟨g3, n1 - 1, none⟩) hgb (.int .i64 (R.getD (n1 - 1) 0 + 1)))
          have e1 : (n1 : Int) - 1 = ((n1 - 1 : Nat) : Int) := by omega
          have e2 : n1 - 1 < n1 := by omega
          generalize R.getD (n1 - 1) 0 = z at *
          generalize n1 - 1 = q2 at *
          clear hc3 hownq hbelq hst
          go_wp2_with fail
          go_roundw
          case rel => exact ⟨k + 1, n1, c1, some ⟨g3, 0, none⟩, by omega, by go_num, rfl, by rw [HN1.out]; exact R1.out, R2.out⟩
          case measure => simp [intOf]; omega
    · have HKN : Hid (k = n) := Lib.hid (by omega)
      go_wp2_with fail
      go_ret2
      exact ⟨A, n1, c1, rfl, by rw [← HKN.out]; exact hown, hbel⟩
end Go.Proofs.Ytbgekiifffnalaa
