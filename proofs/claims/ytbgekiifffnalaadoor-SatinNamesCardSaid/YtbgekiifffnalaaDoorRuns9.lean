/- slices.Index of bools and satin.Runs. -/
import Derived.Test.YtbgekiifffnalaaDoorRunsP
import Derived.Outline
import Derived.IntWalk
namespace Go.Proofs.YtbgekiifffnalaaDoor
open Go.RowKit

def lenV : Value → Nat
  | .slice _ n _ => n
  | _ => 0
theorem runs_cell {w : World} {bl o n k : Nat} {l : List Bool} (h : Rd w (some ⟨bl, o, none⟩) n (l.map Value.bool)) (hk : k < n) : w.cell? ⟨bl, o + k, none⟩ = some (.bool (l.getD k false)) := by
  have hl : l.length = n := by simpa using h.len
  exact h.lit k _ (by rw [List.getElem?_map, List.getElem?_eq_getElem (by omega)]; simp [List.getD, show k < l.length by omega])
theorem runs_tail {w : World} {bl o n k m : Nat} {l : List Bool} (h : Rd w (some ⟨bl, o, none⟩) n (l.map Value.bool)) (hk : k + m = n) : Rd w (some ⟨bl, o + k, none⟩) m ((l.drop k).map Value.bool) := by
  have hl : l.length = n := by simpa using h.len
  refine ⟨by simp; omega, fun hm => ⟨bl, o + k, rfl, fun j u hu => ?_⟩⟩
  have := h.lit (k + j) u (by rw [← hu]; simp [List.getElem?_drop])
  rw [← Nat.add_assoc] at this
  exact this
/-- Whatever slices.Index answers. -/
def IdxB (l : List Bool) (n : Nat) (v : Bool) (r : Int) : Prop := (r = -1 ∧ ∀ j, j < n → l.getD j false = !v) ∨ ∃ k : Nat, k < n ∧ r = (k : Int) ∧ l.getD k false = v ∧ ∀ j, j < k → l.getD j false = !v
theorem idxb_any (l : List Bool) (A : Option Addr) (n c : Nat) (v : Bool) (w : World) (hr : Rd w A n (l.map Value.bool)) (hn : n ≤ 1048576) :
    Calls Tryd.prog 28 #[.slice A n c, .bool v] w fun e w' => ∃ r, IdxB l n v r ∧ e = .returned (.int .i64 r) ∧ w' = w := by
  go_enter Tryd.func28, Tryd.ntmps28
  go_wp2_with fail
  go_loopw [8] (fun i wr => ∃ k : Nat, k ≤ n ∧ i = .int .i64 k ∧ Hid (∀ j, j < k → l.getD j false = !v) ∧ wr = w) (fun i _ => n - (intOf i).toNat)
  case atStart => exact ⟨0, Nat.zero_le _, rfl, Lib.hid (fun j h => absurd h (by omega)), rfl⟩
  case round =>
    obtain ⟨k, hk, rfl, HK, rfl⟩ := hrel
    by_cases hlt : k < n
    · obtain ⟨bl, o, rfl, _, _⟩ := hr.at_ (by omega)
      have g0 := runs_cell hr hlt
      cases hp : l.getD k false <;> rw [hp] at g0 <;> have HP := Lib.hid hp <;> clear hp <;> cases v
      · go_wp2_with fail
        go_ret
        exact ⟨_, .inr ⟨k, hlt, rfl, HP.out, HK.out⟩, rfl, rfl⟩
      · go_wp2_with fail
        go_roundw
        case rel =>
          refine ⟨k + 1, by omega, by go_num, Lib.hid (fun j hj => ?_), by trivial⟩
          rcases Nat.lt_or_ge j k with h | h
          · exact HK.out j h
          · obtain rfl : j = k := by omega
            exact HP.out
        case measure => simp [intOf]; omega
      · go_wp2_with fail
        go_roundw
        case rel =>
          refine ⟨k + 1, by omega, by go_num, Lib.hid (fun j hj => ?_), by trivial⟩
          rcases Nat.lt_or_ge j k with h | h
          · exact HK.out j h
          · obtain rfl : j = k := by omega
            exact HP.out
        case measure => simp [intOf]; omega
      · go_wp2_with fail
        go_ret
        exact ⟨_, .inr ⟨k, hlt, rfl, HP.out, HK.out⟩, rfl, rfl⟩
    · have HA : Hid (∀ j, j < n → l.getD j false = !v) := Lib.hid (fun j hj => HK.out j (by omega))
      go_wp2_with fail
      go_ret
      exact ⟨-1, .inl ⟨rfl, HA.out⟩, rfl, rfl⟩
theorem rd_none {w : World} {A : Option Addr} {n : Nat} {l : List Bool} (h : n = 0) (hl : l.length = n) : Rd w A n (l.map Value.bool) := ⟨by simpa using hl, fun h1 => absurd h1 (by omega)⟩
theorem drop_getD (l : List Bool) (i j : Nat) : (l.drop i).getD j false = l.getD (i + j) false := by simp [List.getD, List.getElem?_drop]

set_option maxHeartbeats 2000000 in
set_option maxRecDepth 100000 in
theorem runs_any (l : List Bool) (A0 : Option Addr) (n c : Nat) (w : World) (hr : Rd w A0 n (l.map Value.bool)) (hnc : n ≤ c) :
    Calls Tryd.prog 13 #[.slice A0 n c] w (RetL (runsG l) w) := by
  obtain ⟨i0, hi, hz0, hz1, hz2⟩ := info_parts Tryd.infoI
  have hl : l.length = n := by simpa using hr.len
  by_cases h64 : 64 < n
  · rw [runsG_many (by omega)]
    clear hr
    go_enter Tryd.func13, Tryd.ntmps13
    go_wp2_with fail
    go_ret2
    exact retL_bad (Below.refl _ _)
  by_cases h2 : n < 2
  · rw [runsG_bad (by omega) (.inl (by omega))]
    clear hr
    go_enter Tryd.func13, Tryd.ntmps13
    go_wp2_with fail
    go_ret2
    exact retL_bad (Below.refl _ _)
  obtain ⟨bl, o, rfl, hbl, hcs⟩ := hr.at_ (by omega)
  have g0 := runs_cell hr (show 0 < n by omega)
  have g9 := runs_cell hr (show n - 1 < n by omega)
  have e9 : (n : Int) - 1 = ((n - 1 : Nat) : Int) := by omega
  clear hbl hcs
  simp only [Nat.add_zero] at g0
  by_cases hf : l.getD 0 false = false
  · rw [runsG_bad (by omega) (.inr (.inl hf))]
    rw [hf] at g0
    clear hf hr
    go_enter Tryd.func13, Tryd.ntmps13
    go_wp2_with fail
    go_ret2
    exact retL_bad (Below.refl _ _)
  have hft : l.getD 0 false = true := by simpa using hf
  rw [hft] at g0
  clear hf
  by_cases hla : l.getD (l.length - 1) false = true
  · rw [runsG_bad (by omega) (.inr (.inr hla))]
    rw [hl] at hla
    rw [hla] at g9
    have hn9 : n - 1 < n := by omega
    generalize n - 1 = q at *
    clear hla hft hr
    go_enter Tryd.func13, Tryd.ntmps13
    go_wp2_with fail
    go_ret2
    exact retL_bad (Below.refl _ _)
  have hlf : l.getD (l.length - 1) false = false := by simpa using hla
  rw [runsG_ok (by omega) (by omega) hft hlf]
  rw [hl] at hlf ⊢
  rw [hlf] at g9
  have HFT := Lib.hid hft
  clear hla hft hlf hl
  have hn9 : n - 1 < n := by omega
  have HR := Lib.hid hr
  clear hr
  generalize n - 1 = q at *
  go_enter Tryd.func13, Tryd.ntmps13
  go_wp2_with fail
  go_loopw [0, 4, 5] (fun s0 s4 s5 wr => ∃ (i m ci n1 c1 : Nat) (Ai A : Option Addr) (up : Bool), i + m = n ∧ m ≤ ci ∧ s0 = .slice Ai m ci ∧ Hid (Rd w Ai m ((l.drop i).map Value.bool)) ∧ s4 = .slice A n1 c1 ∧ s5 = .bool up ∧
      Hid (0 < m → beginsB l i = true ∧ l.getD i false = up) ∧ wr.ownsRow w.heap.size 3 1 (.slice A n1 c1) n1 ((runsK l i).map (Value.int .i64)) ∧ Below w.heap.size w wr) (fun s0 _ _ _ => lenV s0)
  case atStart => exact ⟨0, n, c, 0, 0, _, none, true, by omega, hnc, rfl, Lib.hid (by simpa using HR.out), rfl, rfl, Lib.hid (fun _ => ⟨rfl, HFT.out⟩), World.ownsRow_nil _ _ _ _, Below.refl _ _⟩
  case round =>
    clear g0 g9 e9 hn9
    obtain ⟨i, m, ci, n1, c1, Ai, A, up, him, hmc, rfl, hrd, rfl, rfl, HUP, hown, hbel⟩ := hrel
    have hle := runsK_le l i
    have hn1 : (runsK l i).length = n1 := by have := hown.1; simpa using this
    by_cases hm : 0 < m
    · obtain ⟨bi, oi, rfl, _, _⟩ := hrd.out.at_ hm
      have HI := Lib.hid (idxb_any (l.drop i) (some ⟨bi, oi, none⟩) m ci (!up) wr (hrd.out.below hbel) (by omega))
      have HRD := hrd
      clear hrd
      go_wp2_with fail
      refine HI.out.mono ?_
      rintro e w1 ⟨r, hidx, rfl, hw1⟩
      have hw2 := hw1.symm
      subst hw2
      clear hw1
      obtain ⟨t, ht1, ht2, HT, HN⟩ : ∃ t : Nat, 1 ≤ t ∧ t ≤ m ∧ Hid ((r = -1 ∧ t = m) ∨ (r = (t : Int))) ∧ Hid (runsK l (i + t) = runsK l i ++ [(t : Int)] ∧ (0 < m - t → beginsB l (i + t) = true ∧ l.getD (i + t) false = !up)) := by
        obtain ⟨hb, hu⟩ := HUP.out hm
        rcases hidx with ⟨rfl, hall⟩ | ⟨k, hkm, rfl, hk1, hall⟩
        · refine ⟨m, hm, Nat.le_refl _, Lib.hid (.inl ⟨rfl, rfl⟩), Lib.hid ⟨runsK_run (up := up) hb m hm (fun j h1 h2 => ?_), fun h => absurd h (by omega)⟩⟩
          have h3 := hall (j - i) (by omega)
          rw [drop_getD, show i + (j - i) = j by omega] at h3
          simpa using h3
        · have hk0 : 1 ≤ k := by
            rcases Nat.eq_zero_or_pos k with h | h
            · subst h
              rw [drop_getD, Nat.add_zero, hu] at hk1
              cases up <;> simp at hk1
            · exact h
          have hall2 : ∀ j, i ≤ j → j < i + k → l.getD j false = up := fun j h1 h2 => by
            have h3 := hall (j - i) (by omega)
            rw [drop_getD, show i + (j - i) = j by omega] at h3
            simpa using h3
          rw [drop_getD] at hk1
          refine ⟨k, hk0, by omega, Lib.hid (.inr rfl), Lib.hid ⟨runsK_run (up := up) hb k hk0 hall2, fun _ => ⟨?_, hk1⟩⟩⟩
          unfold beginsB
          rw [hk1, hall2 (i + k - 1) (by omega) (by omega)]
          cases up <;> simp
      clear hidx
      have hsz := size_alloc_le hbel.size (.cells #[.int .i64 t] 3)
      generalize hxs : (runsK l i).map (Value.int .i64) = xs at hown
      have HX := Lib.hid hxs
      clear hxs
      obtain ⟨m2, hm2⟩ : ∃ m2, t + m2 = m := ⟨m - t, by omega⟩
      have HTL : Hid (Rd w (some ⟨bi, oi + t, none⟩) m2 ((l.drop (i + t)).map Value.bool)) := Lib.hid (by
        have h := runs_tail HRD.out hm2
        rw [List.drop_drop] at h
        exact h)
      subst hm2
      have hs1 : t + m2 - t = m2 := by omega
      have hlen : Hid ((l.drop (i + t)).length = m2) := Lib.hid (by have := HTL.out.len; simpa using this)
      rcases HT.out with ⟨rfl, hz⟩ | rfl
      · have hm20 : m2 = 0 := by omega
        have HM0 := Lib.hid hm20
        subst hm20
        clear hz
        simp only [Nat.add_zero] at *
        by_cases hct : ci = t
        · have hc0 : ci - t = 0 := by omega
          go_wp2_with (at_builtin; go_loud (refine wpList_app _ rfl (.tmp 40) (.tmp 42) 28 rfl w.heap.size 3 i0 (.int .i64 0) 8 Tryd.underlying28 hi hz0 hz1 hz2 rfl (by decide) (.slice A n1 c1) n1 _ rfl (hown.alloc _) wr.heap.size (.int .i64 t) rfl (new_cell _ _ _) rfl (by omega) hsz ?_))
          intro g3 c3 w3 hown3 hgr3
          have hbel3 := (hbel.alloc hbel.size _).grown hgr3 (size_alloc_le hbel.size _) (fun k hk => (hown.lt k hk).1)
          clear hown hgr3 hbel
          go_wp2_with fail
          go_roundw
          case rel => exact ⟨i + t, 0, _, n1 + 1, c3, _, some ⟨g3, 0, none⟩, !up, by omega, by omega, rfl, Lib.hid (rd_none rfl hlen.out), rfl, rfl, Lib.hid (fun h => HN.out.2 (by omega)), by rw [HN.out.1, List.map_append, HX.out]; exact hown3, hbel3⟩
          case measure => simp [lenV]; omega
        · have hc0 : ¬ ci - t = 0 := by omega
          go_wp2_with (at_builtin; go_loud (refine wpList_app _ rfl (.tmp 40) (.tmp 42) 28 rfl w.heap.size 3 i0 (.int .i64 0) 8 Tryd.underlying28 hi hz0 hz1 hz2 rfl (by decide) (.slice A n1 c1) n1 _ rfl (hown.alloc _) wr.heap.size (.int .i64 t) rfl (new_cell _ _ _) rfl (by omega) hsz ?_))
          intro g3 c3 w3 hown3 hgr3
          have hbel3 := (hbel.alloc hbel.size _).grown hgr3 (size_alloc_le hbel.size _) (fun k hk => (hown.lt k hk).1)
          clear hown hgr3 hbel
          go_wp2_with fail
          go_roundw
          case rel => exact ⟨i + t, 0, _, n1 + 1, c3, _, some ⟨g3, 0, none⟩, !up, by omega, by omega, rfl, Lib.hid (rd_none rfl hlen.out), rfl, rfl, Lib.hid (fun h => HN.out.2 (by omega)), by rw [HN.out.1, List.map_append, HX.out]; exact hown3, hbel3⟩
          case measure => simp [lenV]; omega
      · by_cases hct : ci = t
        · have hm20 : m2 = 0 := by omega
          have hc0 : ci - t = 0 := by omega
          have HM0 := Lib.hid hm20
          clear hm20
          go_wp2_with (at_builtin; go_loud (refine wpList_app _ rfl (.tmp 40) (.tmp 42) 28 rfl w.heap.size 3 i0 (.int .i64 0) 8 Tryd.underlying28 hi hz0 hz1 hz2 rfl (by decide) (.slice A n1 c1) n1 _ rfl (hown.alloc _) wr.heap.size (.int .i64 t) rfl (new_cell _ _ _) rfl (by omega) hsz ?_))
          intro g3 c3 w3 hown3 hgr3
          have hbel3 := (hbel.alloc hbel.size _).grown hgr3 (size_alloc_le hbel.size _) (fun k hk => (hown.lt k hk).1)
          clear hown hgr3 hbel
          go_wp2_with fail
          go_roundw
          case rel => exact ⟨i + t, m2, _, n1 + 1, c3, _, some ⟨g3, 0, none⟩, !up, by omega, by omega, rfl, Lib.hid (rd_none HM0.out hlen.out), rfl, rfl, Lib.hid (fun h => HN.out.2 (by omega)), by rw [HN.out.1, List.map_append, HX.out]; exact hown3, hbel3⟩
          case measure => simp [lenV]; omega
        · have hc0 : ¬ ci - t = 0 := by omega
          go_wp2_with (at_builtin; go_loud (refine wpList_app _ rfl (.tmp 40) (.tmp 42) 28 rfl w.heap.size 3 i0 (.int .i64 0) 8 Tryd.underlying28 hi hz0 hz1 hz2 rfl (by decide) (.slice A n1 c1) n1 _ rfl (hown.alloc _) wr.heap.size (.int .i64 t) rfl (new_cell _ _ _) rfl (by omega) hsz ?_))
          intro g3 c3 w3 hown3 hgr3
          have hbel3 := (hbel.alloc hbel.size _).grown hgr3 (size_alloc_le hbel.size _) (fun k hk => (hown.lt k hk).1)
          clear hown hgr3 hbel
          go_wp2_with fail
          go_roundw
          case rel => exact ⟨i + t, m2, _, n1 + 1, c3, _, some ⟨g3, 0, none⟩, !up, by omega, by omega, rfl, HTL, rfl, rfl, Lib.hid (fun h => HN.out.2 (by omega)), by rw [HN.out.1, List.map_append, HX.out]; exact hown3, hbel3⟩
          case measure => simp [lenV]; omega
    · have HIN : Hid (i = n) := Lib.hid (by omega)
      go_wp2_with fail
      go_ret2
      exact ⟨A, n1, c1, rfl, by rw [← HIN.out]; exact hown, hbel⟩
end Go.Proofs.YtbgekiifffnalaaDoor
