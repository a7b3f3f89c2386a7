/- raddleref09.Valid and Row. -/
import Derived.Test.YtbgekiifffnalaaRowsP
import Derived.Test.YtbgekiifffnalaaInfoB
import Derived.Outline
import Derived.IntWalk
namespace Go.Proofs.Ytbgekiifffnalaa
open Go.RowKit

theorem ints_cell {w : World} {bl o n k : Nat} {l : List Int} (h : Rd w (some ⟨bl, o, none⟩) n (l.map (Value.int .i64))) (hk : k < n) : w.cell? ⟨bl, o + k, none⟩ = some (.int .i64 (l.getD k 0)) := by
  have hl : l.length = n := by simpa using h.len
  exact h.lit k _ (by rw [List.getElem?_map, List.getElem?_eq_getElem (by omega)]; simp [List.getD, show k < l.length by omega])

set_option maxHeartbeats 1000000 in
set_option maxRecDepth 100000 in
theorem valid_any (runs : List Int) (A : Option Addr) (n c : Nat) (w : World) (hr : Rd w A n (runs.map (Value.int .i64))) (hn : n ≤ 1048576) :
    Calls Try.prog 26 #[.slice A n c] w fun e w' => e = .returned (.bool (validB runs)) ∧ w' = w := by
  have hl : runs.length = n := by simpa using hr.len
  have hpm : (n : Int).tmod 2 = ((n % 2 : Nat) : Int) := by rw [Int.tmod_eq_emod_of_nonneg (by omega)]; exact (Int.natCast_emod n 2).symm
  have hpe : (n : Int) % 2 = ((n % 2 : Nat) : Int) := (Int.natCast_emod n 2).symm
  by_cases h1 : n < 2
  · have HV := Lib.hid (validB_no (runs := runs) (by omega))
    clear hpm hpe
    go_enter Try.func26, Try.ntmps26
    go_wp2_with fail
    go_ret
    exact ⟨by rw [HV.out]; rfl, rfl⟩
  by_cases h2 : 64 < n
  · have HV := Lib.hid (validB_no (runs := runs) (by omega))
    clear hpm hpe
    go_enter Try.func26, Try.ntmps26
    go_wp2_with fail
    go_ret
    exact ⟨by rw [HV.out]; rfl, rfl⟩
  by_cases h3 : n % 2 = 0
  · have HE := Lib.hid (show 2 ≤ runs.length ∧ runs.length ≤ 64 ∧ runs.length % 2 = 0 by rw [hl]; omega)
    rw [h3] at hpm hpe
    have HL := Lib.hid hl
    clear h3 hl
    go_enter Try.func26, Try.ntmps26
    go_wp2_with fail
    go_loopw [4, 3] (fun i s wr => ∃ k : Nat, k ≤ n ∧ i = .int .i64 k ∧ s = .int .i64 (preS runs k) ∧ Hid (∀ j, j < k → okAt runs j = true) ∧ wr = w) (fun i _ _ => n - (intOf i).toNat)
    case atStart => exact ⟨0, Nat.zero_le _, rfl, by rw [preS_zero], Lib.hid (fun j h => absurd h (by omega)), rfl⟩
    case round =>
      obtain ⟨k, hk, rfl, rfl, HK, rfl⟩ := hrel
      by_cases hlt : k < n
      · obtain ⟨bl, o, rfl, _, _⟩ := hr.at_ (by omega)
        have hsb := preS_bound (runs := runs) (k := k) (by have := HL.out; omega) HK.out
        have HS := Lib.hid (preS_succ (runs := runs) (k := k) (by have := HL.out; omega))
        have g0 := ints_cell hr hlt
        have HO := Lib.hid (show okAt runs k = decide (1 ≤ runs.getD k 0 ∧ runs.getD k 0 ≤ 64 - preS runs k) from rfl)
        generalize preS runs k = s at *
        generalize runs.getD k 0 = z at *
        by_cases hz1 : z < 1
        · have HV := Lib.hid (validB_at (runs := runs) (k := k) (by have := HL.out; omega) (by rw [HO.out]; simp; omega))
          go_wp2_with fail
          go_ret
          exact ⟨by rw [HV.out]; rfl, rfl⟩
        by_cases hz2 : 64 - s < z
        · have HV := Lib.hid (validB_at (runs := runs) (k := k) (by have := HL.out; omega) (by rw [HO.out]; simp; omega))
          go_wp2_with fail
          go_ret
          exact ⟨by rw [HV.out]; rfl, rfl⟩
        have HO2 : Hid (okAt runs k = true) := Lib.hid (by rw [HO.out]; simp; omega)
        go_wp2_with fail
        go_roundw
        case rel =>
          refine ⟨k + 1, by omega, by go_num, by first | (rw [HS.out]; done) | (rw [HS.out]; go_num), Lib.hid (fun j hj => ?_), by trivial⟩
          rcases Nat.lt_or_ge j k with h | h
          · exact HK.out j h
          · obtain rfl : j = k := by omega
            exact HO2.out
        case measure => simp [intOf]; omega
      · have HV := Lib.hid (validB_yes HE.out (fun j hj => HK.out j (by have := HL.out; omega)))
        go_wp2_with fail
        go_ret
        exact ⟨by rw [HV.out]; rfl, rfl⟩
  · have HV := Lib.hid (validB_no (runs := runs) (by omega))
    have h4 : n % 2 = 1 := by omega
    rw [h4] at hpm hpe
    clear h3 h4
    go_enter Try.func26, Try.ntmps26
    go_wp2_with fail
    go_ret
    exact ⟨by rw [HV.out]; rfl, rfl⟩

/-- A row of bools alone, in new memory. -/
def RetB (l : List Bool) (w : World) (e : Ending) (w' : World) : Prop :=
  ∃ A n c, e = .returned (.slice A n c) ∧ w'.ownsRow w.heap.size 4 1 (.slice A n c) n (l.map Value.bool) ∧ Below w.heap.size w w'
set_option maxHeartbeats 1000000 in
set_option maxRecDepth 100000 in
theorem rrow_any (runs : List Int) (A0 : Option Addr) (n c : Nat) (w : World) (hr : Rd w A0 n (runs.map (Value.int .i64))) (hv : validB runs = true) :
    Calls Try.prog 27 #[.slice A0 n c] w (RetB (rowK runs n) w) := by
  obtain ⟨i0, hi, hz0, hz1, hz2⟩ := info_parts Try.infoB
  have hl : runs.length = n := by simpa using hr.len
  obtain ⟨⟨hv1, hv2, _⟩, hv3⟩ := validB_open hv
  have hn64 : n ≤ 64 := by omega
  have HV := Lib.hid hv3
  have HL := Lib.hid hl
  have HR := Lib.hid hr
  clear hv hv1 hv2 hv3 hl hr
  go_enter Try.func27, Try.ntmps27
  go_wp2_with fail
  go_loopw [4, 3] (fun i s wr => ∃ (k n1 c1 : Nat) (A : Option Addr), k ≤ n ∧ i = .int .i64 k ∧ s = .slice A n1 c1 ∧ wr.ownsRow w.heap.size 4 1 (.slice A n1 c1) n1 ((rowK runs k).map Value.bool) ∧ Below w.heap.size w wr) (fun i _ _ => n - (intOf i).toNat)
  case atStart => exact ⟨0, 0, 0, none, Nat.zero_le _, rfl, rfl, World.ownsRow_nil _ _ _ _, Below.refl _ _⟩
  case round =>
    obtain ⟨k, n1, c1, A, hk, rfl, rfl, hown, hbel⟩ := hrel
    by_cases hlt : k < n
    · have hok : okAt runs k = true := HV.out k (by have := HL.out; omega)
      unfold okAt at hok
      rw [decide_eq_true_eq] at hok
      have hsb := preS_bound (runs := runs) (k := k) (by have := HL.out; omega) (fun j hj => HV.out j (by have := HL.out; omega))
      have hrl := rowK_length (runs := runs) (k := k) (by have := HL.out; omega) (fun j hj => HV.out j (by have := HL.out; omega))
      have hn1 : (rowK runs k).length = n1 := by have := hown.1; simpa using this
      obtain ⟨R, hR⟩ : ∃ R : Nat, runs.getD k 0 = (R : Int) := ⟨(runs.getD k 0).toNat, by omega⟩
      have HSU := Lib.hid (show rowK runs (k + 1) = rowK runs k ++ List.replicate R (decide (k % 2 = 0)) by rw [rowK_succ, hR]; simp)
      have HRV := Lib.hid hR
      have hRn : R + n1 ≤ 64 := by omega
      clear hok hsb hrl hR hn1
      generalize hxs : rowK runs k = xs at *
      clear hxs
      go_wp2_with fail
      go_loopw [5, 3] (fun i s wr => ∃ (x n1' c1 : Nat) (A : Option Addr), x ≤ R ∧ Hid (n1' = n1 + x) ∧ i = .int .i64 x ∧ s = .slice A n1' c1 ∧ wr.ownsRow w.heap.size 4 1 (.slice A n1' c1) n1' ((xs ++ List.replicate x (decide (k % 2 = 0))).map Value.bool) ∧ Below w.heap.size w wr) (fun i _ _ => R - (intOf i).toNat)
      case atStart => exact ⟨0, n1, c1, A, Nat.zero_le _, Lib.hid rfl, rfl, rfl, by simpa using hown, hbel⟩
      case round =>
        clear hown hbel
        obtain ⟨x, n1', c1, A, hx, HN1, rfl, rfl, hown, hbel⟩ := hrel
        have hb64 : n1' ≤ 64 := by have := HN1.out; omega
        obtain ⟨bl, o, hA0, _, _⟩ := (HR.out.below hbel).at_ (by omega)
        have hrr := HR.out.below hbel
        subst hA0
        have g0 := ints_cell hrr hlt
        rw [HRV.out] at g0
        clear hrr
        have hsz := size_alloc_le hbel.size (.cells #[.bool (decide (k % 2 = 0))] 4)
        generalize hys : (xs ++ List.replicate x (decide (k % 2 = 0))).map Value.bool = ys at hown
        have HYS := Lib.hid hys
        clear hys
        by_cases hltx : x < R
        · have hpm : (k : Int).tmod 2 = ((k % 2 : Nat) : Int) := by rw [Int.tmod_eq_emod_of_nonneg (by omega)]; exact (Int.natCast_emod k 2).symm
          have hpe : (k : Int) % 2 = ((k % 2 : Nat) : Int) := (Int.natCast_emod k 2).symm
          obtain ⟨pb, hpb⟩ : ∃ pb, decide (k % 2 = 0) = pb := ⟨_, rfl⟩
          have hpq : (((k % 2 : Nat) : Int) == 0) = pb := by rw [← hpb, Bool.eq_iff_iff]; simp; omega
          rw [hpb] at hsz
          have HPB := Lib.hid hpb
          clear hpb
          generalize k % 2 = kk at *
          go_wp2_with (at_builtin; go_loud (refine wpList_app _ rfl (.tmp 20) (.tmp 24) 22 rfl w.heap.size 4 i0 (.bool false) 1 Try.underlying22 hi hz0 hz1 hz2 rfl (by decide) (.slice A n1' c1) n1' _ rfl (hown.alloc _) wr.heap.size (.bool pb) rfl (new_cell _ _ _) rfl (by omega) hsz ?_))
          intro g3 c3 w3 hown3 hgr3
          have hbel3 := (hbel.alloc hbel.size _).grown hgr3 (size_alloc_le hbel.size _) (fun k hk => (hown.lt k hk).1)
          clear hown hgr3
          go_wp2_with fail
          go_roundw
          case rel => exact ⟨x + 1, n1' + 1, c3, some ⟨g3, 0, none⟩, by omega, Lib.hid (by have := HN1.out; omega), by go_num, rfl, by rw [List.replicate_succ', ← List.append_assoc, List.map_append, HYS.out, HPB.out]; exact hown3, hbel3⟩
          case measure => simp [intOf]; omega
        · have HXR : Hid (x = R) := Lib.hid (by omega)
          go_wp2_with fail
          go_roundw
          case rel => exact ⟨k + 1, n1', c1, A, by omega, by go_num, rfl, by rw [HSU.out, ← HXR.out, HYS.out]; exact hown, hbel⟩
          case measure => simp [intOf]; omega
    · have HKN : Hid (k = n) := Lib.hid (by omega)
      go_wp2_with fail
      go_ret
      exact ⟨A, n1, c1, rfl, by rw [← HKN.out]; exact hown, hbel⟩
end Go.Proofs.Ytbgekiifffnalaa
