/- slices.Min, slices.Max of numbers; draft.within of numbers that fit; raddleref03.Within. -/
import Derived.Test.YtmajmbfbnchbfaaMg2z
namespace Go.Proofs.Ytmajmbfbnchbfaa
open Go.RowKit

theorem getD_mem {l : List Int} {i : Nat} (h : i < l.length) : l.getD i 0 ∈ l := by
  rw [List.getD_eq_getElem?_getD, List.getElem?_eq_getElem h]
  exact List.getElem_mem _
theorem ite_mem {l : List Int} {x y : Int} {p : Prop} [Decidable p] (hx : x ∈ l) (hy : y ∈ l) : (if p then y else x) ∈ l := by
  split
  · exact hy
  · exact hx
set_option maxHeartbeats 1000000 in
set_option maxRecDepth 100000 in
theorem min_any (l : List Int) (b o n c : Nat) (w : World) (hr : Rd w (some ⟨b, o, none⟩) n (l.map (Value.int .i64))) (h1 : 1 ≤ n) (hn : n ≤ 400) :
    Calls Try.prog 55 #[.slice (some ⟨b, o, none⟩) n c] w fun e w' => (∃ v ∈ l, e = .returned (.int .i64 v)) ∧ Below w.heap.size w w' := by
  have hl : l.length = n := by simpa using hr.len
  have HX := Lib.hid (fun i (hi : i < n) => show w.cell? ⟨b, o + i, none⟩ = some (.int .i64 (l.getD i 0)) ∧ l.getD i 0 ∈ l from ⟨int_cell hr hi, getD_mem (by omega)⟩)
  have hd : decide ((n : Int) < 1) = false := decide_eq_false (by omega)
  have hdn : decide (n < 1) = false := decide_eq_false (by omega)
  have q0 := (HX.out 0 (by omega)).1
  have HQ := Lib.hid (HX.out 0 (by omega)).2
  rw [Nat.add_zero] at q0
  generalize l.getD 0 0 = v0 at q0 HQ
  clear hr hl
  go_enter Try.func55, Try.ntmps55
  go_wp2_with fail
  go_loopw [3, 4] (fun m i wr => wr = w ∧ ∃ (k : Nat) (v : Int), 1 ≤ k ∧ k ≤ n ∧ m = .int .i64 v ∧ i = .int .i64 k ∧ v ∈ l) (fun _ i _ => n - (intOf i).toNat)
  case atStart => exact ⟨rfl, 1, v0, Nat.le_refl _, h1, rfl, rfl, HQ.out⟩
  case round =>
    obtain ⟨rfl, k, v, hk1, hk, rfl, rfl, hv⟩ := hrel
    clear q0 HQ
    by_cases hlt : k < n
    · obtain ⟨q0, hm⟩ := HX.out k hlt
      generalize l.getD k 0 = v2 at q0 hm
      have HM := Lib.hid (⟨hv, hm⟩ : v ∈ l ∧ v2 ∈ l)
      clear hm
      go_wp2_with fail
      go_roundw
      case rel => exact ⟨trivial, k + 1, _, by omega, by omega, rfl, by go_num, ite_mem HM.out.1 HM.out.2⟩
      case measure => simp [intOf]; omega
    · obtain rfl : k = n := by omega
      go_wp2_with fail
      go_ret
      exact ⟨⟨v, hv, rfl⟩, Below.refl _ _⟩
set_option maxHeartbeats 1000000 in
set_option maxRecDepth 100000 in
theorem max_any (l : List Int) (b o n c : Nat) (w : World) (hr : Rd w (some ⟨b, o, none⟩) n (l.map (Value.int .i64))) (h1 : 1 ≤ n) (hn : n ≤ 400) :
    Calls Try.prog 56 #[.slice (some ⟨b, o, none⟩) n c] w fun e w' => (∃ v ∈ l, e = .returned (.int .i64 v)) ∧ Below w.heap.size w w' := by
  have hl : l.length = n := by simpa using hr.len
  have HX := Lib.hid (fun i (hi : i < n) => show w.cell? ⟨b, o + i, none⟩ = some (.int .i64 (l.getD i 0)) ∧ l.getD i 0 ∈ l from ⟨int_cell hr hi, getD_mem (by omega)⟩)
  have hd : decide ((n : Int) < 1) = false := decide_eq_false (by omega)
  have hdn : decide (n < 1) = false := decide_eq_false (by omega)
  have q0 := (HX.out 0 (by omega)).1
  have HQ := Lib.hid (HX.out 0 (by omega)).2
  rw [Nat.add_zero] at q0
  generalize l.getD 0 0 = v0 at q0 HQ
  clear hr hl
  go_enter Try.func56, Try.ntmps56
  go_wp2_with fail
  go_loopw [3, 4] (fun m i wr => wr = w ∧ ∃ (k : Nat) (v : Int), 1 ≤ k ∧ k ≤ n ∧ m = .int .i64 v ∧ i = .int .i64 k ∧ v ∈ l) (fun _ i _ => n - (intOf i).toNat)
  case atStart => exact ⟨rfl, 1, v0, Nat.le_refl _, h1, rfl, rfl, HQ.out⟩
  case round =>
    obtain ⟨rfl, k, v, hk1, hk, rfl, rfl, hv⟩ := hrel
    clear q0 HQ
    by_cases hlt : k < n
    · obtain ⟨q0, hm⟩ := HX.out k hlt
      generalize l.getD k 0 = v2 at q0 hm
      have HM := Lib.hid (⟨hv, hm⟩ : v ∈ l ∧ v2 ∈ l)
      clear hm
      go_wp2_with fail
      go_roundw
      case rel => exact ⟨trivial, k + 1, _, by omega, by omega, rfl, by go_num, ite_mem HM.out.1 HM.out.2⟩
      case measure => simp [intOf]; omega
    · obtain rfl : k = n := by omega
      go_wp2_with fail
      go_ret
      exact ⟨⟨v, hv, rfl⟩, Below.refl _ _⟩
set_option maxHeartbeats 1000000 in
/-- draft.within of numbers that fit. -/
theorem within_any (l : List Int) (s : Int) (b o n c : Nat) (w : World) (hr : Rd w (some ⟨b, o, none⟩) n (l.map (Value.int .i64))) (h1 : 1 ≤ n) (hn : n ≤ 400) (hx : ∀ x ∈ l, 0 ≤ x ∧ x < s) :
    Calls Try.prog 42 #[.slice (some ⟨b, o, none⟩) n c, .int .i64 s] w fun e w' => e = .returned (.bool true) ∧ Below w.heap.size w w' := by
  have H1 := Lib.hid (min_any l b o n c w hr h1 hn)
  have H2 := Lib.hid (fun u (hu : Below w.heap.size w u) => max_any l b o n c u (hr.below hu) h1 hn)
  have HX := Lib.hid hx
  have hd : decide (0 < (n : Int)) = true := decide_eq_true (by omega)
  have hdn : decide (0 < n) = true := decide_eq_true (by omega)
  clear hr hx
  go_enter Try.func42, Try.ntmps42
  go_wp2_with fail
  refine H1.out.mono ?_
  rintro e w1 ⟨⟨v, hv, rfl⟩, hb1⟩
  have hv0 : decide (0 ≤ v) = true := decide_eq_true (HX.out v hv).1
  go_wp2_with fail
  refine (H2.out _ hb1).mono ?_
  rintro e w2 ⟨⟨v2, hv2, rfl⟩, hb2⟩
  have hv1 : decide (v2 < s) = true := decide_eq_true (HX.out v2 hv2).2
  go_wp2_with fail
  go_ret
  exact ⟨rfl, below_then hb1 hb2⟩
/-- All of a list's numbers lie from 0 to n - 1, and there are some. -/
def wiB (l : List Int) (s : Int) : Bool := decide (0 < l.length) && l.all fun x => decide (0 ≤ x ∧ x < s)
theorem wiB_no {l : List Int} {s : Int} {k : Nat} (hk : k < l.length) (h : l.getD k 0 < 0 ∨ s ≤ l.getD k 0) : wiB l s = false := by
  unfold wiB
  rw [Bool.and_eq_false_iff]
  refine .inr (List.all_eq_false.2 ⟨l.getD k 0, getD_mem hk, ?_⟩)
  rw [decide_eq_true_eq]; omega
theorem wiB_yes {l : List Int} {s : Int} (h : wiB l s = true) : 1 ≤ l.length ∧ ∀ x ∈ l, 0 ≤ x ∧ x < s := by
  unfold wiB at h
  rw [Bool.and_eq_true, decide_eq_true_eq, List.all_eq_true] at h
  exact ⟨h.1, fun x hx => of_decide_eq_true (h.2 x hx)⟩
theorem wiB_all {l : List Int} {s : Int} (h : ∀ i, i < l.length → 0 ≤ l.getD i 0 ∧ l.getD i 0 < s) : wiB l s = decide (0 < l.length) := by
  unfold wiB
  rw [show (l.all fun x => decide (0 ≤ x ∧ x < s)) = true from by
    rw [List.all_eq_true]
    intro z hz
    obtain ⟨i, hi, rfl⟩ := List.getElem_of_mem hz
    have := h i hi
    rw [List.getD_eq_getElem?_getD, List.getElem?_eq_getElem hi] at this
    exact decide_eq_true this]
  simp
set_option maxHeartbeats 1000000 in
set_option maxRecDepth 100000 in
theorem rwithin_any (l : List Int) (s : Int) (A : Option Addr) (n c : Nat) (w : World) (hr : Rd w A n (l.map (Value.int .i64))) (hn : n ≤ 1048576) :
    Calls Try.prog 20 #[.slice A n c, .int .i64 s] w fun e w' => e = .returned (.bool (wiB l s)) ∧ Below w.heap.size w w' := by
  have hl : l.length = n := by simpa using hr.len
  have HN := Lib.hid (fun k (hk : k < n) => wiB_no (l := l) (s := s) (hl ▸ hk))
  have HY := Lib.hid (fun h => (wiB_all (l := l) (s := s) h).trans (by rw [hl]))
  have HL := Lib.hid hl
  have HX := Lib.hid (fun i (hi : i < n) => show ∃ b o, A = some ⟨b, o, none⟩ ∧ w.cell? ⟨b, o + i, none⟩ = some (.int .i64 (l.getD i 0)) from by
    obtain ⟨b, o, rfl, _⟩ := hr.at_ (by omega)
    exact ⟨b, o, rfl, int_cell hr hi⟩)
  clear hr hl
  go_enter Try.func20, Try.ntmps20
  go_wp2_with fail
  go_loopw [5] (fun i wr => wr = w ∧ ∃ k : Nat, k ≤ n ∧ i = .int .i64 k ∧ Hid (∀ i, i < k → 0 ≤ l.getD i 0 ∧ l.getD i 0 < s)) (fun i _ => n - (intOf i).toNat)
  case atStart => exact ⟨rfl, 0, Nat.zero_le _, rfl, Lib.hid (fun i hi => absurd hi (by omega))⟩
  case round =>
    obtain ⟨rfl, k, hk, rfl, hall⟩ := hrel
    by_cases hlt : k < n
    · obtain ⟨b, o, rfl, q0⟩ := HX.out k hlt
      replace HN := Lib.hid (HN.out k hlt)
      have HK := Lib.hid (show 0 ≤ l.getD k 0 → l.getD k 0 < s → ∀ i, i < k + 1 → 0 ≤ l.getD i 0 ∧ l.getD i 0 < s from fun h1 h2 i hi => by
        rcases Nat.lt_succ_iff_lt_or_eq.1 hi with h | rfl
        · exact hall.out i h
        · exact ⟨h1, h2⟩)
      clear hall HY
      generalize l.getD k 0 = v at q0 HN HK
      by_cases h1 : v < 0
      · have hw := Lib.hid (HN.out (.inl h1))
        have hd1 : decide (v < 0) = true := decide_eq_true h1
        go_wp2_with fail
        go_ret
        exact ⟨by rw [hw.out]; rfl, Below.refl _ _⟩
      · by_cases h2 : s ≤ v
        · have hw := Lib.hid (HN.out (.inr h2))
          have hd1 : decide (v < 0) = false := decide_eq_false h1
          have hd2 : decide (s ≤ v) = true := decide_eq_true h2
          go_wp2_with fail
          go_ret
          exact ⟨by rw [hw.out]; rfl, Below.refl _ _⟩
        · have hd1 : decide (v < 0) = false := decide_eq_false h1
          have hd2 : decide (s ≤ v) = false := decide_eq_false h2
          have hK2 := Lib.hid (HK.out (by omega) (by omega))
          go_wp2_with fail
          go_roundw
          case rel => exact ⟨trivial, k + 1, by omega, by go_num, hK2⟩
          case measure => simp [intOf]; omega
    · obtain rfl : k = n := by omega
      have hw := Lib.hid (HY.out (fun i hi => hall.out i (by rw [HL.out] at hi; exact hi)))
      clear hall HX HN HY
      go_wp2_with fail
      go_ret
      exact ⟨by rw [hw.out]; rfl, Below.refl _ _⟩
end Go.Proofs.Ytmajmbfbnchbfaa
