/- raddleref07.test, Compose and Inverse: found by a search. -/
import Derived.Test.YtliibficmdomjaaRApplied
import Derived.Test.YtliibficmdomjaaRCell
import Derived.Test.YtliibficmdomjaaSCheck
import Derived.Test.YtliibficmdomjaaSameTo
import Derived.BigQuiet
import Derived.BigRegion
namespace Go.Proofs.Ytliibficmdomjaa
open Go.RowKit

def TestRet (w : World) (e : Ending) (w' : World) : Prop :=
  ∃ A c, e = .returned (.agg #[.int .i64 2, .int .i64 3, .slice A 6 c]) ∧ w'.ownsRow w.heap.size 4 1 (.slice A 6 c) 6 (testG.bits.map Value.bool) ∧ Below w.heap.size w w'
set_option maxHeartbeats 1000000 in
theorem test7_any (w : World) : Calls Try.prog 31 #[] w (TestRet w) := by
  have S0 := (St.start w).box #[.int .i64 0, .int .i64 0, .slice none 0 0] 24
  simp only [List.nil_append] at S0
  go_enter Try.func31, Try.ntmps31
  go_wp2_with fail
  refine (zero_any 2 3 _ (by omega) (by omega)).mono ?_
  rintro e w1 ⟨A1, n1, c1, rfl, hown1, hb1⟩
  simp only at hown1 ⊢
  have hn1 : n1 = 3 * 2 := by have h1 := hown1.1; simp at h1; omega
  subst hn1
  obtain ⟨g, rfl, hg1, hg2, hgc⟩ := own_form hown1 (by omega)
  have S1 := (S0.keep hb1).box #[.int .i64 2, .int .i64 3, .slice (some ⟨g, 0, none⟩) (3 * 2) c1] 24
  have hown := own_base (hown1.alloc (.cells #[.int .i64 2, .int .i64 3, .slice (some ⟨g, 0, none⟩) (3 * 2) c1] 24)) S0.size
  simp only [size_alloc1, List.nil_append, List.cons_append] at S1 hg1
  obtain ⟨d0, d1, d2⟩ := (S1.blk 1 rfl).cell3
  clear hown1 S0
  go_wp2_with fail
  refine (set_any 2 3 0 0 w.heap.size g c1 _ 3 true _ (by omega) (by omega) (by omega) (by omega) hown).mono ?_
  rintro e w2 ⟨rfl, hown2, hgr2⟩
  have hG2 := (S1.blk 1 rfl).grown hgr2 (by intro e; injection e with e; omega)
  have hz2 := (S1.blk 0 rfl).grown hgr2 (by intro e; injection e with e; omega)
  have hB2 := S1.below.grown (B := w.heap.size) hgr2 S1.size (fun k hk => by injection hk with hk; omega)
  clear d0 d1 d2 hown
  obtain ⟨d0, d1, d2⟩ := hG2.cell3
  go_wp2_with fail
  refine (set_any 2 3 1 1 w.heap.size g c1 _ 3 true _ (by omega) (by omega) (by omega) (by omega) hown2).mono ?_
  rintro e w3 ⟨rfl, hown3, hgr3⟩
  have hG3 := hG2.grown hgr3 (by intro e; injection e with e; omega)
  have hz3 := hz2.grown hgr3 (by intro e; injection e with e; omega)
  have hB3 := hB2.grown (B := w.heap.size) hgr3 hB2.size (fun k hk => by injection hk with hk; omega)
  clear d0 d1 d2
  obtain ⟨d0, d1, d2⟩ := hG3.cell3
  obtain ⟨r0, r1, r2⟩ := hz3.cell3
  obtain ⟨f0, f1, f2⟩ := hz3.frozen3
  obtain ⟨q0, q1, q2⟩ := (hz3.set3 (.int .i64 2) (.int .i64 3) (.slice (some ⟨g, 0, none⟩) (3 * 2) c1)).cell3
  go_wp2_with fail
  refine bodyPost_ret (v := .agg #[.int .i64 2, .int .i64 3, .slice (some ⟨g, 0, none⟩) (3 * 2) c1]) (by simp [results, Try.results31, go_sem, q0, q1, q2]) rfl ?_
  exact ⟨_, _, rfl, own_set3 hown3 hz3 (by decide) _ _ _, below_set3 hB3 (Nat.le_refl _) _ _ _⟩
/-- An operation applied to the test grid. -/
theorem rapplied_0test (op : Nat) (A : Option Addr) (c : Nat) (w : World) (ho : op < 16) (hr : Rd w A 6 (testG.bits.map Value.bool)) :
    Calls Try.prog 29 #[.agg #[.int .i64 2, .int .i64 3, .slice A 6 c], .int .i64 op] w (RetT (appT testG op) w) :=
  rapplied_any 2 3 op testG.bits A c w (by omega) (by omega) (by omega) (by omega) ho hr
/-- An operation applied to what came of it. -/
theorem rapplied_t (g : Gd) (a b op : Nat) (hw : g.w = (a : Int)) (hh : g.h = (b : Int)) (A : Option Addr) (n c : Nat) (w : World) (hn : n = b * a) (ha1 : 1 ≤ a) (hb1 : 1 ≤ b) (ha : a ≤ 64) (hb : b ≤ 64) (ho : op < 16) (hr : Rd w A n (g.bits.map Value.bool)) :
    Calls Try.prog 29 #[.agg #[.int .i64 g.w, .int .i64 g.h, .slice A n c], .int .i64 op] w (RetT (appT g op) w) := by
  subst hn
  unfold appT
  rw [hw, hh]
  exact rapplied_any a b op g.bits A c w ha1 hb1 ha hb ho hr
theorem appT_size {m : Nat} : (∃ a b : Nat, (appT testG m).w = (a : Int) ∧ (appT testG m).h = (b : Int) ∧ 1 ≤ a ∧ 1 ≤ b ∧ a ≤ 64 ∧ b ≤ 64 ∧ (appT testG m).bits.length = b * a) := by
  unfold appT appG appB testG
  refine ⟨_, _, rfl, rfl, ?_, ?_, ?_, ?_, Pl.tab_length⟩ <;> split <;> simp
theorem appT_small {m : Nat} : (appT testG m).bits.length ≤ 4096 := by
  obtain ⟨a, b, _, _, _, _, h1, h2, h3⟩ := appT_size (m := m)
  have := Nat.mul_le_mul h2 h1
  omega
theorem compG_bad {m n : Int} (h : ¬ (0 ≤ m ∧ m < 16) ∨ ¬ (0 ≤ n ∧ n < 16)) : compG m n = (0, 2) := by unfold compG; rw [if_pos (by omega)]
theorem compG_ok {m n : Nat} (hm : m < 16) (hn : n < 16) : compG (m : Int) (n : Int) = (((compN m n : Nat) : Int), 0) := by unfold compG; rw [if_neg (by omega)]; simp

set_option maxHeartbeats 2000000 in
theorem rcompose_nat (m n : Nat) (w : World) (hm : m < 16) (hn : n < 16) : Calls Try.prog 11 #[.int .i64 m, .int .i64 n] w fun e w' => e = .returned (.tuple #[.int .i64 (compN m n : Nat), .int .i64 0]) ∧ Below w.heap.size w w' := by
  have hlt := compN_lt hm hn
  have HI := Lib.hid (fun k (hk : k < 16) => comp_iff (k := k) hm hn hk)
  have HD : Hid (decide ((0 : Int) ≤ (m : Int) ∧ (m : Int) < 16) = true) := Lib.hid (by simp; omega)
  have HD2 : Hid (decide ((0 : Int) ≤ (n : Int) ∧ (n : Int) < 16) = true) := Lib.hid (by simp; omega)
  generalize compN m n = t at *
  obtain ⟨a1, b1, hw1, hh1, k1, k2, k3, k4, hl1⟩ := appT_size (m := m)
  have H1 := Lib.hid (fun A c W h => rapplied_0test m A c W hm h)
  have H2 := Lib.hid (fun A n' c W hn' h => rapplied_t (appT testG m) a1 b1 n hw1 hh1 A n' c W hn' k1 k2 k3 k4 hn h)
  clear hw1 hh1 hm hn k1 k2 k3 k4
  generalize appT testG m = tm at *
  generalize appT tm n = want at *
  go_enter Try.func11, Try.ntmps11
  go_wp2_with fail
  refine (ris7_to _ _ HD.out).mono ?_
  rintro e w1 ⟨rfl, hw1⟩
  have hw2 := hw1.symm
  subst hw2
  go_wp2_with fail
  refine (ris7_to _ _ HD2.out).mono ?_
  rintro e w1 ⟨rfl, hw1⟩
  have hw2 := hw1.symm
  subst hw2
  go_wp2_with fail
  refine (test7_any _).mono ?_
  rintro e w1 ⟨A1, c1, rfl, hown1, hb1⟩
  go_wp2_with fail
  refine (H1.out A1 c1 w1 (rd_of_own hown1)).mono ?_
  rintro e w2 ⟨A2, n2, c2, rfl, hown2, hb2⟩
  go_wp2_with fail
  refine (H2.out A2 n2 c2 w2 (by have := hown2.1; simp at this; omega) (rd_of_own hown2)).mono ?_
  rintro e w3 ⟨A3, n3, c3, rfl, hown3, hb3⟩
  have S3 := ((St.of (below_then (below_then hb1 hb2) hb3)).addRd (rd_of_own hown3)).box #[.int .i64 want.w, .int .i64 want.h, .slice A3 n3 c3] 24
  simp only [List.nil_append, List.cons_append] at S3
  clear hown1 hown2 hown3 hb1 hb2 hb3 H1 H2 hl1
  go_wp2_with fail
  go_loopw [7] (fun i wr => ∃ k : Nat, k ≤ t ∧ i = .int .i64 k ∧ St w [.rd A3 n3 (want.bits.map Value.bool), .blk w3.heap.size 24 #[.int .i64 want.w, .int .i64 want.h, .slice A3 n3 c3]] wr) (fun i _ => t - (intOf i).toNat)
  case atStart => exact ⟨0, Nat.zero_le _, rfl, S3⟩
  case round =>
    clear S3
    obtain ⟨k, hk, rfl, S⟩ := hrel
    have SD := S.drew
    have hk16 : k < 16 := by omega
    have HK := Lib.hid (HI.out k hk16)
    have HA := Lib.hid (fun A c W h => rapplied_0test k A c W hk16 h)
    have hsm := appT_small (m := k)
    generalize appT testG k = gk at *
    by_cases hkt : k = t
    · have HS : Hid (sameG gk want = true) := Lib.hid (sameG_iff.2 (HK.out.2 hkt))
      have HKT := Lib.hid hkt
      clear HK hkt
      go_wp2_with fail
      go_region_held3 (fun w' => w'.cell? ⟨w3.heap.size, 0, none⟩ = some (.int .i64 want.w) ∧ w'.cell? ⟨w3.heap.size, 1, none⟩ = some (.int .i64 want.h) ∧ w'.cell? ⟨w3.heap.size, 2, none⟩ = some (.slice A3 n3 c3))
        (first | exact (SD.blk 1 rfl).cell3 | go_keep)
        (first
          | (go_at_call 31; ((with_reducible refine (test7_any _).mono ?_); rintro ez wz ⟨A5, c5, rfl, hown5, hb5⟩; replace SD := SD.keep hb5; have hr5 := rd_of_own hown5))
          | (go_at_call 29; ((with_reducible refine (HA.out A5 c5 _ hr5).mono ?_); rintro ez wz ⟨A6, n6, c6, rfl, hown6, hb6⟩; replace SD := SD.keep hb6; have hr6 := rd_of_own hown6; have hn6 : n6 ≤ 4096 := by (have := hown6.1; simp at this; omega)))
          | (go_at_call 14; ((with_reducible refine (same_to gk want HS.out A6 A3 n6 c6 n3 c3 _ hr6 (SD.rd 0 rfl) (by omega)).mono ?_); rintro ez wz ⟨rfl, hb7⟩; replace SD := SD.keep hb7))
          | fail)
      all_goals
        go_wp2_with fail
        go_ret2
        exact ⟨by rw [HKT.out]; rfl, SD.below⟩
    · have HS : Hid (sameG gk want = false) := Lib.hid (by
        rcases Bool.eq_false_or_eq_true (sameG gk want) with h | h
        · exact absurd (HK.out.1 (sameG_iff.1 h)) hkt
        · exact h)
      clear HK
      go_wp2_with fail
      go_region_held3 (fun w' => w'.cell? ⟨w3.heap.size, 0, none⟩ = some (.int .i64 want.w) ∧ w'.cell? ⟨w3.heap.size, 1, none⟩ = some (.int .i64 want.h) ∧ w'.cell? ⟨w3.heap.size, 2, none⟩ = some (.slice A3 n3 c3))
        (first | exact (SD.blk 1 rfl).cell3 | go_keep)
        (first
          | (go_at_call 31; ((with_reducible refine (test7_any _).mono ?_); rintro ez wz ⟨A5, c5, rfl, hown5, hb5⟩; replace SD := SD.keep hb5; have hr5 := rd_of_own hown5))
          | (go_at_call 29; ((with_reducible refine (HA.out A5 c5 _ hr5).mono ?_); rintro ez wz ⟨A6, n6, c6, rfl, hown6, hb6⟩; replace SD := SD.keep hb6; have hr6 := rd_of_own hown6; have hn6 : n6 ≤ 4096 := by (have := hown6.1; simp at this; omega)))
          | (go_at_call 14; ((with_reducible refine (same_to gk want HS.out A6 A3 n6 c6 n3 c3 _ hr6 (SD.rd 0 rfl) (by omega)).mono ?_); rintro ez wz ⟨rfl, hb7⟩; replace SD := SD.keep hb7))
          | fail)
      all_goals
        go_wp2_with fail
        go_roundw
        case rel => exact ⟨k + 1, by omega, by go_num, SD⟩
        case measure => simp [intOf]; omega
theorem rcompose_any (m n : Int) (w : World) : Calls Try.prog 11 #[.int .i64 m, .int .i64 n] w fun e w' => e = .returned (.tuple #[.int .i64 (compG m n).1, .int .i64 (compG m n).2]) ∧ Below w.heap.size w w' := by
  by_cases hm : 0 ≤ m ∧ m < 16
  · by_cases hn : 0 ≤ n ∧ n < 16
    · obtain ⟨m, rfl⟩ : ∃ k : Nat, m = (k : Int) := ⟨m.toNat, by omega⟩
      obtain ⟨n, rfl⟩ : ∃ k : Nat, n = (k : Int) := ⟨n.toNat, by omega⟩
      rw [compG_ok (by omega) (by omega)]
      exact rcompose_nat m n w (by omega) (by omega)
    · rw [compG_bad (.inr hn)]
      have HD : Hid (decide (0 ≤ m ∧ m < 16) = true) := Lib.hid (by simpa using hm)
      have HD2 : Hid (decide (0 ≤ n ∧ n < 16) = false) := Lib.hid (by simpa using hn)
      clear hm hn
      go_enter Try.func11, Try.ntmps11
      go_wp2_with fail
      refine (ris7_to _ _ HD.out).mono ?_
      rintro e w1 ⟨rfl, rfl⟩
      go_wp2_with fail
      refine (ris7_to _ _ HD2.out).mono ?_
      rintro e w1 ⟨rfl, rfl⟩
      go_wp2_with fail
      go_ret2
      exact ⟨rfl, Below.refl _ _⟩
  · rw [compG_bad (.inl hm)]
    have HD : Hid (decide (0 ≤ m ∧ m < 16) = false) := Lib.hid (by simpa using hm)
    clear hm
    go_enter Try.func11, Try.ntmps11
    go_wp2_with fail
    refine (ris7_to _ _ HD.out).mono ?_
    rintro e w1 ⟨rfl, rfl⟩
    go_wp2_with fail
    go_ret2
    exact ⟨rfl, Below.refl _ _⟩

set_option maxHeartbeats 2000000 in
theorem rinverse_any (m : Int) (w : World) : Calls Try.prog 13 #[.int .i64 m] w fun e w' => e = .returned (.tuple #[.int .i64 (invG m).1, .int .i64 (invG m).2]) ∧ Below w.heap.size w w' := by
  by_cases hm : 0 ≤ m ∧ m < 16
  · obtain ⟨m, rfl⟩ : ∃ k : Nat, m = (k : Int) := ⟨m.toNat, by omega⟩
    have hm' : m < 16 := by omega
    have HD : Hid (decide ((0 : Int) ≤ (m : Int) ∧ (m : Int) < 16) = true) := Lib.hid (by simp; omega)
    have hv : invG (m : Int) = (((invN m : Nat) : Int), 0) := by unfold invG; rw [if_neg (by omega)]; simp
    rw [hv]
    have hlt := invN_lt hm'
    have HI := Lib.hid (fun k (hk : k < 16) => inv_iff (n := k) hm' hk)
    generalize invN m = t at *
    have HC := Lib.hid (fun k W hk => rcompose_nat m k W hm' hk)
    clear hm hv hm'
    go_enter Try.func13, Try.ntmps13
    go_wp2_with fail
    refine (ris7_to _ _ HD.out).mono ?_
    rintro e w1 ⟨rfl, hw1⟩
    have hw2 := hw1.symm
    subst hw2
    go_wp2_with fail
    go_loopw [4] (fun i wr => ∃ k : Nat, k ≤ t ∧ i = .int .i64 k ∧ Below w.heap.size w wr) (fun i _ => t - (intOf i).toNat)
    case atStart => exact ⟨0, Nat.zero_le _, rfl, Below.refl _ _⟩
    case round =>
      obtain ⟨k, hk, rfl, hb⟩ := hrel
      have hk16 : k < 16 := by omega
      have HK := Lib.hid (HI.out k hk16)
      have HCk := Lib.hid (fun W => HC.out k W hk16)
      by_cases hkt : k = t
      · have h0 : compN m k = 0 := HK.out.2 hkt
        rw [h0] at HCk
        have HKT := Lib.hid hkt
        clear hkt h0
        go_wp2_with fail
        refine (HCk.out _).mono ?_
        rintro e w2 ⟨rfl, hb2⟩
        clear HK HC HI
        go_wp2_with fail
        go_ret2
        exact ⟨by rw [HKT.out]; rfl, below_then hb hb2⟩
      · have h0 : compN m k ≠ 0 := fun h => hkt (HK.out.1 h)
        generalize compN m k = z at *
        go_wp2_with fail
        refine (HCk.out _).mono ?_
        rintro e w2 ⟨rfl, hb2⟩
        clear HK HC HI
        go_wp2_with fail
        go_roundw
        case rel => exact ⟨k + 1, by omega, by go_num, below_then hb hb2⟩
        case measure => simp [intOf]; omega
  · have hv : invG m = (0, 2) := by unfold invG; rw [if_pos (by omega)]
    rw [hv]
    have HD : Hid (decide (0 ≤ m ∧ m < 16) = false) := Lib.hid (by simpa using hm)
    clear hm
    go_enter Try.func13, Try.ntmps13
    go_wp2_with fail
    refine (ris7_to _ _ HD.out).mono ?_
    rintro e w1 ⟨rfl, rfl⟩
    go_wp2_with fail
    go_ret2
    exact ⟨rfl, Below.refl _ _⟩
end Go.Proofs.Ytliibficmdomjaa
