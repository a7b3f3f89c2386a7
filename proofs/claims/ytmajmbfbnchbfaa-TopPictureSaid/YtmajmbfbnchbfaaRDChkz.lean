/- raddleref03.Check of any draft: none only where the draft is fine. -/
import Derived.Test.YtmajmbfbnchbfaaMinMaxz
import Derived.Test.YtmajmbfbnchbfaaMg4z
import Derived.Test.YtmajmbfbnchbfaaWeave3z
namespace Go.Proofs.Ytmajmbfbnchbfaa
open Go.RowKit

/-- What the document asks of a draft. -/
def DFine (s t W H : Int) (nh nr n : Nat) (th tr : List Int) : Prop := 1 ≤ s ∧ s ≤ 40 ∧ 1 ≤ t ∧ t ≤ 40 ∧ nh ≤ 64 ∧ nr ≤ 64 ∧ wiB th s = true ∧ wiB tr t = true ∧ chk W H n = 0 ∧ W = t ∧ H = s
set_option linter.unusedVariables false in
set_option maxHeartbeats 4000000 in
set_option maxRecDepth 100000 in
theorem rdcheck_any (s t W H : Int) (th tr : List Int) (Ah Ar A : Option Addr) (nh ch nr cr n c : Nat) (w : World) (hh : Rd w Ah nh (th.map (Value.int .i64))) (hd : Rd w Ar nr (tr.map (Value.int .i64))) :
    Calls Try.prog 5 #[.agg #[.int .i64 s, .int .i64 t, .slice Ah nh ch, .slice Ar nr cr, .int .i64 W, .int .i64 H, .slice A n c]] w fun e w' =>
      ((e = .returned (.int .i64 0) ∧ DFine s t W H nh nr n th tr) ∨ ∃ v, v ≠ 0 ∧ e = .returned (.int .i64 v)) ∧ Below w.heap.size w w' := by
  have S0 := (St.start w).box #[.int .i64 s, .int .i64 t, .slice Ah nh ch, .slice Ar nr cr, .int .i64 W, .int .i64 H, .slice A n c] 27
  simp only [List.nil_append] at S0

  have HW1 := Lib.hid (fun u (hu : Below w.heap.size w u) (hn : nh ≤ 64) => rwithin_any th s Ah nh ch u (hh.below hu) (by omega))
  have HW2 := Lib.hid (fun u (hu : Below w.heap.size w u) (hn : nr ≤ 64) => rwithin_any tr t Ar nr cr u (hd.below hu) (by omega))
  have HC3 := Lib.hid (fun u => rcheck_any W H A n c u)
  generalize hb1 : wiB th s = b1 at HW1
  generalize hb2 : wiB tr t = b2 at HW2
  generalize hv3 : chk W H n = v3 at HC3
  have HD2 := Lib.hid (show 1 ≤ s → s ≤ 40 → 1 ≤ t → t ≤ 40 → nh ≤ 64 → nr ≤ 64 → b1 = true → b2 = true → v3 = 0 → W = t → H = s → DFine s t W H nh nr n th tr from fun k1 k2 k3 k4 k5 k6 k7 k8 k9 k10 k11 => ⟨k1, k2, k3, k4, k5, k6, hb1.trans k7, hb2.trans k8, hv3.trans k9, k10, k11⟩)
  clear hh hd hb1 hb2 hv3
  generalize DFine s t W H nh nr n th tr = DF at HD2 ⊢
  obtain ⟨c0, c1, c2, c3, c4, c5, c6⟩ := (S0.blk 0 rfl).cell7
  by_cases h1 : 40 < s
  · have h1a : decide (40 < s) = true := decide_eq_true (by omega)
    clear h1
    go_enter Try.func5, Try.ntmps5
    go_wp2_with fail
    go_ret
    exact ⟨.inr ⟨_, by decide, rfl⟩, S0.below⟩
  have h1a : decide (40 < s) = false := decide_eq_false (by omega)
  by_cases h2 : 40 < t
  · have h2a : decide (40 < t) = true := decide_eq_true (by omega)
    clear h2
    go_enter Try.func5, Try.ntmps5
    go_wp2_with fail
    go_ret
    exact ⟨.inr ⟨_, by decide, rfl⟩, S0.below⟩
  have h2a : decide (40 < t) = false := decide_eq_false (by omega)
  by_cases h3 : 64 < nh
  · have h3a : decide (64 < (nh : Int)) = true := decide_eq_true (by omega)
    have h3b : decide (64 < nh) = true := decide_eq_true (by omega)
    clear h3
    go_enter Try.func5, Try.ntmps5
    go_wp2_with fail
    go_ret
    exact ⟨.inr ⟨_, by decide, rfl⟩, S0.below⟩
  have h3a : decide (64 < (nh : Int)) = false := decide_eq_false (by omega)
  have h3b : decide (64 < nh) = false := decide_eq_false (by omega)
  by_cases h4 : 64 < nr
  · have h4a : decide (64 < (nr : Int)) = true := decide_eq_true (by omega)
    have h4b : decide (64 < nr) = true := decide_eq_true (by omega)
    clear h4
    go_enter Try.func5, Try.ntmps5
    go_wp2_with fail
    go_ret
    exact ⟨.inr ⟨_, by decide, rfl⟩, S0.below⟩
  have h4a : decide (64 < (nr : Int)) = false := decide_eq_false (by omega)
  have h4b : decide (64 < nr) = false := decide_eq_false (by omega)
  by_cases h5 : s < 1
  · have h5a : decide (s < 1) = true := decide_eq_true (by omega)
    clear h5
    go_enter Try.func5, Try.ntmps5
    go_wp2_with fail
    go_ret
    exact ⟨.inr ⟨_, by decide, rfl⟩, S0.below⟩
  have h5a : decide (s < 1) = false := decide_eq_false (by omega)
  by_cases h6 : t < 1
  · have h6a : decide (t < 1) = true := decide_eq_true (by omega)
    clear h6
    go_enter Try.func5, Try.ntmps5
    go_wp2_with fail
    go_ret
    exact ⟨.inr ⟨_, by decide, rfl⟩, S0.below⟩
  have h6a : decide (t < 1) = false := decide_eq_false (by omega)
  replace HW1 := Lib.hid (fun u hu => HW1.out u hu (by omega))
  replace HW2 := Lib.hid (fun u hu => HW2.out u hu (by omega))
  cases b1
  · go_enter Try.func5, Try.ntmps5
    go_wp2_with fail
    refine (HW1.out _ S0.below).mono ?_
    rintro e w1 ⟨rfl, hb1⟩
    have S1 := S0.keep hb1
    clear c0 c1 c2 c3 c4 c5 c6 S0 hb1
    obtain ⟨c0, c1, c2, c3, c4, c5, c6⟩ := (S1.blk 0 rfl).cell7
    go_wp2_with fail
    go_ret
    exact ⟨.inr ⟨_, by decide, rfl⟩, S1.below⟩
  cases b2
  · go_enter Try.func5, Try.ntmps5
    go_wp2_with fail
    refine (HW1.out _ S0.below).mono ?_
    rintro e w1 ⟨rfl, hb1⟩
    have S1 := S0.keep hb1
    clear c0 c1 c2 c3 c4 c5 c6 S0 hb1
    obtain ⟨c0, c1, c2, c3, c4, c5, c6⟩ := (S1.blk 0 rfl).cell7
    go_wp2_with fail
    refine (HW2.out _ S1.below).mono ?_
    rintro e w2 ⟨rfl, hb2⟩
    have S2 := S1.keep hb2
    clear c0 c1 c2 c3 c4 c5 c6 S1 hb2
    obtain ⟨c0, c1, c2, c3, c4, c5, c6⟩ := (S2.blk 0 rfl).cell7
    go_wp2_with fail
    go_ret
    exact ⟨.inr ⟨_, by decide, rfl⟩, S2.below⟩
  by_cases h9 : v3 = 0
  rotate_left
  · have h9a : (v3 != 0) = true := by simpa using h9
    clear h9
    go_enter Try.func5, Try.ntmps5
    go_wp2_with fail
    refine (HW1.out _ S0.below).mono ?_
    rintro e w1 ⟨rfl, hb1⟩
    have S1 := S0.keep hb1
    clear c0 c1 c2 c3 c4 c5 c6 S0 hb1
    obtain ⟨c0, c1, c2, c3, c4, c5, c6⟩ := (S1.blk 0 rfl).cell7
    go_wp2_with fail
    refine (HW2.out _ S1.below).mono ?_
    rintro e w2 ⟨rfl, hb2⟩
    have S2 := S1.keep hb2
    clear c0 c1 c2 c3 c4 c5 c6 S1 hb2
    obtain ⟨c0, c1, c2, c3, c4, c5, c6⟩ := (S2.blk 0 rfl).cell7
    go_wp2_with fail
    refine (HC3.out _).mono ?_
    rintro e w3 ⟨rfl, hb3⟩
    have S3 := S2.keep hb3
    clear c0 c1 c2 c3 c4 c5 c6 S2 hb3
    obtain ⟨c0, c1, c2, c3, c4, c5, c6⟩ := (S3.blk 0 rfl).cell7
    go_wp2_with fail
    go_ret
    exact ⟨.inr ⟨_, by decide, rfl⟩, S3.below⟩
  subst h9
  by_cases h10 : W = t
  rotate_left
  · have h10a : (W != t) = true := by simpa using h10
    clear h10
    go_enter Try.func5, Try.ntmps5
    go_wp2_with fail
    refine (HW1.out _ S0.below).mono ?_
    rintro e w1 ⟨rfl, hb1⟩
    have S1 := S0.keep hb1
    clear c0 c1 c2 c3 c4 c5 c6 S0 hb1
    obtain ⟨c0, c1, c2, c3, c4, c5, c6⟩ := (S1.blk 0 rfl).cell7
    go_wp2_with fail
    refine (HW2.out _ S1.below).mono ?_
    rintro e w2 ⟨rfl, hb2⟩
    have S2 := S1.keep hb2
    clear c0 c1 c2 c3 c4 c5 c6 S1 hb2
    obtain ⟨c0, c1, c2, c3, c4, c5, c6⟩ := (S2.blk 0 rfl).cell7
    go_wp2_with fail
    refine (HC3.out _).mono ?_
    rintro e w3 ⟨rfl, hb3⟩
    have S3 := S2.keep hb3
    clear c0 c1 c2 c3 c4 c5 c6 S2 hb3
    obtain ⟨c0, c1, c2, c3, c4, c5, c6⟩ := (S3.blk 0 rfl).cell7
    go_wp2_with fail
    go_ret
    exact ⟨.inr ⟨_, by decide, rfl⟩, S3.below⟩
  by_cases h11 : H = s
  rotate_left
  · have h10a : (W != t) = false := by simpa using h10
    have h11a : (H != s) = true := by simpa using h11
    clear h10 h11
    go_enter Try.func5, Try.ntmps5
    go_wp2_with fail
    refine (HW1.out _ S0.below).mono ?_
    rintro e w1 ⟨rfl, hb1⟩
    have S1 := S0.keep hb1
    clear c0 c1 c2 c3 c4 c5 c6 S0 hb1
    obtain ⟨c0, c1, c2, c3, c4, c5, c6⟩ := (S1.blk 0 rfl).cell7
    go_wp2_with fail
    refine (HW2.out _ S1.below).mono ?_
    rintro e w2 ⟨rfl, hb2⟩
    have S2 := S1.keep hb2
    clear c0 c1 c2 c3 c4 c5 c6 S1 hb2
    obtain ⟨c0, c1, c2, c3, c4, c5, c6⟩ := (S2.blk 0 rfl).cell7
    go_wp2_with fail
    refine (HC3.out _).mono ?_
    rintro e w3 ⟨rfl, hb3⟩
    have S3 := S2.keep hb3
    clear c0 c1 c2 c3 c4 c5 c6 S2 hb3
    obtain ⟨c0, c1, c2, c3, c4, c5, c6⟩ := (S3.blk 0 rfl).cell7
    go_wp2_with fail
    go_ret
    exact ⟨.inr ⟨_, by decide, rfl⟩, S3.below⟩
  have h10a : (W != t) = false := by simpa using h10
  have h11a : (H != s) = false := by simpa using h11
  have HF := Lib.hid (HD2.out (by omega) (by omega) (by omega) (by omega) (by omega) (by omega) rfl rfl rfl h10 h11)
  clear h1 h2 h3 h4 h5 h6 h10 h11
  go_enter Try.func5, Try.ntmps5
  go_wp2_with fail
  refine (HW1.out _ S0.below).mono ?_
  rintro e w1 ⟨rfl, hb1⟩
  have S1 := S0.keep hb1
  clear c0 c1 c2 c3 c4 c5 c6 S0 hb1
  obtain ⟨c0, c1, c2, c3, c4, c5, c6⟩ := (S1.blk 0 rfl).cell7
  go_wp2_with fail
  refine (HW2.out _ S1.below).mono ?_
  rintro e w2 ⟨rfl, hb2⟩
  have S2 := S1.keep hb2
  clear c0 c1 c2 c3 c4 c5 c6 S1 hb2
  obtain ⟨c0, c1, c2, c3, c4, c5, c6⟩ := (S2.blk 0 rfl).cell7
  go_wp2_with fail
  refine (HC3.out _).mono ?_
  rintro e w3 ⟨rfl, hb3⟩
  have S3 := S2.keep hb3
  clear c0 c1 c2 c3 c4 c5 c6 S2 hb3
  obtain ⟨c0, c1, c2, c3, c4, c5, c6⟩ := (S3.blk 0 rfl).cell7
  go_wp2_with fail
  go_ret
  exact ⟨.inl ⟨rfl, HF.out⟩, S3.below⟩
end Go.Proofs.Ytmajmbfbnchbfaa
