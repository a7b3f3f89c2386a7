/- raddleref15.Wide: which images the statement leaves out. -/
import Derived.Test.YtefeghpglacghaaRPal15z
import Derived.Test.YtefeghpglacghaaMg7z
import Derived.Test.YtefeghpglacghaaMg3z
import Derived.BigQuiet
import Derived.BigRegion
import Derived.Deep.RegionHeld3
import Derived.Deep.RegionLaw
namespace Go.Proofs.Ytefeghpglacghaa
open Go.RowKit

set_option linter.unusedVariables false in
set_option linter.unusedSimpArgs false in
set_option maxHeartbeats 4000000 in
set_option maxRecDepth 100000 in
theorem wide_0 (m : Im) (A : Option Addr) (n c : Nat) (w : World) (hr : Rd w A n (m.c.map (Value.int .i64))) (h1 : 4200 < n) :
    Calls Try.prog 10 #[.agg #[.int .i64 m.w, .int .i64 m.h, .slice A n c]] w fun e w' => e = .returned (.bool true) ∧ Below w.heap.size w w' := by
  have S0 := ((St.start w).addRd hr).box #[.int .i64 m.w, .int .i64 m.h, .slice A n c] 24
  simp only [List.nil_append, List.cons_append] at S0
  obtain ⟨c0, c1, c2⟩ := (S0.blk 1 rfl).cell3
  have e1 : decide (4200 < n) = true := by simpa using h1
  clear hr
  go_enter Try.func10, Try.ntmps10
  go_wp2_with fail
  refine (greatI_any _ _ _ _ _ _).mono ?_
  rintro e wz ⟨rfl, hbz⟩
  replace S0 := S0.keep hbz
  clear hbz c0 c1 c2
  obtain ⟨c0, c1, c2⟩ := (S0.blk 1 rfl).cell3
  go_wp2_with fail
  go_ret
  exact ⟨rfl, S0.below⟩

set_option linter.unusedVariables false in
set_option linter.unusedSimpArgs false in
set_option maxHeartbeats 4000000 in
set_option maxRecDepth 100000 in
theorem wide_1 (m : Im) (A : Option Addr) (n c : Nat) (w : World) (hr : Rd w A n (m.c.map (Value.int .i64))) (h1 : ¬ 4200 < n) (h2 : chkI m ≠ 0) :
    Calls Try.prog 10 #[.agg #[.int .i64 m.w, .int .i64 m.h, .slice A n c]] w fun e w' => e = .returned (.bool false) ∧ Below w.heap.size w w' := by
  have S0 := ((St.start w).addRd hr).box #[.int .i64 m.w, .int .i64 m.h, .slice A n c] 24
  simp only [List.nil_append, List.cons_append] at S0
  obtain ⟨c0, c1, c2⟩ := (S0.blk 1 rfl).cell3
  have e1 : decide (4200 < n) = false := decide_eq_false h1
  have HC := Lib.hid (fun W h => rcheckI_any m A n c W h (by omega))
  have e2 : (chkI m == 0) = false := by simpa using h2
  clear hr
  go_enter Try.func10, Try.ntmps10
  go_wp2_with fail
  refine (greatI_any _ _ _ _ _ _).mono ?_
  rintro e wz ⟨rfl, hbz⟩
  replace S0 := S0.keep hbz
  clear hbz c0 c1 c2
  obtain ⟨c0, c1, c2⟩ := (S0.blk 1 rfl).cell3
  go_wp2_with fail
  refine (HC.out _ (S0.rd 0 rfl)).mono ?_
  rintro e wz ⟨rfl, hbz⟩
  replace S0 := S0.keep hbz
  clear hbz c0 c1 c2
  obtain ⟨c0, c1, c2⟩ := (S0.blk 1 rfl).cell3
  go_wp2_with fail
  go_ret
  exact ⟨rfl, S0.below⟩

set_option linter.unusedVariables false in
set_option linter.unusedSimpArgs false in
set_option maxHeartbeats 4000000 in
set_option maxRecDepth 100000 in
theorem wide_2 (m : Im) (A : Option Addr) (n c : Nat) (w : World) (hr : Rd w A n (m.c.map (Value.int .i64))) (h1 : ¬ 4200 < n) (h2 : chkI m = 0) (h3 : 4 < m.w) :
    Calls Try.prog 10 #[.agg #[.int .i64 m.w, .int .i64 m.h, .slice A n c]] w fun e w' => e = .returned (.bool true) ∧ Below w.heap.size w w' := by
  have S0 := ((St.start w).addRd hr).box #[.int .i64 m.w, .int .i64 m.h, .slice A n c] 24
  simp only [List.nil_append, List.cons_append] at S0
  obtain ⟨c0, c1, c2⟩ := (S0.blk 1 rfl).cell3
  have e1 : decide (4200 < n) = false := decide_eq_false h1
  have HC := Lib.hid (fun W h => rcheckI_any m A n c W h (by omega))
  rw [h2] at HC
  have e3 : decide (4 < m.w) = true := decide_eq_true h3
  clear hr
  go_enter Try.func10, Try.ntmps10
  go_wp2_with fail
  refine (greatI_any _ _ _ _ _ _).mono ?_
  rintro e wz ⟨rfl, hbz⟩
  replace S0 := S0.keep hbz
  clear hbz c0 c1 c2
  obtain ⟨c0, c1, c2⟩ := (S0.blk 1 rfl).cell3
  go_wp2_with fail
  refine (HC.out _ (S0.rd 0 rfl)).mono ?_
  rintro e wz ⟨rfl, hbz⟩
  replace S0 := S0.keep hbz
  clear hbz c0 c1 c2
  obtain ⟨c0, c1, c2⟩ := (S0.blk 1 rfl).cell3
  go_wp2_with fail
  go_ret
  exact ⟨rfl, S0.below⟩

set_option linter.unusedVariables false in
set_option linter.unusedSimpArgs false in
set_option maxHeartbeats 4000000 in
set_option maxRecDepth 100000 in
theorem wide_3 (m : Im) (A : Option Addr) (n c : Nat) (w : World) (hr : Rd w A n (m.c.map (Value.int .i64))) (h1 : ¬ 4200 < n) (h2 : chkI m = 0) (h3 : ¬ 4 < m.w) (h4 : 8 < m.h) :
    Calls Try.prog 10 #[.agg #[.int .i64 m.w, .int .i64 m.h, .slice A n c]] w fun e w' => e = .returned (.bool true) ∧ Below w.heap.size w w' := by
  have S0 := ((St.start w).addRd hr).box #[.int .i64 m.w, .int .i64 m.h, .slice A n c] 24
  simp only [List.nil_append, List.cons_append] at S0
  obtain ⟨c0, c1, c2⟩ := (S0.blk 1 rfl).cell3
  have e1 : decide (4200 < n) = false := decide_eq_false h1
  have HC := Lib.hid (fun W h => rcheckI_any m A n c W h (by omega))
  rw [h2] at HC
  have e3 : decide (4 < m.w) = false := decide_eq_false h3
  have e4 : decide (8 < m.h) = true := decide_eq_true h4
  clear hr
  go_enter Try.func10, Try.ntmps10
  go_wp2_with fail
  refine (greatI_any _ _ _ _ _ _).mono ?_
  rintro e wz ⟨rfl, hbz⟩
  replace S0 := S0.keep hbz
  clear hbz c0 c1 c2
  obtain ⟨c0, c1, c2⟩ := (S0.blk 1 rfl).cell3
  go_wp2_with fail
  refine (HC.out _ (S0.rd 0 rfl)).mono ?_
  rintro e wz ⟨rfl, hbz⟩
  replace S0 := S0.keep hbz
  clear hbz c0 c1 c2
  obtain ⟨c0, c1, c2⟩ := (S0.blk 1 rfl).cell3
  go_wp2_with fail
  go_ret
  exact ⟨rfl, S0.below⟩

set_option linter.unusedVariables false in
set_option linter.unusedSimpArgs false in
set_option maxHeartbeats 4000000 in
set_option maxRecDepth 100000 in
theorem wide_4 (m : Im) (A : Option Addr) (n c : Nat) (w : World) (hr : Rd w A n (m.c.map (Value.int .i64))) (h1 : ¬ 4200 < n) (h2 : chkI m = 0) (h3 : ¬ 4 < m.w) (h4 : ¬ 8 < m.h) (hpos : 0 < n) :
    Calls Try.prog 10 #[.agg #[.int .i64 m.w, .int .i64 m.h, .slice A n c]] w fun e w' => e = .returned (.bool (decide ((5 : Int) < ((pal m.c).length : Int)))) ∧ Below w.heap.size w w' := by
  have S0 := ((St.start w).addRd hr).box #[.int .i64 m.w, .int .i64 m.h, .slice A n c] 24
  simp only [List.nil_append, List.cons_append] at S0
  obtain ⟨c0, c1, c2⟩ := (S0.blk 1 rfl).cell3
  have e1 : decide (4200 < n) = false := decide_eq_false h1
  have HC := Lib.hid (fun W h => rcheckI_any m A n c W h (by omega))
  rw [h2] at HC
  have e3 : decide (4 < m.w) = false := decide_eq_false h3
  have e4 : decide (8 < m.h) = false := decide_eq_false h4
  obtain ⟨gA, oA, hA, _, _⟩ := hr.at_ hpos
  subst hA
  have HP := Lib.hid (fun W h => palette_any m.w m.h m.c gA oA n c W h (by omega))
  clear hr
  go_enter Try.func10, Try.ntmps10
  go_wp2_with fail
  refine (greatI_any _ _ _ _ _ _).mono ?_
  rintro e wz ⟨rfl, hbz⟩
  replace S0 := S0.keep hbz
  clear hbz c0 c1 c2
  obtain ⟨c0, c1, c2⟩ := (S0.blk 1 rfl).cell3
  go_wp2_with fail
  refine (HC.out _ (S0.rd 0 rfl)).mono ?_
  rintro e wz ⟨rfl, hbz⟩
  replace S0 := S0.keep hbz
  clear hbz c0 c1 c2
  obtain ⟨c0, c1, c2⟩ := (S0.blk 1 rfl).cell3
  go_wp2_with fail
  refine (HP.out _ (S0.rd 0 rfl)).mono ?_
  rintro e wz ⟨A', c', rfl, _, hbz⟩
  replace S0 := S0.keep hbz
  clear hbz c0 c1 c2
  go_wp2_with fail
  go_ret
  exact ⟨rfl, S0.below⟩
end Go.Proofs.Ytefeghpglacghaa
