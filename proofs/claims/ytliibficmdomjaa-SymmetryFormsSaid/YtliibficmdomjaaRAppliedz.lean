/- raddleref07.Applied: a valid grid with an operation applied, step by step. -/
import Derived.Test.YtliibficmdomjaaMg3z
import Derived.Test.YtliibficmdomjaaRMirrorz
import Derived.Test.YtliibficmdomjaaTurnedz
import Derived.Test.YtliibficmdomjaaRNotz
import Derived.Test.YtliibficmdomjaaMg12z
import Derived.Test.YtliibficmdomjaaMg6z
import Derived.BigQuiet
namespace Go.Proofs.Ytliibficmdomjaa
open Go.RowKit

section
variable (a b : Nat) (F : Nat → Nat → Bool) (A : Option Addr) (n c : Nat) (w : World) (ha1 : 1 ≤ a) (hb1 : 1 ≤ b) (ha : a ≤ 64) (hb : b ≤ 64) (hr : Rd w A n ((Pl.tab a b F).map Value.bool))
include ha1 hb1 ha hb hr
theorem mir0_call : Calls Try.prog 46 #[.agg #[.int .i64 a, .int .i64 b, .slice A n c], .int .i64 0] w (RetG (⟨a, b, Pl.tab a b fun x y => F (a - 1 - x) y⟩, 0) w) := by
  rw [← mir0_tab ha1 hb1 ha hb]
  exact rmirror_any ⟨a, b, Pl.tab a b F⟩ 0 A n c w hr
theorem mir1_call : Calls Try.prog 46 #[.agg #[.int .i64 a, .int .i64 b, .slice A n c], .int .i64 1] w (RetG (⟨a, b, Pl.tab a b fun x y => F x (b - 1 - y)⟩, 0) w) := by
  rw [← mir1_tab ha1 hb1 ha hb]
  exact rmirror_any ⟨a, b, Pl.tab a b F⟩ 1 A n c w hr
theorem not_call : Calls Try.prog 48 #[.agg #[.int .i64 a, .int .i64 b, .slice A n c]] w (RetG (⟨a, b, Pl.tab a b fun x y => !F x y⟩, 0) w) := by
  rw [← not_tab ha1 hb1 ha hb]
  exact rnot_any ⟨a, b, Pl.tab a b F⟩ A n c w hr
theorem turned_call : Calls Try.prog 47 #[.agg #[.int .i64 a, .int .i64 b, .slice A n c]] w (RetT ⟨b, a, Pl.tab b a fun x y => F y x⟩ w) := by
  have hn : n = b * a := by have := hr.len; rw [List.length_map, Pl.tab_length] at this; omega
  subst hn
  rw [← turned_tab (a := a) (b := b) (F := F)]
  exact turned_any a b _ A c w ha1 hb1 ha hb hr
omit ha1 hb1 in
theorem twin_call : Calls Try.prog 7 #[.agg #[.int .i64 a, .int .i64 b, .slice A n c]] w (RetT ⟨a, b, Pl.tab a b F⟩ w) := by
  have hn : n = b * a := by have := hr.len; rw [List.length_map, Pl.tab_length] at this; omega
  have h2 : b * a ≤ 64 * 64 := Nat.mul_le_mul hb ha
  exact twin_any a b A n c _ w hr (by omega)
end
theorem Blk.far3 {w : World} {g g' : Nat} {t : TypeId} {cs : Array Value} (h : Blk w g t cs) (hne : g ≠ g') (a b c : Value) : Blk (((w.setCell ⟨g', 0, none⟩ a).setCell ⟨g', 1, none⟩ b).setCell ⟨g', 2, none⟩ c) g t cs :=
  ((h.far (p := ⟨g', 0, none⟩) hne a).far (p := ⟨g', 1, none⟩) hne b).far (p := ⟨g', 2, none⟩) hne c
theorem RetT.of_below {g : Gd} {w w1 : World} {e : Ending} {w' : World} (hb : Below w.heap.size w w1) (h : RetT g w1 e w') : RetT g w e w' := by
  obtain ⟨A, n, c, he, ho, h2⟩ := h
  exact ⟨A, n, c, he, own_base ho hb.size, below_then hb h2⟩

set_option maxHeartbeats 1000000 in
theorem rapplied_0 (a b : Nat) (F : Nat → Nat → Bool) (A : Option Addr) (n c : Nat) (w : World) (_ha1 : 1 ≤ a) (_hb1 : 1 ≤ b) (ha : a ≤ 64) (hb : b ≤ 64) (hr : Rd w A n ((Pl.tab a b F).map Value.bool)) :
    Calls Try.prog 29 #[.agg #[.int .i64 a, .int .i64 b, .slice A n c], .int .i64 0] w (RetT (appB a b F false false false false) w) := by
  have hq : appB a b F false false false false = ⟨(a : Nat), (b : Nat), Pl.tab a b fun x y => F x y⟩ := by
    have h2 : appF a b F false false false false = fun x y => F x y := by funext x y; simp [appF]
    exact congrArg (fun f => (⟨(a : Nat), (b : Nat), Pl.tab a b f⟩ : Gd)) h2
  rw [hq]
  clear hq
  have S0 := (((St.start w).addRd hr).box #[.int .i64 a, .int .i64 b, .slice A n c] 24).box #[.int .i64 0, .int .i64 0, .slice none 0 0] 24
  simp only [size_alloc1, List.nil_append, List.cons_append] at S0
  have hR := S0.rd 0 rfl
  have hG := S0.blk 1 rfl
  have hz := S0.blk 2 rfl
  have hB := S0.below
  clear S0 hr
  obtain ⟨c0, c1, c2⟩ := hG.cell3
  go_enter Try.func29, Try.ntmps29
  go_wp2_with fail
  refine (twin_call a b _ _ _ _ _ ha hb hR).mono ?_
  rintro e wz ⟨Az, nz, cz, rfl, hownz, hbz⟩
  simp only at hownz ⊢
  have hzz := hz.keep hbz
  have hBz := below_set3 (below_then hB hbz) (show w.heap.size ≤ w.heap.size + 1 by omega) (.int .i64 a) (.int .i64 b) (.slice Az nz cz)
  have hOz := own_base (own_set3 hownz hzz (by decide) (.int .i64 a) (.int .i64 b) (.slice Az nz cz)) hB.size
  skip
  obtain ⟨r0, r1, r2⟩ := hzz.cell3
  obtain ⟨s0, s1, s2⟩ := hzz.frozen3
  obtain ⟨q0, q1, q2⟩ := (hzz.set3 (.int .i64 a) (.int .i64 b) (.slice Az nz cz)).cell3
  clear c0 c1 c2 hG hR hB hz hownz hbz hzz
  go_wp2_with fail
  refine bodyPost_ret (v := .agg #[.int .i64 a, .int .i64 b, .slice Az nz cz]) (by simp [results, Try.results29, go_sem, q0, q1, q2]) rfl ?_
  exact ⟨Az, nz, cz, rfl, hOz, hBz⟩

set_option maxHeartbeats 1000000 in
theorem rapplied_1 (a b : Nat) (F : Nat → Nat → Bool) (A : Option Addr) (n c : Nat) (w : World) (ha1 : 1 ≤ a) (hb1 : 1 ≤ b) (ha : a ≤ 64) (hb : b ≤ 64) (hr : Rd w A n ((Pl.tab a b F).map Value.bool)) :
    Calls Try.prog 29 #[.agg #[.int .i64 a, .int .i64 b, .slice A n c], .int .i64 1] w (RetT (appB a b F true false false false) w) := by
  have hq : appB a b F true false false false = ⟨(a : Nat), (b : Nat), Pl.tab a b fun x y => F (a - 1 - x) y⟩ := by
    have h2 : appF a b F true false false false = fun x y => F (a - 1 - x) y := by funext x y; simp [appF]
    exact congrArg (fun f => (⟨(a : Nat), (b : Nat), Pl.tab a b f⟩ : Gd)) h2
  rw [hq]
  clear hq
  have S0 := (((St.start w).addRd hr).box #[.int .i64 a, .int .i64 b, .slice A n c] 24).box #[.int .i64 0, .int .i64 0, .slice none 0 0] 24
  simp only [size_alloc1, List.nil_append, List.cons_append] at S0
  have hR := S0.rd 0 rfl
  have hG := S0.blk 1 rfl
  have hz := S0.blk 2 rfl
  have hB := S0.below
  clear S0 hr
  obtain ⟨c0, c1, c2⟩ := hG.cell3
  go_enter Try.func29, Try.ntmps29
  go_wp2_with fail
  refine (mir0_call a b _ _ _ _ _ ha1 hb1 ha hb hR).mono ?_
  rintro e w1 ⟨A1, n1, cc1, rfl, hown1, hb1⟩
  simp only at hown1 ⊢
  have hG1 := hG.keep hb1
  have hR1 := rd_of_own (own_set3 hown1 hG1 (by decide) (.int .i64 a) (.int .i64 b) (.slice A1 n1 cc1))
  have hB1 := below_set3 (below_then hB hb1) (Nat.le_refl w.heap.size) (.int .i64 a) (.int .i64 b) (.slice A1 n1 cc1)
  have hH1 := hG1.set3 (.int .i64 a) (.int .i64 b) (.slice A1 n1 cc1)
  have hz1 := (hz.keep hb1).far3 (show w.heap.size + 1 ≠ w.heap.size by omega) (.int .i64 a) (.int .i64 b) (.slice A1 n1 cc1)
  clear c0 c1 c2 hG hR hB hz hown1 hb1
  obtain ⟨f0, f1, f2⟩ := hG1.frozen3
  obtain ⟨r0, r1, r2⟩ := hG1.cell3
  obtain ⟨c0, c1, c2⟩ := hH1.cell3
  clear hG1
  have hG := hH1
  have hR := hR1
  have hB := hB1
  have hz := hz1
  clear hH1 hR1 hB1 hz1
  go_wp2_with fail
  refine (twin_call a b _ _ _ _ _ ha hb hR).mono ?_
  rintro e wz ⟨Az, nz, cz, rfl, hownz, hbz⟩
  simp only at hownz ⊢
  have hzz := hz.keep hbz
  have hBz := below_set3 (below_then hB hbz) (show w.heap.size ≤ w.heap.size + 1 by omega) (.int .i64 a) (.int .i64 b) (.slice Az nz cz)
  have hOz := own_base (own_set3 hownz hzz (by decide) (.int .i64 a) (.int .i64 b) (.slice Az nz cz)) hB.size
  clear r0 r1 r2
  obtain ⟨r0, r1, r2⟩ := hzz.cell3
  obtain ⟨s0, s1, s2⟩ := hzz.frozen3
  obtain ⟨q0, q1, q2⟩ := (hzz.set3 (.int .i64 a) (.int .i64 b) (.slice Az nz cz)).cell3
  clear c0 c1 c2 f0 f1 f2 hG hR hB hz hownz hbz hzz
  go_wp2_with fail
  refine bodyPost_ret (v := .agg #[.int .i64 a, .int .i64 b, .slice Az nz cz]) (by simp [results, Try.results29, go_sem, q0, q1, q2]) rfl ?_
  exact ⟨Az, nz, cz, rfl, hOz, hBz⟩

set_option maxHeartbeats 1000000 in
theorem rapplied_2 (a b : Nat) (F : Nat → Nat → Bool) (A : Option Addr) (n c : Nat) (w : World) (ha1 : 1 ≤ a) (hb1 : 1 ≤ b) (ha : a ≤ 64) (hb : b ≤ 64) (hr : Rd w A n ((Pl.tab a b F).map Value.bool)) :
    Calls Try.prog 29 #[.agg #[.int .i64 a, .int .i64 b, .slice A n c], .int .i64 2] w (RetT (appB a b F false true false false) w) := by
  have hq : appB a b F false true false false = ⟨(a : Nat), (b : Nat), Pl.tab a b fun x y => F x (b - 1 - y)⟩ := by
    have h2 : appF a b F false true false false = fun x y => F x (b - 1 - y) := by funext x y; simp [appF]
    exact congrArg (fun f => (⟨(a : Nat), (b : Nat), Pl.tab a b f⟩ : Gd)) h2
  rw [hq]
  clear hq
  have S0 := (((St.start w).addRd hr).box #[.int .i64 a, .int .i64 b, .slice A n c] 24).box #[.int .i64 0, .int .i64 0, .slice none 0 0] 24
  simp only [size_alloc1, List.nil_append, List.cons_append] at S0
  have hR := S0.rd 0 rfl
  have hG := S0.blk 1 rfl
  have hz := S0.blk 2 rfl
  have hB := S0.below
  clear S0 hr
  obtain ⟨c0, c1, c2⟩ := hG.cell3
  go_enter Try.func29, Try.ntmps29
  go_wp2_with fail
  refine (mir1_call a b _ _ _ _ _ ha1 hb1 ha hb hR).mono ?_
  rintro e w1 ⟨A1, n1, cc1, rfl, hown1, hb1⟩
  simp only at hown1 ⊢
  have hG1 := hG.keep hb1
  have hR1 := rd_of_own (own_set3 hown1 hG1 (by decide) (.int .i64 a) (.int .i64 b) (.slice A1 n1 cc1))
  have hB1 := below_set3 (below_then hB hb1) (Nat.le_refl w.heap.size) (.int .i64 a) (.int .i64 b) (.slice A1 n1 cc1)
  have hH1 := hG1.set3 (.int .i64 a) (.int .i64 b) (.slice A1 n1 cc1)
  have hz1 := (hz.keep hb1).far3 (show w.heap.size + 1 ≠ w.heap.size by omega) (.int .i64 a) (.int .i64 b) (.slice A1 n1 cc1)
  clear c0 c1 c2 hG hR hB hz hown1 hb1
  obtain ⟨f0, f1, f2⟩ := hG1.frozen3
  obtain ⟨r0, r1, r2⟩ := hG1.cell3
  obtain ⟨c0, c1, c2⟩ := hH1.cell3
  clear hG1
  have hG := hH1
  have hR := hR1
  have hB := hB1
  have hz := hz1
  clear hH1 hR1 hB1 hz1
  go_wp2_with fail
  refine (twin_call a b _ _ _ _ _ ha hb hR).mono ?_
  rintro e wz ⟨Az, nz, cz, rfl, hownz, hbz⟩
  simp only at hownz ⊢
  have hzz := hz.keep hbz
  have hBz := below_set3 (below_then hB hbz) (show w.heap.size ≤ w.heap.size + 1 by omega) (.int .i64 a) (.int .i64 b) (.slice Az nz cz)
  have hOz := own_base (own_set3 hownz hzz (by decide) (.int .i64 a) (.int .i64 b) (.slice Az nz cz)) hB.size
  clear r0 r1 r2
  obtain ⟨r0, r1, r2⟩ := hzz.cell3
  obtain ⟨s0, s1, s2⟩ := hzz.frozen3
  obtain ⟨q0, q1, q2⟩ := (hzz.set3 (.int .i64 a) (.int .i64 b) (.slice Az nz cz)).cell3
  clear c0 c1 c2 f0 f1 f2 hG hR hB hz hownz hbz hzz
  go_wp2_with fail
  refine bodyPost_ret (v := .agg #[.int .i64 a, .int .i64 b, .slice Az nz cz]) (by simp [results, Try.results29, go_sem, q0, q1, q2]) rfl ?_
  exact ⟨Az, nz, cz, rfl, hOz, hBz⟩

set_option maxHeartbeats 1000000 in
theorem rapplied_3 (a b : Nat) (F : Nat → Nat → Bool) (A : Option Addr) (n c : Nat) (w : World) (ha1 : 1 ≤ a) (hb1 : 1 ≤ b) (ha : a ≤ 64) (hb : b ≤ 64) (hr : Rd w A n ((Pl.tab a b F).map Value.bool)) :
    Calls Try.prog 29 #[.agg #[.int .i64 a, .int .i64 b, .slice A n c], .int .i64 3] w (RetT (appB a b F true true false false) w) := by
  have hq : appB a b F true true false false = ⟨(a : Nat), (b : Nat), Pl.tab a b fun x y => F (a - 1 - x) (b - 1 - y)⟩ := by
    have h2 : appF a b F true true false false = fun x y => F (a - 1 - x) (b - 1 - y) := by funext x y; simp [appF]
    exact congrArg (fun f => (⟨(a : Nat), (b : Nat), Pl.tab a b f⟩ : Gd)) h2
  rw [hq]
  clear hq
  have S0 := (((St.start w).addRd hr).box #[.int .i64 a, .int .i64 b, .slice A n c] 24).box #[.int .i64 0, .int .i64 0, .slice none 0 0] 24
  simp only [size_alloc1, List.nil_append, List.cons_append] at S0
  have hR := S0.rd 0 rfl
  have hG := S0.blk 1 rfl
  have hz := S0.blk 2 rfl
  have hB := S0.below
  clear S0 hr
  obtain ⟨c0, c1, c2⟩ := hG.cell3
  go_enter Try.func29, Try.ntmps29
  go_wp2_with fail
  refine (mir0_call a b _ _ _ _ _ ha1 hb1 ha hb hR).mono ?_
  rintro e w1 ⟨A1, n1, cc1, rfl, hown1, hb1⟩
  simp only at hown1 ⊢
  have hG1 := hG.keep hb1
  have hR1 := rd_of_own (own_set3 hown1 hG1 (by decide) (.int .i64 a) (.int .i64 b) (.slice A1 n1 cc1))
  have hB1 := below_set3 (below_then hB hb1) (Nat.le_refl w.heap.size) (.int .i64 a) (.int .i64 b) (.slice A1 n1 cc1)
  have hH1 := hG1.set3 (.int .i64 a) (.int .i64 b) (.slice A1 n1 cc1)
  have hz1 := (hz.keep hb1).far3 (show w.heap.size + 1 ≠ w.heap.size by omega) (.int .i64 a) (.int .i64 b) (.slice A1 n1 cc1)
  clear c0 c1 c2 hG hR hB hz hown1 hb1
  obtain ⟨f0, f1, f2⟩ := hG1.frozen3
  obtain ⟨r0, r1, r2⟩ := hG1.cell3
  obtain ⟨c0, c1, c2⟩ := hH1.cell3
  clear hG1
  have hG := hH1
  have hR := hR1
  have hB := hB1
  have hz := hz1
  clear hH1 hR1 hB1 hz1
  go_wp2_with fail
  refine (mir1_call a b _ _ _ _ _ ha1 hb1 ha hb hR).mono ?_
  rintro e w2 ⟨A2, n2, cc2, rfl, hown2, hb2⟩
  simp only at hown2 ⊢
  have hG2 := hG.keep hb2
  have hR2 := rd_of_own (own_set3 hown2 hG2 (by decide) (.int .i64 a) (.int .i64 b) (.slice A2 n2 cc2))
  have hB2 := below_set3 (below_then hB hb2) (Nat.le_refl w.heap.size) (.int .i64 a) (.int .i64 b) (.slice A2 n2 cc2)
  have hH2 := hG2.set3 (.int .i64 a) (.int .i64 b) (.slice A2 n2 cc2)
  have hz2 := (hz.keep hb2).far3 (show w.heap.size + 1 ≠ w.heap.size by omega) (.int .i64 a) (.int .i64 b) (.slice A2 n2 cc2)
  clear c0 c1 c2 f0 f1 f2 r0 r1 r2 hG hR hB hz hown2 hb2
  obtain ⟨f0, f1, f2⟩ := hG2.frozen3
  obtain ⟨r0, r1, r2⟩ := hG2.cell3
  obtain ⟨c0, c1, c2⟩ := hH2.cell3
  clear hG2
  have hG := hH2
  have hR := hR2
  have hB := hB2
  have hz := hz2
  clear hH2 hR2 hB2 hz2
  go_wp2_with fail
  refine (twin_call a b _ _ _ _ _ ha hb hR).mono ?_
  rintro e wz ⟨Az, nz, cz, rfl, hownz, hbz⟩
  simp only at hownz ⊢
  have hzz := hz.keep hbz
  have hBz := below_set3 (below_then hB hbz) (show w.heap.size ≤ w.heap.size + 1 by omega) (.int .i64 a) (.int .i64 b) (.slice Az nz cz)
  have hOz := own_base (own_set3 hownz hzz (by decide) (.int .i64 a) (.int .i64 b) (.slice Az nz cz)) hB.size
  clear r0 r1 r2
  obtain ⟨r0, r1, r2⟩ := hzz.cell3
  obtain ⟨s0, s1, s2⟩ := hzz.frozen3
  obtain ⟨q0, q1, q2⟩ := (hzz.set3 (.int .i64 a) (.int .i64 b) (.slice Az nz cz)).cell3
  clear c0 c1 c2 f0 f1 f2 hG hR hB hz hownz hbz hzz
  go_wp2_with fail
  refine bodyPost_ret (v := .agg #[.int .i64 a, .int .i64 b, .slice Az nz cz]) (by simp [results, Try.results29, go_sem, q0, q1, q2]) rfl ?_
  exact ⟨Az, nz, cz, rfl, hOz, hBz⟩

set_option maxHeartbeats 1000000 in
theorem rapplied_4 (a b : Nat) (F : Nat → Nat → Bool) (A : Option Addr) (n c : Nat) (w : World) (ha1 : 1 ≤ a) (hb1 : 1 ≤ b) (ha : a ≤ 64) (hb : b ≤ 64) (hr : Rd w A n ((Pl.tab a b F).map Value.bool)) :
    Calls Try.prog 29 #[.agg #[.int .i64 a, .int .i64 b, .slice A n c], .int .i64 4] w (RetT (appB a b F false false true false) w) := by
  have hq : appB a b F false false true false = ⟨(b : Nat), (a : Nat), Pl.tab b a fun x y => F y x⟩ := by
    have h2 : appF a b F false false true false = fun x y => F y x := by funext x y; simp [appF]
    exact congrArg (fun f => (⟨(b : Nat), (a : Nat), Pl.tab b a f⟩ : Gd)) h2
  rw [hq]
  clear hq
  have S0 := (((St.start w).addRd hr).box #[.int .i64 a, .int .i64 b, .slice A n c] 24).box #[.int .i64 0, .int .i64 0, .slice none 0 0] 24
  simp only [size_alloc1, List.nil_append, List.cons_append] at S0
  have hR := S0.rd 0 rfl
  have hG := S0.blk 1 rfl
  have hz := S0.blk 2 rfl
  have hB := S0.below
  clear S0 hr
  obtain ⟨c0, c1, c2⟩ := hG.cell3
  go_enter Try.func29, Try.ntmps29
  go_wp2_with fail
  refine (turned_call a b _ _ _ _ _ ha1 hb1 ha hb hR).mono ?_
  rintro e w1 ⟨A1, n1, cc1, rfl, hown1, hb1⟩
  simp only at hown1 ⊢
  have hG1 := hG.keep hb1
  have hR1 := rd_of_own (own_set3 hown1 hG1 (by decide) (.int .i64 b) (.int .i64 a) (.slice A1 n1 cc1))
  have hB1 := below_set3 (below_then hB hb1) (Nat.le_refl w.heap.size) (.int .i64 b) (.int .i64 a) (.slice A1 n1 cc1)
  have hH1 := hG1.set3 (.int .i64 b) (.int .i64 a) (.slice A1 n1 cc1)
  have hz1 := (hz.keep hb1).far3 (show w.heap.size + 1 ≠ w.heap.size by omega) (.int .i64 b) (.int .i64 a) (.slice A1 n1 cc1)
  clear c0 c1 c2 hG hR hB hz hown1 hb1
  obtain ⟨f0, f1, f2⟩ := hG1.frozen3
  obtain ⟨r0, r1, r2⟩ := hG1.cell3
  obtain ⟨c0, c1, c2⟩ := hH1.cell3
  clear hG1
  have hG := hH1
  have hR := hR1
  have hB := hB1
  have hz := hz1
  clear hH1 hR1 hB1 hz1
  go_wp2_with fail
  refine (twin_call b a _ _ _ _ _ hb ha hR).mono ?_
  rintro e wz ⟨Az, nz, cz, rfl, hownz, hbz⟩
  simp only at hownz ⊢
  have hzz := hz.keep hbz
  have hBz := below_set3 (below_then hB hbz) (show w.heap.size ≤ w.heap.size + 1 by omega) (.int .i64 b) (.int .i64 a) (.slice Az nz cz)
  have hOz := own_base (own_set3 hownz hzz (by decide) (.int .i64 b) (.int .i64 a) (.slice Az nz cz)) hB.size
  clear r0 r1 r2
  obtain ⟨r0, r1, r2⟩ := hzz.cell3
  obtain ⟨s0, s1, s2⟩ := hzz.frozen3
  obtain ⟨q0, q1, q2⟩ := (hzz.set3 (.int .i64 b) (.int .i64 a) (.slice Az nz cz)).cell3
  clear c0 c1 c2 f0 f1 f2 hG hR hB hz hownz hbz hzz
  go_wp2_with fail
  refine bodyPost_ret (v := .agg #[.int .i64 b, .int .i64 a, .slice Az nz cz]) (by simp [results, Try.results29, go_sem, q0, q1, q2]) rfl ?_
  exact ⟨Az, nz, cz, rfl, hOz, hBz⟩

set_option maxHeartbeats 1000000 in
theorem rapplied_5 (a b : Nat) (F : Nat → Nat → Bool) (A : Option Addr) (n c : Nat) (w : World) (ha1 : 1 ≤ a) (hb1 : 1 ≤ b) (ha : a ≤ 64) (hb : b ≤ 64) (hr : Rd w A n ((Pl.tab a b F).map Value.bool)) :
    Calls Try.prog 29 #[.agg #[.int .i64 a, .int .i64 b, .slice A n c], .int .i64 5] w (RetT (appB a b F true false true false) w) := by
  have hq : appB a b F true false true false = ⟨(b : Nat), (a : Nat), Pl.tab b a fun x y => F (a - 1 - y) x⟩ := by
    have h2 : appF a b F true false true false = fun x y => F (a - 1 - y) x := by funext x y; simp [appF]
    exact congrArg (fun f => (⟨(b : Nat), (a : Nat), Pl.tab b a f⟩ : Gd)) h2
  rw [hq]
  clear hq
  have S0 := (((St.start w).addRd hr).box #[.int .i64 a, .int .i64 b, .slice A n c] 24).box #[.int .i64 0, .int .i64 0, .slice none 0 0] 24
  simp only [size_alloc1, List.nil_append, List.cons_append] at S0
  have hR := S0.rd 0 rfl
  have hG := S0.blk 1 rfl
  have hz := S0.blk 2 rfl
  have hB := S0.below
  clear S0 hr
  obtain ⟨c0, c1, c2⟩ := hG.cell3
  go_enter Try.func29, Try.ntmps29
  go_wp2_with fail
  refine (mir0_call a b _ _ _ _ _ ha1 hb1 ha hb hR).mono ?_
  rintro e w1 ⟨A1, n1, cc1, rfl, hown1, hb1⟩
  simp only at hown1 ⊢
  have hG1 := hG.keep hb1
  have hR1 := rd_of_own (own_set3 hown1 hG1 (by decide) (.int .i64 a) (.int .i64 b) (.slice A1 n1 cc1))
  have hB1 := below_set3 (below_then hB hb1) (Nat.le_refl w.heap.size) (.int .i64 a) (.int .i64 b) (.slice A1 n1 cc1)
  have hH1 := hG1.set3 (.int .i64 a) (.int .i64 b) (.slice A1 n1 cc1)
  have hz1 := (hz.keep hb1).far3 (show w.heap.size + 1 ≠ w.heap.size by omega) (.int .i64 a) (.int .i64 b) (.slice A1 n1 cc1)
  clear c0 c1 c2 hG hR hB hz hown1 hb1
  obtain ⟨f0, f1, f2⟩ := hG1.frozen3
  obtain ⟨r0, r1, r2⟩ := hG1.cell3
  obtain ⟨c0, c1, c2⟩ := hH1.cell3
  clear hG1
  have hG := hH1
  have hR := hR1
  have hB := hB1
  have hz := hz1
  clear hH1 hR1 hB1 hz1
  go_wp2_with fail
  refine (turned_call a b _ _ _ _ _ ha1 hb1 ha hb hR).mono ?_
  rintro e w2 ⟨A2, n2, cc2, rfl, hown2, hb2⟩
  simp only at hown2 ⊢
  have hG2 := hG.keep hb2
  have hR2 := rd_of_own (own_set3 hown2 hG2 (by decide) (.int .i64 b) (.int .i64 a) (.slice A2 n2 cc2))
  have hB2 := below_set3 (below_then hB hb2) (Nat.le_refl w.heap.size) (.int .i64 b) (.int .i64 a) (.slice A2 n2 cc2)
  have hH2 := hG2.set3 (.int .i64 b) (.int .i64 a) (.slice A2 n2 cc2)
  have hz2 := (hz.keep hb2).far3 (show w.heap.size + 1 ≠ w.heap.size by omega) (.int .i64 b) (.int .i64 a) (.slice A2 n2 cc2)
  clear c0 c1 c2 f0 f1 f2 r0 r1 r2 hG hR hB hz hown2 hb2
  obtain ⟨f0, f1, f2⟩ := hG2.frozen3
  obtain ⟨r0, r1, r2⟩ := hG2.cell3
  obtain ⟨c0, c1, c2⟩ := hH2.cell3
  clear hG2
  have hG := hH2
  have hR := hR2
  have hB := hB2
  have hz := hz2
  clear hH2 hR2 hB2 hz2
  go_wp2_with fail
  refine (twin_call b a _ _ _ _ _ hb ha hR).mono ?_
  rintro e wz ⟨Az, nz, cz, rfl, hownz, hbz⟩
  simp only at hownz ⊢
  have hzz := hz.keep hbz
  have hBz := below_set3 (below_then hB hbz) (show w.heap.size ≤ w.heap.size + 1 by omega) (.int .i64 b) (.int .i64 a) (.slice Az nz cz)
  have hOz := own_base (own_set3 hownz hzz (by decide) (.int .i64 b) (.int .i64 a) (.slice Az nz cz)) hB.size
  clear r0 r1 r2
  obtain ⟨r0, r1, r2⟩ := hzz.cell3
  obtain ⟨s0, s1, s2⟩ := hzz.frozen3
  obtain ⟨q0, q1, q2⟩ := (hzz.set3 (.int .i64 b) (.int .i64 a) (.slice Az nz cz)).cell3
  clear c0 c1 c2 f0 f1 f2 hG hR hB hz hownz hbz hzz
  go_wp2_with fail
  refine bodyPost_ret (v := .agg #[.int .i64 b, .int .i64 a, .slice Az nz cz]) (by simp [results, Try.results29, go_sem, q0, q1, q2]) rfl ?_
  exact ⟨Az, nz, cz, rfl, hOz, hBz⟩

set_option maxHeartbeats 1000000 in
theorem rapplied_6 (a b : Nat) (F : Nat → Nat → Bool) (A : Option Addr) (n c : Nat) (w : World) (ha1 : 1 ≤ a) (hb1 : 1 ≤ b) (ha : a ≤ 64) (hb : b ≤ 64) (hr : Rd w A n ((Pl.tab a b F).map Value.bool)) :
    Calls Try.prog 29 #[.agg #[.int .i64 a, .int .i64 b, .slice A n c], .int .i64 6] w (RetT (appB a b F false true true false) w) := by
  have hq : appB a b F false true true false = ⟨(b : Nat), (a : Nat), Pl.tab b a fun x y => F y (b - 1 - x)⟩ := by
    have h2 : appF a b F false true true false = fun x y => F y (b - 1 - x) := by funext x y; simp [appF]
    exact congrArg (fun f => (⟨(b : Nat), (a : Nat), Pl.tab b a f⟩ : Gd)) h2
  rw [hq]
  clear hq
  have S0 := (((St.start w).addRd hr).box #[.int .i64 a, .int .i64 b, .slice A n c] 24).box #[.int .i64 0, .int .i64 0, .slice none 0 0] 24
  simp only [size_alloc1, List.nil_append, List.cons_append] at S0
  have hR := S0.rd 0 rfl
  have hG := S0.blk 1 rfl
  have hz := S0.blk 2 rfl
  have hB := S0.below
  clear S0 hr
  obtain ⟨c0, c1, c2⟩ := hG.cell3
  go_enter Try.func29, Try.ntmps29
  go_wp2_with fail
  refine (mir1_call a b _ _ _ _ _ ha1 hb1 ha hb hR).mono ?_
  rintro e w1 ⟨A1, n1, cc1, rfl, hown1, hb1⟩
  simp only at hown1 ⊢
  have hG1 := hG.keep hb1
  have hR1 := rd_of_own (own_set3 hown1 hG1 (by decide) (.int .i64 a) (.int .i64 b) (.slice A1 n1 cc1))
  have hB1 := below_set3 (below_then hB hb1) (Nat.le_refl w.heap.size) (.int .i64 a) (.int .i64 b) (.slice A1 n1 cc1)
  have hH1 := hG1.set3 (.int .i64 a) (.int .i64 b) (.slice A1 n1 cc1)
  have hz1 := (hz.keep hb1).far3 (show w.heap.size + 1 ≠ w.heap.size by omega) (.int .i64 a) (.int .i64 b) (.slice A1 n1 cc1)
  clear c0 c1 c2 hG hR hB hz hown1 hb1
  obtain ⟨f0, f1, f2⟩ := hG1.frozen3
  obtain ⟨r0, r1, r2⟩ := hG1.cell3
  obtain ⟨c0, c1, c2⟩ := hH1.cell3
  clear hG1
  have hG := hH1
  have hR := hR1
  have hB := hB1
  have hz := hz1
  clear hH1 hR1 hB1 hz1
  go_wp2_with fail
  refine (turned_call a b _ _ _ _ _ ha1 hb1 ha hb hR).mono ?_
  rintro e w2 ⟨A2, n2, cc2, rfl, hown2, hb2⟩
  simp only at hown2 ⊢
  have hG2 := hG.keep hb2
  have hR2 := rd_of_own (own_set3 hown2 hG2 (by decide) (.int .i64 b) (.int .i64 a) (.slice A2 n2 cc2))
  have hB2 := below_set3 (below_then hB hb2) (Nat.le_refl w.heap.size) (.int .i64 b) (.int .i64 a) (.slice A2 n2 cc2)
  have hH2 := hG2.set3 (.int .i64 b) (.int .i64 a) (.slice A2 n2 cc2)
  have hz2 := (hz.keep hb2).far3 (show w.heap.size + 1 ≠ w.heap.size by omega) (.int .i64 b) (.int .i64 a) (.slice A2 n2 cc2)
  clear c0 c1 c2 f0 f1 f2 r0 r1 r2 hG hR hB hz hown2 hb2
  obtain ⟨f0, f1, f2⟩ := hG2.frozen3
  obtain ⟨r0, r1, r2⟩ := hG2.cell3
  obtain ⟨c0, c1, c2⟩ := hH2.cell3
  clear hG2
  have hG := hH2
  have hR := hR2
  have hB := hB2
  have hz := hz2
  clear hH2 hR2 hB2 hz2
  go_wp2_with fail
  refine (twin_call b a _ _ _ _ _ hb ha hR).mono ?_
  rintro e wz ⟨Az, nz, cz, rfl, hownz, hbz⟩
  simp only at hownz ⊢
  have hzz := hz.keep hbz
  have hBz := below_set3 (below_then hB hbz) (show w.heap.size ≤ w.heap.size + 1 by omega) (.int .i64 b) (.int .i64 a) (.slice Az nz cz)
  have hOz := own_base (own_set3 hownz hzz (by decide) (.int .i64 b) (.int .i64 a) (.slice Az nz cz)) hB.size
  clear r0 r1 r2
  obtain ⟨r0, r1, r2⟩ := hzz.cell3
  obtain ⟨s0, s1, s2⟩ := hzz.frozen3
  obtain ⟨q0, q1, q2⟩ := (hzz.set3 (.int .i64 b) (.int .i64 a) (.slice Az nz cz)).cell3
  clear c0 c1 c2 f0 f1 f2 hG hR hB hz hownz hbz hzz
  go_wp2_with fail
  refine bodyPost_ret (v := .agg #[.int .i64 b, .int .i64 a, .slice Az nz cz]) (by simp [results, Try.results29, go_sem, q0, q1, q2]) rfl ?_
  exact ⟨Az, nz, cz, rfl, hOz, hBz⟩

set_option maxHeartbeats 1000000 in
theorem rapplied_7 (a b : Nat) (F : Nat → Nat → Bool) (A : Option Addr) (n c : Nat) (w : World) (ha1 : 1 ≤ a) (hb1 : 1 ≤ b) (ha : a ≤ 64) (hb : b ≤ 64) (hr : Rd w A n ((Pl.tab a b F).map Value.bool)) :
    Calls Try.prog 29 #[.agg #[.int .i64 a, .int .i64 b, .slice A n c], .int .i64 7] w (RetT (appB a b F true true true false) w) := by
  have hq : appB a b F true true true false = ⟨(b : Nat), (a : Nat), Pl.tab b a fun x y => F (a - 1 - y) (b - 1 - x)⟩ := by
    have h2 : appF a b F true true true false = fun x y => F (a - 1 - y) (b - 1 - x) := by funext x y; simp [appF]
    exact congrArg (fun f => (⟨(b : Nat), (a : Nat), Pl.tab b a f⟩ : Gd)) h2
  rw [hq]
  clear hq
  have S0 := (((St.start w).addRd hr).box #[.int .i64 a, .int .i64 b, .slice A n c] 24).box #[.int .i64 0, .int .i64 0, .slice none 0 0] 24
  simp only [size_alloc1, List.nil_append, List.cons_append] at S0
  have hR := S0.rd 0 rfl
  have hG := S0.blk 1 rfl
  have hz := S0.blk 2 rfl
  have hB := S0.below
  clear S0 hr
  obtain ⟨c0, c1, c2⟩ := hG.cell3
  go_enter Try.func29, Try.ntmps29
  go_wp2_with fail
  refine (mir0_call a b _ _ _ _ _ ha1 hb1 ha hb hR).mono ?_
  rintro e w1 ⟨A1, n1, cc1, rfl, hown1, hb1⟩
  simp only at hown1 ⊢
  have hG1 := hG.keep hb1
  have hR1 := rd_of_own (own_set3 hown1 hG1 (by decide) (.int .i64 a) (.int .i64 b) (.slice A1 n1 cc1))
  have hB1 := below_set3 (below_then hB hb1) (Nat.le_refl w.heap.size) (.int .i64 a) (.int .i64 b) (.slice A1 n1 cc1)
  have hH1 := hG1.set3 (.int .i64 a) (.int .i64 b) (.slice A1 n1 cc1)
  have hz1 := (hz.keep hb1).far3 (show w.heap.size + 1 ≠ w.heap.size by omega) (.int .i64 a) (.int .i64 b) (.slice A1 n1 cc1)
  clear c0 c1 c2 hG hR hB hz hown1 hb1
  obtain ⟨f0, f1, f2⟩ := hG1.frozen3
  obtain ⟨r0, r1, r2⟩ := hG1.cell3
  obtain ⟨c0, c1, c2⟩ := hH1.cell3
  clear hG1
  have hG := hH1
  have hR := hR1
  have hB := hB1
  have hz := hz1
  clear hH1 hR1 hB1 hz1
  go_wp2_with fail
  refine (mir1_call a b _ _ _ _ _ ha1 hb1 ha hb hR).mono ?_
  rintro e w2 ⟨A2, n2, cc2, rfl, hown2, hb2⟩
  simp only at hown2 ⊢
  have hG2 := hG.keep hb2
  have hR2 := rd_of_own (own_set3 hown2 hG2 (by decide) (.int .i64 a) (.int .i64 b) (.slice A2 n2 cc2))
  have hB2 := below_set3 (below_then hB hb2) (Nat.le_refl w.heap.size) (.int .i64 a) (.int .i64 b) (.slice A2 n2 cc2)
  have hH2 := hG2.set3 (.int .i64 a) (.int .i64 b) (.slice A2 n2 cc2)
  have hz2 := (hz.keep hb2).far3 (show w.heap.size + 1 ≠ w.heap.size by omega) (.int .i64 a) (.int .i64 b) (.slice A2 n2 cc2)
  clear c0 c1 c2 f0 f1 f2 r0 r1 r2 hG hR hB hz hown2 hb2
  obtain ⟨f0, f1, f2⟩ := hG2.frozen3
  obtain ⟨r0, r1, r2⟩ := hG2.cell3
  obtain ⟨c0, c1, c2⟩ := hH2.cell3
  clear hG2
  have hG := hH2
  have hR := hR2
  have hB := hB2
  have hz := hz2
  clear hH2 hR2 hB2 hz2
  go_wp2_with fail
  refine (turned_call a b _ _ _ _ _ ha1 hb1 ha hb hR).mono ?_
  rintro e w3 ⟨A3, n3, cc3, rfl, hown3, hb3⟩
  simp only at hown3 ⊢
  have hG3 := hG.keep hb3
  have hR3 := rd_of_own (own_set3 hown3 hG3 (by decide) (.int .i64 b) (.int .i64 a) (.slice A3 n3 cc3))
  have hB3 := below_set3 (below_then hB hb3) (Nat.le_refl w.heap.size) (.int .i64 b) (.int .i64 a) (.slice A3 n3 cc3)
  have hH3 := hG3.set3 (.int .i64 b) (.int .i64 a) (.slice A3 n3 cc3)
  have hz3 := (hz.keep hb3).far3 (show w.heap.size + 1 ≠ w.heap.size by omega) (.int .i64 b) (.int .i64 a) (.slice A3 n3 cc3)
  clear c0 c1 c2 f0 f1 f2 r0 r1 r2 hG hR hB hz hown3 hb3
  obtain ⟨f0, f1, f2⟩ := hG3.frozen3
  obtain ⟨r0, r1, r2⟩ := hG3.cell3
  obtain ⟨c0, c1, c2⟩ := hH3.cell3
  clear hG3
  have hG := hH3
  have hR := hR3
  have hB := hB3
  have hz := hz3
  clear hH3 hR3 hB3 hz3
  go_wp2_with fail
  refine (twin_call b a _ _ _ _ _ hb ha hR).mono ?_
  rintro e wz ⟨Az, nz, cz, rfl, hownz, hbz⟩
  simp only at hownz ⊢
  have hzz := hz.keep hbz
  have hBz := below_set3 (below_then hB hbz) (show w.heap.size ≤ w.heap.size + 1 by omega) (.int .i64 b) (.int .i64 a) (.slice Az nz cz)
  have hOz := own_base (own_set3 hownz hzz (by decide) (.int .i64 b) (.int .i64 a) (.slice Az nz cz)) hB.size
  clear r0 r1 r2
  obtain ⟨r0, r1, r2⟩ := hzz.cell3
  obtain ⟨s0, s1, s2⟩ := hzz.frozen3
  obtain ⟨q0, q1, q2⟩ := (hzz.set3 (.int .i64 b) (.int .i64 a) (.slice Az nz cz)).cell3
  clear c0 c1 c2 f0 f1 f2 hG hR hB hz hownz hbz hzz
  go_wp2_with fail
  refine bodyPost_ret (v := .agg #[.int .i64 b, .int .i64 a, .slice Az nz cz]) (by simp [results, Try.results29, go_sem, q0, q1, q2]) rfl ?_
  exact ⟨Az, nz, cz, rfl, hOz, hBz⟩

set_option maxHeartbeats 1000000 in
theorem rapplied_8 (a b : Nat) (F : Nat → Nat → Bool) (A : Option Addr) (n c : Nat) (w : World) (ha1 : 1 ≤ a) (hb1 : 1 ≤ b) (ha : a ≤ 64) (hb : b ≤ 64) (hr : Rd w A n ((Pl.tab a b F).map Value.bool)) :
    Calls Try.prog 29 #[.agg #[.int .i64 a, .int .i64 b, .slice A n c], .int .i64 8] w (RetT (appB a b F false false false true) w) := by
  have hq : appB a b F false false false true = ⟨(a : Nat), (b : Nat), Pl.tab a b fun x y => !F x y⟩ := by
    have h2 : appF a b F false false false true = fun x y => !F x y := by funext x y; simp [appF]
    exact congrArg (fun f => (⟨(a : Nat), (b : Nat), Pl.tab a b f⟩ : Gd)) h2
  rw [hq]
  clear hq
  have S0 := (((St.start w).addRd hr).box #[.int .i64 a, .int .i64 b, .slice A n c] 24).box #[.int .i64 0, .int .i64 0, .slice none 0 0] 24
  simp only [size_alloc1, List.nil_append, List.cons_append] at S0
  have hR := S0.rd 0 rfl
  have hG := S0.blk 1 rfl
  have hz := S0.blk 2 rfl
  have hB := S0.below
  clear S0 hr
  obtain ⟨c0, c1, c2⟩ := hG.cell3
  go_enter Try.func29, Try.ntmps29
  go_wp2_with fail
  refine (not_call a b _ _ _ _ _ ha1 hb1 ha hb hR).mono ?_
  rintro e w1 ⟨A1, n1, cc1, rfl, hown1, hb1⟩
  simp only at hown1 ⊢
  have hG1 := hG.keep hb1
  have hR1 := rd_of_own (own_set3 hown1 hG1 (by decide) (.int .i64 a) (.int .i64 b) (.slice A1 n1 cc1))
  have hB1 := below_set3 (below_then hB hb1) (Nat.le_refl w.heap.size) (.int .i64 a) (.int .i64 b) (.slice A1 n1 cc1)
  have hH1 := hG1.set3 (.int .i64 a) (.int .i64 b) (.slice A1 n1 cc1)
  have hz1 := (hz.keep hb1).far3 (show w.heap.size + 1 ≠ w.heap.size by omega) (.int .i64 a) (.int .i64 b) (.slice A1 n1 cc1)
  clear c0 c1 c2 hG hR hB hz hown1 hb1
  obtain ⟨f0, f1, f2⟩ := hG1.frozen3
  obtain ⟨r0, r1, r2⟩ := hG1.cell3
  obtain ⟨c0, c1, c2⟩ := hH1.cell3
  clear hG1
  have hG := hH1
  have hR := hR1
  have hB := hB1
  have hz := hz1
  clear hH1 hR1 hB1 hz1
  go_wp2_with fail
  refine (twin_call a b _ _ _ _ _ ha hb hR).mono ?_
  rintro e wz ⟨Az, nz, cz, rfl, hownz, hbz⟩
  simp only at hownz ⊢
  have hzz := hz.keep hbz
  have hBz := below_set3 (below_then hB hbz) (show w.heap.size ≤ w.heap.size + 1 by omega) (.int .i64 a) (.int .i64 b) (.slice Az nz cz)
  have hOz := own_base (own_set3 hownz hzz (by decide) (.int .i64 a) (.int .i64 b) (.slice Az nz cz)) hB.size
  clear r0 r1 r2
  obtain ⟨r0, r1, r2⟩ := hzz.cell3
  obtain ⟨s0, s1, s2⟩ := hzz.frozen3
  obtain ⟨q0, q1, q2⟩ := (hzz.set3 (.int .i64 a) (.int .i64 b) (.slice Az nz cz)).cell3
  clear c0 c1 c2 f0 f1 f2 hG hR hB hz hownz hbz hzz
  go_wp2_with fail
  refine bodyPost_ret (v := .agg #[.int .i64 a, .int .i64 b, .slice Az nz cz]) (by simp [results, Try.results29, go_sem, q0, q1, q2]) rfl ?_
  exact ⟨Az, nz, cz, rfl, hOz, hBz⟩

set_option maxHeartbeats 1000000 in
theorem rapplied_9 (a b : Nat) (F : Nat → Nat → Bool) (A : Option Addr) (n c : Nat) (w : World) (ha1 : 1 ≤ a) (hb1 : 1 ≤ b) (ha : a ≤ 64) (hb : b ≤ 64) (hr : Rd w A n ((Pl.tab a b F).map Value.bool)) :
    Calls Try.prog 29 #[.agg #[.int .i64 a, .int .i64 b, .slice A n c], .int .i64 9] w (RetT (appB a b F true false false true) w) := by
  have hq : appB a b F true false false true = ⟨(a : Nat), (b : Nat), Pl.tab a b fun x y => !F (a - 1 - x) y⟩ := by
    have h2 : appF a b F true false false true = fun x y => !F (a - 1 - x) y := by funext x y; simp [appF]
    exact congrArg (fun f => (⟨(a : Nat), (b : Nat), Pl.tab a b f⟩ : Gd)) h2
  rw [hq]
  clear hq
  have S0 := (((St.start w).addRd hr).box #[.int .i64 a, .int .i64 b, .slice A n c] 24).box #[.int .i64 0, .int .i64 0, .slice none 0 0] 24
  simp only [size_alloc1, List.nil_append, List.cons_append] at S0
  have hR := S0.rd 0 rfl
  have hG := S0.blk 1 rfl
  have hz := S0.blk 2 rfl
  have hB := S0.below
  clear S0 hr
  obtain ⟨c0, c1, c2⟩ := hG.cell3
  go_enter Try.func29, Try.ntmps29
  go_wp2_with fail
  refine (mir0_call a b _ _ _ _ _ ha1 hb1 ha hb hR).mono ?_
  rintro e w1 ⟨A1, n1, cc1, rfl, hown1, hb1⟩
  simp only at hown1 ⊢
  have hG1 := hG.keep hb1
  have hR1 := rd_of_own (own_set3 hown1 hG1 (by decide) (.int .i64 a) (.int .i64 b) (.slice A1 n1 cc1))
  have hB1 := below_set3 (below_then hB hb1) (Nat.le_refl w.heap.size) (.int .i64 a) (.int .i64 b) (.slice A1 n1 cc1)
  have hH1 := hG1.set3 (.int .i64 a) (.int .i64 b) (.slice A1 n1 cc1)
  have hz1 := (hz.keep hb1).far3 (show w.heap.size + 1 ≠ w.heap.size by omega) (.int .i64 a) (.int .i64 b) (.slice A1 n1 cc1)
  clear c0 c1 c2 hG hR hB hz hown1 hb1
  obtain ⟨f0, f1, f2⟩ := hG1.frozen3
  obtain ⟨r0, r1, r2⟩ := hG1.cell3
  obtain ⟨c0, c1, c2⟩ := hH1.cell3
  clear hG1
  have hG := hH1
  have hR := hR1
  have hB := hB1
  have hz := hz1
  clear hH1 hR1 hB1 hz1
  go_wp2_with fail
  refine (not_call a b _ _ _ _ _ ha1 hb1 ha hb hR).mono ?_
  rintro e w2 ⟨A2, n2, cc2, rfl, hown2, hb2⟩
  simp only at hown2 ⊢
  have hG2 := hG.keep hb2
  have hR2 := rd_of_own (own_set3 hown2 hG2 (by decide) (.int .i64 a) (.int .i64 b) (.slice A2 n2 cc2))
  have hB2 := below_set3 (below_then hB hb2) (Nat.le_refl w.heap.size) (.int .i64 a) (.int .i64 b) (.slice A2 n2 cc2)
  have hH2 := hG2.set3 (.int .i64 a) (.int .i64 b) (.slice A2 n2 cc2)
  have hz2 := (hz.keep hb2).far3 (show w.heap.size + 1 ≠ w.heap.size by omega) (.int .i64 a) (.int .i64 b) (.slice A2 n2 cc2)
  clear c0 c1 c2 f0 f1 f2 r0 r1 r2 hG hR hB hz hown2 hb2
  obtain ⟨f0, f1, f2⟩ := hG2.frozen3
  obtain ⟨r0, r1, r2⟩ := hG2.cell3
  obtain ⟨c0, c1, c2⟩ := hH2.cell3
  clear hG2
  have hG := hH2
  have hR := hR2
  have hB := hB2
  have hz := hz2
  clear hH2 hR2 hB2 hz2
  go_wp2_with fail
  refine (twin_call a b _ _ _ _ _ ha hb hR).mono ?_
  rintro e wz ⟨Az, nz, cz, rfl, hownz, hbz⟩
  simp only at hownz ⊢
  have hzz := hz.keep hbz
  have hBz := below_set3 (below_then hB hbz) (show w.heap.size ≤ w.heap.size + 1 by omega) (.int .i64 a) (.int .i64 b) (.slice Az nz cz)
  have hOz := own_base (own_set3 hownz hzz (by decide) (.int .i64 a) (.int .i64 b) (.slice Az nz cz)) hB.size
  clear r0 r1 r2
  obtain ⟨r0, r1, r2⟩ := hzz.cell3
  obtain ⟨s0, s1, s2⟩ := hzz.frozen3
  obtain ⟨q0, q1, q2⟩ := (hzz.set3 (.int .i64 a) (.int .i64 b) (.slice Az nz cz)).cell3
  clear c0 c1 c2 f0 f1 f2 hG hR hB hz hownz hbz hzz
  go_wp2_with fail
  refine bodyPost_ret (v := .agg #[.int .i64 a, .int .i64 b, .slice Az nz cz]) (by simp [results, Try.results29, go_sem, q0, q1, q2]) rfl ?_
  exact ⟨Az, nz, cz, rfl, hOz, hBz⟩

set_option maxHeartbeats 1000000 in
theorem rapplied_10 (a b : Nat) (F : Nat → Nat → Bool) (A : Option Addr) (n c : Nat) (w : World) (ha1 : 1 ≤ a) (hb1 : 1 ≤ b) (ha : a ≤ 64) (hb : b ≤ 64) (hr : Rd w A n ((Pl.tab a b F).map Value.bool)) :
    Calls Try.prog 29 #[.agg #[.int .i64 a, .int .i64 b, .slice A n c], .int .i64 10] w (RetT (appB a b F false true false true) w) := by
  have hq : appB a b F false true false true = ⟨(a : Nat), (b : Nat), Pl.tab a b fun x y => !F x (b - 1 - y)⟩ := by
    have h2 : appF a b F false true false true = fun x y => !F x (b - 1 - y) := by funext x y; simp [appF]
    exact congrArg (fun f => (⟨(a : Nat), (b : Nat), Pl.tab a b f⟩ : Gd)) h2
  rw [hq]
  clear hq
  have S0 := (((St.start w).addRd hr).box #[.int .i64 a, .int .i64 b, .slice A n c] 24).box #[.int .i64 0, .int .i64 0, .slice none 0 0] 24
  simp only [size_alloc1, List.nil_append, List.cons_append] at S0
  have hR := S0.rd 0 rfl
  have hG := S0.blk 1 rfl
  have hz := S0.blk 2 rfl
  have hB := S0.below
  clear S0 hr
  obtain ⟨c0, c1, c2⟩ := hG.cell3
  go_enter Try.func29, Try.ntmps29
  go_wp2_with fail
  refine (mir1_call a b _ _ _ _ _ ha1 hb1 ha hb hR).mono ?_
  rintro e w1 ⟨A1, n1, cc1, rfl, hown1, hb1⟩
  simp only at hown1 ⊢
  have hG1 := hG.keep hb1
  have hR1 := rd_of_own (own_set3 hown1 hG1 (by decide) (.int .i64 a) (.int .i64 b) (.slice A1 n1 cc1))
  have hB1 := below_set3 (below_then hB hb1) (Nat.le_refl w.heap.size) (.int .i64 a) (.int .i64 b) (.slice A1 n1 cc1)
  have hH1 := hG1.set3 (.int .i64 a) (.int .i64 b) (.slice A1 n1 cc1)
  have hz1 := (hz.keep hb1).far3 (show w.heap.size + 1 ≠ w.heap.size by omega) (.int .i64 a) (.int .i64 b) (.slice A1 n1 cc1)
  clear c0 c1 c2 hG hR hB hz hown1 hb1
  obtain ⟨f0, f1, f2⟩ := hG1.frozen3
  obtain ⟨r0, r1, r2⟩ := hG1.cell3
  obtain ⟨c0, c1, c2⟩ := hH1.cell3
  clear hG1
  have hG := hH1
  have hR := hR1
  have hB := hB1
  have hz := hz1
  clear hH1 hR1 hB1 hz1
  go_wp2_with fail
  refine (not_call a b _ _ _ _ _ ha1 hb1 ha hb hR).mono ?_
  rintro e w2 ⟨A2, n2, cc2, rfl, hown2, hb2⟩
  simp only at hown2 ⊢
  have hG2 := hG.keep hb2
  have hR2 := rd_of_own (own_set3 hown2 hG2 (by decide) (.int .i64 a) (.int .i64 b) (.slice A2 n2 cc2))
  have hB2 := below_set3 (below_then hB hb2) (Nat.le_refl w.heap.size) (.int .i64 a) (.int .i64 b) (.slice A2 n2 cc2)
  have hH2 := hG2.set3 (.int .i64 a) (.int .i64 b) (.slice A2 n2 cc2)
  have hz2 := (hz.keep hb2).far3 (show w.heap.size + 1 ≠ w.heap.size by omega) (.int .i64 a) (.int .i64 b) (.slice A2 n2 cc2)
  clear c0 c1 c2 f0 f1 f2 r0 r1 r2 hG hR hB hz hown2 hb2
  obtain ⟨f0, f1, f2⟩ := hG2.frozen3
  obtain ⟨r0, r1, r2⟩ := hG2.cell3
  obtain ⟨c0, c1, c2⟩ := hH2.cell3
  clear hG2
  have hG := hH2
  have hR := hR2
  have hB := hB2
  have hz := hz2
  clear hH2 hR2 hB2 hz2
  go_wp2_with fail
  refine (twin_call a b _ _ _ _ _ ha hb hR).mono ?_
  rintro e wz ⟨Az, nz, cz, rfl, hownz, hbz⟩
  simp only at hownz ⊢
  have hzz := hz.keep hbz
  have hBz := below_set3 (below_then hB hbz) (show w.heap.size ≤ w.heap.size + 1 by omega) (.int .i64 a) (.int .i64 b) (.slice Az nz cz)
  have hOz := own_base (own_set3 hownz hzz (by decide) (.int .i64 a) (.int .i64 b) (.slice Az nz cz)) hB.size
  clear r0 r1 r2
  obtain ⟨r0, r1, r2⟩ := hzz.cell3
  obtain ⟨s0, s1, s2⟩ := hzz.frozen3
  obtain ⟨q0, q1, q2⟩ := (hzz.set3 (.int .i64 a) (.int .i64 b) (.slice Az nz cz)).cell3
  clear c0 c1 c2 f0 f1 f2 hG hR hB hz hownz hbz hzz
  go_wp2_with fail
  refine bodyPost_ret (v := .agg #[.int .i64 a, .int .i64 b, .slice Az nz cz]) (by simp [results, Try.results29, go_sem, q0, q1, q2]) rfl ?_
  exact ⟨Az, nz, cz, rfl, hOz, hBz⟩

set_option maxHeartbeats 1000000 in
theorem rapplied_11 (a b : Nat) (F : Nat → Nat → Bool) (A : Option Addr) (n c : Nat) (w : World) (ha1 : 1 ≤ a) (hb1 : 1 ≤ b) (ha : a ≤ 64) (hb : b ≤ 64) (hr : Rd w A n ((Pl.tab a b F).map Value.bool)) :
    Calls Try.prog 29 #[.agg #[.int .i64 a, .int .i64 b, .slice A n c], .int .i64 11] w (RetT (appB a b F true true false true) w) := by
  have hq : appB a b F true true false true = ⟨(a : Nat), (b : Nat), Pl.tab a b fun x y => !F (a - 1 - x) (b - 1 - y)⟩ := by
    have h2 : appF a b F true true false true = fun x y => !F (a - 1 - x) (b - 1 - y) := by funext x y; simp [appF]
    exact congrArg (fun f => (⟨(a : Nat), (b : Nat), Pl.tab a b f⟩ : Gd)) h2
  rw [hq]
  clear hq
  have S0 := (((St.start w).addRd hr).box #[.int .i64 a, .int .i64 b, .slice A n c] 24).box #[.int .i64 0, .int .i64 0, .slice none 0 0] 24
  simp only [size_alloc1, List.nil_append, List.cons_append] at S0
  have hR := S0.rd 0 rfl
  have hG := S0.blk 1 rfl
  have hz := S0.blk 2 rfl
  have hB := S0.below
  clear S0 hr
  obtain ⟨c0, c1, c2⟩ := hG.cell3
  go_enter Try.func29, Try.ntmps29
  go_wp2_with fail
  refine (mir0_call a b _ _ _ _ _ ha1 hb1 ha hb hR).mono ?_
  rintro e w1 ⟨A1, n1, cc1, rfl, hown1, hb1⟩
  simp only at hown1 ⊢
  have hG1 := hG.keep hb1
  have hR1 := rd_of_own (own_set3 hown1 hG1 (by decide) (.int .i64 a) (.int .i64 b) (.slice A1 n1 cc1))
  have hB1 := below_set3 (below_then hB hb1) (Nat.le_refl w.heap.size) (.int .i64 a) (.int .i64 b) (.slice A1 n1 cc1)
  have hH1 := hG1.set3 (.int .i64 a) (.int .i64 b) (.slice A1 n1 cc1)
  have hz1 := (hz.keep hb1).far3 (show w.heap.size + 1 ≠ w.heap.size by omega) (.int .i64 a) (.int .i64 b) (.slice A1 n1 cc1)
  clear c0 c1 c2 hG hR hB hz hown1 hb1
  obtain ⟨f0, f1, f2⟩ := hG1.frozen3
  obtain ⟨r0, r1, r2⟩ := hG1.cell3
  obtain ⟨c0, c1, c2⟩ := hH1.cell3
  clear hG1
  have hG := hH1
  have hR := hR1
  have hB := hB1
  have hz := hz1
  clear hH1 hR1 hB1 hz1
  go_wp2_with fail
  refine (mir1_call a b _ _ _ _ _ ha1 hb1 ha hb hR).mono ?_
  rintro e w2 ⟨A2, n2, cc2, rfl, hown2, hb2⟩
  simp only at hown2 ⊢
  have hG2 := hG.keep hb2
  have hR2 := rd_of_own (own_set3 hown2 hG2 (by decide) (.int .i64 a) (.int .i64 b) (.slice A2 n2 cc2))
  have hB2 := below_set3 (below_then hB hb2) (Nat.le_refl w.heap.size) (.int .i64 a) (.int .i64 b) (.slice A2 n2 cc2)
  have hH2 := hG2.set3 (.int .i64 a) (.int .i64 b) (.slice A2 n2 cc2)
  have hz2 := (hz.keep hb2).far3 (show w.heap.size + 1 ≠ w.heap.size by omega) (.int .i64 a) (.int .i64 b) (.slice A2 n2 cc2)
  clear c0 c1 c2 f0 f1 f2 r0 r1 r2 hG hR hB hz hown2 hb2
  obtain ⟨f0, f1, f2⟩ := hG2.frozen3
  obtain ⟨r0, r1, r2⟩ := hG2.cell3
  obtain ⟨c0, c1, c2⟩ := hH2.cell3
  clear hG2
  have hG := hH2
  have hR := hR2
  have hB := hB2
  have hz := hz2
  clear hH2 hR2 hB2 hz2
  go_wp2_with fail
  refine (not_call a b _ _ _ _ _ ha1 hb1 ha hb hR).mono ?_
  rintro e w3 ⟨A3, n3, cc3, rfl, hown3, hb3⟩
  simp only at hown3 ⊢
  have hG3 := hG.keep hb3
  have hR3 := rd_of_own (own_set3 hown3 hG3 (by decide) (.int .i64 a) (.int .i64 b) (.slice A3 n3 cc3))
  have hB3 := below_set3 (below_then hB hb3) (Nat.le_refl w.heap.size) (.int .i64 a) (.int .i64 b) (.slice A3 n3 cc3)
  have hH3 := hG3.set3 (.int .i64 a) (.int .i64 b) (.slice A3 n3 cc3)
  have hz3 := (hz.keep hb3).far3 (show w.heap.size + 1 ≠ w.heap.size by omega) (.int .i64 a) (.int .i64 b) (.slice A3 n3 cc3)
  clear c0 c1 c2 f0 f1 f2 r0 r1 r2 hG hR hB hz hown3 hb3
  obtain ⟨f0, f1, f2⟩ := hG3.frozen3
  obtain ⟨r0, r1, r2⟩ := hG3.cell3
  obtain ⟨c0, c1, c2⟩ := hH3.cell3
  clear hG3
  have hG := hH3
  have hR := hR3
  have hB := hB3
  have hz := hz3
  clear hH3 hR3 hB3 hz3
  go_wp2_with fail
  refine (twin_call a b _ _ _ _ _ ha hb hR).mono ?_
  rintro e wz ⟨Az, nz, cz, rfl, hownz, hbz⟩
  simp only at hownz ⊢
  have hzz := hz.keep hbz
  have hBz := below_set3 (below_then hB hbz) (show w.heap.size ≤ w.heap.size + 1 by omega) (.int .i64 a) (.int .i64 b) (.slice Az nz cz)
  have hOz := own_base (own_set3 hownz hzz (by decide) (.int .i64 a) (.int .i64 b) (.slice Az nz cz)) hB.size
  clear r0 r1 r2
  obtain ⟨r0, r1, r2⟩ := hzz.cell3
  obtain ⟨s0, s1, s2⟩ := hzz.frozen3
  obtain ⟨q0, q1, q2⟩ := (hzz.set3 (.int .i64 a) (.int .i64 b) (.slice Az nz cz)).cell3
  clear c0 c1 c2 f0 f1 f2 hG hR hB hz hownz hbz hzz
  go_wp2_with fail
  refine bodyPost_ret (v := .agg #[.int .i64 a, .int .i64 b, .slice Az nz cz]) (by simp [results, Try.results29, go_sem, q0, q1, q2]) rfl ?_
  exact ⟨Az, nz, cz, rfl, hOz, hBz⟩

set_option maxHeartbeats 1000000 in
theorem rapplied_12 (a b : Nat) (F : Nat → Nat → Bool) (A : Option Addr) (n c : Nat) (w : World) (ha1 : 1 ≤ a) (hb1 : 1 ≤ b) (ha : a ≤ 64) (hb : b ≤ 64) (hr : Rd w A n ((Pl.tab a b F).map Value.bool)) :
    Calls Try.prog 29 #[.agg #[.int .i64 a, .int .i64 b, .slice A n c], .int .i64 12] w (RetT (appB a b F false false true true) w) := by
  have hq : appB a b F false false true true = ⟨(b : Nat), (a : Nat), Pl.tab b a fun x y => !F y x⟩ := by
    have h2 : appF a b F false false true true = fun x y => !F y x := by funext x y; simp [appF]
    exact congrArg (fun f => (⟨(b : Nat), (a : Nat), Pl.tab b a f⟩ : Gd)) h2
  rw [hq]
  clear hq
  have S0 := (((St.start w).addRd hr).box #[.int .i64 a, .int .i64 b, .slice A n c] 24).box #[.int .i64 0, .int .i64 0, .slice none 0 0] 24
  simp only [size_alloc1, List.nil_append, List.cons_append] at S0
  have hR := S0.rd 0 rfl
  have hG := S0.blk 1 rfl
  have hz := S0.blk 2 rfl
  have hB := S0.below
  clear S0 hr
  obtain ⟨c0, c1, c2⟩ := hG.cell3
  go_enter Try.func29, Try.ntmps29
  go_wp2_with fail
  refine (turned_call a b _ _ _ _ _ ha1 hb1 ha hb hR).mono ?_
  rintro e w1 ⟨A1, n1, cc1, rfl, hown1, hb1⟩
  simp only at hown1 ⊢
  have hG1 := hG.keep hb1
  have hR1 := rd_of_own (own_set3 hown1 hG1 (by decide) (.int .i64 b) (.int .i64 a) (.slice A1 n1 cc1))
  have hB1 := below_set3 (below_then hB hb1) (Nat.le_refl w.heap.size) (.int .i64 b) (.int .i64 a) (.slice A1 n1 cc1)
  have hH1 := hG1.set3 (.int .i64 b) (.int .i64 a) (.slice A1 n1 cc1)
  have hz1 := (hz.keep hb1).far3 (show w.heap.size + 1 ≠ w.heap.size by omega) (.int .i64 b) (.int .i64 a) (.slice A1 n1 cc1)
  clear c0 c1 c2 hG hR hB hz hown1 hb1
  obtain ⟨f0, f1, f2⟩ := hG1.frozen3
  obtain ⟨r0, r1, r2⟩ := hG1.cell3
  obtain ⟨c0, c1, c2⟩ := hH1.cell3
  clear hG1
  have hG := hH1
  have hR := hR1
  have hB := hB1
  have hz := hz1
  clear hH1 hR1 hB1 hz1
  go_wp2_with fail
  refine (not_call b a _ _ _ _ _ hb1 ha1 hb ha hR).mono ?_
  rintro e w2 ⟨A2, n2, cc2, rfl, hown2, hb2⟩
  simp only at hown2 ⊢
  have hG2 := hG.keep hb2
  have hR2 := rd_of_own (own_set3 hown2 hG2 (by decide) (.int .i64 b) (.int .i64 a) (.slice A2 n2 cc2))
  have hB2 := below_set3 (below_then hB hb2) (Nat.le_refl w.heap.size) (.int .i64 b) (.int .i64 a) (.slice A2 n2 cc2)
  have hH2 := hG2.set3 (.int .i64 b) (.int .i64 a) (.slice A2 n2 cc2)
  have hz2 := (hz.keep hb2).far3 (show w.heap.size + 1 ≠ w.heap.size by omega) (.int .i64 b) (.int .i64 a) (.slice A2 n2 cc2)
  clear c0 c1 c2 f0 f1 f2 r0 r1 r2 hG hR hB hz hown2 hb2
  obtain ⟨f0, f1, f2⟩ := hG2.frozen3
  obtain ⟨r0, r1, r2⟩ := hG2.cell3
  obtain ⟨c0, c1, c2⟩ := hH2.cell3
  clear hG2
  have hG := hH2
  have hR := hR2
  have hB := hB2
  have hz := hz2
  clear hH2 hR2 hB2 hz2
  go_wp2_with fail
  refine (twin_call b a _ _ _ _ _ hb ha hR).mono ?_
  rintro e wz ⟨Az, nz, cz, rfl, hownz, hbz⟩
  simp only at hownz ⊢
  have hzz := hz.keep hbz
  have hBz := below_set3 (below_then hB hbz) (show w.heap.size ≤ w.heap.size + 1 by omega) (.int .i64 b) (.int .i64 a) (.slice Az nz cz)
  have hOz := own_base (own_set3 hownz hzz (by decide) (.int .i64 b) (.int .i64 a) (.slice Az nz cz)) hB.size
  clear r0 r1 r2
  obtain ⟨r0, r1, r2⟩ := hzz.cell3
  obtain ⟨s0, s1, s2⟩ := hzz.frozen3
  obtain ⟨q0, q1, q2⟩ := (hzz.set3 (.int .i64 b) (.int .i64 a) (.slice Az nz cz)).cell3
  clear c0 c1 c2 f0 f1 f2 hG hR hB hz hownz hbz hzz
  go_wp2_with fail
  refine bodyPost_ret (v := .agg #[.int .i64 b, .int .i64 a, .slice Az nz cz]) (by simp [results, Try.results29, go_sem, q0, q1, q2]) rfl ?_
  exact ⟨Az, nz, cz, rfl, hOz, hBz⟩

set_option maxHeartbeats 1000000 in
theorem rapplied_13 (a b : Nat) (F : Nat → Nat → Bool) (A : Option Addr) (n c : Nat) (w : World) (ha1 : 1 ≤ a) (hb1 : 1 ≤ b) (ha : a ≤ 64) (hb : b ≤ 64) (hr : Rd w A n ((Pl.tab a b F).map Value.bool)) :
    Calls Try.prog 29 #[.agg #[.int .i64 a, .int .i64 b, .slice A n c], .int .i64 13] w (RetT (appB a b F true false true true) w) := by
  have hq : appB a b F true false true true = ⟨(b : Nat), (a : Nat), Pl.tab b a fun x y => !F (a - 1 - y) x⟩ := by
    have h2 : appF a b F true false true true = fun x y => !F (a - 1 - y) x := by funext x y; simp [appF]
    exact congrArg (fun f => (⟨(b : Nat), (a : Nat), Pl.tab b a f⟩ : Gd)) h2
  rw [hq]
  clear hq
  have S0 := (((St.start w).addRd hr).box #[.int .i64 a, .int .i64 b, .slice A n c] 24).box #[.int .i64 0, .int .i64 0, .slice none 0 0] 24
  simp only [size_alloc1, List.nil_append, List.cons_append] at S0
  have hR := S0.rd 0 rfl
  have hG := S0.blk 1 rfl
  have hz := S0.blk 2 rfl
  have hB := S0.below
  clear S0 hr
  obtain ⟨c0, c1, c2⟩ := hG.cell3
  go_enter Try.func29, Try.ntmps29
  go_wp2_with fail
  refine (mir0_call a b _ _ _ _ _ ha1 hb1 ha hb hR).mono ?_
  rintro e w1 ⟨A1, n1, cc1, rfl, hown1, hb1⟩
  simp only at hown1 ⊢
  have hG1 := hG.keep hb1
  have hR1 := rd_of_own (own_set3 hown1 hG1 (by decide) (.int .i64 a) (.int .i64 b) (.slice A1 n1 cc1))
  have hB1 := below_set3 (below_then hB hb1) (Nat.le_refl w.heap.size) (.int .i64 a) (.int .i64 b) (.slice A1 n1 cc1)
  have hH1 := hG1.set3 (.int .i64 a) (.int .i64 b) (.slice A1 n1 cc1)
  have hz1 := (hz.keep hb1).far3 (show w.heap.size + 1 ≠ w.heap.size by omega) (.int .i64 a) (.int .i64 b) (.slice A1 n1 cc1)
  clear c0 c1 c2 hG hR hB hz hown1 hb1
  obtain ⟨f0, f1, f2⟩ := hG1.frozen3
  obtain ⟨r0, r1, r2⟩ := hG1.cell3
  obtain ⟨c0, c1, c2⟩ := hH1.cell3
  clear hG1
  have hG := hH1
  have hR := hR1
  have hB := hB1
  have hz := hz1
  clear hH1 hR1 hB1 hz1
  go_wp2_with fail
  refine (turned_call a b _ _ _ _ _ ha1 hb1 ha hb hR).mono ?_
  rintro e w2 ⟨A2, n2, cc2, rfl, hown2, hb2⟩
  simp only at hown2 ⊢
  have hG2 := hG.keep hb2
  have hR2 := rd_of_own (own_set3 hown2 hG2 (by decide) (.int .i64 b) (.int .i64 a) (.slice A2 n2 cc2))
  have hB2 := below_set3 (below_then hB hb2) (Nat.le_refl w.heap.size) (.int .i64 b) (.int .i64 a) (.slice A2 n2 cc2)
  have hH2 := hG2.set3 (.int .i64 b) (.int .i64 a) (.slice A2 n2 cc2)
  have hz2 := (hz.keep hb2).far3 (show w.heap.size + 1 ≠ w.heap.size by omega) (.int .i64 b) (.int .i64 a) (.slice A2 n2 cc2)
  clear c0 c1 c2 f0 f1 f2 r0 r1 r2 hG hR hB hz hown2 hb2
  obtain ⟨f0, f1, f2⟩ := hG2.frozen3
  obtain ⟨r0, r1, r2⟩ := hG2.cell3
  obtain ⟨c0, c1, c2⟩ := hH2.cell3
  clear hG2
  have hG := hH2
  have hR := hR2
  have hB := hB2
  have hz := hz2
  clear hH2 hR2 hB2 hz2
  go_wp2_with fail
  refine (not_call b a _ _ _ _ _ hb1 ha1 hb ha hR).mono ?_
  rintro e w3 ⟨A3, n3, cc3, rfl, hown3, hb3⟩
  simp only at hown3 ⊢
  have hG3 := hG.keep hb3
  have hR3 := rd_of_own (own_set3 hown3 hG3 (by decide) (.int .i64 b) (.int .i64 a) (.slice A3 n3 cc3))
  have hB3 := below_set3 (below_then hB hb3) (Nat.le_refl w.heap.size) (.int .i64 b) (.int .i64 a) (.slice A3 n3 cc3)
  have hH3 := hG3.set3 (.int .i64 b) (.int .i64 a) (.slice A3 n3 cc3)
  have hz3 := (hz.keep hb3).far3 (show w.heap.size + 1 ≠ w.heap.size by omega) (.int .i64 b) (.int .i64 a) (.slice A3 n3 cc3)
  clear c0 c1 c2 f0 f1 f2 r0 r1 r2 hG hR hB hz hown3 hb3
  obtain ⟨f0, f1, f2⟩ := hG3.frozen3
  obtain ⟨r0, r1, r2⟩ := hG3.cell3
  obtain ⟨c0, c1, c2⟩ := hH3.cell3
  clear hG3
  have hG := hH3
  have hR := hR3
  have hB := hB3
  have hz := hz3
  clear hH3 hR3 hB3 hz3
  go_wp2_with fail
  refine (twin_call b a _ _ _ _ _ hb ha hR).mono ?_
  rintro e wz ⟨Az, nz, cz, rfl, hownz, hbz⟩
  simp only at hownz ⊢
  have hzz := hz.keep hbz
  have hBz := below_set3 (below_then hB hbz) (show w.heap.size ≤ w.heap.size + 1 by omega) (.int .i64 b) (.int .i64 a) (.slice Az nz cz)
  have hOz := own_base (own_set3 hownz hzz (by decide) (.int .i64 b) (.int .i64 a) (.slice Az nz cz)) hB.size
  clear r0 r1 r2
  obtain ⟨r0, r1, r2⟩ := hzz.cell3
  obtain ⟨s0, s1, s2⟩ := hzz.frozen3
  obtain ⟨q0, q1, q2⟩ := (hzz.set3 (.int .i64 b) (.int .i64 a) (.slice Az nz cz)).cell3
  clear c0 c1 c2 f0 f1 f2 hG hR hB hz hownz hbz hzz
  go_wp2_with fail
  refine bodyPost_ret (v := .agg #[.int .i64 b, .int .i64 a, .slice Az nz cz]) (by simp [results, Try.results29, go_sem, q0, q1, q2]) rfl ?_
  exact ⟨Az, nz, cz, rfl, hOz, hBz⟩

set_option maxHeartbeats 1000000 in
theorem rapplied_14 (a b : Nat) (F : Nat → Nat → Bool) (A : Option Addr) (n c : Nat) (w : World) (ha1 : 1 ≤ a) (hb1 : 1 ≤ b) (ha : a ≤ 64) (hb : b ≤ 64) (hr : Rd w A n ((Pl.tab a b F).map Value.bool)) :
    Calls Try.prog 29 #[.agg #[.int .i64 a, .int .i64 b, .slice A n c], .int .i64 14] w (RetT (appB a b F false true true true) w) := by
  have hq : appB a b F false true true true = ⟨(b : Nat), (a : Nat), Pl.tab b a fun x y => !F y (b - 1 - x)⟩ := by
    have h2 : appF a b F false true true true = fun x y => !F y (b - 1 - x) := by funext x y; simp [appF]
    exact congrArg (fun f => (⟨(b : Nat), (a : Nat), Pl.tab b a f⟩ : Gd)) h2
  rw [hq]
  clear hq
  have S0 := (((St.start w).addRd hr).box #[.int .i64 a, .int .i64 b, .slice A n c] 24).box #[.int .i64 0, .int .i64 0, .slice none 0 0] 24
  simp only [size_alloc1, List.nil_append, List.cons_append] at S0
  have hR := S0.rd 0 rfl
  have hG := S0.blk 1 rfl
  have hz := S0.blk 2 rfl
  have hB := S0.below
  clear S0 hr
  obtain ⟨c0, c1, c2⟩ := hG.cell3
  go_enter Try.func29, Try.ntmps29
  go_wp2_with fail
  refine (mir1_call a b _ _ _ _ _ ha1 hb1 ha hb hR).mono ?_
  rintro e w1 ⟨A1, n1, cc1, rfl, hown1, hb1⟩
  simp only at hown1 ⊢
  have hG1 := hG.keep hb1
  have hR1 := rd_of_own (own_set3 hown1 hG1 (by decide) (.int .i64 a) (.int .i64 b) (.slice A1 n1 cc1))
  have hB1 := below_set3 (below_then hB hb1) (Nat.le_refl w.heap.size) (.int .i64 a) (.int .i64 b) (.slice A1 n1 cc1)
  have hH1 := hG1.set3 (.int .i64 a) (.int .i64 b) (.slice A1 n1 cc1)
  have hz1 := (hz.keep hb1).far3 (show w.heap.size + 1 ≠ w.heap.size by omega) (.int .i64 a) (.int .i64 b) (.slice A1 n1 cc1)
  clear c0 c1 c2 hG hR hB hz hown1 hb1
  obtain ⟨f0, f1, f2⟩ := hG1.frozen3
  obtain ⟨r0, r1, r2⟩ := hG1.cell3
  obtain ⟨c0, c1, c2⟩ := hH1.cell3
  clear hG1
  have hG := hH1
  have hR := hR1
  have hB := hB1
  have hz := hz1
  clear hH1 hR1 hB1 hz1
  go_wp2_with fail
  refine (turned_call a b _ _ _ _ _ ha1 hb1 ha hb hR).mono ?_
  rintro e w2 ⟨A2, n2, cc2, rfl, hown2, hb2⟩
  simp only at hown2 ⊢
  have hG2 := hG.keep hb2
  have hR2 := rd_of_own (own_set3 hown2 hG2 (by decide) (.int .i64 b) (.int .i64 a) (.slice A2 n2 cc2))
  have hB2 := below_set3 (below_then hB hb2) (Nat.le_refl w.heap.size) (.int .i64 b) (.int .i64 a) (.slice A2 n2 cc2)
  have hH2 := hG2.set3 (.int .i64 b) (.int .i64 a) (.slice A2 n2 cc2)
  have hz2 := (hz.keep hb2).far3 (show w.heap.size + 1 ≠ w.heap.size by omega) (.int .i64 b) (.int .i64 a) (.slice A2 n2 cc2)
  clear c0 c1 c2 f0 f1 f2 r0 r1 r2 hG hR hB hz hown2 hb2
  obtain ⟨f0, f1, f2⟩ := hG2.frozen3
  obtain ⟨r0, r1, r2⟩ := hG2.cell3
  obtain ⟨c0, c1, c2⟩ := hH2.cell3
  clear hG2
  have hG := hH2
  have hR := hR2
  have hB := hB2
  have hz := hz2
  clear hH2 hR2 hB2 hz2
  go_wp2_with fail
  refine (not_call b a _ _ _ _ _ hb1 ha1 hb ha hR).mono ?_
  rintro e w3 ⟨A3, n3, cc3, rfl, hown3, hb3⟩
  simp only at hown3 ⊢
  have hG3 := hG.keep hb3
  have hR3 := rd_of_own (own_set3 hown3 hG3 (by decide) (.int .i64 b) (.int .i64 a) (.slice A3 n3 cc3))
  have hB3 := below_set3 (below_then hB hb3) (Nat.le_refl w.heap.size) (.int .i64 b) (.int .i64 a) (.slice A3 n3 cc3)
  have hH3 := hG3.set3 (.int .i64 b) (.int .i64 a) (.slice A3 n3 cc3)
  have hz3 := (hz.keep hb3).far3 (show w.heap.size + 1 ≠ w.heap.size by omega) (.int .i64 b) (.int .i64 a) (.slice A3 n3 cc3)
  clear c0 c1 c2 f0 f1 f2 r0 r1 r2 hG hR hB hz hown3 hb3
  obtain ⟨f0, f1, f2⟩ := hG3.frozen3
  obtain ⟨r0, r1, r2⟩ := hG3.cell3
  obtain ⟨c0, c1, c2⟩ := hH3.cell3
  clear hG3
  have hG := hH3
  have hR := hR3
  have hB := hB3
  have hz := hz3
  clear hH3 hR3 hB3 hz3
  go_wp2_with fail
  refine (twin_call b a _ _ _ _ _ hb ha hR).mono ?_
  rintro e wz ⟨Az, nz, cz, rfl, hownz, hbz⟩
  simp only at hownz ⊢
  have hzz := hz.keep hbz
  have hBz := below_set3 (below_then hB hbz) (show w.heap.size ≤ w.heap.size + 1 by omega) (.int .i64 b) (.int .i64 a) (.slice Az nz cz)
  have hOz := own_base (own_set3 hownz hzz (by decide) (.int .i64 b) (.int .i64 a) (.slice Az nz cz)) hB.size
  clear r0 r1 r2
  obtain ⟨r0, r1, r2⟩ := hzz.cell3
  obtain ⟨s0, s1, s2⟩ := hzz.frozen3
  obtain ⟨q0, q1, q2⟩ := (hzz.set3 (.int .i64 b) (.int .i64 a) (.slice Az nz cz)).cell3
  clear c0 c1 c2 f0 f1 f2 hG hR hB hz hownz hbz hzz
  go_wp2_with fail
  refine bodyPost_ret (v := .agg #[.int .i64 b, .int .i64 a, .slice Az nz cz]) (by simp [results, Try.results29, go_sem, q0, q1, q2]) rfl ?_
  exact ⟨Az, nz, cz, rfl, hOz, hBz⟩

set_option maxHeartbeats 1000000 in
theorem rapplied_15 (a b : Nat) (F : Nat → Nat → Bool) (A : Option Addr) (n c : Nat) (w : World) (ha1 : 1 ≤ a) (hb1 : 1 ≤ b) (ha : a ≤ 64) (hb : b ≤ 64) (hr : Rd w A n ((Pl.tab a b F).map Value.bool)) :
    Calls Try.prog 29 #[.agg #[.int .i64 a, .int .i64 b, .slice A n c], .int .i64 15] w (RetT (appB a b F true true true true) w) := by
  have hq : appB a b F true true true true = ⟨(b : Nat), (a : Nat), Pl.tab b a fun x y => !F (a - 1 - y) (b - 1 - x)⟩ := by
    have h2 : appF a b F true true true true = fun x y => !F (a - 1 - y) (b - 1 - x) := by funext x y; simp [appF]
    exact congrArg (fun f => (⟨(b : Nat), (a : Nat), Pl.tab b a f⟩ : Gd)) h2
  rw [hq]
  clear hq
  have S0 := (((St.start w).addRd hr).box #[.int .i64 a, .int .i64 b, .slice A n c] 24).box #[.int .i64 0, .int .i64 0, .slice none 0 0] 24
  simp only [size_alloc1, List.nil_append, List.cons_append] at S0
  have hR := S0.rd 0 rfl
  have hG := S0.blk 1 rfl
  have hz := S0.blk 2 rfl
  have hB := S0.below
  clear S0 hr
  obtain ⟨c0, c1, c2⟩ := hG.cell3
  go_enter Try.func29, Try.ntmps29
  go_wp2_with fail
  refine (mir0_call a b _ _ _ _ _ ha1 hb1 ha hb hR).mono ?_
  rintro e w1 ⟨A1, n1, cc1, rfl, hown1, hb1⟩
  simp only at hown1 ⊢
  have hG1 := hG.keep hb1
  have hR1 := rd_of_own (own_set3 hown1 hG1 (by decide) (.int .i64 a) (.int .i64 b) (.slice A1 n1 cc1))
  have hB1 := below_set3 (below_then hB hb1) (Nat.le_refl w.heap.size) (.int .i64 a) (.int .i64 b) (.slice A1 n1 cc1)
  have hH1 := hG1.set3 (.int .i64 a) (.int .i64 b) (.slice A1 n1 cc1)
  have hz1 := (hz.keep hb1).far3 (show w.heap.size + 1 ≠ w.heap.size by omega) (.int .i64 a) (.int .i64 b) (.slice A1 n1 cc1)
  clear c0 c1 c2 hG hR hB hz hown1 hb1
  obtain ⟨f0, f1, f2⟩ := hG1.frozen3
  obtain ⟨r0, r1, r2⟩ := hG1.cell3
  obtain ⟨c0, c1, c2⟩ := hH1.cell3
  clear hG1
  have hG := hH1
  have hR := hR1
  have hB := hB1
  have hz := hz1
  clear hH1 hR1 hB1 hz1
  go_wp2_with fail
  refine (mir1_call a b _ _ _ _ _ ha1 hb1 ha hb hR).mono ?_
  rintro e w2 ⟨A2, n2, cc2, rfl, hown2, hb2⟩
  simp only at hown2 ⊢
  have hG2 := hG.keep hb2
  have hR2 := rd_of_own (own_set3 hown2 hG2 (by decide) (.int .i64 a) (.int .i64 b) (.slice A2 n2 cc2))
  have hB2 := below_set3 (below_then hB hb2) (Nat.le_refl w.heap.size) (.int .i64 a) (.int .i64 b) (.slice A2 n2 cc2)
  have hH2 := hG2.set3 (.int .i64 a) (.int .i64 b) (.slice A2 n2 cc2)
  have hz2 := (hz.keep hb2).far3 (show w.heap.size + 1 ≠ w.heap.size by omega) (.int .i64 a) (.int .i64 b) (.slice A2 n2 cc2)
  clear c0 c1 c2 f0 f1 f2 r0 r1 r2 hG hR hB hz hown2 hb2
  obtain ⟨f0, f1, f2⟩ := hG2.frozen3
  obtain ⟨r0, r1, r2⟩ := hG2.cell3
  obtain ⟨c0, c1, c2⟩ := hH2.cell3
  clear hG2
  have hG := hH2
  have hR := hR2
  have hB := hB2
  have hz := hz2
  clear hH2 hR2 hB2 hz2
  go_wp2_with fail
  refine (turned_call a b _ _ _ _ _ ha1 hb1 ha hb hR).mono ?_
  rintro e w3 ⟨A3, n3, cc3, rfl, hown3, hb3⟩
  simp only at hown3 ⊢
  have hG3 := hG.keep hb3
  have hR3 := rd_of_own (own_set3 hown3 hG3 (by decide) (.int .i64 b) (.int .i64 a) (.slice A3 n3 cc3))
  have hB3 := below_set3 (below_then hB hb3) (Nat.le_refl w.heap.size) (.int .i64 b) (.int .i64 a) (.slice A3 n3 cc3)
  have hH3 := hG3.set3 (.int .i64 b) (.int .i64 a) (.slice A3 n3 cc3)
  have hz3 := (hz.keep hb3).far3 (show w.heap.size + 1 ≠ w.heap.size by omega) (.int .i64 b) (.int .i64 a) (.slice A3 n3 cc3)
  clear c0 c1 c2 f0 f1 f2 r0 r1 r2 hG hR hB hz hown3 hb3
  obtain ⟨f0, f1, f2⟩ := hG3.frozen3
  obtain ⟨r0, r1, r2⟩ := hG3.cell3
  obtain ⟨c0, c1, c2⟩ := hH3.cell3
  clear hG3
  have hG := hH3
  have hR := hR3
  have hB := hB3
  have hz := hz3
  clear hH3 hR3 hB3 hz3
  go_wp2_with fail
  refine (not_call b a _ _ _ _ _ hb1 ha1 hb ha hR).mono ?_
  rintro e w4 ⟨A4, n4, cc4, rfl, hown4, hb4⟩
  simp only at hown4 ⊢
  have hG4 := hG.keep hb4
  have hR4 := rd_of_own (own_set3 hown4 hG4 (by decide) (.int .i64 b) (.int .i64 a) (.slice A4 n4 cc4))
  have hB4 := below_set3 (below_then hB hb4) (Nat.le_refl w.heap.size) (.int .i64 b) (.int .i64 a) (.slice A4 n4 cc4)
  have hH4 := hG4.set3 (.int .i64 b) (.int .i64 a) (.slice A4 n4 cc4)
  have hz4 := (hz.keep hb4).far3 (show w.heap.size + 1 ≠ w.heap.size by omega) (.int .i64 b) (.int .i64 a) (.slice A4 n4 cc4)
  clear c0 c1 c2 f0 f1 f2 r0 r1 r2 hG hR hB hz hown4 hb4
  obtain ⟨f0, f1, f2⟩ := hG4.frozen3
  obtain ⟨r0, r1, r2⟩ := hG4.cell3
  obtain ⟨c0, c1, c2⟩ := hH4.cell3
  clear hG4
  have hG := hH4
  have hR := hR4
  have hB := hB4
  have hz := hz4
  clear hH4 hR4 hB4 hz4
  go_wp2_with fail
  refine (twin_call b a _ _ _ _ _ hb ha hR).mono ?_
  rintro e wz ⟨Az, nz, cz, rfl, hownz, hbz⟩
  simp only at hownz ⊢
  have hzz := hz.keep hbz
  have hBz := below_set3 (below_then hB hbz) (show w.heap.size ≤ w.heap.size + 1 by omega) (.int .i64 b) (.int .i64 a) (.slice Az nz cz)
  have hOz := own_base (own_set3 hownz hzz (by decide) (.int .i64 b) (.int .i64 a) (.slice Az nz cz)) hB.size
  clear r0 r1 r2
  obtain ⟨r0, r1, r2⟩ := hzz.cell3
  obtain ⟨s0, s1, s2⟩ := hzz.frozen3
  obtain ⟨q0, q1, q2⟩ := (hzz.set3 (.int .i64 b) (.int .i64 a) (.slice Az nz cz)).cell3
  clear c0 c1 c2 f0 f1 f2 hG hR hB hz hownz hbz hzz
  go_wp2_with fail
  refine bodyPost_ret (v := .agg #[.int .i64 b, .int .i64 a, .slice Az nz cz]) (by simp [results, Try.results29, go_sem, q0, q1, q2]) rfl ?_
  exact ⟨Az, nz, cz, rfl, hOz, hBz⟩

theorem rapplied_any (a b op : Nat) (bs : List Bool) (A : Option Addr) (c : Nat) (w : World) (ha1 : 1 ≤ a) (hb1 : 1 ≤ b) (ha : a ≤ 64) (hb : b ≤ 64) (ho : op < 16) (hr : Rd w A (b * a) (bs.map Value.bool)) :
    Calls Try.prog 29 #[.agg #[.int .i64 a, .int .i64 b, .slice A (b * a) c], .int .i64 op] w (RetT (appG a b bs op) w) := by
  have hl : bs.length = b * a := by simpa using hr.len
  unfold appG
  generalize hF : cellF a bs = F
  rw [cell_tab hl, hF] at hr
  clear hF hl
  match op, ho with
  | 0, _ => exact rapplied_0 a b F A (b * a) c w ha1 hb1 ha hb hr
  | 1, _ => exact rapplied_1 a b F A (b * a) c w ha1 hb1 ha hb hr
  | 2, _ => exact rapplied_2 a b F A (b * a) c w ha1 hb1 ha hb hr
  | 3, _ => exact rapplied_3 a b F A (b * a) c w ha1 hb1 ha hb hr
  | 4, _ => exact rapplied_4 a b F A (b * a) c w ha1 hb1 ha hb hr
  | 5, _ => exact rapplied_5 a b F A (b * a) c w ha1 hb1 ha hb hr
  | 6, _ => exact rapplied_6 a b F A (b * a) c w ha1 hb1 ha hb hr
  | 7, _ => exact rapplied_7 a b F A (b * a) c w ha1 hb1 ha hb hr
  | 8, _ => exact rapplied_8 a b F A (b * a) c w ha1 hb1 ha hb hr
  | 9, _ => exact rapplied_9 a b F A (b * a) c w ha1 hb1 ha hb hr
  | 10, _ => exact rapplied_10 a b F A (b * a) c w ha1 hb1 ha hb hr
  | 11, _ => exact rapplied_11 a b F A (b * a) c w ha1 hb1 ha hb hr
  | 12, _ => exact rapplied_12 a b F A (b * a) c w ha1 hb1 ha hb hr
  | 13, _ => exact rapplied_13 a b F A (b * a) c w ha1 hb1 ha hb hr
  | 14, _ => exact rapplied_14 a b F A (b * a) c w ha1 hb1 ha hb hr
  | 15, _ => exact rapplied_15 a b F A (b * a) c w ha1 hb1 ha hb hr
  | k + 16, h => exact absurd h (by omega)
end Go.Proofs.Ytliibficmdomjaa
