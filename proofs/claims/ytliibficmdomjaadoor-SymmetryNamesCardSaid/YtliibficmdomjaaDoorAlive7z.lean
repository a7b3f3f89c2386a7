/- The examples of layer 7 hold. -/
import Derived.Test.YtliibficmdomjaaDoorMg17z
import Derived.Test.YtliibficmdomjaaDoorMg14z
import Derived.Test.YtliibficmdomjaaDoorLSamez
import Derived.Test.YtliibficmdomjaaDoorMg8z
import Derived.Test.YtliibficmdomjaaDoorParsez
namespace Go.Proofs.YtliibficmdomjaaDoor
open Go.RowKit

theorem rd_of_blk {w : World} {g : Nat} {t : TypeId} {cs : Array Value} (h : Blk w g t cs) : Rd w (some ⟨g, 0, none⟩) cs.size cs.toList := by
  refine ⟨by simp, fun _ => ⟨g, 0, rfl, fun j u hj => ?_⟩⟩
  rw [Nat.zero_add, h.cell j]
  simpa using hj
theorem parse_to (s : List UInt8) (r : Gd × Int) (w : World) (hs : s.length ≤ 1048576) (h : parseG s = r) : Calls Tryd.prog 44 #[str s] w (RetG r w) := h ▸ parse_any s w hs
theorem pg_of {s : List UInt8} {r : Gd × Int} (h : (sameG (parseG s).1 r.1 && decide ((parseG s).2 = r.2)) = true) : parseG s = r := by
  rw [Bool.and_eq_true, sameG_iff, decide_eq_true_eq] at h
  exact Prod.ext h.1 h.2

set_option maxHeartbeats 1000000 in
set_option maxRecDepth 100000 in
theorem cloth_to (s : List UInt8) (g : Gd) (k : Int) (hs : s.length ≤ 1048576) (h : parseG s = (g, k)) (w : World) : Calls Tryd.prog 24 #[str s] w (RetT g w) := by
  have HP := Lib.hid (fun W => parse_to s (g, k) W hs h)
  clear h hs
  have S0 := (St.start w).box #[.int .i64 0, .int .i64 0, .slice none 0 0] 24
  simp only [List.nil_append] at S0
  go_enter Tryd.func24, Tryd.ntmps24
  go_wp2_with fail
  refine (HP.out _).mono ?_
  rintro e w1 ⟨A1, n1, c1, rfl, hown1, hb1⟩
  simp only at hown1 ⊢
  have S1 := S0.keep hb1
  have S2 := S1.box #[.int .i64 g.w, .int .i64 g.h, .slice A1 n1 c1] 24
  have hR := S2.blk 0 rfl
  have hO1 := hown1.alloc (.cells #[.int .i64 g.w, .int .i64 g.h, .slice A1 n1 c1] 24)
  obtain ⟨r0, r1, r2⟩ := hR.cell3
  obtain ⟨f0, f1, f2⟩ := hR.frozen3
  have hB2 := below_set3 S2.below (Nat.le_refl _) (.int .i64 g.w) (.int .i64 g.h) (.slice A1 n1 c1)
  have hO2 := own_set3 hO1 hR (by decide) (.int .i64 g.w) (.int .i64 g.h) (.slice A1 n1 c1)
  obtain ⟨q0, q1, q2⟩ := (hR.set3 (.int .i64 g.w) (.int .i64 g.h) (.slice A1 n1 c1)).cell3
  go_wp2_with fail
  refine bodyPost_ret (v := .agg #[.int .i64 g.w, .int .i64 g.h, .slice A1 n1 c1]) (by simp [results, Tryd.results24, go_sem, q0, q1, q2]) rfl ?_
  exact ⟨A1, n1, c1, rfl, own_base hO2 (by simp), hB2⟩


theorem twill_to (w : World) : Calls Tryd.prog 25 #[] w (RetT twG w) := by
  have HP := Lib.hid (fun W => cloth_to twT twG 0 (by decide) tw_p W)
  unfold twT at HP
  generalize twG = g1 at *
  have S0 := (St.start w).box #[.int .i64 0, .int .i64 0, .slice none 0 0] 24
  simp only [List.nil_append] at S0
  go_enter Tryd.func25, Tryd.ntmps25
  go_wp2_with fail
  refine (HP.out _).mono ?_
  rintro e w1 ⟨A1, n1, c1, rfl, hown1, hb1⟩
  simp only at hown1 ⊢
  have S1 := S0.keep hb1
  have hR := S1.blk 0 rfl
  obtain ⟨r0, r1, r2⟩ := hR.cell3
  obtain ⟨f0, f1, f2⟩ := hR.frozen3
  have hB2 := below_set3 S1.below (Nat.le_refl _) (.int .i64 g1.w) (.int .i64 g1.h) (.slice A1 n1 c1)
  have hO2 := own_set3 hown1 hR (by decide) (.int .i64 g1.w) (.int .i64 g1.h) (.slice A1 n1 c1)
  obtain ⟨q0, q1, q2⟩ := (hR.set3 (.int .i64 g1.w) (.int .i64 g1.h) (.slice A1 n1 c1)).cell3
  go_wp2_with fail
  refine bodyPost_ret (v := .agg #[.int .i64 g1.w, .int .i64 g1.h, .slice A1 n1 c1]) (by simp [results, Tryd.results25, go_sem, q0, q1, q2]) rfl ?_
  exact ⟨A1, n1, c1, rfl, own_base hO2 (by simp), hB2⟩


set_option linter.unusedSimpArgs false in
set_option maxHeartbeats 4000000 in
set_option maxRecDepth 100000 in
theorem alive_any (w : World) : Calls Tryd.prog 10 #[] w fun e w' => e = .returned (.bool true) ∧ Below w.heap.size w w' := by
  have KCck := Lib.hid (fun W => cloth_to ckT ckG 0 (by decide) ck_p W)
  unfold ckT at KCck
  have KCfu := Lib.hid (fun W => cloth_to fuT fuG 0 (by decide) fu_p W)
  unfold fuT at KCfu
  have KCdo := Lib.hid (fun W => cloth_to doT doG 0 (by decide) do_p W)
  unfold doT at KCdo
  have KTW := Lib.hid (fun W => twill_to W)
  have KA1 := Lib.hid (fun A n c W hr hc => all_to ckG ck_s ck_l A n c W hr hc)
  have KA2 := Lib.hid (fun A n c W hr hc => all_to twG tw_s tw_l A n c W hr hc)
  have KL := Lib.hid (fun A n c W hr hc => least_to (o := 8) fuG fu_l rfl A n c W hr hc)
  have KO1 := Lib.hid (fun W => compose_to 1 4 (k := 5) (by decide) (by decide) (by decide) W)
  have KO2 := Lib.hid (fun W => compose_to 4 1 (k := 6) (by decide) (by decide) (by decide) W)
  have KI := Lib.hid (fun W => inverse_to 5 (k := 6) (by decide) (by decide) W)
  have KS := Lib.hid (fun A A2 n c n2 c2 W h h2 => same_self doG (by decide) A A2 n c n2 c2 W h h2)
  have KLS := Lib.hid (fun A A' n' c c' W h h' => lsame_any [0, 3, 4, 7, 8, 11, 12, 15] A A' 8 n' c c' W h h' (by decide))
  generalize ckG = qck at *
  generalize twG = qtw at *
  generalize fuG = qfu at *
  generalize doG = qdo at *
  have S0 := St.start w
  go_enter Tryd.func10, Tryd.ntmps10
  go_wp2_with fail
  refine (KCck.out _).mono ?_
  rintro e w1 ⟨A1, n1, cc1, rfl, hown1, hb1⟩
  have hc1 := own_le hown1
  have S1 := ((S0.keep hb1).addRd (rd_of_own hown1))
  simp only [List.nil_append, List.cons_append] at S1
  clear hown1
  go_wp2_with fail
  refine (KA1.out _ _ _ _ (S1.rd 0 rfl) hc1).mono ?_
  rintro e w2 ⟨A2, n2, cc2, rfl, hown2, hb2⟩
  obtain rfl : n2 = 16 := by have := hown2.1; simp at this; omega
  have hc2 := own_le hown2
  have S2 := (S1.keep hb2).addRd (rd_of_own hown2)
  simp only [List.nil_append, List.cons_append] at S2
  clear S1 hown2
  go_wp2_with fail
  refine (KTW.out _).mono ?_
  rintro e w3 ⟨A3, n3, cc3, rfl, hown3, hb3⟩
  have hc3 := own_le hown3
  have S3 := ((S2.keep hb3).addRd (rd_of_own hown3))
  simp only [List.nil_append, List.cons_append] at S3
  clear S2 hown3
  go_wp2_with fail
  refine (KA2.out _ _ _ _ (S3.rd 2 rfl) hc3).mono ?_
  rintro e w4 ⟨A4, n4, cc4, rfl, hown4, hb4⟩
  obtain rfl : n4 = 8 := by have := hown4.1; simp at this; omega
  have hc4 := own_le hown4
  have S4 := (S3.keep hb4).addRd (rd_of_own hown4)
  simp only [List.nil_append, List.cons_append] at S4
  clear S3 hown4
  go_wp2_with fail
  refine (KO1.out _).mono ?_
  rintro e w5 ⟨rfl, hb5⟩
  have S5 := S4.keep hb5
  clear S4
  go_wp2_with fail
  refine (KO2.out _).mono ?_
  rintro e w6 ⟨rfl, hb6⟩
  have S6 := S5.keep hb6
  clear S5
  go_wp2_with fail
  refine (KI.out _).mono ?_
  rintro e w7 ⟨rfl, hb7⟩
  have S7 := S6.keep hb7
  clear S6
  go_wp2_with fail
  refine (KCfu.out _).mono ?_
  rintro e w8 ⟨A8, n8, cc8, rfl, hown8, hb8⟩
  have hc8 := own_le hown8
  have S8 := ((S7.keep hb8).addRd (rd_of_own hown8))
  simp only [List.nil_append, List.cons_append] at S8
  clear S7 hown8
  go_wp2_with fail
  refine (KL.out _ _ _ _ (S8.rd 4 rfl) hc8).mono ?_
  rintro e w9 ⟨A9, n9, cc9, rfl, hown9, hb9⟩
  try simp only at hown9 ⊢
  have hc9 := own_le hown9
  have S9 := ((S8.keep hb9).addRd (rd_of_own hown9)).box #[.int .i64 qdo.w, .int .i64 qdo.h, .slice A9 n9 cc9] 24
  simp only [List.nil_append, List.cons_append] at S9
  clear S8 hown9
  go_wp2_with fail
  have SD := S9.drew
  refine wp_region_held_drew (S := (fun w' => w'.cell? ⟨w9.heap.size, 0, none⟩ = some (.int .i64 qdo.w) ∧ w'.cell? ⟨w9.heap.size, 1, none⟩ = some (.int .i64 qdo.h) ∧ w'.cell? ⟨w9.heap.size, 2, none⟩ = some (.slice A9 n9 cc9))) (by kernel_rfl) ?_ (fun hHeld => ?_)
  · (try dsimp only); exact (SD.blk 6 rfl).cell3
  refine man_take 0 42 (v := ?_) ⟨_, rfl, rfl⟩ (by kernel_rfl) (by kernel_rfl) (by kernel_rfl) (fun _ _ _ h => h) (by assumption) ?_ ?_
  rotate_left
  · intro oi ho; cases ho; refine ⟨by rfl, ?_⟩; intro w hSw; (try dsimp only at hSw); go_simp; try with_reducible rfl
  (try simp only [Act.put, List.setIfInBounds_toArray, List.set_cons_zero, List.set_cons_succ])
  refine man_take 1 43 (v := ?_) ⟨_, rfl, rfl⟩ (by kernel_rfl) (by kernel_rfl) (by kernel_rfl) (fun _ _ _ h => h) (by assumption) ?_ ?_
  rotate_left
  · intro oi ho; cases ho; refine ⟨by rfl, ?_⟩; intro w hSw; (try dsimp only at hSw); go_simp; try with_reducible rfl
  (try simp only [Act.put, List.setIfInBounds_toArray, List.set_cons_zero, List.set_cons_succ])
  refine man_take 2 44 (v := ?_) ⟨_, rfl, rfl⟩ (by kernel_rfl) (by kernel_rfl) (by kernel_rfl) (fun _ _ _ h => h) (by assumption) ?_ ?_
  rotate_left
  · intro oi ho; cases ho; refine ⟨by rfl, ?_⟩; intro w hSw; (try dsimp only at hSw); go_simp; try with_reducible rfl
  (try simp only [Act.put, List.setIfInBounds_toArray, List.set_cons_zero, List.set_cons_succ])
  refine man_take 3 45 (v := ?_) ⟨_, rfl, rfl⟩ (by kernel_rfl) (by kernel_rfl) (by kernel_rfl) (fun _ _ _ h => h) (by assumption) ?_ ?_
  rotate_left
  · intro oi ho; cases ho; refine ⟨by rfl, ?_⟩; intro w hSw; (try dsimp only at hSw); go_simp; try with_reducible rfl
  (try simp only [Act.put, List.setIfInBounds_toArray, List.set_cons_zero, List.set_cons_succ])
  refine man_take 4 46 (v := ?_) ⟨_, rfl, rfl⟩ (by kernel_rfl) (by kernel_rfl) (by kernel_rfl) (fun _ _ _ h => h) (by assumption) ?_ ?_
  rotate_left
  · intro oi ho; cases ho; refine ⟨by rfl, ?_⟩; intro w hSw; (try dsimp only at hSw); go_simp; try with_reducible rfl
  (try simp only [Act.put, List.setIfInBounds_toArray, List.set_cons_zero, List.set_cons_succ])
  refine man_take 5 47 (v := ?_) ⟨_, rfl, rfl⟩ (by kernel_rfl) (by kernel_rfl) (by kernel_rfl) (fun _ _ _ h => h) (by assumption) ?_ ?_
  rotate_left
  · intro oi ho; cases ho; refine ⟨by rfl, ?_⟩; intro w hSw; (try dsimp only at hSw); go_simp; try with_reducible rfl
  (try simp only [Act.put, List.setIfInBounds_toArray, List.set_cons_zero, List.set_cons_succ])
  refine man_take 6 48 (v := ?_) ⟨_, rfl, rfl⟩ (by kernel_rfl) (by kernel_rfl) (by kernel_rfl) (fun _ _ _ h => h) (by assumption) ?_ ?_
  rotate_left
  · intro oi ho; cases ho; refine ⟨by rfl, ?_⟩; intro w hSw; (try dsimp only at hSw); go_simp; try with_reducible rfl
  (try simp only [Act.put, List.setIfInBounds_toArray, List.set_cons_zero, List.set_cons_succ])
  refine man_take 7 49 (v := ?_) ⟨_, rfl, rfl⟩ (by kernel_rfl) (by kernel_rfl) (by kernel_rfl) (fun _ _ _ h => h) (by assumption) ?_ ?_
  rotate_left
  · intro oi ho; cases ho; refine ⟨by rfl, ?_⟩; intro w hSw; (try dsimp only at hSw); go_simp; try with_reducible rfl
  (try simp only [Act.put, List.setIfInBounds_toArray, List.set_cons_zero, List.set_cons_succ])
  refine man_take 8 50 (v := ?_) ⟨_, rfl, rfl⟩ (by kernel_rfl) (by kernel_rfl) (by kernel_rfl) (fun _ _ _ h => h) (by assumption) ?_ ?_
  rotate_left
  · intro oi ho; cases ho; refine ⟨by rfl, ?_⟩; intro w hSw; (try dsimp only at hSw); go_simp; try with_reducible rfl
  (try simp only [Act.put, List.setIfInBounds_toArray, List.set_cons_zero, List.set_cons_succ])
  refine man_take 9 51 (v := ?_) ⟨_, rfl, rfl⟩ (by kernel_rfl) (by kernel_rfl) (by kernel_rfl) (fun _ _ _ h => h) (by assumption) ?_ ?_
  rotate_left
  · intro oi ho; cases ho; refine ⟨by rfl, ?_⟩; intro w hSw; (try dsimp only at hSw); go_simp; try with_reducible rfl
  (try simp only [Act.put, List.setIfInBounds_toArray, List.set_cons_zero, List.set_cons_succ])
  refine man_take 10 52 (v := ?_) ⟨_, rfl, rfl⟩ (by kernel_rfl) (by kernel_rfl) (by kernel_rfl) (fun _ _ _ h => h) (by assumption) ?_ ?_
  rotate_left
  · intro oi ho; cases ho; refine ⟨by rfl, ?_⟩; intro w hSw; (try dsimp only at hSw); go_simp; try with_reducible rfl
  (try simp only [Act.put, List.setIfInBounds_toArray, List.set_cons_zero, List.set_cons_succ])
  refine man_take 11 53 (v := ?_) ⟨_, rfl, rfl⟩ (by kernel_rfl) (by kernel_rfl) (by kernel_rfl) (fun _ _ _ h => h) (by assumption) ?_ ?_
  rotate_left
  · intro oi ho; cases ho; refine ⟨by rfl, ?_⟩; intro w hSw; (try dsimp only at hSw); go_simp; try with_reducible rfl
  (try simp only [Act.put, List.setIfInBounds_toArray, List.set_cons_zero, List.set_cons_succ])
  refine man_take 12 54 (v := ?_) ⟨_, rfl, rfl⟩ (by kernel_rfl) (by kernel_rfl) (by kernel_rfl) (fun _ _ _ h => h) (by assumption) ?_ ?_
  rotate_left
  · intro oi ho; cases ho; refine ⟨by rfl, ?_⟩; intro w hSw; (try dsimp only at hSw); go_simp; try with_reducible rfl
  (try simp only [Act.put, List.setIfInBounds_toArray, List.set_cons_zero, List.set_cons_succ])
  refine man_run 13 rfl (by kernel_rfl) (fun K hK => ?_)
  go_simp
  replace SD := ((S9.box #[.int .i64 0, .int .i64 3, .int .i64 4, .int .i64 7, .int .i64 8, .int .i64 11, .int .i64 12, .int .i64 15] 3).addRd (n := 8) (xs := ([0, 3, 4, 7, 8, 11, 12, 15] : List Int).map (Value.int .i64)) (rd_of_blk (Blk.new _ 3 #[.int .i64 0, .int .i64 3, .int .i64 4, .int .i64 7, .int .i64 8, .int .i64 11, .int .i64 12, .int .i64 15]))).drew
  simp only [size_alloc1, List.nil_append, List.cons_append] at SD
  clear S9
  refine hK.out _ _ ?_ (fun hHeld => ?_)
  · (try dsimp only); exact (SD.blk 6 rfl).cell3
  clear hK K
  (try simp only [Act.put, List.setIfInBounds_toArray, List.set_cons_zero, List.set_cons_succ])
  refine man_run 14 rfl (by kernel_rfl) (fun K hK => ?_)
  go_simp
  refine (KLS.out _ _ _ _ _ _ (SD.rd 3 rfl) (SD.rd 8 rfl)).mono ?_
  rintro e w20 ⟨rfl, hb20⟩
  replace SD := SD.keep hb20
  go_wp2_with fail
  refine hK.out _ _ ?_ (fun hHeld => ?_)
  · (try dsimp only); exact (SD.blk 6 rfl).cell3
  clear hK K
  (try simp only [Act.put, List.setIfInBounds_toArray, List.set_cons_zero, List.set_cons_succ])
  refine man_take 15 57 (v := ?_) ⟨_, rfl, rfl⟩ (by kernel_rfl) (by kernel_rfl) (by kernel_rfl) (fun _ _ _ h => h) (by assumption) ?_ ?_
  rotate_left
  · intro oi ho; cases ho; refine ⟨by rfl, ?_⟩; intro w hSw; (try dsimp only at hSw); go_simp; try with_reducible rfl
  (try simp only [Act.put, List.setIfInBounds_toArray, List.set_cons_zero, List.set_cons_succ])
  refine man_take 16 58 (v := ?_) ⟨_, rfl, rfl⟩ (by kernel_rfl) (by kernel_rfl) (by kernel_rfl) (fun _ _ _ h => h) (by assumption) ?_ ?_
  rotate_left
  · intro oi ho; cases ho; refine ⟨by rfl, ?_⟩; intro w hSw; (try dsimp only at hSw); go_simp; try with_reducible rfl
  (try simp only [Act.put, List.setIfInBounds_toArray, List.set_cons_zero, List.set_cons_succ])
  refine man_take 17 59 (v := ?_) ⟨_, rfl, rfl⟩ (by kernel_rfl) (by kernel_rfl) (by kernel_rfl) (fun _ _ _ h => h) (by assumption) ?_ ?_
  rotate_left
  · intro oi ho; cases ho; refine ⟨by rfl, ?_⟩; intro w hSw; (try dsimp only at hSw); go_simp; try with_reducible rfl
  (try simp only [Act.put, List.setIfInBounds_toArray, List.set_cons_zero, List.set_cons_succ])
  refine man_take 18 60 (v := ?_) ⟨_, rfl, rfl⟩ (by kernel_rfl) (by kernel_rfl) (by kernel_rfl) (fun _ _ _ h => h) (by assumption) ?_ ?_
  rotate_left
  · intro oi ho; cases ho; refine ⟨by rfl, ?_⟩; intro w hSw; (try dsimp only at hSw); go_simp; try with_reducible rfl
  (try simp only [Act.put, List.setIfInBounds_toArray, List.set_cons_zero, List.set_cons_succ])
  refine man_take 19 61 (v := ?_) ⟨_, rfl, rfl⟩ (by kernel_rfl) (by kernel_rfl) (by kernel_rfl) (fun _ _ _ h => h) (by assumption) ?_ ?_
  rotate_left
  · intro oi ho; cases ho; refine ⟨by rfl, ?_⟩; intro w hSw; (try dsimp only at hSw); go_simp; try with_reducible rfl
  (try simp only [Act.put, List.setIfInBounds_toArray, List.set_cons_zero, List.set_cons_succ])
  refine man_take 20 62 (v := ?_) ⟨_, rfl, rfl⟩ (by kernel_rfl) (by kernel_rfl) (by kernel_rfl) (fun _ _ _ h => h) (by assumption) ?_ ?_
  rotate_left
  · intro oi ho; cases ho; refine ⟨by rfl, ?_⟩; intro w hSw; (try dsimp only at hSw); go_simp; try with_reducible rfl
  (try simp only [Act.put, List.setIfInBounds_toArray, List.set_cons_zero, List.set_cons_succ])
  refine man_take 21 63 (v := ?_) ⟨_, rfl, rfl⟩ (by kernel_rfl) (by kernel_rfl) (by kernel_rfl) (fun _ _ _ h => h) (by assumption) ?_ ?_
  rotate_left
  · intro oi ho; cases ho; refine ⟨by rfl, ?_⟩; intro w hSw; (try dsimp only at hSw); go_simp; try with_reducible rfl
  (try simp only [Act.put, List.setIfInBounds_toArray, List.set_cons_zero, List.set_cons_succ])
  refine man_take 22 64 (v := ?_) ⟨_, rfl, rfl⟩ (by kernel_rfl) (by kernel_rfl) (by kernel_rfl) (fun _ _ _ h => h) (by assumption) ?_ ?_
  rotate_left
  · intro oi ho; cases ho; refine ⟨by rfl, ?_⟩; intro w hSw; (try dsimp only at hSw); go_simp; try with_reducible rfl
  (try simp only [Act.put, List.setIfInBounds_toArray, List.set_cons_zero, List.set_cons_succ])
  refine man_take 23 65 (v := ?_) ⟨_, rfl, rfl⟩ (by kernel_rfl) (by kernel_rfl) (by kernel_rfl) (fun _ _ _ h => h) (by assumption) ?_ ?_
  rotate_left
  · intro oi ho; cases ho; refine ⟨by rfl, ?_⟩; intro w hSw; (try dsimp only at hSw); go_simp; try with_reducible rfl
  (try simp only [Act.put, List.setIfInBounds_toArray, List.set_cons_zero, List.set_cons_succ])
  refine man_take 24 66 (v := ?_) ⟨_, rfl, rfl⟩ (by kernel_rfl) (by kernel_rfl) (by kernel_rfl) (fun _ _ _ h => h) (by assumption) ?_ ?_
  rotate_left
  · intro oi ho; cases ho; refine ⟨by rfl, ?_⟩; intro w hSw; (try dsimp only at hSw); go_simp; try with_reducible rfl
  (try simp only [Act.put, List.setIfInBounds_toArray, List.set_cons_zero, List.set_cons_succ])
  refine man_take 25 67 (v := ?_) ⟨_, rfl, rfl⟩ (by kernel_rfl) (by kernel_rfl) (by kernel_rfl) (fun _ _ _ h => h) (by assumption) ?_ ?_
  rotate_left
  · intro oi ho; cases ho; refine ⟨by rfl, ?_⟩; intro w hSw; (try dsimp only at hSw); go_simp; try with_reducible rfl
  (try simp only [Act.put, List.setIfInBounds_toArray, List.set_cons_zero, List.set_cons_succ])
  refine man_take 26 68 (v := ?_) ⟨_, rfl, rfl⟩ (by kernel_rfl) (by kernel_rfl) (by kernel_rfl) (fun _ _ _ h => h) (by assumption) ?_ ?_
  rotate_left
  · intro oi ho; cases ho; refine ⟨by rfl, ?_⟩; intro w hSw; (try dsimp only at hSw); go_simp; try with_reducible rfl
  (try simp only [Act.put, List.setIfInBounds_toArray, List.set_cons_zero, List.set_cons_succ])
  refine man_take 27 69 (v := ?_) ⟨_, rfl, rfl⟩ (by kernel_rfl) (by kernel_rfl) (by kernel_rfl) (fun _ _ _ h => h) (by assumption) ?_ ?_
  rotate_left
  · intro oi ho; cases ho; refine ⟨by rfl, ?_⟩; intro w hSw; (try dsimp only at hSw); go_simp; try with_reducible rfl
  (try simp only [Act.put, List.setIfInBounds_toArray, List.set_cons_zero, List.set_cons_succ])
  refine man_take 28 70 (v := ?_) ⟨_, rfl, rfl⟩ (by kernel_rfl) (by kernel_rfl) (by kernel_rfl) (fun _ _ _ h => h) (by assumption) ?_ ?_
  rotate_left
  · intro oi ho; cases ho; refine ⟨by rfl, ?_⟩; intro w hSw; (try dsimp only at hSw); go_simp; try with_reducible rfl
  (try simp only [Act.put, List.setIfInBounds_toArray, List.set_cons_zero, List.set_cons_succ])
  refine man_take 29 71 (v := ?_) ⟨_, rfl, rfl⟩ (by kernel_rfl) (by kernel_rfl) (by kernel_rfl) (fun _ _ _ h => h) (by assumption) ?_ ?_
  rotate_left
  · intro oi ho; cases ho; refine ⟨by rfl, ?_⟩; intro w hSw; (try dsimp only at hSw); go_simp; try with_reducible rfl
  (try simp only [Act.put, List.setIfInBounds_toArray, List.set_cons_zero, List.set_cons_succ])
  refine man_take 30 72 (v := ?_) ⟨_, rfl, rfl⟩ (by kernel_rfl) (by kernel_rfl) (by kernel_rfl) (fun _ _ _ h => h) (by assumption) ?_ ?_
  rotate_left
  · intro oi ho; cases ho; refine ⟨by rfl, ?_⟩; intro w hSw; (try dsimp only at hSw); go_simp; try with_reducible rfl
  (try simp only [Act.put, List.setIfInBounds_toArray, List.set_cons_zero, List.set_cons_succ])
  refine man_take 31 73 (v := ?_) ⟨_, rfl, rfl⟩ (by kernel_rfl) (by kernel_rfl) (by kernel_rfl) (fun _ _ _ h => h) (by assumption) ?_ ?_
  rotate_left
  · intro oi ho; cases ho; refine ⟨by rfl, ?_⟩; intro w hSw; (try dsimp only at hSw); go_simp; try with_reducible rfl
  (try simp only [Act.put, List.setIfInBounds_toArray, List.set_cons_zero, List.set_cons_succ])
  refine man_take 32 74 (v := ?_) ⟨_, rfl, rfl⟩ (by kernel_rfl) (by kernel_rfl) (by kernel_rfl) (fun _ _ _ h => h) (by assumption) ?_ ?_
  rotate_left
  · intro oi ho; cases ho; refine ⟨by rfl, ?_⟩; intro w hSw; (try dsimp only at hSw); go_simp; try with_reducible rfl
  (try simp only [Act.put, List.setIfInBounds_toArray, List.set_cons_zero, List.set_cons_succ])
  refine man_take 33 75 (v := ?_) ⟨_, rfl, rfl⟩ (by kernel_rfl) (by kernel_rfl) (by kernel_rfl) (fun _ _ _ h => h) (by assumption) ?_ ?_
  rotate_left
  · intro oi ho; cases ho; refine ⟨by rfl, ?_⟩; intro w hSw; (try dsimp only at hSw); go_simp; try with_reducible rfl
  (try simp only [Act.put, List.setIfInBounds_toArray, List.set_cons_zero, List.set_cons_succ])
  refine man_take 34 76 (v := ?_) ⟨_, rfl, rfl⟩ (by kernel_rfl) (by kernel_rfl) (by kernel_rfl) (fun _ _ _ h => h) (by assumption) ?_ ?_
  rotate_left
  · intro oi ho; cases ho; refine ⟨by rfl, ?_⟩; intro w hSw; (try dsimp only at hSw); go_simp; try with_reducible rfl
  (try simp only [Act.put, List.setIfInBounds_toArray, List.set_cons_zero, List.set_cons_succ])
  refine man_take 35 77 (v := ?_) ⟨_, rfl, rfl⟩ (by kernel_rfl) (by kernel_rfl) (by kernel_rfl) (fun _ _ _ h => h) (by assumption) ?_ ?_
  rotate_left
  · intro oi ho; cases ho; refine ⟨by rfl, ?_⟩; intro w hSw; (try dsimp only at hSw); go_simp; try with_reducible rfl
  (try simp only [Act.put, List.setIfInBounds_toArray, List.set_cons_zero, List.set_cons_succ])
  refine man_take 36 78 (v := ?_) ⟨_, rfl, rfl⟩ (by kernel_rfl) (by kernel_rfl) (by kernel_rfl) (fun _ _ _ h => h) (by assumption) ?_ ?_
  rotate_left
  · intro oi ho; cases ho; refine ⟨by rfl, ?_⟩; intro w hSw; (try dsimp only at hSw); go_simp; try with_reducible rfl
  (try simp only [Act.put, List.setIfInBounds_toArray, List.set_cons_zero, List.set_cons_succ])
  refine man_take 37 79 (v := ?_) ⟨_, rfl, rfl⟩ (by kernel_rfl) (by kernel_rfl) (by kernel_rfl) (fun _ _ _ h => h) (by assumption) ?_ ?_
  rotate_left
  · intro oi ho; cases ho; refine ⟨by rfl, ?_⟩; intro w hSw; (try dsimp only at hSw); go_simp; try with_reducible rfl
  (try simp only [Act.put, List.setIfInBounds_toArray, List.set_cons_zero, List.set_cons_succ])
  refine man_take 38 80 (v := ?_) ⟨_, rfl, rfl⟩ (by kernel_rfl) (by kernel_rfl) (by kernel_rfl) (fun _ _ _ h => h) (by assumption) ?_ ?_
  rotate_left
  · intro oi ho; cases ho; refine ⟨by rfl, ?_⟩; intro w hSw; (try dsimp only at hSw); go_simp; try with_reducible rfl
  (try simp only [Act.put, List.setIfInBounds_toArray, List.set_cons_zero, List.set_cons_succ])
  refine man_take 39 81 (v := ?_) ⟨_, rfl, rfl⟩ (by kernel_rfl) (by kernel_rfl) (by kernel_rfl) (fun _ _ _ h => h) (by assumption) ?_ ?_
  rotate_left
  · intro oi ho; cases ho; refine ⟨by rfl, ?_⟩; intro w hSw; (try dsimp only at hSw); go_simp; try with_reducible rfl
  (try simp only [Act.put, List.setIfInBounds_toArray, List.set_cons_zero, List.set_cons_succ])
  refine man_take 40 82 (v := ?_) ⟨_, rfl, rfl⟩ (by kernel_rfl) (by kernel_rfl) (by kernel_rfl) (fun _ _ _ h => h) (by assumption) ?_ ?_
  rotate_left
  · intro oi ho; cases ho; refine ⟨by rfl, ?_⟩; intro w hSw; (try dsimp only at hSw); go_simp; try with_reducible rfl
  (try simp only [Act.put, List.setIfInBounds_toArray, List.set_cons_zero, List.set_cons_succ])
  refine man_take 41 83 (v := ?_) ⟨_, rfl, rfl⟩ (by kernel_rfl) (by kernel_rfl) (by kernel_rfl) (fun _ _ _ h => h) (by assumption) ?_ ?_
  rotate_left
  · intro oi ho; cases ho; refine ⟨by rfl, ?_⟩; intro w hSw; (try dsimp only at hSw); go_simp; try with_reducible rfl
  (try simp only [Act.put, List.setIfInBounds_toArray, List.set_cons_zero, List.set_cons_succ])
  refine man_take 42 84 (v := ?_) ⟨_, rfl, rfl⟩ (by kernel_rfl) (by kernel_rfl) (by kernel_rfl) (fun _ _ _ h => h) (by assumption) ?_ ?_
  rotate_left
  · intro oi ho; cases ho; refine ⟨by rfl, ?_⟩; intro w hSw; (try dsimp only at hSw); go_simp; try with_reducible rfl
  (try simp only [Act.put, List.setIfInBounds_toArray, List.set_cons_zero, List.set_cons_succ])
  refine man_take 43 85 (v := ?_) ⟨_, rfl, rfl⟩ (by kernel_rfl) (by kernel_rfl) (by kernel_rfl) (fun _ _ _ h => h) (by assumption) ?_ ?_
  rotate_left
  · intro oi ho; cases ho; refine ⟨by rfl, ?_⟩; intro w hSw; (try dsimp only at hSw); go_simp; try with_reducible rfl
  (try simp only [Act.put, List.setIfInBounds_toArray, List.set_cons_zero, List.set_cons_succ])
  refine man_take 44 86 (v := ?_) ⟨_, rfl, rfl⟩ (by kernel_rfl) (by kernel_rfl) (by kernel_rfl) (fun _ _ _ h => h) (by assumption) ?_ ?_
  rotate_left
  · intro oi ho; cases ho; refine ⟨by rfl, ?_⟩; intro w hSw; (try dsimp only at hSw); go_simp; try with_reducible rfl
  (try simp only [Act.put, List.setIfInBounds_toArray, List.set_cons_zero, List.set_cons_succ])
  refine man_take 45 87 (v := ?_) ⟨_, rfl, rfl⟩ (by kernel_rfl) (by kernel_rfl) (by kernel_rfl) (fun _ _ _ h => h) (by assumption) ?_ ?_
  rotate_left
  · intro oi ho; cases ho; refine ⟨by rfl, ?_⟩; intro w hSw; (try dsimp only at hSw); go_simp; try with_reducible rfl
  (try simp only [Act.put, List.setIfInBounds_toArray, List.set_cons_zero, List.set_cons_succ])
  refine man_take 46 88 (v := ?_) ⟨_, rfl, rfl⟩ (by kernel_rfl) (by kernel_rfl) (by kernel_rfl) (fun _ _ _ h => h) (by assumption) ?_ ?_
  rotate_left
  · intro oi ho; cases ho; refine ⟨by rfl, ?_⟩; intro w hSw; (try dsimp only at hSw); go_simp; try with_reducible rfl
  (try simp only [Act.put, List.setIfInBounds_toArray, List.set_cons_zero, List.set_cons_succ])
  refine man_take 47 89 (v := ?_) ⟨_, rfl, rfl⟩ (by kernel_rfl) (by kernel_rfl) (by kernel_rfl) (fun _ _ _ h => h) (by assumption) ?_ ?_
  rotate_left
  · intro oi ho; cases ho; refine ⟨by rfl, ?_⟩; intro w hSw; (try dsimp only at hSw); go_simp; try with_reducible rfl
  (try simp only [Act.put, List.setIfInBounds_toArray, List.set_cons_zero, List.set_cons_succ])
  refine man_take 48 90 (v := ?_) ⟨_, rfl, rfl⟩ (by kernel_rfl) (by kernel_rfl) (by kernel_rfl) (fun _ _ _ h => h) (by assumption) ?_ ?_
  rotate_left
  · intro oi ho; cases ho; refine ⟨by rfl, ?_⟩; intro w hSw; (try dsimp only at hSw); go_simp; try with_reducible rfl
  (try simp only [Act.put, List.setIfInBounds_toArray, List.set_cons_zero, List.set_cons_succ])
  refine man_take 49 91 (v := ?_) ⟨_, rfl, rfl⟩ (by kernel_rfl) (by kernel_rfl) (by kernel_rfl) (fun _ _ _ h => h) (by assumption) ?_ ?_
  rotate_left
  · intro oi ho; cases ho; refine ⟨by rfl, ?_⟩; intro w hSw; (try dsimp only at hSw); go_simp; try with_reducible rfl
  (try simp only [Act.put, List.setIfInBounds_toArray, List.set_cons_zero, List.set_cons_succ])
  refine man_run 50 rfl (by kernel_rfl) (fun K hK => ?_)
  go_simp
  refine (KCdo.out _).mono ?_
  rintro e w21 ⟨A21, n21, cc21, rfl, hown21, hb21⟩
  replace SD := (SD.keep hb21).addRd (rd_of_own hown21)
  simp only [List.nil_append, List.cons_append] at SD
  go_wp2_with fail
  refine hK.out _ _ ?_ (fun hHeld => ?_)
  · (try dsimp only); exact (SD.blk 6 rfl).cell3
  clear hK K
  (try simp only [Act.put, List.setIfInBounds_toArray, List.set_cons_zero, List.set_cons_succ])
  refine man_run 51 rfl (by kernel_rfl) (fun K hK => ?_)
  go_simp
  refine (KS.out _ _ _ _ _ _ _ (SD.rd 5 rfl) (SD.rd 9 rfl)).mono ?_
  rintro e w22 ⟨rfl, hb22⟩
  replace SD := SD.keep hb22
  go_wp2_with fail
  refine hK.out _ _ ?_ (fun hHeld => ?_)
  · (try dsimp only); exact (SD.blk 6 rfl).cell3
  clear hK K
  (try simp only [Act.put, List.setIfInBounds_toArray, List.set_cons_zero, List.set_cons_succ])
  refine man_take 52 94 (v := ?_) ⟨_, rfl, rfl⟩ (by kernel_rfl) (by kernel_rfl) (by kernel_rfl) (fun _ _ _ h => h) (by assumption) ?_ ?_
  rotate_left
  · intro oi ho; cases ho; refine ⟨by rfl, ?_⟩; intro w hSw; (try dsimp only at hSw); go_simp; try with_reducible rfl
  (try simp only [Act.put, List.setIfInBounds_toArray, List.set_cons_zero, List.set_cons_succ])
  refine man_take 53 0 (v := ?_) ⟨_, rfl, rfl⟩ (by kernel_rfl) (by kernel_rfl) (by kernel_rfl) (fun _ _ _ h => h) (by assumption) ?_ ?_
  rotate_left
  · intro oi ho; cases ho; refine ⟨by rfl, ?_⟩; intro w hSw; (try dsimp only at hSw); go_simp; try with_reducible rfl
  (try simp only [Act.put, List.setIfInBounds_toArray, List.set_cons_zero, List.set_cons_succ])
  refine wpAnyH_done (by kernel_rfl) ?_ _
  go_wp2_with fail
  go_ret
  exact ⟨by trivial, SD.below⟩
end Go.Proofs.YtliibficmdomjaaDoor
