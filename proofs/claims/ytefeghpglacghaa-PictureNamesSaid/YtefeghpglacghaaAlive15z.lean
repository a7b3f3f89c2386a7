/- The examples of layer 15 hold. -/
import Derived.Test.YtefeghpglacghaaMg7z
import Derived.Test.YtefeghpglacghaaCells15z
import Derived.Test.YtefeghpglacghaaRSamez
import Derived.Test.YtefeghpglacghaaMg3z
import Derived.Test.YtefeghpglacghaaMg1z
namespace Go.Proofs.Ytefeghpglacghaa
open Go.RowKit

theorem rd_of_blk {w : World} {g : Nat} {t : TypeId} {cs : Array Value} (h : Blk w g t cs) : Rd w (some ⟨g, 0, none⟩) cs.size cs.toList := by
  refine ⟨by simp, fun _ => ⟨g, 0, rfl, fun j u hj => ?_⟩⟩
  rw [Nat.zero_add, h.cell j]
  simpa using hj
set_option maxHeartbeats 1000000 in
set_option maxRecDepth 100000 in
theorem image15_any (A : Option Addr) (n c : Nat) (w : World) : Calls Try.prog 39 #[.slice A n c] w fun e w' => e = .returned (.agg #[.int .i64 2, .int .i64 2, .slice A n c]) ∧ Below w.heap.size w w' := by
  obtain ⟨q0, q1, q2⟩ := (Blk.new w 24 #[.int .i64 2, .int .i64 2, .slice A n c]).cell3
  go_enter Try.func39, Try.ntmps39
  go_wp2_with fail
  refine bodyPost_ret (v := .agg #[.int .i64 2, .int .i64 2, .slice A n c]) (by simp [results, Try.results39, go_sem, q0, q1, q2]) rfl ?_
  exact ⟨rfl, (Below.refl _ _).alloc (Nat.le_refl _) _⟩
set_option maxHeartbeats 1000000 in
set_option maxRecDepth 100000 in
theorem grid15_any (A : Option Addr) (n c : Nat) (w : World) : Calls Try.prog 42 #[.slice A n c] w fun e w' => e = .returned (.agg #[.int .i64 2, .int .i64 2, .slice A n c]) ∧ Below w.heap.size w w' := by
  obtain ⟨q0, q1, q2⟩ := (Blk.new w 40 #[.int .i64 2, .int .i64 2, .slice A n c]).cell3
  go_enter Try.func42, Try.ntmps42
  go_wp2_with fail
  refine bodyPost_ret (v := .agg #[.int .i64 2, .int .i64 2, .slice A n c]) (by simp [results, Try.results42, go_sem, q0, q1, q2]) rfl ?_
  exact ⟨rfl, (Below.refl _ _).alloc (Nat.le_refl _) _⟩
set_option maxHeartbeats 1000000 in
set_option maxRecDepth 100000 in
theorem square15_any (w : World) : Calls Try.prog 41 #[] w (RetJ ⟨3, 3, sqL⟩ w) := by
  have hb := (((St.start w).box #[.int .i64 3, .int .i64 3, .slice (some ⟨w.heap.size + 1, 0, none⟩) 9 9] 24).box #[.int .i64 0, .int .i64 1, .int .i64 2, .int .i64 1, .int .i64 2, .int .i64 0, .int .i64 2, .int .i64 0, .int .i64 1] 3)
  simp only [size_alloc1, List.nil_append, List.cons_append] at hb
  go_enter Try.func41, Try.ntmps41
  go_wp2_with fail
  obtain ⟨q0, q1, q2⟩ := (hb.blk 0 rfl).cell3
  refine bodyPost_ret (v := .agg #[.int .i64 3, .int .i64 3, .slice (some ⟨w.heap.size + 1, 0, none⟩) 9 9]) (by simp [results, Try.results41, go_sem, q0, q1, q2]) rfl ?_
  exact ⟨some ⟨w.heap.size + 1, 0, none⟩, 9, 9, rfl, own_of_blk (hb.blk 1 rfl) (by omega) (by decide), hb.below⟩
theorem first_ex_to (A : Option Addr) (n c : Nat) (w : World) (hr : Rd w A n (([0, 1, 1, 1] : List Int).map (Value.int .i64))) :
    Calls Try.prog 11 #[.agg #[.int .i64 2, .int .i64 2, .slice A n c]] w fun e w' => ∃ A1 A2 c1 c2, e = .returned (.tuple #[.slice A1 2 c1, .slice A2 2 c2, .int .i64 0]) ∧
      Rd w' A1 2 (([0, 0] : List Int).map (Value.int .i64)) ∧ Rd w' A2 2 (([1, 1] : List Int).map (Value.int .i64)) ∧ Below w.heap.size w w' := by
  have hn : n = 4 := by have := hr.len; simpa using this.symm
  refine (First_any ⟨2, 2, [0, 1, 1, 1]⟩ A n c w hr (by omega)).mono ?_
  rintro e w' ⟨p, q, er, A1, A2, c1, c2, rfl, hI, h1, h2, hb⟩
  obtain ⟨rfl, rfl, rfl⟩ := firstI_ex hI
  exact ⟨A1, A2, c1, c2, rfl, rd_of_own h1, rd_of_own h2, hb⟩
theorem first_sq_to (A : Option Addr) (n c : Nat) (w : World) (hr : Rd w A n (sqL.map (Value.int .i64))) :
    Calls Try.prog 11 #[.agg #[.int .i64 3, .int .i64 3, .slice A n c]] w fun e w' => ∃ A1 A2 c1 c2, e = .returned (.tuple #[.slice A1 0 c1, .slice A2 0 c2, .int .i64 6]) ∧ Below w.heap.size w w' := by
  have hn : n = 9 := by have := hr.len; simpa [sqL] using this.symm
  refine (First_any ⟨3, 3, sqL⟩ A n c w hr (by omega)).mono ?_
  rintro e w' ⟨p, q, er, A1, A2, c1, c2, rfl, hI, h1, h2, hb⟩
  obtain ⟨rfl, rfl, rfl⟩ := firstI_sq hI
  exact ⟨A1, A2, c1, c2, rfl, hb⟩
def upX : Gd := ⟨2, 2, [true, false, false, false]⟩
def opX : Gd := ⟨2, 2, [false, true, false, true]⟩
theorem cells_ex : cellsI ⟨2, 2, [0, 1, 1, 1]⟩ [0, 1] [1, 1] = ((upX, opX), 0) := by
  have h0 : thrI ⟨2, 2, [0, 1, 1, 1]⟩ [0, 1] [1, 1] = 0 := by decide +kernel
  have h1 : fitB 2 2 [0, 1, 1, 1] [0, 1] [1, 1] = true := by decide +kernel
  rw [show (⟨2, 2, [0, 1, 1, 1]⟩ : Im) = ⟨((2 : Nat) : Int), ((2 : Nat) : Int), [0, 1, 1, 1]⟩ from rfl] at h0 ⊢
  rw [cellsI_ok h0 h1]
  rfl
theorem cells_ex_to (A Ap Aq : Option Addr) (n c np cp nq cq : Nat) (w : World) (hr : Rd w A n (([0, 1, 1, 1] : List Int).map (Value.int .i64))) (hp : Rd w Ap np (([0, 1] : List Int).map (Value.int .i64))) (hq : Rd w Aq nq (([1, 1] : List Int).map (Value.int .i64))) :
    Calls Try.prog 21 #[.agg #[.int .i64 2, .int .i64 2, .slice A n c], .slice Ap np cp, .slice Aq nq cq] w fun e w' => ∃ P k1 c1 Q k2 c2, e = .returned (.tuple #[.agg #[.int .i64 upX.w, .int .i64 upX.h, .slice P k1 c1], .agg #[.int .i64 opX.w, .int .i64 opX.h, .slice Q k2 c2], .int .i64 0]) ∧
      Rd w' P k1 (upX.bits.map Value.bool) ∧ Rd w' Q k2 (opX.bits.map Value.bool) ∧ Below w.heap.size w w' := by
  have hn : n = 4 := by have := hr.len; simpa using this.symm
  have h := cells_any ⟨2, 2, [0, 1, 1, 1]⟩ [0, 1] [1, 1] A Ap Aq n c np cp nq cq w hr (by omega) hp hq
  rw [cells_ex] at h
  refine h.mono ?_
  rintro e w' ⟨P, k1, c1, Q, k2, c2, rfl, h1, h2, _, hb⟩
  exact ⟨P, k1, c1, Q, k2, c2, rfl, rd_of_own h1, rd_of_own h2, hb⟩
theorem same_x (g : Gd) (hs : g.bits.length ≤ 4200) (A A2 : Option Addr) (n c n2 c2 : Nat) (w : World) (hr : Rd w A n (g.bits.map Value.bool)) (hr2 : Rd w A2 n2 (g.bits.map Value.bool)) :
    Calls Try.prog 27 #[.agg #[.int .i64 g.w, .int .i64 g.h, .slice A n c], .agg #[.int .i64 2, .int .i64 2, .slice A2 n2 c2]] w fun e w' => e = .returned (.bool (decide (g.w = 2) && decide (g.h = 2))) ∧ Below w.heap.size w w' := by
  have hl : g.bits.length = n := by simpa using hr.len
  have h := rsame_any g ⟨2, 2, g.bits⟩ A A2 n c n2 c2 w hr hr2 (by omega)
  have e : sameG g ⟨2, 2, g.bits⟩ = (decide (g.w = 2) && decide (g.h = 2)) := by
    by_cases h1 : g.w = 2
    · by_cases h2 : g.h = 2
      · rw [decide_eq_true h1, decide_eq_true h2]
        exact sameG_iff.2 (by cases g; simp only at h1 h2; subst h1 h2; rfl)
      · rw [decide_eq_false h2, sameG_not (by simp only; exact fun q => h2 q.2.1), Bool.and_false]
    · rw [decide_eq_false h1, sameG_not (by simp only; exact fun q => h1 q.1), Bool.false_and]
  rw [e] at h
  exact h

set_option linter.unusedSimpArgs false in
set_option maxHeartbeats 4000000 in
set_option maxRecDepth 100000 in
theorem alive15_any (w : World) : Calls Try.prog 29 #[] w fun e w' => e = .returned (.bool true) ∧ Below w.heap.size w w' := by
  have KI := Lib.hid (fun A n c W => image15_any A n c W)
  have KG := Lib.hid (fun A n c W => grid15_any A n c W)
  have KQ := Lib.hid (fun W => square15_any W)
  have KC := Lib.hid (fun A Ap Aq n c np cp nq cq W h h1 h2 => cells_ex_to A Ap Aq n c np cp nq cq W h h1 h2)
  have KF := Lib.hid (fun A n c W h => first_ex_to A n c W h)
  have KN := Lib.hid (fun A n c W h => first_sq_to A n c W h)
  have KS1 := Lib.hid (fun A A2 n c n2 c2 W h h2 => same_x upX (by decide) A A2 n c n2 c2 W h h2)
  have KS2 := Lib.hid (fun A A2 n c n2 c2 W h h2 => same_x opX (by decide) A A2 n c n2 c2 W h h2)
  have KL1 := Lib.hid (fun A A' n' c c' W h h' => lsame_any [0, 0] A A' 2 n' c c' W h h' (by decide))
  have KL2 := Lib.hid (fun A A' n' c c' W h h' => lsame_any [1, 1] A A' 2 n' c c' W h h' (by decide))
  simp only [show upX.w = 2 from rfl, show upX.h = 2 from rfl, show opX.w = 2 from rfl, show opX.h = 2 from rfl, decide_true, Bool.and_self, show upX.bits = [true, false, false, false] from rfl, show opX.bits = [false, true, false, true] from rfl] at KC KS1 KS2
  have S0 := St.start w
  go_enter Try.func29, Try.ntmps29
  have S1 := (S0.box #[.int .i64 0, .int .i64 1, .int .i64 1, .int .i64 1] 3).addRd (n := 4) (xs := ([0, 1, 1, 1] : List Int).map (Value.int .i64)) (rd_of_blk (Blk.new _ 3 #[.int .i64 0, .int .i64 1, .int .i64 1, .int .i64 1]))
  simp only [List.nil_append, List.cons_append] at S1
  go_wp2_with fail
  refine (KI.out _ _ _ _).mono ?_
  rintro e w2 ⟨rfl, hb2⟩
  have S2 := S1.keep hb2
  clear S1
  have S3 := (S2.box #[.int .i64 0, .int .i64 1] 3).addRd (n := 2) (xs := ([0, 1] : List Int).map (Value.int .i64)) (rd_of_blk (Blk.new _ 3 #[.int .i64 0, .int .i64 1]))
  simp only [List.nil_append, List.cons_append] at S3
  clear S2
  have S4 := (S3.box #[.int .i64 1, .int .i64 1] 3).addRd (n := 2) (xs := ([1, 1] : List Int).map (Value.int .i64)) (rd_of_blk (Blk.new _ 3 #[.int .i64 1, .int .i64 1]))
  simp only [size_alloc1, List.nil_append, List.cons_append] at S4
  clear S3
  go_wp2_with fail
  refine (KC.out _ _ _ _ _ _ _ _ _ _ (S4.rd 1 rfl) (S4.rd 3 rfl) (S4.rd 5 rfl)).mono ?_
  rintro e w5 ⟨P5, np5, cp5, Q5, nq5, cq5, rfl, ho5, hq5, hb5⟩
  have S5 := (((((S4.keep hb5).addRd ho5).addRd hq5)).box #[.int .i64 2, .int .i64 2, .slice P5 np5 cp5] 40).box #[.int .i64 2, .int .i64 2, .slice Q5 nq5 cq5] 40
  simp only [size_alloc1, List.nil_append, List.cons_append] at S5
  clear S4 ho5 hq5
  have S6 := (S5.box #[.int .i64 0, .int .i64 1, .int .i64 1, .int .i64 1] 3).addRd (n := 4) (xs := ([0, 1, 1, 1] : List Int).map (Value.int .i64)) (rd_of_blk (Blk.new _ 3 #[.int .i64 0, .int .i64 1, .int .i64 1, .int .i64 1]))
  simp only [size_alloc1, List.nil_append, List.cons_append] at S6
  clear S5
  go_wp2_with fail
  refine (KI.out _ _ _ _).mono ?_
  rintro e w7 ⟨rfl, hb7⟩
  have S7 := S6.keep hb7
  clear S6
  go_wp2_with fail
  refine (KF.out _ _ _ _ (S7.rd 11 rfl)).mono ?_
  rintro e w8 ⟨A8, B8, ca8, cb8, rfl, ha8, hq8, hb8⟩
  have S8 := (((S7.keep hb8).addRd ha8).addRd hq8)
  simp only [List.nil_append, List.cons_append] at S8
  clear S7 ha8 hq8
  go_wp2_with fail
  refine (KQ.out _).mono ?_
  rintro e w9 ⟨A9, n9, cc9, rfl, hown9, hb9⟩
  simp only at hown9 ⊢
  have S9 := ((S8.keep hb9).addRd (rd_of_own hown9))
  simp only [List.nil_append, List.cons_append] at S9
  clear S8 hown9
  go_wp2_with fail
  refine (KN.out _ _ _ _ (S9.rd 14 rfl)).mono ?_
  rintro e w10 ⟨A10, B10, ca10, cb10, rfl, hb10⟩
  have S10 := S9.keep hb10
  clear S9
  have S11 := (((((((show St w [] _ from ⟨S10.1, by simp⟩)).addRd (S10.rd 6 rfl)).addBlk (S10.blk 8 rfl)).addRd (S10.rd 7 rfl)).addBlk (S10.blk 9 rfl)).addRd (S10.rd 12 rfl)).addRd (S10.rd 13 rfl)
  simp only [List.nil_append, List.cons_append] at S11
  clear S10
  go_wp2_with fail
  have SD := S11.drew
  refine wp_region_held_drew (S := (fun w' => (w'.cell? ⟨w5.heap.size, 0, none⟩ = some (.int .i64 2) ∧ w'.cell? ⟨w5.heap.size, 1, none⟩ = some (.int .i64 2) ∧ w'.cell? ⟨w5.heap.size, 2, none⟩ = some (.slice P5 np5 cp5)) ∧ (w'.cell? ⟨w5.heap.size + 1, 0, none⟩ = some (.int .i64 2) ∧ w'.cell? ⟨w5.heap.size + 1, 1, none⟩ = some (.int .i64 2) ∧ w'.cell? ⟨w5.heap.size + 1, 2, none⟩ = some (.slice Q5 nq5 cq5)))) (by kernel_rfl) ?_ (fun hHeld => ?_)
  · (try dsimp only); exact ⟨(SD.blk 1 rfl).cell3, (SD.blk 3 rfl).cell3⟩
  refine man_take 0 32 (v := ?_) ⟨_, rfl, rfl⟩ (by kernel_rfl) (by kernel_rfl) (by kernel_rfl) (fun _ _ _ h => h) (by assumption) ?_ ?_
  rotate_left
  · intro oi ho; cases ho; refine ⟨by rfl, ?_⟩; intro w hSw; (try dsimp only at hSw); go_simp; try with_reducible rfl
  (try simp only [Act.put, List.setIfInBounds_toArray, List.set_cons_zero, List.set_cons_succ])
  refine man_take 1 33 (v := ?_) ⟨_, rfl, rfl⟩ (by kernel_rfl) (by kernel_rfl) (by kernel_rfl) (fun _ _ _ h => h) (by assumption) ?_ ?_
  rotate_left
  · intro oi ho; cases ho; refine ⟨by rfl, ?_⟩; intro w hSw; (try dsimp only at hSw); go_simp; try with_reducible rfl
  (try simp only [Act.put, List.setIfInBounds_toArray, List.set_cons_zero, List.set_cons_succ])
  refine man_take 2 34 (v := ?_) ⟨_, rfl, rfl⟩ (by kernel_rfl) (by kernel_rfl) (by kernel_rfl) (fun _ _ _ h => h) (by assumption) ?_ ?_
  rotate_left
  · intro oi ho; cases ho; refine ⟨by rfl, ?_⟩; intro w hSw; (try dsimp only at hSw); go_simp; try with_reducible rfl
  (try simp only [Act.put, List.setIfInBounds_toArray, List.set_cons_zero, List.set_cons_succ])
  refine man_take 3 35 (v := ?_) ⟨_, rfl, rfl⟩ (by kernel_rfl) (by kernel_rfl) (by kernel_rfl) (fun _ _ _ h => h) (by assumption) ?_ ?_
  rotate_left
  · intro oi ho; cases ho; refine ⟨by rfl, ?_⟩; intro w hSw; (try dsimp only at hSw); go_simp; try with_reducible rfl
  (try simp only [Act.put, List.setIfInBounds_toArray, List.set_cons_zero, List.set_cons_succ])
  refine man_run 4 rfl (by kernel_rfl) (fun K hK => ?_)
  go_simp
  replace SD := ((S11.box #[.bool true, .bool false, .bool false, .bool false] 4).addRd (n := 4) (xs := ([true, false, false, false] : List Bool).map Value.bool) (rd_of_blk (Blk.new _ 4 #[.bool true, .bool false, .bool false, .bool false]))).drew
  simp only [size_alloc1, List.nil_append, List.cons_append] at SD
  clear S11
  refine hK.out _ _ ?_ (fun hHeld => ?_)
  · (try dsimp only); exact ⟨(SD.blk 1 rfl).cell3, (SD.blk 3 rfl).cell3⟩
  clear hK K
  (try simp only [Act.put, List.setIfInBounds_toArray, List.set_cons_zero, List.set_cons_succ])
  refine man_run 5 rfl (by kernel_rfl) (fun K hK => ?_)
  go_simp
  refine (KG.out _ _ _ _).mono ?_
  rintro e w31 ⟨rfl, hb31⟩
  replace SD := SD.keep hb31
  go_wp2_with fail
  refine hK.out _ _ ?_ (fun hHeld => ?_)
  · (try dsimp only); exact ⟨(SD.blk 1 rfl).cell3, (SD.blk 3 rfl).cell3⟩
  clear hK K
  (try simp only [Act.put, List.setIfInBounds_toArray, List.set_cons_zero, List.set_cons_succ])
  refine man_run 6 rfl (by kernel_rfl) (fun K hK => ?_)
  go_simp
  refine (KS1.out _ _ _ _ _ _ _ (SD.rd 0 rfl) (SD.rd 7 rfl)).mono ?_
  rintro e w32 ⟨rfl, hb32⟩
  replace SD := SD.keep hb32
  go_wp2_with fail
  refine hK.out _ _ ?_ (fun hHeld => ?_)
  · (try dsimp only); exact ⟨(SD.blk 1 rfl).cell3, (SD.blk 3 rfl).cell3⟩
  clear hK K
  (try simp only [Act.put, List.setIfInBounds_toArray, List.set_cons_zero, List.set_cons_succ])
  refine man_take 7 39 (v := ?_) ⟨_, rfl, rfl⟩ (by kernel_rfl) (by kernel_rfl) (by kernel_rfl) (fun _ _ _ h => h) (by assumption) ?_ ?_
  rotate_left
  · intro oi ho; cases ho; refine ⟨by rfl, ?_⟩; intro w hSw; (try dsimp only at hSw); go_simp; try with_reducible rfl
  (try simp only [Act.put, List.setIfInBounds_toArray, List.set_cons_zero, List.set_cons_succ])
  refine man_take 8 40 (v := ?_) ⟨_, rfl, rfl⟩ (by kernel_rfl) (by kernel_rfl) (by kernel_rfl) (fun _ _ _ h => h) (by assumption) ?_ ?_
  rotate_left
  · intro oi ho; cases ho; refine ⟨by rfl, ?_⟩; intro w hSw; (try dsimp only at hSw); go_simp; try with_reducible rfl
  (try simp only [Act.put, List.setIfInBounds_toArray, List.set_cons_zero, List.set_cons_succ])
  refine man_take 9 41 (v := ?_) ⟨_, rfl, rfl⟩ (by kernel_rfl) (by kernel_rfl) (by kernel_rfl) (fun _ _ _ h => h) (by assumption) ?_ ?_
  rotate_left
  · intro oi ho; cases ho; refine ⟨by rfl, ?_⟩; intro w hSw; (try dsimp only at hSw); go_simp; try with_reducible rfl
  (try simp only [Act.put, List.setIfInBounds_toArray, List.set_cons_zero, List.set_cons_succ])
  refine man_run 10 rfl (by kernel_rfl) (fun K hK => ?_)
  go_simp
  replace SD := ((SD.box #[.bool false, .bool true, .bool false, .bool true] 4).addRd (n := 4) (xs := ([false, true, false, true] : List Bool).map Value.bool) (rd_of_blk (Blk.new _ 4 #[.bool false, .bool true, .bool false, .bool true])))
  simp only [size_alloc1, List.nil_append, List.cons_append] at SD
  refine hK.out _ _ ?_ (fun hHeld => ?_)
  · (try dsimp only); exact ⟨(SD.blk 1 rfl).cell3, (SD.blk 3 rfl).cell3⟩
  clear hK K
  (try simp only [Act.put, List.setIfInBounds_toArray, List.set_cons_zero, List.set_cons_succ])
  refine man_run 11 rfl (by kernel_rfl) (fun K hK => ?_)
  go_simp
  refine (KG.out _ _ _ _).mono ?_
  rintro e w33 ⟨rfl, hb33⟩
  replace SD := SD.keep hb33
  go_wp2_with fail
  refine hK.out _ _ ?_ (fun hHeld => ?_)
  · (try dsimp only); exact ⟨(SD.blk 1 rfl).cell3, (SD.blk 3 rfl).cell3⟩
  clear hK K
  (try simp only [Act.put, List.setIfInBounds_toArray, List.set_cons_zero, List.set_cons_succ])
  refine man_run 12 rfl (by kernel_rfl) (fun K hK => ?_)
  go_simp
  refine (KS2.out _ _ _ _ _ _ _ (SD.rd 2 rfl) (SD.rd 9 rfl)).mono ?_
  rintro e w34 ⟨rfl, hb34⟩
  replace SD := SD.keep hb34
  go_wp2_with fail
  refine hK.out _ _ ?_ (fun hHeld => ?_)
  · (try dsimp only); exact ⟨(SD.blk 1 rfl).cell3, (SD.blk 3 rfl).cell3⟩
  clear hK K
  (try simp only [Act.put, List.setIfInBounds_toArray, List.set_cons_zero, List.set_cons_succ])
  refine man_take 13 45 (v := ?_) ⟨_, rfl, rfl⟩ (by kernel_rfl) (by kernel_rfl) (by kernel_rfl) (fun _ _ _ h => h) (by assumption) ?_ ?_
  rotate_left
  · intro oi ho; cases ho; refine ⟨by rfl, ?_⟩; intro w hSw; (try dsimp only at hSw); go_simp; try with_reducible rfl
  (try simp only [Act.put, List.setIfInBounds_toArray, List.set_cons_zero, List.set_cons_succ])
  refine man_take 14 46 (v := ?_) ⟨_, rfl, rfl⟩ (by kernel_rfl) (by kernel_rfl) (by kernel_rfl) (fun _ _ _ h => h) (by assumption) ?_ ?_
  rotate_left
  · intro oi ho; cases ho; refine ⟨by rfl, ?_⟩; intro w hSw; (try dsimp only at hSw); go_simp; try with_reducible rfl
  (try simp only [Act.put, List.setIfInBounds_toArray, List.set_cons_zero, List.set_cons_succ])
  refine man_take 15 47 (v := ?_) ⟨_, rfl, rfl⟩ (by kernel_rfl) (by kernel_rfl) (by kernel_rfl) (fun _ _ _ h => h) (by assumption) ?_ ?_
  rotate_left
  · intro oi ho; cases ho; refine ⟨by rfl, ?_⟩; intro w hSw; (try dsimp only at hSw); go_simp; try with_reducible rfl
  (try simp only [Act.put, List.setIfInBounds_toArray, List.set_cons_zero, List.set_cons_succ])
  refine man_take 16 48 (v := ?_) ⟨_, rfl, rfl⟩ (by kernel_rfl) (by kernel_rfl) (by kernel_rfl) (fun _ _ _ h => h) (by assumption) ?_ ?_
  rotate_left
  · intro oi ho; cases ho; refine ⟨by rfl, ?_⟩; intro w hSw; (try dsimp only at hSw); go_simp; try with_reducible rfl
  (try simp only [Act.put, List.setIfInBounds_toArray, List.set_cons_zero, List.set_cons_succ])
  refine man_take 17 49 (v := ?_) ⟨_, rfl, rfl⟩ (by kernel_rfl) (by kernel_rfl) (by kernel_rfl) (fun _ _ _ h => h) (by assumption) ?_ ?_
  rotate_left
  · intro oi ho; cases ho; refine ⟨by rfl, ?_⟩; intro w hSw; (try dsimp only at hSw); go_simp; try with_reducible rfl
  (try simp only [Act.put, List.setIfInBounds_toArray, List.set_cons_zero, List.set_cons_succ])
  refine man_take 18 50 (v := ?_) ⟨_, rfl, rfl⟩ (by kernel_rfl) (by kernel_rfl) (by kernel_rfl) (fun _ _ _ h => h) (by assumption) ?_ ?_
  rotate_left
  · intro oi ho; cases ho; refine ⟨by rfl, ?_⟩; intro w hSw; (try dsimp only at hSw); go_simp; try with_reducible rfl
  (try simp only [Act.put, List.setIfInBounds_toArray, List.set_cons_zero, List.set_cons_succ])
  refine man_take 19 51 (v := ?_) ⟨_, rfl, rfl⟩ (by kernel_rfl) (by kernel_rfl) (by kernel_rfl) (fun _ _ _ h => h) (by assumption) ?_ ?_
  rotate_left
  · intro oi ho; cases ho; refine ⟨by rfl, ?_⟩; intro w hSw; (try dsimp only at hSw); go_simp; try with_reducible rfl
  (try simp only [Act.put, List.setIfInBounds_toArray, List.set_cons_zero, List.set_cons_succ])
  refine man_run 20 rfl (by kernel_rfl) (fun K hK => ?_)
  go_simp
  replace SD := ((SD.box #[.int .i64 0, .int .i64 0] 3).addRd (n := 2) (xs := ([0, 0] : List Int).map (Value.int .i64)) (rd_of_blk (Blk.new _ 3 #[.int .i64 0, .int .i64 0])))
  simp only [size_alloc1, List.nil_append, List.cons_append] at SD
  refine hK.out _ _ ?_ (fun hHeld => ?_)
  · (try dsimp only); exact ⟨(SD.blk 1 rfl).cell3, (SD.blk 3 rfl).cell3⟩
  clear hK K
  (try simp only [Act.put, List.setIfInBounds_toArray, List.set_cons_zero, List.set_cons_succ])
  refine man_run 21 rfl (by kernel_rfl) (fun K hK => ?_)
  go_simp
  refine (KL1.out _ _ _ _ _ _ (SD.rd 4 rfl) (SD.rd 11 rfl)).mono ?_
  rintro e w35 ⟨rfl, hb35⟩
  replace SD := SD.keep hb35
  go_wp2_with fail
  refine hK.out _ _ ?_ (fun hHeld => ?_)
  · (try dsimp only); exact ⟨(SD.blk 1 rfl).cell3, (SD.blk 3 rfl).cell3⟩
  clear hK K
  (try simp only [Act.put, List.setIfInBounds_toArray, List.set_cons_zero, List.set_cons_succ])
  refine man_take 22 54 (v := ?_) ⟨_, rfl, rfl⟩ (by kernel_rfl) (by kernel_rfl) (by kernel_rfl) (fun _ _ _ h => h) (by assumption) ?_ ?_
  rotate_left
  · intro oi ho; cases ho; refine ⟨by rfl, ?_⟩; intro w hSw; (try dsimp only at hSw); go_simp; try with_reducible rfl
  (try simp only [Act.put, List.setIfInBounds_toArray, List.set_cons_zero, List.set_cons_succ])
  refine man_take 23 55 (v := ?_) ⟨_, rfl, rfl⟩ (by kernel_rfl) (by kernel_rfl) (by kernel_rfl) (fun _ _ _ h => h) (by assumption) ?_ ?_
  rotate_left
  · intro oi ho; cases ho; refine ⟨by rfl, ?_⟩; intro w hSw; (try dsimp only at hSw); go_simp; try with_reducible rfl
  (try simp only [Act.put, List.setIfInBounds_toArray, List.set_cons_zero, List.set_cons_succ])
  refine man_take 24 56 (v := ?_) ⟨_, rfl, rfl⟩ (by kernel_rfl) (by kernel_rfl) (by kernel_rfl) (fun _ _ _ h => h) (by assumption) ?_ ?_
  rotate_left
  · intro oi ho; cases ho; refine ⟨by rfl, ?_⟩; intro w hSw; (try dsimp only at hSw); go_simp; try with_reducible rfl
  (try simp only [Act.put, List.setIfInBounds_toArray, List.set_cons_zero, List.set_cons_succ])
  refine man_run 25 rfl (by kernel_rfl) (fun K hK => ?_)
  go_simp
  replace SD := ((SD.box #[.int .i64 1, .int .i64 1] 3).addRd (n := 2) (xs := ([1, 1] : List Int).map (Value.int .i64)) (rd_of_blk (Blk.new _ 3 #[.int .i64 1, .int .i64 1])))
  simp only [size_alloc1, List.nil_append, List.cons_append] at SD
  refine hK.out _ _ ?_ (fun hHeld => ?_)
  · (try dsimp only); exact ⟨(SD.blk 1 rfl).cell3, (SD.blk 3 rfl).cell3⟩
  clear hK K
  (try simp only [Act.put, List.setIfInBounds_toArray, List.set_cons_zero, List.set_cons_succ])
  refine man_run 26 rfl (by kernel_rfl) (fun K hK => ?_)
  go_simp
  refine (KL2.out _ _ _ _ _ _ (SD.rd 5 rfl) (SD.rd 13 rfl)).mono ?_
  rintro e w36 ⟨rfl, hb36⟩
  replace SD := SD.keep hb36
  go_wp2_with fail
  refine hK.out _ _ ?_ (fun hHeld => ?_)
  · (try dsimp only); exact ⟨(SD.blk 1 rfl).cell3, (SD.blk 3 rfl).cell3⟩
  clear hK K
  (try simp only [Act.put, List.setIfInBounds_toArray, List.set_cons_zero, List.set_cons_succ])
  refine man_take 27 59 (v := ?_) ⟨_, rfl, rfl⟩ (by kernel_rfl) (by kernel_rfl) (by kernel_rfl) (fun _ _ _ h => h) (by assumption) ?_ ?_
  rotate_left
  · intro oi ho; cases ho; refine ⟨by rfl, ?_⟩; intro w hSw; (try dsimp only at hSw); go_simp; try with_reducible rfl
  (try simp only [Act.put, List.setIfInBounds_toArray, List.set_cons_zero, List.set_cons_succ])
  refine man_take 28 60 (v := ?_) ⟨_, rfl, rfl⟩ (by kernel_rfl) (by kernel_rfl) (by kernel_rfl) (fun _ _ _ h => h) (by assumption) ?_ ?_
  rotate_left
  · intro oi ho; cases ho; refine ⟨by rfl, ?_⟩; intro w hSw; (try dsimp only at hSw); go_simp; try with_reducible rfl
  (try simp only [Act.put, List.setIfInBounds_toArray, List.set_cons_zero, List.set_cons_succ])
  refine man_take 29 61 (v := ?_) ⟨_, rfl, rfl⟩ (by kernel_rfl) (by kernel_rfl) (by kernel_rfl) (fun _ _ _ h => h) (by assumption) ?_ ?_
  rotate_left
  · intro oi ho; cases ho; refine ⟨by rfl, ?_⟩; intro w hSw; (try dsimp only at hSw); go_simp; try with_reducible rfl
  (try simp only [Act.put, List.setIfInBounds_toArray, List.set_cons_zero, List.set_cons_succ])
  refine man_take 30 62 (v := ?_) ⟨_, rfl, rfl⟩ (by kernel_rfl) (by kernel_rfl) (by kernel_rfl) (fun _ _ _ h => h) (by assumption) ?_ ?_
  rotate_left
  · intro oi ho; cases ho; refine ⟨by rfl, ?_⟩; intro w hSw; (try dsimp only at hSw); go_simp; try with_reducible rfl
  (try simp only [Act.put, List.setIfInBounds_toArray, List.set_cons_zero, List.set_cons_succ])
  refine man_take 31 63 (v := ?_) ⟨_, rfl, rfl⟩ (by kernel_rfl) (by kernel_rfl) (by kernel_rfl) (fun _ _ _ h => h) (by assumption) ?_ ?_
  rotate_left
  · intro oi ho; cases ho; refine ⟨by rfl, ?_⟩; intro w hSw; (try dsimp only at hSw); go_simp; try with_reducible rfl
  (try simp only [Act.put, List.setIfInBounds_toArray, List.set_cons_zero, List.set_cons_succ])
  refine man_take 32 0 (v := ?_) ⟨_, rfl, rfl⟩ (by kernel_rfl) (by kernel_rfl) (by kernel_rfl) (fun _ _ _ h => h) (by assumption) ?_ ?_
  rotate_left
  · intro oi ho; cases ho; refine ⟨by rfl, ?_⟩; intro w hSw; (try dsimp only at hSw); go_simp; try with_reducible rfl
  (try simp only [Act.put, List.setIfInBounds_toArray, List.set_cons_zero, List.set_cons_succ])
  refine wpAnyH_done (by kernel_rfl) ?_ _
  go_wp2_with fail
  go_ret
  exact ⟨by trivial, SD.below⟩
end Go.Proofs.Ytefeghpglacghaa
