/- raddleref14.Counts: how often an image has each colour. -/
import Derived.Test.YtpfonniepinjnaaCntP
import Derived.Test.YtpfonniepinjnaaImC
import Derived.Test.YtpfonniepinjnaaRetL
import Derived.Deep.OwnRows
namespace Go.Proofs.Ytpfonniepinjnaa
open Go.RowKit

theorem make_i (n : Nat) (hn : n ≤ 1048576) (W : World) : (Instr.makeSlice 25 (.int .i64 (n : Int)) (.int .i64 (n : Int))).run Try.prog W = .ok (.slice (some ⟨W.heap.size, 0, none⟩) n n) (W.alloc (.cells (madeCells #[Value.int .i64 0] n) 3)) :=
  run_make_row' (P := Try.prog) 25 3 (.int .i64 0) 8 Try.underlying25 Try.infoI rfl .i64 .i64 n (by omega) (by omega) W

set_option linter.unusedVariables false in
set_option maxHeartbeats 4000000 in
set_option maxRecDepth 100000 in
theorem rcounts_any (m : Im) (A : Option Addr) (n c : Nat) (w : World) (hr : Rd w A n (m.c.map (Value.int .i64))) (hn : n ≤ 1048576) :
    Calls Try.prog 31 #[.agg #[.int .i64 m.w, .int .i64 m.h, .slice A n c]] w (RetL (countsI m) w) := by
  have lb : m.c.length = n := by simpa using hr.len
  have S0 := ((St.start w).addRd hr).box #[.int .i64 m.w, .int .i64 m.h, .slice A n c] 29
  simp only [List.nil_append, List.cons_append] at S0
  obtain ⟨c0, c1, c2⟩ := (S0.blk 1 rfl).cell3
  have HT := Lib.hid (fun (W : World) h => rcheckI_any m A n c W h hn)
  by_cases h0 : chkI m = 0
  · have HC := Lib.hid (countsI_ok h0)
    obtain ⟨W, H, cs⟩ := m
    obtain ⟨a, b, h1, h2, ha1, ha, hb1, hb, hl, hf⟩ := chkI_zero h0
    simp only at h1 h2 hl hf lb
    subst h1 h2
    rw [h0] at HT
    simp only at HT S0 c0 c1 c2 HC ⊢
    have HF := Lib.hid (fun (k : Nat) (h : k < cs.length) => fineL_get hf h)
    have hba : b * a ≤ 64 * 64 := Nat.mul_le_mul hb ha
    have hn4 : n ≤ 4096 := by omega
    have HL := Lib.hid lb
    have hmk : ∀ W : World, (Instr.makeSlice 25 (.int .i64 16) (.int .i64 16)).run Try.prog W = .ok (.slice (some ⟨W.heap.size, 0, none⟩) 16 16) (W.alloc (.cells (madeCells #[Value.int .i64 0] 16) 3)) := fun W => make_i 16 (by omega) W
    obtain ⟨zs, hzs⟩ : ∃ zs, madeCells #[Value.int .i64 0] 16 = zs := ⟨_, rfl⟩
    have hz0 : zs = ((cntL cs 0).map (Value.int .i64)).toArray := by
      rw [← hzs, cntL_zero]
      apply Array.ext'
      rw [toList_madeCells_one]
      simp
    rw [hzs] at hmk
    have HZ := Lib.hid hz0
    clear h0 hl hf hba lb hzs hr hz0
    go_enter Try.func31, Try.ntmps31
    go_wp2_with fail
    refine (HT.out _ (S0.rd 0 rfl)).mono ?_
    rintro e w1 ⟨rfl, hb1⟩
    have S1 := S0.keep hb1
    clear c0 c1 c2 HT S0
    have S2 := S1.alloc (.cells zs 3)
    obtain ⟨c0, c1, c2⟩ := (S2.blk 1 rfl).cell3
    have hlt1 := (S1.blk 1 rfl).lt
    have hB1 : Below w1.heap.size w1 (w1.alloc (.cells zs 3)) := (Below.refl _ _).alloc (Nat.le_refl _) _
    have hG1 : Blk (w1.alloc (.cells zs 3)) w1.heap.size 3 ((cntL cs 0).map (Value.int .i64)).toArray := by rw [← HZ.out]; exact Blk.new w1 _ zs
    go_wp2_with fail
    clear c0 c1 c2 S2
    go_loopw [5] (fun v wr => ∃ j : Nat, j ≤ n ∧ v = .int .i64 j ∧ Blk wr w1.heap.size 3 ((cntL cs j).map (Value.int .i64)).toArray ∧ Below w1.heap.size w1 wr) (fun v _ => n - (intOf v).toNat)
    case atStart => exact ⟨0, Nat.zero_le _, rfl, hG1, hB1⟩
    case round =>
      clear hG1 hB1
      obtain ⟨j, hj, rfl, hG, hB⟩ := hrel
      have S := S1.keep hB
      obtain ⟨c0, c1, c2⟩ := (S.blk 1 rfl).cell3
      by_cases hlt : j < n
      · obtain ⟨bl, o, hA, _, hc⟩ := (S.rd 0 rfl).at_ (by omega)
        have g0 := hc j (.int .i64 (cs.getD j 0)) (by have := HL.out; rw [List.getElem?_map, List.getElem?_eq_getElem (by omega)]; simp [List.getD, show j < cs.length by omega])
        have h15 := HF.out j (by rw [HL.out]; exact hlt)
        obtain ⟨k, hk⟩ : ∃ k : Nat, cs.getD j 0 = (k : Int) := ⟨(cs.getD j 0).toNat, by omega⟩
        have HST := Lib.hid (cntL_step (by rw [HL.out]; exact hlt) (by omega : k < 16) hk)
        have hle := cntL_le (cs := cs) (j := j) (c := k) (by omega)
        have y0 : wr.cell? ⟨w1.heap.size, k, none⟩ = some (.int .i64 ((cntL cs j).getD k 0)) := by
          rw [Blk.cell hG, List.getElem?_toArray, List.getElem?_map, List.getElem?_eq_getElem (by rw [cntL_len]; omega)]
          simp [List.getD, show k < (cntL cs j).length by rw [cntL_len]; omega]
        have hfr := Blk.frozen hG k
        have hG2 := Blk.set_ hG k (.int .i64 ((cntL cs j).getD k 0 + 1))
        have hB2 := Below.setCell hB (p := ⟨w1.heap.size, k, none⟩) (Nat.le_refl _) (.int .i64 ((cntL cs j).getD k 0 + 1))
        rw [List.setIfInBounds_toArray, ← List.map_set, HST.out] at hG2
        rw [hk] at g0 h15
        clear hc hk HST hG hB
        generalize (cntL cs j).getD k 0 = z at *
        go_wp2_with fail
        go_roundw
        case rel => exact ⟨j + 1, by omega, by go_num, hG2, hB2⟩
        case measure => simp [intOf]; omega
      · obtain rfl : n = j := by omega
        go_wp2_with fail
        go_ret2
        rw [HC.out]
        have hsz : ((cntL cs n).map (Value.int .i64)).toArray.size = 16 := by simp [cntL_len]
        have hown := own_of_blk (base := w1.heap.size) hG (Nat.le_refl _) (by rw [hsz]; decide)
        rw [hsz] at hown
        exact ⟨some ⟨w1.heap.size, 0, none⟩, 16, 16, rfl, by rw [HL.out]; exact own_base hown S1.size, S.below⟩
  · have hne : (chkI m != 0) = true := by simpa using h0
    have HC := Lib.hid (countsI_bad h0)
    clear h0 lb
    generalize chkI m = t at *
    go_enter Try.func31, Try.ntmps31
    go_wp2_with fail
    refine (HT.out _ (S0.rd 0 rfl)).mono ?_
    rintro e w1 ⟨rfl, hb1⟩
    have S1 := S0.keep hb1
    clear c0 c1 c2
    obtain ⟨c0, c1, c2⟩ := (S1.blk 1 rfl).cell3
    go_wp2_with fail
    refine (HT.out _ (S1.rd 0 rfl)).mono ?_
    rintro e w2 ⟨rfl, hb2⟩
    have S2 := S1.keep hb2
    go_wp2_with fail
    go_ret2
    rw [HC.out]
    exact retL_bad S2.below
end Go.Proofs.Ytpfonniepinjnaa
