/- colour.Counts: how often an image has each colour. -/
import Derived.Test.YtpfonniepinjnaaDoorCntP
import Derived.Test.YtpfonniepinjnaaDoorImCk
import Derived.Test.YtpfonniepinjnaaDoorClone
import Derived.Deep.WholeRow
namespace Go.Proofs.YtpfonniepinjnaaDoor
open Go.RowKit

theorem Tryd.infoA16 : (Tryd.prog.info? 72).map (fun i => (i.zero, i.size)) = some (some (.agg ((List.replicate 16 (0 : Int)).map (Value.int .i64)).toArray), 16) := by kernel_rfl
theorem slice_16 (g : Nat) (W : World) : (Instr.sliceAt 72 (.pointer (some ⟨g, 0, none⟩)) none none none).run Tryd.prog W = .ok (.slice (some ⟨g, 0, none⟩) 16 16) W := by
  have hal : Tryd.prog.arrayLen 72 = 16 := by simp [Program.arrayLen, Tryd.underlying72]
  rw [run_sliceAt_array_all W 72 ⟨g, 0, none⟩ (by simp [Program.arrayLen, Program.elem, Tryd.underlying72])]
  go_simp

set_option linter.unusedVariables false in
set_option maxHeartbeats 4000000 in
set_option maxRecDepth 100000 in
theorem counts_any (m : Im) (A : Option Addr) (n c : Nat) (w : World) (hr : Rd w A n (m.c.map (Value.int .i64))) (hn : n ≤ 1048576) :
    Calls Tryd.prog 14 #[.agg #[.int .i64 m.w, .int .i64 m.h, .slice A n c]] w (RetL (countsI m) w) := by
  have lb : m.c.length = n := by simpa using hr.len
  have S0 := ((St.start w).addRd hr).box #[.int .i64 m.w, .int .i64 m.h, .slice A n c] 24
  simp only [List.nil_append, List.cons_append] at S0
  obtain ⟨c0, c1, c2⟩ := (S0.blk 1 rfl).cell3
  have HT := Lib.hid (checkI_any m A n c _ (S0.rd 0 rfl) hn)
  by_cases h0 : chkI m = 0
  · have HC := Lib.hid (countsI_ok h0)
    obtain ⟨W, H, cs⟩ := m
    obtain ⟨a, b, h1, h2, ha1, ha, hb1, hb, hl, hf⟩ := chkI_zero h0
    simp only at h1 h2 hl hf lb
    subst h1 h2
    rw [h0] at HT
    simp only at HT S0 c0 c1 c2 HC ⊢
    have HF := Lib.hid (fun (k : Nat) (h : k < cs.length) => fineL_get hf h)
    have hba : b * a ≤ 64 * 64 := Nat.mul_le_mul hb ha
    have hn4 : n ≤ 4096 := by omega
    have HL := Lib.hid lb
    have hz := (zero_of_info Tryd.infoA16).1
    rw [← cntL_zero cs] at hz
    obtain ⟨zs, hzs⟩ : ∃ zs, ((cntL cs 0).map (Value.int .i64)).toArray = zs := ⟨_, rfl⟩
    have HZ := Lib.hid hzs
    rw [hzs] at hz
    clear h0 hl hf hba lb hzs hr
    go_enter Tryd.func14, Tryd.ntmps14
    go_wp2_with fail
    refine HT.out.mono ?_
    rintro e w1 ⟨rfl, hb1⟩
    have S1 := S0.keep hb1
    clear c0 c1 c2 HT S0
    have S2 := S1.alloc (.cells zs 72)
    obtain ⟨c0, c1, c2⟩ := (S2.blk 1 rfl).cell3
    have hlt1 := (S1.blk 1 rfl).lt
    have hB1 : Below w1.heap.size w1 (w1.alloc (.cells zs 72)) := (Below.refl _ _).alloc (Nat.le_refl _) _
    have hG1 : Blk (w1.alloc (.cells zs 72)) w1.heap.size 72 ((cntL cs 0).map (Value.int .i64)).toArray := by rw [HZ.out]; exact Blk.new w1 _ zs
    go_wp2_with fail
    clear c0 c1 c2 S2
    go_loopw [16] (fun v wr => ∃ j : Nat, j ≤ n ∧ v = .int .i64 j ∧ Blk wr w1.heap.size 72 ((cntL cs j).map (Value.int .i64)).toArray ∧ Below w1.heap.size w1 wr) (fun v _ => n - (intOf v).toNat)
    case atStart => exact ⟨0, Nat.zero_le _, rfl, hG1, hB1⟩
    case round =>
      clear hG1 hB1
      obtain ⟨j, hj, rfl, hG, hB⟩ := hrel
      have S := S1.keep hB
      by_cases hlt : j < n
      · obtain ⟨bl, o, hA, _, hc⟩ := (S.rd 0 rfl).at_ (by omega)
        have g0 := hc j (.int .i64 (cs.getD j 0)) (by have := HL.out; rw [List.getElem?_map, List.getElem?_eq_getElem (by omega)]; simp [List.getD, show j < cs.length by omega])
        have h15 := HF.out j (by rw [HL.out]; exact hlt)
        obtain ⟨k, hk⟩ : ∃ k : Nat, cs.getD j 0 = (k : Int) := ⟨(cs.getD j 0).toNat, by omega⟩
        have HST := Lib.hid (cntL_step (by rw [HL.out]; exact hlt) (by omega : k < 16) hk)
        have hle := cntL_le (cs := cs) (j := j) (c := k) (by omega)
        have y0 : wr.cell? ⟨w1.heap.size, k, none⟩ = some (.int .i64 ((cntL cs j).getD k 0)) := by
          rw [Blk.cell hG, List.getElem?_toArray, List.getElem?_map, List.getElem?_eq_getElem (by rw [cntL_len]; omega)]
          simp [List.getD, show k < (cntL cs j).length by rw [cntL_len]; omega]
        have hfr := Blk.frozen hG k
        have hG2 := Blk.set_ hG k (.int .i64 ((cntL cs j).getD k 0 + 1))
        have hB2 := Below.setCell hB (p := ⟨w1.heap.size, k, none⟩) (Nat.le_refl _) (.int .i64 ((cntL cs j).getD k 0 + 1))
        rw [List.setIfInBounds_toArray, ← List.map_set, HST.out] at hG2
        rw [hk] at g0 h15
        clear hc hk HST hG hB
        generalize (cntL cs j).getD k 0 = z at *
        go_wp2_with fail
        go_roundw
        case rel => exact ⟨j + 1, by omega, by go_num, hG2, hB2⟩
        case measure => simp [intOf]; omega
      · obtain rfl : n = j := by omega
        have hsl := slice_16 w1.heap.size
        have hR : Rd wr (some ⟨w1.heap.size, 0, none⟩) 16 ((cntL cs n).map (Value.int .i64)) := ⟨by rw [List.length_map, cntL_len], fun _ => ⟨w1.heap.size, 0, rfl, fun j u hu => by rw [Nat.zero_add, Blk.cell hG]; simpa using hu⟩⟩
        go_wp2_with fail
        refine (clone_any ⟨w1.heap.size, 0, none⟩ 16 16 (cntL cs n) wr hR (by omega)).mono ?_
        rintro e w3 ⟨A', c', rfl, hown, hb3⟩
        have S3 := S.keep hb3
        go_wp2_with fail
        go_ret2
        rw [HC.out]
        exact ⟨A', 16, c', rfl, by rw [HL.out]; exact own_base hown S.size, S3.below⟩
  · have hne : (chkI m != 0) = true := by simpa using h0
    have HC := Lib.hid (countsI_bad h0)
    clear h0 lb
    generalize chkI m = t at *
    go_enter Tryd.func14, Tryd.ntmps14
    go_wp2_with fail
    refine HT.out.mono ?_
    rintro e w1 ⟨rfl, hb1⟩
    have S1 := S0.keep hb1
    clear c0 c1 c2 HT
    go_wp2_with fail
    go_ret2
    rw [HC.out]
    exact retL_bad S1.below
end Go.Proofs.YtpfonniepinjnaaDoor
