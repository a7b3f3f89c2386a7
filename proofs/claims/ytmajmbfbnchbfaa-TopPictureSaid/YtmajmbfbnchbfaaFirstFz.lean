/- picture.First gives the least thread colours that fit an image, or none. -/
import Derived.Test.YtmajmbfbnchbfaaFirst15z
import Derived.Test.YtmajmbfbnchbfaaStart15z
import Derived.Test.YtmajmbfbnchbfaaFindPz
import Derived.Test.YtmajmbfbnchbfaaMg7z
namespace Go.Proofs.Ytmajmbfbnchbfaa
open Go.RowKit

/-- The colours of a state as two lists: the least fit. -/
theorem first_done {a b : Nat} {cs p q : List Int} (ha : a ≤ 64) (hb : b ≤ 64) (hp : p.length = 64) (hq : q.length = 64) (h : FInv (N2 a b) (M2 a cs) 2 0 (F2 p q)) : FirstR a b cs (p.take a) (q.take b) 0 := by
  obtain ⟨hF, hL⟩ := h.done
  have hpt : (p.take a).length = a := by rw [List.length_take]; omega
  have hqt : (q.take b).length = b := by rw [List.length_take]; omega
  have he : ∀ k i, k < 2 → i < N2 a b k → F2 p q k i = F2 (p.take a) (q.take b) k i := fun k i hk hi => by
    rcases (show k = 0 ∨ k = 1 by omega) with rfl | rfl
    · have hi' : i < a := hi
      rw [f2_0 (by omega), f2_0 (by rw [hpt]; exact hi'), List.getD_eq_getElem?_getD, List.getD_eq_getElem?_getD, List.getElem?_take, if_pos hi']
    · have hi' : i < b := hi
      rw [f2_1 (by omega), f2_1 (by rw [hqt]; exact hi'), List.getD_eq_getElem?_getD, List.getD_eq_getElem?_getD, List.getElem?_take, if_pos hi']
  refine .inl ⟨rfl, hpt, hqt, hF.congr he, fun F hFF => ?_⟩
  rcases hL F hFF with h1 | ⟨kd, jd, h1, h2, h3, h4, h5⟩
  · exact .inl fun k i hk hi hb => by rw [← he k i hk hi]; exact h1 k i hk hi hb
  · exact .inr ⟨kd, jd, h1, h2, h3, by rw [← he kd jd h1 h2]; exact h4, fun k i hk hi hb => by rw [← he k i hk hi]; exact h5 k i hk hi hb⟩
/-- The cells of an image are colours. -/
theorem fine_m2 {a b : Nat} {cs : List Int} (hl : cs.length = b * a) (hf : fineL cs = true) : ∀ k i j, k < 2 → i < N2 a b k → j < N2 a b (1 - k) → 0 ≤ M2 a cs k i j ∧ M2 a cs k i j ≤ 15 := fun k i j hk hi hj => by
  rcases (show k = 0 ∨ k = 1 by omega) with rfl | rfl
  · have hi' : i < a := hi
    have hj' : j < b := hj
    exact fineL_get hf (by rw [hl]; exact Pl.cell_lt hi' hj')
  · have hi' : i < b := hi
    have hj' : j < a := hj
    exact fineL_get hf (by rw [hl]; exact Pl.cell_lt hj' hi')
/-- The colours of a side, as a slice over the state's block. -/
theorem rd_p {w : World} {g a b k : Nat} {t : TypeId} {F0 F1 : Value} {p q : List Int} (h : StB w g t a b F0 F1 p q) (hp : p.length = 64) (hk : k ≤ 64) : Rd w (some ⟨g, 2, none⟩) k ((p.take k).map (Value.int .i64)) :=
  ⟨by rw [List.length_map, List.length_take]; omega, fun _ => ⟨g, 2, rfl, fun j u hu => by
    have hj : j < ((p.take k).map (Value.int .i64)).length := (List.getElem?_eq_some_iff.1 hu).1
    rw [List.length_map, List.length_take] at hj
    refine StB.cell h (2 + j) ?_
    rw [stL_p hp (by omega), ← hu, List.getElem?_map, List.getElem?_take, if_pos (by omega), List.getD_eq_getElem?_getD, List.getElem?_eq_getElem (by omega)]
    rfl⟩⟩
theorem rd_q {w : World} {g a b k : Nat} {t : TypeId} {F0 F1 : Value} {p q : List Int} (h : StB w g t a b F0 F1 p q) (hp : p.length = 64) (hq : q.length = 64) (hk : k ≤ 64) : Rd w (some ⟨g, 68, none⟩) k ((q.take k).map (Value.int .i64)) :=
  ⟨by rw [List.length_map, List.length_take]; omega, fun _ => ⟨g, 68, rfl, fun j u hu => by
    have hj : j < ((q.take k).map (Value.int .i64)).length := (List.getElem?_eq_some_iff.1 hu).1
    rw [List.length_map, List.length_take] at hj
    refine StB.cell h (68 + j) ?_
    rw [stL_q hp hq (by omega), ← hu, List.getElem?_map, List.getElem?_take, if_pos (by omega), List.getD_eq_getElem?_getD, List.getElem?_eq_getElem (by omega)]
    rfl⟩⟩
theorem slice_arr (g o k : Nat) (hk : k ≤ 64) (W : World) : (Instr.sliceAt 73 (.pointer (some ⟨g, o, none⟩)) none (some (.int .i64 k)) none).run Try.prog W = .ok (.slice (some ⟨g, o, none⟩) k 64) W := by
  have hal : Try.prog.arrayLen 73 = 64 := by simp [Program.arrayLen, Try.underlying73]
  rw [run_sliceAt_array_h W 73 ⟨g, o, none⟩ (by simp [Program.arrayLen, Program.elem, Try.underlying73]) .i64 (k : Int) (by omega) (by rw [hal]; omega)]
  go_simp
/-- What picture.First returns of any image. -/
def FirstI (m : Im) (p q : List Int) (e : Int) : Prop := (chkI m ≠ 0 ∧ p = [] ∧ q = [] ∧ e = 8) ∨ (chkI m = 0 ∧ FirstR m.w.toNat m.h.toNat m.c p q e)

set_option linter.unusedVariables false in
set_option maxHeartbeats 4000000 in
set_option maxRecDepth 100000 in
theorem First_any (m : Im) (A : Option Addr) (n c : Nat) (w : World) (hr : Rd w A n (m.c.map (Value.int .i64))) (hn : n ≤ 1048576) :
    Calls Try.prog 12 #[.agg #[.int .i64 m.w, .int .i64 m.h, .slice A n c]] w fun e w' => ∃ (p q : List Int) (er : Int) (A1 A2 : Option Addr) (c1 c2 : Nat),
      e = .returned (.tuple #[.slice A1 p.length c1, .slice A2 q.length c2, .int .i64 er]) ∧ FirstI m p q er ∧
      w'.ownsRow w.heap.size 3 1 (.slice A1 p.length c1) p.length (p.map (Value.int .i64)) ∧ w'.ownsRow w.heap.size 3 1 (.slice A2 q.length c2) q.length (q.map (Value.int .i64)) ∧ Below w.heap.size w w' := by
  have lb : m.c.length = n := by simpa using hr.len
  have S0 := ((St.start w).addRd hr).box #[.int .i64 m.w, .int .i64 m.h, .slice A n c] 36
  simp only [List.nil_append, List.cons_append] at S0
  obtain ⟨c0, c1, c2⟩ := (S0.blk 1 rfl).cell3
  have HT := Lib.hid (checkI_any m A n c _ (S0.rd 0 rfl) hn)
  by_cases h0 : chkI m = 0
  · obtain ⟨W, H, cs⟩ := m
    obtain ⟨a, b, h1, h2, ha1, ha, hb1, hb, hl, hf⟩ := chkI_zero h0
    simp only at h1 h2 hl hf lb
    subst h1 h2
    have H0 := Lib.hid h0
    rw [h0] at HT
    simp only at HT S0 c0 c1 c2 ⊢
    obtain rfl : n = b * a := by omega
    clear h0 lb
    obtain ⟨zs, hzs, hzl⟩ := zeros_state
    have hE0 := Proofs.enters_of Try.func47 (by kernel_rfl) rfl
    have hE1 := Proofs.enters_of Try.func48 (by kernel_rfl) rfl
    go_enter Try.func12, Try.ntmps12
    go_wp2_with fail
    refine HT.out.mono ?_
    rintro e w1 ⟨rfl, hb1⟩
    have S1 := S0.keep hb1
    clear c0 c1 c2 HT
    obtain ⟨c0, c1, c2⟩ := (S1.blk 1 rfl).cell3
    go_wp2_with fail
    refine (start_any a b A (b * a) c w1).mono ?_
    rintro e w2 ⟨mB, rfl, hmB, hmB2, hb2⟩
    have S2 := S1.keep hb2
    clear c0 c1 c2
    obtain ⟨c0, c1, c2⟩ := (S2.blk 1 rfl).cell3
    obtain ⟨R, hR⟩ : ∃ R, R = List.replicate 64 (-1 : Int) := ⟨_, rfl⟩
    rw [← hR]
    have hR64 : R.length = 64 := by rw [hR]; simp
    have HR := Lib.hid hR
    clear hR
    go_wp2_with (first
      | (refine wpList_store_new rfl 77 (.tmp 6) (.tmp 13) rfl zs _ 77 rfl rfl (size_state hR64 hR64) (by rw [hzl, List.size_toArray, stL_length hR64 hR64]) one_state ?_)
      | fail)
    have hSn : StB (w2.alloc (.cells (stL a b (.func (.func 47) #[] #[.pointer (some ⟨mB, 0, none⟩)]) (.func (.func 48) #[] #[.pointer (some ⟨mB, 0, none⟩)]) R R).toArray 77)) w2.heap.size 77 a b (.func (.func 47) #[] #[.pointer (some ⟨mB, 0, none⟩)]) (.func (.func 48) #[] #[.pointer (some ⟨mB, 0, none⟩)]) R R := Blk.new w2 77 _
    have S3 := S2.alloc (.cells (stL a b (.func (.func 47) #[] #[.pointer (some ⟨mB, 0, none⟩)]) (.func (.func 48) #[] #[.pointer (some ⟨mB, 0, none⟩)]) R R).toArray 77)
    have hbn : Below w2.heap.size w2 (w2.alloc (.cells (stL a b (.func (.func 47) #[] #[.pointer (some ⟨mB, 0, none⟩)]) (.func (.func 48) #[] #[.pointer (some ⟨mB, 0, none⟩)]) R R).toArray 77)) := (Below.refl _ _).alloc (Nat.le_refl _) _
    refine (first_any a b w2.heap.size w2.heap.size cs _ _ _ _ _ ha hb (Nat.le_refl _) R HR.out (fine_m2 hl hf) hSn hE0 hE1 ((start1_gives a b mB A c cs w2 ha hb hmB (S2.rd 0 rfl)).mono (Nat.le_refl _) hbn) ((start2_gives a b mB A c cs w2 ha hb hmB (S2.rd 0 rfl)).mono (Nat.le_refl _) hbn)).mono ?_
    rintro e w3 ⟨r, p, q, rfl, hS4, hp, hq, hb3, hr3⟩
    have S4 := S2.keep (hbn.trans hb3)
    clear c0 c1 c2
    rcases hr3 with ⟨rfl, hF⟩ | ⟨rfl, hF⟩
    · have hRd := first_done ha hb hp hq hF
      obtain ⟨c0, c1, c2⟩ := (S4.blk 1 rfl).cell3
      have SD := ((S4.addRd (rd_p hS4 hp ha)).addRd (rd_q hS4 hp hq hb)).drew
      simp only [List.nil_append, List.cons_append] at SD
      have hpt : (p.take a).length = a := by rw [List.length_take]; omega
      have hqt : (q.take b).length = b := by rw [List.length_take]; omega
      have hsl1 := slice_arr w2.heap.size 2 a ha
      have hsl2 := slice_arr w2.heap.size 68 b hb
      generalize p.take a = P1 at *
      generalize q.take b = Q1 at *
      have hsz := Nat.le_trans S2.size (Nat.le_trans hbn.size hb3.size)
      clear hS4 hSn S3 hF hzs HR hmB hb2 hbn hb3 hf hl hr
      go_wp2_with fail
      go_region_held3 (fun w' => w'.cell? ⟨w.heap.size, 0, none⟩ = some (.int .i64 a) ∧ w'.cell? ⟨w.heap.size, 1, none⟩ = some (.int .i64 b) ∧ w'.cell? ⟨w.heap.size, 2, none⟩ = some (.slice A (b * a) c))
        (first | exact (SD.blk 1 rfl).cell3 | go_keep)
        (first
          | (go_at_call 35; ((with_reducible refine (clone_any ⟨w2.heap.size, 2, none⟩ a 64 P1 _ (SD.rd 2 rfl) (by omega)).mono ?_); rintro e1 wz ⟨A1, k1, rfl, ho1, hbz⟩; replace ho1 := own_base ho1 SD.size; replace SD := SD.keep hbz; try (replace ho2 := own_below ho2 hbz)))
          | (go_at_call 35; ((with_reducible refine (clone_any ⟨w2.heap.size, 68, none⟩ b 64 Q1 _ (SD.rd 3 rfl) (by omega)).mono ?_); rintro e2 wz ⟨A2, k2, rfl, ho2, hbz⟩; replace ho2 := own_base ho2 SD.size; replace SD := SD.keep hbz; try (replace ho1 := own_below ho1 hbz)))
          | fail)
      all_goals
        have HN : FirstI ⟨a, b, cs⟩ P1 Q1 0 := .inr ⟨H0.out, hRd⟩
        have HN2 := Lib.hid HN
        have HP := Lib.hid hpt
        have HQ := Lib.hid hqt
        clear HN hRd hpt hqt hsl1 hsl2
        go_wp2_with fail
        go_ret3
        exact ⟨P1, Q1, 0, A1, A2, k1, k2, by rw [HP.out, HQ.out]; rfl, HN2.out, by rw [HP.out]; exact ho1, by rw [HQ.out]; exact ho2, SD.below⟩
    · have HN : FirstI ⟨a, b, cs⟩ [] [] 6 := .inr ⟨H0.out, .inr ⟨rfl, rfl, rfl, hF⟩⟩
      have HN2 := Lib.hid HN
      clear HN hF
      go_wp2_with fail
      go_ret3
      exact ⟨[], [], 6, none, none, 0, 0, rfl, HN2.out, World.ownsRow_nil _ _ _ _, World.ownsRow_nil _ _ _ _, S4.below⟩
  · have hne : (chkI m != 0) = true := by simpa using h0
    have HN : FirstI m [] [] (chkI m) := .inl ⟨h0, rfl, rfl, chkI_ne h0⟩
    have HN2 := Lib.hid HN
    clear HN h0 lb
    generalize chkI m = t at *
    go_enter Try.func12, Try.ntmps12
    go_wp2_with fail
    refine HT.out.mono ?_
    rintro e w1 ⟨rfl, hb1⟩
    have S1 := S0.keep hb1
    clear c0 c1 c2 HT
    go_wp2_with fail
    go_ret3
    exact ⟨[], [], t, none, none, 0, 0, rfl, HN2.out, World.ownsRow_nil _ _ _ _, World.ownsRow_nil _ _ _ _, S1.below⟩
end Go.Proofs.Ytmajmbfbnchbfaa
