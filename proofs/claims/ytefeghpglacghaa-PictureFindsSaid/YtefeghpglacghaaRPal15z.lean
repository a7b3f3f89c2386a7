/- raddleref15.Palette, colour, Pick and Picks: the palette of an image, the colours with some indices, the picks that fit. -/
import Derived.Test.YtefeghpglacghaaFindPz
import Derived.Test.YtefeghpglacghaaImCz
import Derived.Test.YtefeghpglacghaaMg2z
import Derived.Test.YtefeghpglacghaaMg6z
namespace Go.Proofs.Ytefeghpglacghaa
open Go.RowKit

theorem rd_lit {w : World} {b o n i : Nat} {l : List Int} (h : Rd w (some ⟨b, o, none⟩) n (l.map (Value.int .i64))) (hi : i < n) : w.cell? ⟨b, o + i, none⟩ = some (.int .i64 (l.getD i 0)) := by
  have hl : l.length = n := by simpa using h.len
  exact h.lit i _ (by rw [List.getElem?_map, List.getElem?_eq_getElem (by omega)]; simp [List.getD, show i < l.length by omega])
theorem in_step {cs : List Int} {i : Nat} {c : Int} (hi : i < cs.length) : decide (c ∈ cs.take (i + 1)) = (decide (c ∈ cs.take i) || (cs.getD i 0 == c)) := by
  rw [List.take_add_one, List.getElem?_eq_getElem hi, List.getD_eq_getElem?_getD, List.getElem?_eq_getElem hi]
  simp only [Option.toList_some, List.mem_append, List.mem_singleton, Option.getD_some]
  by_cases h : c ∈ cs.take i
  · simp [h]
  · by_cases h2 : cs[i] = c
    · simp [h2]
    · have h3 : ¬ c = cs[i] := fun e => h2 e.symm
      simp [h, h2, h3]
theorem palL_in {cs : List Int} {c : Nat} (h : decide ((c : Int) ∈ cs) = true) : palL cs (c + 1) = ((palL cs c).1 ++ [(c : Int)], (palL cs c).2) := by
  have e : palL cs (c + 1) = (if decide ((c : Int) ∈ cs) || !(palL cs c).2 then (palL cs c).1 ++ [(c : Int)] else (palL cs c).1, (palL cs c).2 || !decide ((c : Int) ∈ cs)) := rfl
  rw [e, h]; simp
theorem palL_one1 {cs : List Int} {c : Nat} (h : decide ((c : Int) ∈ cs) = false) (h2 : (palL cs c).2 = false) : palL cs (c + 1) = ((palL cs c).1 ++ [(c : Int)], true) := by
  have e : palL cs (c + 1) = (if decide ((c : Int) ∈ cs) || !(palL cs c).2 then (palL cs c).1 ++ [(c : Int)] else (palL cs c).1, (palL cs c).2 || !decide ((c : Int) ∈ cs)) := rfl
  rw [e, h, h2]; simp
theorem palL_skip {cs : List Int} {c : Nat} (h : decide ((c : Int) ∈ cs) = false) (h2 : (palL cs c).2 = true) : palL cs (c + 1) = ((palL cs c).1, true) := by
  have e : palL cs (c + 1) = (if decide ((c : Int) ∈ cs) || !(palL cs c).2 then (palL cs c).1 ++ [(c : Int)] else (palL cs c).1, (palL cs c).2 || !decide ((c : Int) ∈ cs)) := rfl
  rw [e, h, h2]; simp

set_option linter.unusedVariables false in
set_option maxHeartbeats 4000000 in
set_option maxRecDepth 100000 in
theorem palette_any (W H : Int) (cs : List Int) (gA oA n c : Nat) (w : World) (hr : Rd w (some ⟨gA, oA, none⟩) n (cs.map (Value.int .i64))) (hn : n ≤ 4200) :
    Calls Try.prog 43 #[.agg #[.int .i64 W, .int .i64 H, .slice (some ⟨gA, oA, none⟩) n c]] w fun e w' => ∃ A' c', e = .returned (.slice A' (pal cs).length c') ∧ w'.ownsRow w.heap.size 3 1 (.slice A' (pal cs).length c') (pal cs).length ((pal cs).map (Value.int .i64)) ∧ Below w.heap.size w w' := by
  have lb : cs.length = n := by simpa using hr.len
  have HL := Lib.hid lb
  obtain ⟨i0, hi0, hz0, hz1, hz2⟩ := info_parts Try.infoI
  have S0 := ((St.start w).addRd hr).box #[.int .i64 W, .int .i64 H, .slice (some ⟨gA, oA, none⟩) n c] 24
  simp only [List.nil_append, List.cons_append] at S0
  obtain ⟨c0, c1, c2⟩ := (S0.blk 1 rfl).cell3
  have hBz := S0.size
  generalize hW1 : w.alloc (.cells #[.int .i64 W, .int .i64 H, .slice (some ⟨gA, oA, none⟩) n c] 24) = w1 at S0 c0 c1 c2 hBz
  have hB0 := S0.below
  clear lb hr
  go_enter Try.func43, Try.ntmps43
  go_wp2_with fail
  try rw [hW1]
  clear hW1 c0 c1 c2
  go_loopw [3, 4, 5] (fun ov tv cv wr => ∃ (k cp : Nat) (Al : Option Addr), k ≤ 16 ∧ cv = .int .i64 k ∧ tv = .bool (palL cs k).2 ∧ ov = .slice Al (palL cs k).1.length cp ∧ wr.ownsRow w1.heap.size 3 1 (.slice Al (palL cs k).1.length cp) (palL cs k).1.length ((palL cs k).1.map (Value.int .i64)) ∧ Below w1.heap.size w1 wr)
    (fun _ _ cv _ => 16 - (intOf cv).toNat)
  case atStart => exact ⟨0, 0, none, by omega, rfl, rfl, rfl, World.ownsRow_nil _ _ _ _, Below.refl _ _⟩
  case round =>
    obtain ⟨k, cp, Al, hk, rfl, rfl, rfl, hO, hB⟩ := hrel
    by_cases hk16 : k < 16
    · have hll := palL_len (cs := cs) k
      go_wp2_with fail
      go_loopw [6, 7] (fun iv jv wz => ∃ j : Nat, j ≤ n ∧ jv = .int .i64 j ∧ iv = .bool (decide ((k : Int) ∈ cs.take j)) ∧ wz.ownsRow w1.heap.size 3 1 (.slice Al (palL cs k).1.length cp) (palL cs k).1.length ((palL cs k).1.map (Value.int .i64)) ∧ Below w1.heap.size w1 wz) (fun _ jv _ => n - (intOf jv).toNat)
      case atStart => exact ⟨0, Nat.zero_le _, rfl, by simp, hO, hB⟩
      case round =>
        clear hO hB
        rename_i wz _
        obtain ⟨j, hj, rfl, rfl, hO, hB⟩ := hrel
        have SR := S0.keep hB
        obtain ⟨c0, c1, c2⟩ := (SR.blk 1 rfl).cell3
        by_cases hlt : j < n
        · have g0 := rd_lit (SR.rd 0 rfl) hlt
          have hst := in_step (cs := cs) (i := j) (c := (k : Int)) (by rw [HL.out]; exact hlt)
          have HS := Lib.hid hst
          clear hst
          generalize cs.getD j 0 = x at *
          cases hin : decide ((k : Int) ∈ cs.take j) with
          | true =>
            have HS2 : Hid (decide ((k : Int) ∈ cs.take (j + 1)) = true) := Lib.hid (by rw [HS.out, hin]; rfl)
            clear HS hin
            go_wp2_with fail
            go_roundw
            case rel => exact ⟨j + 1, by omega, by go_num, by rw [HS2.out], hO, hB⟩
            case measure => simp [intOf]; omega
          | false =>
            have HS2 : Hid (decide ((k : Int) ∈ cs.take (j + 1)) = (x == (k : Int))) := Lib.hid (by rw [HS.out, hin]; rfl)
            clear HS hin
            go_wp2_with fail
            go_roundw
            case rel => exact ⟨j + 1, by omega, by go_num, by rw [HS2.out], hO, hB⟩
            case measure => simp [intOf]; omega
        · have hjn : cs.take j = cs := List.take_of_length_le (by have := HL.out; omega)
          rw [hjn]
          clear hjn
          have HB := Lib.hid hB
          have hsz := hB.size
          cases hin : decide ((k : Int) ∈ cs) with
          | true =>
            have HP := Lib.hid (palL_in hin)
            clear hin
            generalize palL cs k = pk at *
            obtain ⟨pl, po⟩ := pk
            simp only at hO hll HP ⊢
            cases po
            all_goals
              go_wp2_with (at_builtin; go_loud (refine wpList_app _ rfl (.tmp 34) (.tmp 36) 22 rfl w1.heap.size 3 i0 (.int .i64 0) 8 Try.underlying22 hi0 hz0 hz1 hz2 rfl (by decide) (.slice Al pl.length cp) pl.length _ rfl (hO.alloc _) wr.heap.size (.int .i64 k) rfl (new_cell wr _ _) rfl (by omega) (size_alloc_le hsz _) ?_))
              intro g' cp' w5 hO5 hgr
              have hB5 := (HB.out.alloc hsz _).grown hgr (size_alloc_le hsz _) (fun kk hkk => (hO.lt kk hkk).1)
              go_wp2_with fail
              go_roundw
              case rel => exact ⟨k + 1, cp', some ⟨g', 0, none⟩, by omega, by go_num, by rw [HP.out], by rw [HP.out, List.length_append]; rfl, by rw [HP.out, List.length_append, List.map_append]; exact hO5, hB5⟩
              case measure => simp [intOf]; omega
          | false =>
            cases ho : (palL cs k).2 with
            | false =>
              have HP := Lib.hid (palL_one1 hin ho)
              clear hin
              generalize palL cs k = pk at *
              obtain ⟨pl, po⟩ := pk
              simp only at hO hll HP ho ⊢
              go_wp2_with (at_builtin; go_loud (refine wpList_app _ rfl (.tmp 34) (.tmp 36) 22 rfl w1.heap.size 3 i0 (.int .i64 0) 8 Try.underlying22 hi0 hz0 hz1 hz2 rfl (by decide) (.slice Al pl.length cp) pl.length _ rfl (hO.alloc _) wr.heap.size (.int .i64 k) rfl (new_cell wr _ _) rfl (by omega) (size_alloc_le hsz _) ?_))
              intro g' cp' w5 hO5 hgr
              have hB5 := (HB.out.alloc hsz _).grown hgr (size_alloc_le hsz _) (fun kk hkk => (hO.lt kk hkk).1)
              go_wp2_with fail
              go_roundw
              case rel => exact ⟨k + 1, cp', some ⟨g', 0, none⟩, by omega, by go_num, by rw [HP.out], by rw [HP.out, List.length_append]; rfl, by rw [HP.out, List.length_append, List.map_append]; exact hO5, hB5⟩
              case measure => simp [intOf]; omega
            | true =>
              have HP := Lib.hid (palL_skip hin ho)
              clear hin
              generalize palL cs k = pk at *
              obtain ⟨pl, po⟩ := pk
              simp only at hO hll HP ho ⊢
              go_wp2_with fail
              go_roundw
              case rel => exact ⟨k + 1, cp, Al, by omega, by go_num, by rw [HP.out], by rw [HP.out], by rw [HP.out]; exact hO, HB.out⟩
              case measure => simp [intOf]; omega
    · obtain rfl : 16 = k := by omega
      go_wp2_with fail
      go_ret
      exact ⟨Al, cp, rfl, own_base hO hBz, hB0.trans (hB.mono hBz)⟩
end Go.Proofs.Ytefeghpglacghaa
