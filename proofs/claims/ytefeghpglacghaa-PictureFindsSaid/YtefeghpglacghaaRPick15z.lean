/- raddleref15.colour, Pick, Picks and next: the colours with some indices, the picks that fit, the next list of indices. -/
import Derived.Test.YtefeghpglacghaaRPal15z
namespace Go.Proofs.Ytefeghpglacghaa
open Go.RowKit

theorem colL_next (p : List Int) {l : List Int} {j : Nat} (hj : j < l.length) : colL p (l.take (j + 1)) = colL p (l.take j) ++ [p.getD (l.getD j 0).toNat 0] := by
  unfold colL
  rw [List.take_add_one, List.getElem?_eq_getElem hj, List.map_append, List.getD_eq_getElem?_getD (l := l), List.getElem?_eq_getElem hj]
  rfl

set_option linter.unusedVariables false in
set_option maxHeartbeats 4000000 in
set_option maxRecDepth 100000 in
theorem colour_any (p l : List Int) (gP oP cP gL oL cL n m : Nat) (w : World) (hp : Rd w (some ⟨gP, oP, none⟩) n (p.map (Value.int .i64))) (hl : Rd w (some ⟨gL, oL, none⟩) m (l.map (Value.int .i64))) (hm : m ≤ 64) (hn : n ≤ 64) (hd : Dig n l) :
    Calls Try.prog 48 #[.slice (some ⟨gP, oP, none⟩) n cP, .slice (some ⟨gL, oL, none⟩) m cL] w fun e w' => ∃ A' c', e = .returned (.slice A' m c') ∧ w'.ownsRow w.heap.size 3 1 (.slice A' m c') m ((colL p l).map (Value.int .i64)) ∧ Below w.heap.size w w' := by
  have lb : l.length = m := by simpa using hl.len
  have HL := Lib.hid lb
  obtain ⟨i0, hi0, hz0, hz1, hz2⟩ := info_parts Try.infoI
  have S0 := ((St.start w).addRd hp).addRd hl
  simp only [List.nil_append, List.cons_append] at S0
  have HS := Lib.hid S0
  have HD := Lib.hid hd
  clear lb hl hp S0 hd
  go_enter Try.func48, Try.ntmps48
  go_wp2_with fail
  go_loopw [5, 6] (fun ov jv wr => ∃ (j cp : Nat) (Al : Option Addr), j ≤ m ∧ jv = .int .i64 j ∧ ov = .slice Al j cp ∧ wr.ownsRow w.heap.size 3 1 (.slice Al j cp) j ((colL p (l.take j)).map (Value.int .i64)) ∧ Below w.heap.size w wr)
    (fun _ jv _ => m - (intOf jv).toNat)
  case atStart => exact ⟨0, 0, none, Nat.zero_le _, rfl, rfl, World.ownsRow_nil _ _ _ _, Below.refl _ _⟩
  case round =>
    obtain ⟨j, cp, Al, hj, rfl, rfl, hO, hB⟩ := hrel
    by_cases hlt : j < m
    · have SR := HS.out.keep hB
      have g1 := rd_lit (SR.rd 1 rfl) hlt
      have hdj := HD.out.at (i := j) (by rw [HL.out]; exact hlt)
      have HN := Lib.hid (colL_next p (l := l) (j := j) (by rw [HL.out]; exact hlt))
      obtain ⟨t, ht⟩ : ∃ t : Nat, l.getD j 0 = (t : Int) := ⟨(l.getD j 0).toNat, by omega⟩
      rw [ht] at g1 hdj HN
      have htn : t < n := by omega
      have g0 := rd_lit (SR.rd 0 rfl) htn
      rw [Int.toNat_natCast] at HN
      generalize p.getD t 0 = x at *
      have hsz := hB.size
      have HB := Lib.hid hB
      clear ht hdj hB SR
      go_wp2_with (at_builtin; go_loud (refine wpList_app _ rfl (.tmp 13) (.tmp 21) 22 rfl w.heap.size 3 i0 (.int .i64 0) 8 Try.underlying22 hi0 hz0 hz1 hz2 rfl (by decide) (.slice Al j cp) j _ rfl (hO.alloc _) wr.heap.size (.int .i64 x) rfl (new_cell wr _ _) rfl (by omega) (size_alloc_le hsz _) ?_))
      intro g' cp' w5 hO5 hgr
      have hB5 := (HB.out.alloc hsz _).grown hgr (size_alloc_le hsz _) (fun kk hkk => (hO.lt kk hkk).1)
      go_wp2_with fail
      go_roundw
      case rel => exact ⟨j + 1, cp', some ⟨g', 0, none⟩, by omega, by go_num, rfl, by rw [HN.out, List.map_append]; exact hO5, hB5⟩
      case measure => simp [intOf]; omega
    · obtain rfl : j = m := by omega
      have e : l.take j = l := List.take_of_length_le (by rw [HL.out]; omega)
      rw [e] at hO
      go_wp2_with fail
      go_ret
      exact ⟨Al, cp, rfl, hO, hB⟩

set_option linter.unusedVariables false in
set_option maxHeartbeats 4000000 in
set_option maxRecDepth 100000 in
theorem pick_any (a b y : Nat) (cs wv : List Int) (A : Option Addr) (gW oW c cW : Nat) (w : World) (ha : a ≤ 64) (hb : b ≤ 64) (hy : y < b) (hV : ∀ x, x < a → 0 ≤ cs.getD (y * a + x) 0 ∧ cs.getD (y * a + x) 0 ≤ 15)
    (hr : Rd w A (b * a) (cs.map (Value.int .i64))) (hrw : Rd w (some ⟨gW, oW, none⟩) a (wv.map (Value.int .i64))) :
    Calls Try.prog 53 #[.agg #[.int .i64 a, .int .i64 b, .slice A (b * a) c], .slice (some ⟨gW, oW, none⟩) a cW, .int .i64 y] w fun e w' => e = .returned (.int .i64 (pickN cs a wv y a)) ∧ Below w.heap.size w w' := by
  have S0 := ((((St.start w).addRd hr).addRd hrw)).box #[.int .i64 a, .int .i64 b, .slice A (b * a) c] 24
  simp only [List.nil_append, List.cons_append] at S0
  obtain ⟨c0, c1, c2⟩ := (S0.blk 2 rfl).cell3
  have hBz := S0.size
  have hB0 := S0.below
  have HAT := Lib.hid (fun x z WW h hx hh => atI_to a b x y (x : Int) (y : Int) cs (b : Int) A c WW (v := z) h rfl rfl ha hb hx hy hh)
  have HV := Lib.hid hV
  clear hr hrw hV
  generalize hn : b * a = n at *
  clear hn
  go_enter Try.func53, Try.ntmps53
  go_wp2_with fail
  go_loopw [7, 8] (fun cv iv wr => ∃ k : Nat, k ≤ a ∧ iv = .int .i64 k ∧ cv = .int .i64 (pickN cs a wv y k) ∧ pickN cs a wv y k ≠ -2 ∧ St w [.rd A n (cs.map (Value.int .i64)), .rd (some ⟨gW, oW, none⟩) a (wv.map (Value.int .i64)), .blk w.heap.size 24 #[.int .i64 a, .int .i64 b, .slice A n c]] wr) (fun _ iv _ => a - (intOf iv).toNat)
  case atStart => exact ⟨0, Nat.zero_le _, rfl, rfl, by show (-1 : Int) ≠ -2; decide, S0⟩
  case round =>
    clear S0 c0 c1 c2
    obtain ⟨k, hk, rfl, rfl, hne, S⟩ := hrel
    obtain ⟨c0, c1, c2⟩ := (S.blk 2 rfl).cell3
    by_cases hlt : k < a
    · obtain ⟨d, hd⟩ : ∃ d, cs.getD (y * a + k) 0 = d := ⟨_, rfl⟩
      have hv := HV.out k hlt
      rw [hd] at hv
      have HP : Hid (pickN cs a wv y (k + 1) = if d = wv.getD k 0 then pickN cs a wv y k else if 0 ≤ pickN cs a wv y k ∧ pickN cs a wv y k ≠ d then -2 else d) := Lib.hid (by
        rw [← hd]
        show (if pickN cs a wv y k = -2 then -2 else _) = _
        rw [if_neg hne])
      have HST := Lib.hid (fun (h : pickN cs a wv y (k + 1) = -2) => (show pickN cs a wv y a = -2 by
        have := pickN_stuck h (a - (k + 1))
        rwa [show k + 1 + (a - (k + 1)) = a by omega] at this))
      have HNE := Lib.hid hne
      go_wp2_with fail
      refine (HAT.out k d _ hd hlt (S.rd 0 rfl)).mono ?_
      rintro e w1 ⟨rfl, hb1⟩
      replace S := S.keep hb1
      clear c0 c1 c2 hb1
      obtain ⟨c0, c1, c2⟩ := (S.blk 2 rfl).cell3
      have g1 := rd_lit (S.rd 1 rfl) hlt
      clear hd hne
      generalize pickN cs a wv y k = q at *
      generalize wv.getD k 0 = u at *
      by_cases h1 : d = u
      · have e1 : (d == u) = true := by simp [h1]
        have HP2 : Hid (pickN cs a wv y (k + 1) = q) := Lib.hid (by rw [HP.out, if_pos h1])
        clear HP h1
        go_wp2_with fail
        go_roundw
        case rel => exact ⟨k + 1, by omega, by go_num, by rw [HP2.out], by rw [HP2.out]; exact HNE.out, S⟩
        case measure => simp [intOf]; omega
      · have e1 : (d == u) = false := by simp [h1]
        by_cases h2 : 0 ≤ q
        · by_cases h3 : q = d
          · have HP2 : Hid (pickN cs a wv y (k + 1) = d) := Lib.hid (by rw [HP.out, if_neg h1, if_neg (fun hh => hh.2 h3)])
            have e3 : (q != d) = false := by simp [h3]
            clear HP h1 h3
            go_wp2_with fail
            go_roundw
            case rel => exact ⟨k + 1, by omega, by go_num, by rw [HP2.out], by rw [HP2.out]; omega, S⟩
            case measure => simp [intOf]; omega
          · have HP2 : Hid (pickN cs a wv y a = -2) := Lib.hid (HST.out (by rw [HP.out, if_neg h1, if_pos ⟨h2, h3⟩]))
            have e3 : (q != d) = true := by simp [h3]
            clear HP h1 h3
            go_wp2_with fail
            go_ret
            exact ⟨ret_i HP2.out.symm, S.below⟩
        · have HP2 : Hid (pickN cs a wv y (k + 1) = d) := Lib.hid (by rw [HP.out, if_neg h1, if_neg (fun hh => h2 hh.1)])
          clear HP h1
          go_wp2_with fail
          go_roundw
          case rel => exact ⟨k + 1, by omega, by go_num, by rw [HP2.out], by rw [HP2.out]; omega, S⟩
          case measure => simp [intOf]; omega
    · obtain rfl : k = a := by omega
      go_wp2_with fail
      go_ret
      exact ⟨rfl, S.below⟩
end Go.Proofs.Ytefeghpglacghaa
