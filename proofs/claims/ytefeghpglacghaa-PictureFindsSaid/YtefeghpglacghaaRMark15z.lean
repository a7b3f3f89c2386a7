/- raddleref15.mark marks the colour of a thread, and, if it is not in the image, all others that are not; listed lists the marked ones. -/
import Derived.Test.YtefeghpglacghaaRPal15z
import Derived.Test.YtefeghpglacghaaAlBz
namespace Go.Proofs.Ytefeghpglacghaa
open Go.RowKit

/-- Whether colour d is marked for the colour z of an end. -/
def mkE (cs : List Int) (z : Int) (d : Nat) : Bool := z == (d : Int) || (!decide (z ∈ cs) && !decide ((d : Int) ∈ cs))
theorem in_take {cs : List Int} {z : Int} : ∀ {k : Nat}, (∀ i, i < k → cs.getD i 0 ≠ z) → k ≤ cs.length → z ∉ cs.take k
  | 0, _, _ => by simp
  | k + 1, h, hk => by
    rw [List.take_add_one, List.getElem?_eq_getElem (by omega), List.mem_append]
    rintro (h1 | h1)
    · exact in_take (fun i hi => h i (by omega)) (by omega) h1
    · simp only [Option.toList_some, List.mem_singleton] at h1
      refine h k (by omega) ?_
      rw [List.getD_eq_getElem?_getD, List.getElem?_eq_getElem (by omega)]
      exact h1.symm

/-- The marked colours, in increasing order. -/
def lstL (f : Nat → Bool) : Nat → List Int
  | 0 => []
  | d + 1 => if f d then lstL f d ++ [(d : Int)] else lstL f d
theorem lstL_yes {f : Nat → Bool} {d : Nat} (h : f d = true) : lstL f (d + 1) = lstL f d ++ [(d : Int)] := by
  show (if f d then _ else _) = _
  rw [h]; rfl
theorem lstL_no {f : Nat → Bool} {d : Nat} (h : f d = false) : lstL f (d + 1) = lstL f d := by
  show (if f d then _ else _) = _
  rw [h]; rfl
theorem lstL_len (f : Nat → Bool) : ∀ d, (lstL f d).length ≤ d
  | 0 => Nat.le_refl _
  | d + 1 => by
    have := lstL_len f d
    cases h : f d with
    | true => rw [lstL_yes h, List.length_append]; simp; omega
    | false => rw [lstL_no h]; omega

set_option linter.unusedVariables false in
set_option maxHeartbeats 4000000 in
set_option maxRecDepth 100000 in
theorem mark_any (W H : Int) (cs : List Int) (gA oA n c z g base : Nat) (f : Nat → Bool) (w : World) (hr : Rd w (some ⟨gA, oA, none⟩) n (cs.map (Value.int .i64))) (hn : n ≤ 4200) (hz : z < 16)
    (hgA : gA ≠ g) (ho : w.ownsRow base 4 1 (.slice (some ⟨g, 0, none⟩) 16 16) 16 (flags f)) :
    Calls Try.prog 52 #[.slice (some ⟨g, 0, none⟩) 16 16, .agg #[.int .i64 W, .int .i64 H, .slice (some ⟨gA, oA, none⟩) n c], .int .i64 z] w fun e w' => e = .returned (.tuple #[]) ∧
      w'.ownsRow base 4 1 (.slice (some ⟨g, 0, none⟩) 16 16) 16 (flags fun d => f d || mkE cs z d) ∧ w.grownBy w' (some g) := by
  have lb : cs.length = n := by simpa using hr.len
  have HL := Lib.hid lb
  have S0 := ((St.start w).addRd hr).box #[.int .i64 W, .int .i64 H, .slice (some ⟨gA, oA, none⟩) n c] 24
  simp only [List.nil_append, List.cons_append] at S0
  obtain ⟨c0, c1, c2⟩ := (S0.blk 1 rfl).cell3
  have HPL := Lib.hid (fun WW h => palette_any W H cs gA oA n c WW h hn)
  have hpos := pal_pos (cs := cs)
  clear lb hr
  go_enter Try.func52, Try.ntmps52
  go_wp2_with fail
  refine (HPL.out _ (S0.rd 0 rfl)).mono ?_
  rintro e w1 ⟨AP, cP, rfl, _, hb1⟩
  have hb01 := S0.below.trans (hb1.mono S0.size)
  clear c0 c1 c2
  have hgz := (ho.lt g rfl).2
  have HS1 := Lib.hid (S0.keep hb1)
  have hgw : g ≠ w.heap.size := by omega
  have hO1 := own_below ho hb01
  have HB01 := Lib.hid hb01
  have hc1 := hO1.cellAt z (by omega)
  rw [flags_at hz] at hc1
  have hfr1 := hO1.frozenAt z
  have hst := hO1.stored z (.bool true)
  rw [flags_set] at hst
  have HST := Lib.hid hst
  clear hst hb1 hb01 S0 HPL
  go_wp2_with fail
  clear hc1 hfr1
  have hO2 := HST.out.1
  have hG2 := HST.out.2
  clear HST hO1 ho
  obtain ⟨f1, hf1⟩ : ∃ f1 : Nat → Bool, (fun d => if d = z then true else f d) = f1 := ⟨_, rfl⟩
  rw [hf1] at hO2
  have HF1 := Lib.hid hf1
  clear hf1
  have HGA : Hid (∀ wr, w1.grownBy wr (some g) → Rd wr (some ⟨gA, oA, none⟩) n (cs.map (Value.int .i64)) ∧ Blk wr w.heap.size 24 #[.int .i64 W, .int .i64 H, .slice (some ⟨gA, oA, none⟩) n c]) := Lib.hid (fun wr h => by
    refine ⟨(HS1.out.rd 0 rfl).only (S := [g]) ⟨h.os, h.tape, h.output, h.size, fun k hk hs => h.block k hk (fun e => hs (by injection e with e; rw [e]; simp))⟩ ?_, (HS1.out.blk 1 rfl).grown h (fun e => by injection e with e; omega)⟩
    intro b o hA _ hm
    injection hA with e
    injection e with e1 _
    rw [List.mem_singleton] at hm
    omega)
  go_loopw [7] (fun iv wr => ∃ i : Nat, i ≤ n ∧ iv = .int .i64 i ∧ Hid (∀ i', i' < i → cs.getD i' 0 ≠ (z : Int)) ∧ wr.ownsRow base 4 1 (.slice (some ⟨g, 0, none⟩) 16 16) 16 (flags f1) ∧ w1.grownBy wr (some g)) (fun iv _ => n - (intOf iv).toNat)
  case atStart => exact ⟨0, Nat.zero_le _, rfl, Lib.hid (fun i' h => absurd h (by omega)), hO2, hG2⟩
  case round =>
    clear hO2 hG2
    obtain ⟨i, hi, rfl, HI, hO, hG⟩ := hrel
    obtain ⟨hrd, hbk⟩ := HGA.out _ hG
    obtain ⟨c0, c1, c2⟩ := hbk.cell3
    by_cases hlt : i < n
    · have g0 := rd_lit hrd hlt
      clear hrd hbk
      obtain ⟨x, hx⟩ : ∃ x, cs.getD i 0 = x := ⟨_, rfl⟩
      rw [hx] at g0
      have HX := Lib.hid hx
      clear hx
      by_cases hxz : x = (z : Int)
      · have e1 : (x == (z : Int)) = true := by simp [hxz]
        have HXZ := Lib.hid hxz
        clear hxz
        go_wp2_with fail
        refine bodyPost_ret (results_none rfl _ _ _) rfl ?_
        have hm : ((z : Int)) ∈ cs := by
          have h1 := HX.out.trans HXZ.out
          rw [List.getD_eq_getElem?_getD, List.getElem?_eq_getElem (by rw [HL.out]; exact hlt)] at h1
          have h2 : cs[i]'(by rw [HL.out]; exact hlt) = (z : Int) := h1
          rw [← h2]; exact List.getElem_mem _
        refine ⟨rfl, ?_, ⟨hG.os.trans HB01.out.os, hG.tape.trans HB01.out.tape, hG.output.trans HB01.out.output, Nat.le_trans HB01.out.size hG.size, fun k hk hne => (hG.block k (Nat.lt_of_lt_of_le hk HB01.out.size) hne).trans (HB01.out.block k hk)⟩⟩
        rw [flags_congr (g := f1) (fun d hd => by
          rw [← HF1.out]
          unfold mkE
          by_cases e : d = z
          · subst e; simp
          · have e2 : ((z : Int) == (d : Int)) = false := beq_eq_false_iff_ne.2 (by omega)
            simp [e, hm, e2])]
        exact hO
      · have e1 : (x == (z : Int)) = false := by simp [hxz]
        have HXZ := Lib.hid hxz
        clear hxz
        go_wp2_with fail
        go_roundw
        case rel => exact ⟨i + 1, by omega, by go_num, Lib.hid (fun i' hi' => by
          by_cases e : i' = i
          · subst e; rw [HX.out]; exact HXZ.out
          · exact HI.out i' (by omega)), hO, hG⟩
        case measure => simp [intOf]; omega
    · obtain rfl : i = n := by omega
      have HNM : Hid ((z : Int) ∉ cs) := Lib.hid (by
        have := in_take HI.out (by rw [HL.out]; exact Nat.le_refl _)
        rwa [List.take_of_length_le (by rw [HL.out]; exact Nat.le_refl _)] at this)
      clear hrd hbk
      go_wp2_with fail
      clear c0 c1 c2 HI
      go_loopw [8] (fun dv wr => ∃ d : Nat, d ≤ 16 ∧ dv = .int .i64 d ∧ wr.ownsRow base 4 1 (.slice (some ⟨g, 0, none⟩) 16 16) 16 (flags fun j => if j < d then f1 j || !decide ((j : Int) ∈ cs) else f1 j) ∧ w1.grownBy wr (some g)) (fun dv _ => 16 - (intOf dv).toNat)
      case atStart => exact ⟨0, Nat.zero_le _, rfl, hO, hG⟩
      case round =>
        clear hO hG
        obtain ⟨d, hd, rfl, hO, hG⟩ := hrel
        by_cases hd16 : d < 16
        · go_wp2_with fail
          go_loopw [9, 10] (fun nv jv wz => ∃ j : Nat, j ≤ i ∧ jv = .int .i64 j ∧ nv = .bool (decide ((d : Int) ∈ cs.take j)) ∧ wz.ownsRow base 4 1 (.slice (some ⟨g, 0, none⟩) 16 16) 16 (flags fun j => if j < d then f1 j || !decide ((j : Int) ∈ cs) else f1 j) ∧ w1.grownBy wz (some g)) (fun _ jv _ => i - (intOf jv).toNat)
          case atStart => exact ⟨0, Nat.zero_le _, rfl, by simp, hO, hG⟩
          case round =>
            clear hO hG
            obtain ⟨j, hj, rfl, rfl, hO, hG⟩ := hrel
            obtain ⟨hrd, hbk⟩ := HGA.out _ hG
            obtain ⟨c0, c1, c2⟩ := hbk.cell3
            by_cases hlt2 : j < i
            · have g0 := rd_lit hrd hlt2
              have HS := Lib.hid (in_step (cs := cs) (i := j) (c := (d : Int)) (by rw [HL.out]; exact hlt2))
              clear hrd hbk
              generalize cs.getD j 0 = x at *
              cases hin : decide ((d : Int) ∈ cs.take j) with
              | true =>
                have HS2 : Hid (decide ((d : Int) ∈ cs.take (j + 1)) = true) := Lib.hid (by rw [HS.out, hin]; rfl)
                clear HS hin
                go_wp2_with fail
                go_roundw
                case rel => exact ⟨j + 1, by omega, by go_num, by rw [HS2.out], hO, hG⟩
                case measure => simp [intOf]; omega
              | false =>
                have HS2 : Hid (decide ((d : Int) ∈ cs.take (j + 1)) = (x == (d : Int))) := Lib.hid (by rw [HS.out, hin]; rfl)
                clear HS hin
                go_wp2_with fail
                go_roundw
                case rel => exact ⟨j + 1, by omega, by go_num, by rw [HS2.out], hO, hG⟩
                case measure => simp [intOf]; omega
            · have hjn : cs.take j = cs := List.take_of_length_le (by have := HL.out; omega)
              rw [hjn]
              clear hjn hrd hbk
              have hcell := hO.cellAt d (by omega)
              rw [flags_at hd16, if_neg (by omega)] at hcell
              have hfr := hO.frozenAt d
              have HO := Lib.hid (fun v => hO.stored d (.bool v))
              have HNX : Hid (flags (fun j => if j < d + 1 then f1 j || !decide ((j : Int) ∈ cs) else f1 j) = flags fun j => if j = d then f1 d || !decide ((d : Int) ∈ cs) else if j < d then f1 j || !decide ((j : Int) ∈ cs) else f1 j) := Lib.hid (flags_congr fun j _ => by
                by_cases e : j = d
                · subst e; rw [if_pos (by omega), if_pos rfl]
                · by_cases e2 : j < d
                  · rw [if_pos (by omega), if_neg e, if_pos e2]
                  · rw [if_neg (by omega), if_neg e, if_neg e2])
              have HG := Lib.hid hG
              clear hO hG
              cases hfd : f1 d with
              | true =>
                rw [hfd] at hcell
                have HV : Hid ((f1 d || !decide ((d : Int) ∈ cs)) = true) := Lib.hid (by rw [hfd]; rfl)
                clear hfd
                go_wp2_with fail
                go_roundw
                case rel => exact ⟨d + 1, by omega, by go_num, by rw [HNX.out, HV.out, ← flags_set]; exact (HO.out _).1, HG.out.trans (HO.out _).2⟩
                case measure => simp [intOf]; omega
              | false =>
                rw [hfd] at hcell
                cases hin : decide ((d : Int) ∈ cs) with
                | true =>
                  have HV : Hid ((f1 d || !decide ((d : Int) ∈ cs)) = false) := Lib.hid (by rw [hfd, hin]; rfl)
                  clear hfd hin
                  go_wp2_with fail
                  go_roundw
                  case rel => exact ⟨d + 1, by omega, by go_num, by rw [HNX.out, HV.out, ← flags_set]; exact (HO.out _).1, HG.out.trans (HO.out _).2⟩
                  case measure => simp [intOf]; omega
                | false =>
                  have HV : Hid ((f1 d || !decide ((d : Int) ∈ cs)) = true) := Lib.hid (by rw [hfd, hin]; rfl)
                  clear hfd hin
                  go_wp2_with fail
                  go_roundw
                  case rel => exact ⟨d + 1, by omega, by go_num, by rw [HNX.out, HV.out, ← flags_set]; exact (HO.out _).1, HG.out.trans (HO.out _).2⟩
                  case measure => simp [intOf]; omega
        · obtain rfl : d = 16 := by omega
          go_wp2_with fail
          go_end0
          refine ⟨rfl, ?_, ⟨hG.os.trans HB01.out.os, hG.tape.trans HB01.out.tape, hG.output.trans HB01.out.output, Nat.le_trans HB01.out.size hG.size, fun k hk hne => (hG.block k (Nat.lt_of_lt_of_le hk HB01.out.size) hne).trans (HB01.out.block k hk)⟩⟩
          rw [flags_congr (g := fun j => if j < 16 then f1 j || !decide ((j : Int) ∈ cs) else f1 j) (fun d hd => by
            rw [if_pos hd, ← HF1.out]
            unfold mkE
            have hm := HNM.out
            by_cases e : d = z
            · subst e; simp
            · have e2 : ((z : Int) == (d : Int)) = false := beq_eq_false_iff_ne.2 (by omega)
              simp [e, hm, e2])]
          exact hO

set_option linter.unusedVariables false in
set_option maxHeartbeats 4000000 in
set_option maxRecDepth 100000 in
theorem listed_any (g : Nat) (f : Nat → Bool) (w : World) (hr : Rd w (some ⟨g, 0, none⟩) 16 (flags f)) :
    Calls Try.prog 54 #[.slice (some ⟨g, 0, none⟩) 16 16] w fun e w' => ∃ A' c', e = .returned (.slice A' (lstL f 16).length c') ∧ w'.ownsRow w.heap.size 3 1 (.slice A' (lstL f 16).length c') (lstL f 16).length ((lstL f 16).map (Value.int .i64)) ∧ Below w.heap.size w w' := by
  obtain ⟨i0, hi0, hz0, hz1, hz2⟩ := info_parts Try.infoI
  have HR := Lib.hid (fun wr (h : Below w.heap.size w wr) d (hd : d < 16) => (hr.below h).lit d _ (flags_at hd))
  clear hr
  go_enter Try.func54, Try.ntmps54
  go_wp2_with fail
  go_loopw [3, 4] (fun ov dv wr => ∃ (d cp : Nat) (Al : Option Addr), d ≤ 16 ∧ dv = .int .i64 d ∧ ov = .slice Al (lstL f d).length cp ∧ wr.ownsRow w.heap.size 3 1 (.slice Al (lstL f d).length cp) (lstL f d).length ((lstL f d).map (Value.int .i64)) ∧ Below w.heap.size w wr) (fun _ dv _ => 16 - (intOf dv).toNat)
  case atStart => exact ⟨0, 0, none, by omega, rfl, rfl, World.ownsRow_nil _ _ _ _, Below.refl _ _⟩
  case round =>
    obtain ⟨d, cp, Al, hd, rfl, rfl, hO, hB⟩ := hrel
    by_cases hd16 : d < 16
    · have hll := lstL_len f d
      have g0 := HR.out _ hB d hd16
      rw [show (0 : Nat) + d = d by omega] at g0
      have hsz := hB.size
      have HB := Lib.hid hB
      cases hfd : f d with
      | true =>
        rw [hfd] at g0
        have HN := Lib.hid (lstL_yes hfd)
        clear hfd hB
        generalize lstL f d = l at *
        go_wp2_with (at_builtin; go_loud (refine wpList_app _ rfl (.tmp 13) (.tmp 15) 22 rfl w.heap.size 3 i0 (.int .i64 0) 8 Try.underlying22 hi0 hz0 hz1 hz2 rfl (by decide) (.slice Al l.length cp) l.length _ rfl (hO.alloc _) wr.heap.size (.int .i64 d) rfl (new_cell wr _ _) rfl (by omega) (size_alloc_le hsz _) ?_))
        intro g' cp' w5 hO5 hgr
        have hB5 := (HB.out.alloc hsz _).grown hgr (size_alloc_le hsz _) (fun kk hkk => (hO.lt kk hkk).1)
        go_wp2_with fail
        go_roundw
        case rel => exact ⟨d + 1, cp', some ⟨g', 0, none⟩, by omega, by go_num, by rw [HN.out, List.length_append]; rfl, by rw [HN.out, List.length_append, List.map_append]; exact hO5, hB5⟩
        case measure => simp [intOf]; omega
      | false =>
        rw [hfd] at g0
        have HN := Lib.hid (lstL_no hfd)
        clear hfd hB
        generalize lstL f d = l at *
        go_wp2_with fail
        go_roundw
        case rel => exact ⟨d + 1, cp, Al, by omega, by go_num, by rw [HN.out], by rw [HN.out]; exact hO, HB.out⟩
        case measure => simp [intOf]; omega
    · obtain rfl : d = 16 := by omega
      go_wp2_with fail
      go_ret
      exact ⟨Al, cp, rfl, hO, hB⟩
end Go.Proofs.Ytefeghpglacghaa
