/- picture.Cells: the cells that are forced up, and those that are open. -/
import Derived.Test.YtmajmbfbnchbfaaThr15z
import Derived.Test.YtmajmbfbnchbfaaTwoz
import Derived.Test.YtmajmbfbnchbfaaMg3z
import Derived.BigRegion
import Derived.Deep.DeepCutAuto
namespace Go.Proofs.Ytmajmbfbnchbfaa
open Go.RowKit

def upJ (a : Nat) (cs q : List Int) (j : Nat) : Bool := !decide (q.getD (j / a) 0 = cs.getD j 0)
def openJ (a : Nat) (cs p q : List Int) (j : Nat) : Bool := decide (p.getD (j % a) 0 = cs.getD j 0) && decide (q.getD (j / a) 0 = cs.getD j 0)
theorem range_tab {a b : Nat} {f : Nat → Bool} {F : Nat → Nat → Bool} (h : ∀ x y, x < a → y < b → f (y * a + x) = F x y) : (List.range (b * a)).map f = Pl.tab a b F := by
  refine (Pl.tab_self (l := (List.range (b * a)).map f) (d := false) (w := a) (h := b) (by simp)).trans ?_
  refine Pl.tab_congr fun x y hx hy => ?_
  have hlt := Pl.cell_lt (w := a) (h := b) hx hy
  rw [← h x y hx hy]
  simp [List.getD, hlt]
theorem div_at {a x y : Nat} (hx : x < a) : (y * a + x) / a = y := by rw [Nat.add_comm, Nat.add_mul_div_right _ _ (by omega), Nat.div_eq_of_lt hx, Nat.zero_add]
theorem mod_at {a x y : Nat} (hx : x < a) : (y * a + x) % a = x := by rw [Nat.add_comm, Nat.add_mul_mod_self_right, Nat.mod_eq_of_lt hx]
theorem up_range {a b : Nat} {cs q : List Int} : (List.range (b * a)).map (upJ a cs q) = Pl.tab a b (upF a cs q) := range_tab fun x y hx _ => by unfold upJ upF; rw [div_at hx]
theorem open_range {a b : Nat} {cs p q : List Int} : (List.range (b * a)).map (openJ a cs p q) = Pl.tab a b (openF a cs p q) := range_tab fun x y hx _ => by unfold openJ openF; rw [div_at hx, mod_at hx]
theorem cellsI_bad {m : Im} {p q : List Int} (h : thrI m p q ≠ 0) : cellsI m p q = ((Gd.zero, Gd.zero), thrI m p q) := if_pos h
theorem cellsI_ok {a b : Nat} {cs p q : List Int} (h : thrI ⟨a, b, cs⟩ p q = 0) (hf : fitB a b cs p q = true) : cellsI ⟨a, b, cs⟩ p q = ((⟨a, b, (List.range (b * a)).map (upJ a cs q)⟩, ⟨a, b, (List.range (b * a)).map (openJ a cs p q)⟩), 0) := by
  unfold cellsI
  rw [if_neg (by omega)]
  simp only [Int.toNat_natCast]
  rw [if_pos hf, up_range, open_range]
theorem cellsI_none {a b : Nat} {cs p q : List Int} (h : thrI ⟨a, b, cs⟩ p q = 0) (hf : fitB a b cs p q = false) : cellsI ⟨a, b, cs⟩ p q = ((Gd.zero, Gd.zero), 6) := by
  unfold cellsI
  rw [if_neg (by omega)]
  simp only [Int.toNat_natCast]
  rw [if_neg (by rw [hf]; simp)]
theorem range_snoc {f : Nat → Bool} {k : Nat} {u : Bool} (h : f k = u) : ((List.range (k + 1)).map f).map Value.bool = ((List.range k).map f).map Value.bool ++ [Value.bool u] := by
  rw [List.range_succ]; simp [h]

set_option maxHeartbeats 4000000 in
theorem cells_any (m : Im) (p q : List Int) (A Ap Aq : Option Addr) (n c np cp nq cq : Nat) (w : World) (hr : Rd w A n (m.c.map (Value.int .i64))) (hn : n ≤ 1048576) (hrp : Rd w Ap np (p.map (Value.int .i64))) (hrq : Rd w Aq nq (q.map (Value.int .i64))) :
    Calls Try.prog 31 #[.agg #[.int .i64 m.w, .int .i64 m.h, .slice A n c], .slice Ap np cp, .slice Aq nq cq] w (RetC (cellsI m p q) w) := by
  obtain ⟨i0, hi, hz0, hz1, hz2⟩ := info_parts Try.infoB
  have HT := Lib.hid (fun WW h1 h2 h3 => thrI_any m p q A Ap Aq n c np cp nq cq WW h1 hn h2 h3)
  have hlm : m.c.length = n := by simpa using hr.len
  have hlp : p.length = np := by simpa using hrp.len
  have hlq : q.length = nq := by simpa using hrq.len
  have S0 := (((((St.start w).addRd hr).addRd hrp).addRd hrq).box #[.int .i64 m.w, .int .i64 m.h, .slice A n c] 36).box #[.int .i64 0, .int .i64 0, .slice none 0 0] 25
  have S0 := S0.box #[.int .i64 0, .int .i64 0, .slice none 0 0] 25
  simp only [size_alloc1, List.nil_append, List.cons_append] at S0
  obtain ⟨c0, c1, c2⟩ := (S0.blk 3 rfl).cell3
  have HRM := Lib.hid hr
  have HRP := Lib.hid hrp
  have HRQ := Lib.hid hrq
  clear hr hrp hrq
  by_cases h0 : thrI m p q = 0
  · obtain ⟨a, b, cs, rfl, ha1, ha, hb1, hb, hl, hpa, hqb, _, _, _⟩ := thrI_open h0
    rw [h0] at HT
    have HOK := Lib.hid (fun hf => cellsI_ok h0 hf)
    have HNO := Lib.hid (fun hf => cellsI_none h0 hf)
    simp only at hlm S0 c0 c1 c2 HT
    obtain rfl : a = np := by omega
    obtain rfl : b = nq := by omega
    have hnn : n = b * a := by omega
    have HNB := Lib.hid (show n ≤ 4096 by rw [hnn]; exact Nat.mul_le_mul hb ha)
    have HDV := Lib.hid (fun j (hj : j < n) => (Nat.div_lt_of_lt_mul (show j < a * b by rw [Nat.mul_comm]; omega) : j / a < b))
    have HFT := Lib.hid (fun h => fitB_true (a := a) (b := b) (cs := cs) (p := p) (q := q) h)
    have HFF := Lib.hid (fun j hj h => fitB_false (a := a) (b := b) (j := j) (cs := cs) (p := p) (q := q) hj h)
    rw [← hnn] at HOK HFT HFF
    have HLM := Lib.hid hlm
    have HLP := Lib.hid hlp
    have HLQ := Lib.hid hlq
    clear h0 hl hpa hqb hlp hlq hnn hlm
    go_enter Try.func31, Try.ntmps31
    go_wp2_with fail
    refine (HT.out _ (S0.rd 0 rfl) (S0.rd 1 rfl) (S0.rd 2 rfl)).mono ?_
    rintro e w1 ⟨rfl, hbb⟩
    have S := S0.keep hbb
    clear S0 c0 c1 c2
    obtain ⟨c0, c1, c2⟩ := (S.blk 3 rfl).cell3
    obtain ⟨r0, r1, r2⟩ := (S.blk 4 rfl).cell3
    obtain ⟨f0, f1, f2⟩ := (S.blk 4 rfl).frozen3
    obtain ⟨s0, s1, s2⟩ := (S.blk 5 rfl).cell3
    obtain ⟨g0, g1, g2⟩ := (S.blk 5 rfl).frozen3
    obtain ⟨w2, hw2⟩ : ∃ q, q = ((((((w1.setCell ⟨w.heap.size + 1, 0, none⟩ (.int .i64 a)).setCell ⟨w.heap.size + 1, 1, none⟩ (.int .i64 b)).setCell ⟨w.heap.size + 1, 2, none⟩ (.slice none 0 0)).setCell ⟨w.heap.size + 1 + 1, 0, none⟩ (.int .i64 a)).setCell ⟨w.heap.size + 1 + 1, 1, none⟩ (.int .i64 b)).setCell ⟨w.heap.size + 1 + 1, 2, none⟩ (.slice none 0 0)).drew := ⟨_, rfl⟩
    have T0 : Two w w2 36 #[.int .i64 a, .int .i64 b, .slice A n c] a b (.slice none 0 0) (.slice none 0 0) 0 0 [] [] := by
      rw [hw2]
      exact ⟨(((S.blk 3 rfl).farT (by omega) _ _ _).farT (by omega) _ _ _).drew, (((S.blk 4 rfl).set3 _ _ _).farT (by omega) _ _ _).drew, (((S.blk 5 rfl).farT (by omega) _ _ _).set3 _ _ _).drew, World.ownsRow_nil _ _ _ _, World.ownsRow_nil _ _ _ _, .inl rfl, (below_set3 (below_set3 S.below (by omega) _ _ _) (by omega) _ _ _).drew⟩
    go_upto_region 4 with fail
    go_cut [] (fun wx => wx = w2)
    case first =>
      go_wp2_with fail
      go_region
      all_goals
        go_wp2_with fail
        go_meet
        exact hw2.symm
    case rest =>
      subst hcut
      clear hw2 S c0 c1 c2 r0 r1 r2 f0 f1 f2 s0 s1 s2 g0 g1 g2
      obtain ⟨c0, c1, c2⟩ := T0.g.cell3
      go_wp2_with fail
      go_loopw [36] (fun i wr => ∃ (k k1 k2 : Nat) (B1 B2 : Option Addr), k ≤ n ∧ i = .int .i64 k ∧ Hid (∀ j, j < k → fitC a cs p q j = true) ∧
          Two w wr 36 #[.int .i64 a, .int .i64 b, .slice A n c] a b (.slice B1 k k1) (.slice B2 k k2) k k (((List.range k).map (upJ a cs q)).map Value.bool) (((List.range k).map (openJ a cs p q)).map Value.bool)) (fun i _ => n - (intOf i).toNat)
      case atStart => exact ⟨0, 0, 0, none, none, Nat.zero_le _, rfl, Lib.hid (fun j hj => absurd hj (by omega)), T0⟩
      case round =>
        clear T0 c0 c1 c2
        obtain ⟨k, k1, k2, B1, B2, hk, rfl, HFk, T1⟩ := hrel
        obtain ⟨c0, c1, c2⟩ := T1.g.cell3
        generalize hxs : ((List.range k).map (upJ a cs q)).map Value.bool = xs at T1
        generalize hys : ((List.range k).map (openJ a cs p q)).map Value.bool = ys at T1
        have HXS := Lib.hid hxs
        have HYS := Lib.hid hys
        clear hxs hys
        have hn4 := HNB.out
        by_cases hlt : k < n
        · have hv : k / a < b := HDV.out k hlt
          have hu : k % a < a := Nat.mod_lt _ (by omega)
          have HFC := Lib.hid (show fitC a cs p q k = (decide (p.getD (k % a) 0 = cs.getD k 0) || decide (q.getD (k / a) 0 = cs.getD k 0)) from rfl)
          have HUJ := Lib.hid (show upJ a cs q k = !decide (q.getD (k / a) 0 = cs.getD k 0) from rfl)
          have HOJ := Lib.hid (show openJ a cs p q k = (decide (p.getD (k % a) 0 = cs.getD k 0) && decide (q.getD (k / a) 0 = cs.getD k 0)) from rfl)
          have hbl := T1.bel
          obtain ⟨bm, om, hAm, _, hcm⟩ := (HRM.out.below hbl).at_ (by omega)
          obtain ⟨bp, op, hAp, _, hcp⟩ := (HRP.out.below hbl).at_ (by omega)
          obtain ⟨bq, oq, hAq, _, hcq⟩ := (HRQ.out.below hbl).at_ (by omega)
          have g0 := hcm k (.int .i64 (cs.getD k 0)) (by have := HLM.out; simp only [List.getElem?_map]; rw [get_d (by omega)]; rfl)
          have g1 := hcp (k % a) (.int .i64 (p.getD (k % a) 0)) (by have := HLP.out; rw [List.getElem?_map, get_d (by omega)]; rfl)
          have g2 := hcq (k / a) (.int .i64 (q.getD (k / a) 0)) (by have := HLQ.out; rw [List.getElem?_map, get_d (by omega)]; rfl)
          have t1 : (k : Int).tmod (a : Int) = ((k % a : Nat) : Int) := by rw [Int.tmod_eq_emod_of_nonneg (by omega)]; exact (Int.natCast_emod _ _).symm
          have t2 : (k : Int).tdiv (a : Int) = ((k / a : Nat) : Int) := by rw [Int.tdiv_eq_ediv_of_nonneg (by omega)]; exact (Int.natCast_ediv _ _).symm
          have t3 : (k : Int) % (a : Int) = ((k % a : Nat) : Int) := (Int.natCast_emod _ _).symm
          have t4 : (k : Int) / (a : Int) = ((k / a : Nat) : Int) := (Int.natCast_ediv _ _).symm
          have n1 : ¬ (a : Int) = 0 := by omega
          have n2 : ¬ a = 0 := by omega
          generalize k % a = u at *
          generalize k / a = v at *
          have u4 : IntKind.i64.wrap (v : Int) = (v : Int) := IntWalk.i64_in _ (by omega)
          generalize p.getD u 0 = x at *
          generalize q.getD v 0 = y at *
          generalize cs.getD k 0 = z at *
          have hsm : k + 1 ≤ 1048576 := by omega
          have hsz := hbl.size
          clear hcm hcp hcq hbl
          subst hAm hAp hAq
          by_cases h1 : x = z
          · have e1 : (x == z) = true := by simpa using h1
            by_cases h2 : y = z
            · have e2 : (y == z) = true := by simpa using h2
              have HU1 : Hid (upJ a cs q k = false) := Lib.hid (by rw [HUJ.out]; simp [h2])
              have HO1 : Hid (openJ a cs p q k = true) := Lib.hid (by rw [HOJ.out]; simp [h1, h2])
              have HF1 : Hid (fitC a cs p q k = true) := Lib.hid (by rw [HFC.out]; simp [h1, h2])
              clear h1 h2 HUJ HOJ HFC
              go_wp2_with fail
              go_quiet (fail)
              have T2 := T1.keep (below_drewN (Below.refl _ _) nq)
              clear T1 c0 c1 c2 g0 g1 g2
              have hsz2 := size_alloc_le T2.bel.size (.cells #[.bool false] 4)
              obtain ⟨r0, r1, r2⟩ := T2.r1.cell3
              go_wp2_with (at_builtin; go_loud (refine wpList_app2 _ rfl (.tmp 68) (.tmp 74) 23 rfl w.heap.size 4 i0 (.bool false) 1 Try.underlying23 hi hz0 hz1 hz2 rfl (by decide) (.slice B1 k k1) k _ rfl (T2.o1.alloc _) wr.heap.size (.bool false) rfl (new_cell _ _ _) rfl hsm hsz2 ?_))
              intro g1 cap1 w3 ho3 hg3 hl3
              have hR := (T2.r1.alloc _).grown hg3 (own_blk_ne T2.o1 T2.r1 (by decide))
              have T3 := T2.fst (by decide) _ ho3 hg3 (by simpa using hl3)
              have cc3 := hR.cell 2
              have hfz3 := hR.frozen 2
              have hsw : (w3.setCell ⟨w.heap.size + 1, 2, none⟩ (.slice (some ⟨g1, 0, none⟩) (k + 1) cap1)).heap.size = w3.heap.size := by simp
              have hsz3 := size_alloc_le T3.bel.size (.cells #[.bool true] 4)
              obtain ⟨s0, s1, s2⟩ := T3.r2.cell3
              clear T2 hR r0 r1 r2 ho3 hg3 hl3
              go_wp2_with (at_builtin; go_loud (refine wpList_app2 _ rfl (.tmp 78) (.tmp 83) 23 rfl w.heap.size 4 i0 (.bool false) 1 Try.underlying23 hi hz0 hz1 hz2 rfl (by decide) (.slice B2 k k2) k _ rfl (T3.o2.alloc _) w3.heap.size (.bool true) rfl (by rw [← hsw]; exact new_cell _ _ _) rfl hsm hsz3 ?_))
              intro g2 cap2 w5 ho5 hg5 hl5
              have hR := (T3.r2.alloc _).grown hg5 (own_blk_ne T3.o2 T3.r2 (by decide))
              have T4 := Lib.hid (T3.snd (by decide) _ ho5 hg5 (by simpa using hl5))
              have cc5 := hR.cell 2
              have hfz5 := hR.frozen 2
              clear T3 hR s0 s1 s2 ho5 hg5 hl5 cc3 hfz3
              go_wp2_with fail
              go_roundw
              case rel =>
                refine ⟨k + 1, cap1, cap2, some ⟨g1, 0, none⟩, some ⟨g2, 0, none⟩, by omega, by go_num, Lib.hid (fun j hj => ?_), by rw [range_snoc HU1.out, range_snoc HO1.out, HXS.out, HYS.out]; exact T4.out⟩
                rcases Nat.lt_or_ge j k with h | h
                · exact HFk.out j h
                · obtain rfl : j = k := by omega
                  exact HF1.out
              case measure => simp [intOf]; omega
            · have e2 : (y == z) = false := by simpa using h2
              have HU1 : Hid (upJ a cs q k = true) := Lib.hid (by rw [HUJ.out]; simp [h2])
              have HO1 : Hid (openJ a cs p q k = false) := Lib.hid (by rw [HOJ.out]; simp [h1, h2])
              have HF1 : Hid (fitC a cs p q k = true) := Lib.hid (by rw [HFC.out]; simp [h1, h2])
              clear h1 h2 HUJ HOJ HFC
              go_wp2_with fail
              go_quiet (fail)
              have T2 := T1.keep (below_drewN (Below.refl _ _) nq)
              clear T1 c0 c1 c2 g0 g1 g2
              have hsz2 := size_alloc_le T2.bel.size (.cells #[.bool true] 4)
              obtain ⟨r0, r1, r2⟩ := T2.r1.cell3
              go_wp2_with (at_builtin; go_loud (refine wpList_app2 _ rfl (.tmp 68) (.tmp 74) 23 rfl w.heap.size 4 i0 (.bool false) 1 Try.underlying23 hi hz0 hz1 hz2 rfl (by decide) (.slice B1 k k1) k _ rfl (T2.o1.alloc _) wr.heap.size (.bool true) rfl (new_cell _ _ _) rfl hsm hsz2 ?_))
              intro g1 cap1 w3 ho3 hg3 hl3
              have hR := (T2.r1.alloc _).grown hg3 (own_blk_ne T2.o1 T2.r1 (by decide))
              have T3 := T2.fst (by decide) _ ho3 hg3 (by simpa using hl3)
              have cc3 := hR.cell 2
              have hfz3 := hR.frozen 2
              have hsw : (w3.setCell ⟨w.heap.size + 1, 2, none⟩ (.slice (some ⟨g1, 0, none⟩) (k + 1) cap1)).heap.size = w3.heap.size := by simp
              have hsz3 := size_alloc_le T3.bel.size (.cells #[.bool false] 4)
              obtain ⟨s0, s1, s2⟩ := T3.r2.cell3
              clear T2 hR r0 r1 r2 ho3 hg3 hl3
              go_wp2_with (at_builtin; go_loud (refine wpList_app2 _ rfl (.tmp 78) (.tmp 83) 23 rfl w.heap.size 4 i0 (.bool false) 1 Try.underlying23 hi hz0 hz1 hz2 rfl (by decide) (.slice B2 k k2) k _ rfl (T3.o2.alloc _) w3.heap.size (.bool false) rfl (by rw [← hsw]; exact new_cell _ _ _) rfl hsm hsz3 ?_))
              intro g2 cap2 w5 ho5 hg5 hl5
              have hR := (T3.r2.alloc _).grown hg5 (own_blk_ne T3.o2 T3.r2 (by decide))
              have T4 := Lib.hid (T3.snd (by decide) _ ho5 hg5 (by simpa using hl5))
              have cc5 := hR.cell 2
              have hfz5 := hR.frozen 2
              clear T3 hR s0 s1 s2 ho5 hg5 hl5 cc3 hfz3
              go_wp2_with fail
              go_roundw
              case rel =>
                refine ⟨k + 1, cap1, cap2, some ⟨g1, 0, none⟩, some ⟨g2, 0, none⟩, by omega, by go_num, Lib.hid (fun j hj => ?_), by rw [range_snoc HU1.out, range_snoc HO1.out, HXS.out, HYS.out]; exact T4.out⟩
                rcases Nat.lt_or_ge j k with h | h
                · exact HFk.out j h
                · obtain rfl : j = k := by omega
                  exact HF1.out
              case measure => simp [intOf]; omega
          · have e1 : (x == z) = false := by simpa using h1
            by_cases h2 : y = z
            · have e2 : (y == z) = true := by simpa using h2
              have HU1 : Hid (upJ a cs q k = false) := Lib.hid (by rw [HUJ.out]; simp [h2])
              have HO1 : Hid (openJ a cs p q k = false) := Lib.hid (by rw [HOJ.out]; simp [h1, h2])
              have HF1 : Hid (fitC a cs p q k = true) := Lib.hid (by rw [HFC.out]; simp [h1, h2])
              clear h1 h2 HUJ HOJ HFC
              go_wp2_with fail
              go_quiet (fail)
              have T2 := T1.keep (below_drewN (Below.refl _ _) nq)
              clear T1 c0 c1 c2 g0 g1 g2
              have hsz2 := size_alloc_le T2.bel.size (.cells #[.bool false] 4)
              obtain ⟨r0, r1, r2⟩ := T2.r1.cell3
              go_wp2_with (at_builtin; go_loud (refine wpList_app2 _ rfl (.tmp 68) (.tmp 74) 23 rfl w.heap.size 4 i0 (.bool false) 1 Try.underlying23 hi hz0 hz1 hz2 rfl (by decide) (.slice B1 k k1) k _ rfl (T2.o1.alloc _) wr.heap.size (.bool false) rfl (new_cell _ _ _) rfl hsm hsz2 ?_))
              intro g1 cap1 w3 ho3 hg3 hl3
              have hR := (T2.r1.alloc _).grown hg3 (own_blk_ne T2.o1 T2.r1 (by decide))
              have T3 := T2.fst (by decide) _ ho3 hg3 (by simpa using hl3)
              have cc3 := hR.cell 2
              have hfz3 := hR.frozen 2
              have hsw : (w3.setCell ⟨w.heap.size + 1, 2, none⟩ (.slice (some ⟨g1, 0, none⟩) (k + 1) cap1)).heap.size = w3.heap.size := by simp
              have hsz3 := size_alloc_le T3.bel.size (.cells #[.bool false] 4)
              obtain ⟨s0, s1, s2⟩ := T3.r2.cell3
              clear T2 hR r0 r1 r2 ho3 hg3 hl3
              go_wp2_with (at_builtin; go_loud (refine wpList_app2 _ rfl (.tmp 78) (.tmp 83) 23 rfl w.heap.size 4 i0 (.bool false) 1 Try.underlying23 hi hz0 hz1 hz2 rfl (by decide) (.slice B2 k k2) k _ rfl (T3.o2.alloc _) w3.heap.size (.bool false) rfl (by rw [← hsw]; exact new_cell _ _ _) rfl hsm hsz3 ?_))
              intro g2 cap2 w5 ho5 hg5 hl5
              have hR := (T3.r2.alloc _).grown hg5 (own_blk_ne T3.o2 T3.r2 (by decide))
              have T4 := Lib.hid (T3.snd (by decide) _ ho5 hg5 (by simpa using hl5))
              have cc5 := hR.cell 2
              have hfz5 := hR.frozen 2
              clear T3 hR s0 s1 s2 ho5 hg5 hl5 cc3 hfz3
              go_wp2_with fail
              go_roundw
              case rel =>
                refine ⟨k + 1, cap1, cap2, some ⟨g1, 0, none⟩, some ⟨g2, 0, none⟩, by omega, by go_num, Lib.hid (fun j hj => ?_), by rw [range_snoc HU1.out, range_snoc HO1.out, HXS.out, HYS.out]; exact T4.out⟩
                rcases Nat.lt_or_ge j k with h | h
                · exact HFk.out j h
                · obtain rfl : j = k := by omega
                  exact HF1.out
              case measure => simp [intOf]; omega
            · have e2 : (y == z) = false := by simpa using h2
              have HF1 : Hid (fitC a cs p q k = false) := Lib.hid (by rw [HFC.out]; simp [h1, h2])
              have HNO2 := Lib.hid (HNO.out (HFF.out k hlt HF1.out))
              clear h1 h2 HUJ HOJ HFC
              go_wp2_with fail
              go_quiet (fail)
              have T2 := T1.keep (below_drewN (Below.refl _ _) nq)
              clear T1 c0 c1 c2 g0 g1 g2
              obtain ⟨r0, r1, r2⟩ := T2.r1.cell3
              obtain ⟨f0, f1, f2⟩ := T2.r1.frozen3
              obtain ⟨s0, s1, s2⟩ := T2.r2.cell3
              obtain ⟨g0, g1, g2⟩ := T2.r2.frozen3
              have E1 := (T2.r1.set3 (.int .i64 0) (.int .i64 0) (.slice none 0 0)).farT (show w.heap.size + 1 ≠ w.heap.size + 1 + 1 by omega) (.int .i64 0) (.int .i64 0) (.slice none 0 0)
              have E2 := (T2.r2.farT (show w.heap.size + 1 + 1 ≠ w.heap.size + 1 by omega) (.int .i64 0) (.int .i64 0) (.slice none 0 0)).set3 (.int .i64 0) (.int .i64 0) (.slice none 0 0)
              have BB := below_set3 (below_set3 T2.bel (show w.heap.size ≤ w.heap.size + 1 by omega) (.int .i64 0) (.int .i64 0) (.slice none 0 0)) (show w.heap.size ≤ w.heap.size + 1 + 1 by omega) (.int .i64 0) (.int .i64 0) (.slice none 0 0)
              obtain ⟨x0, x1, x2⟩ := E1.cell3
              obtain ⟨y0, y1, y2⟩ := E2.cell3
              go_wp2_with fail
              refine bodyPost_ret (v := .tuple #[.agg #[.int .i64 0, .int .i64 0, .slice none 0 0], .agg #[.int .i64 0, .int .i64 0, .slice none 0 0], .int .i64 6]) (by simp [results, Try.results31, go_sem, x0, x1, x2, y0, y1, y2]) rfl ?_
              rw [HNO2.out]
              exact ⟨none, 0, 0, none, 0, 0, rfl, World.ownsRow_nil _ _ _ _, World.ownsRow_nil _ _ _ _, .inl rfl, BB⟩
        · have hkn : k = n := by omega
          have HOK2 := Lib.hid (HOK.out (HFT.out (fun j hj => HFk.out j (by omega))))
          obtain ⟨r0, r1, r2⟩ := T1.r1.cell3
          obtain ⟨f0, f1, f2⟩ := T1.r1.frozen3
          obtain ⟨s0, s1, s2⟩ := T1.r2.cell3
          obtain ⟨g0, g1, g2⟩ := T1.r2.frozen3
          have E1 := (T1.r1.set3 (.int .i64 a) (.int .i64 b) (.slice B1 k k1)).farT (show w.heap.size + 1 ≠ w.heap.size + 1 + 1 by omega) (.int .i64 a) (.int .i64 b) (.slice B2 k k2)
          have E2 := (T1.r2.farT (show w.heap.size + 1 + 1 ≠ w.heap.size + 1 by omega) (.int .i64 a) (.int .i64 b) (.slice B1 k k1)).set3 (.int .i64 a) (.int .i64 b) (.slice B2 k k2)
          have O1 := own_set3 (own_set3 T1.o1 T1.r1 (by decide) (.int .i64 a) (.int .i64 b) (.slice B1 k k1)) (T1.r2.farT (show w.heap.size + 1 + 1 ≠ w.heap.size + 1 by omega) (.int .i64 a) (.int .i64 b) (.slice B1 k k1)) (by decide) (.int .i64 a) (.int .i64 b) (.slice B2 k k2)
          have O2 := own_set3 (own_set3 T1.o2 T1.r1 (by decide) (.int .i64 a) (.int .i64 b) (.slice B1 k k1)) (T1.r2.farT (show w.heap.size + 1 + 1 ≠ w.heap.size + 1 by omega) (.int .i64 a) (.int .i64 b) (.slice B1 k k1)) (by decide) (.int .i64 a) (.int .i64 b) (.slice B2 k k2)
          have BB := below_set3 (below_set3 T1.bel (show w.heap.size ≤ w.heap.size + 1 by omega) (.int .i64 a) (.int .i64 b) (.slice B1 k k1)) (show w.heap.size ≤ w.heap.size + 1 + 1 by omega) (.int .i64 a) (.int .i64 b) (.slice B2 k k2)
          obtain ⟨x0, x1, x2⟩ := E1.cell3
          obtain ⟨y0, y1, y2⟩ := E2.cell3
          have HNE := Lib.hid T1.ne
          have HKN := Lib.hid hkn
          clear T1 E1 E2 hkn
          go_wp2_with fail
          go_region
          all_goals
            go_wp2_with fail
            refine bodyPost_ret (v := .tuple #[.agg #[.int .i64 a, .int .i64 b, .slice B1 k k1], .agg #[.int .i64 a, .int .i64 b, .slice B2 k k2], .int .i64 0]) (by simp [results, Try.results31, go_sem, x0, x1, x2, y0, y1, y2]) rfl ?_
            rw [HOK2.out, ← HKN.out]
            rw [← HXS.out] at O1
            rw [← HYS.out] at O2
            exact ⟨B1, k, k1, B2, k, k2, rfl, O1.drew, O2.drew, HNE.out, BB.drew⟩
  · have HB := Lib.hid (cellsI_bad h0)
    have k0 : (thrI m p q != 0) = true := by simpa using h0
    generalize thrI m p q = t at *
    clear h0
    go_enter Try.func31, Try.ntmps31
    go_wp2_with fail
    refine (HT.out _ (S0.rd 0 rfl) (S0.rd 1 rfl) (S0.rd 2 rfl)).mono ?_
    rintro e w1 ⟨rfl, hbb⟩
    have S := S0.keep hbb
    clear S0 c0 c1 c2
    obtain ⟨r0, r1, r2⟩ := (S.blk 4 rfl).cell3
    obtain ⟨f0, f1, f2⟩ := (S.blk 4 rfl).frozen3
    obtain ⟨s0, s1, s2⟩ := (S.blk 5 rfl).cell3
    obtain ⟨g0, g1, g2⟩ := (S.blk 5 rfl).frozen3
    have E1 := ((S.blk 4 rfl).set3 (.int .i64 0) (.int .i64 0) (.slice none 0 0)).farT (show w.heap.size + 1 ≠ w.heap.size + 1 + 1 by omega) (.int .i64 0) (.int .i64 0) (.slice none 0 0)
    have E2 := ((S.blk 5 rfl).farT (show w.heap.size + 1 + 1 ≠ w.heap.size + 1 by omega) (.int .i64 0) (.int .i64 0) (.slice none 0 0)).set3 (.int .i64 0) (.int .i64 0) (.slice none 0 0)
    have BB := below_set3 (below_set3 S.below (show w.heap.size ≤ w.heap.size + 1 by omega) (.int .i64 0) (.int .i64 0) (.slice none 0 0)) (show w.heap.size ≤ w.heap.size + 1 + 1 by omega) (.int .i64 0) (.int .i64 0) (.slice none 0 0)
    obtain ⟨x0, x1, x2⟩ := E1.cell3
    obtain ⟨y0, y1, y2⟩ := E2.cell3
    go_wp2_with fail
    refine bodyPost_ret (v := .tuple #[.agg #[.int .i64 0, .int .i64 0, .slice none 0 0], .agg #[.int .i64 0, .int .i64 0, .slice none 0 0], .int .i64 t]) (by simp [results, Try.results31, go_sem, x0, x1, x2, y0, y1, y2]) rfl ?_
    rw [HB.out]
    exact ⟨none, 0, 0, none, 0, 0, rfl, World.ownsRow_nil _ _ _ _, World.ownsRow_nil _ _ _ _, .inl rfl, BB⟩
end Go.Proofs.Ytmajmbfbnchbfaa
