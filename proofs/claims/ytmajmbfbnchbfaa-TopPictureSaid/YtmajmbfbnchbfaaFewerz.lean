/- raddletop.fewer answers true of a cloth and its front. -/
import Derived.Test.YtmajmbfbnchbfaaFewKz
import Derived.Test.YtmajmbfbnchbfaaMg4z
import Derived.Test.YtmajmbfbnchbfaaImCkz
namespace Go.Proofs.Ytmajmbfbnchbfaa
open Go.RowKit

set_option linter.unusedVariables false in
set_option maxHeartbeats 16000000 in
set_option maxRecDepth 100000 in
theorem fewer_any (a h k bA oA c bM oM cm cp cq : Nat) (Ap Aq : Option Addr) (gb : List Bool) (p q : List Int) (w : World) (ha1 : 1 ≤ a) (ha : a ≤ 8) (hh1 : 1 ≤ h) (hh : h ≤ 20) (hk1 : 1 ≤ k) (hk : k ≤ 40) (hgl : gb.length = h * a) (hp : p.length = a) (hq : q.length = h) (hfp : fineL p = true) (hfq : fineL q = true)
    (hr : Rd w (some ⟨bA, oA, none⟩) (h * a) (gb.map Value.bool)) (hc : h * a ≤ c) (hrm : Rd w (some ⟨bM, oM, none⟩) (h * a) ((Pl.tab a h (frontF a gb p q)).map (Value.int .i64))) (hrp : Rd w Ap a (p.map (Value.int .i64))) (hrq : Rd w Aq h (q.map (Value.int .i64))) :
    Calls Try.prog 16 #[.agg #[.int .i64 a, .int .i64 h, .slice (some ⟨bA, oA, none⟩) (h * a) c], .agg #[.int .i64 a, .int .i64 h, .slice (some ⟨bM, oM, none⟩) (h * a) cm], .slice Ap a cp, .slice Aq h cq, .int .i64 k] w fun e w' => e = .returned (.bool true) ∧ Below w.heap.size w w' := by
  have S0 := (((((St.start w).addRd hr).addRd hrm).addRd hrp).addRd hrq).box #[.int .i64 a, .int .i64 h, .slice (some ⟨bA, oA, none⟩) (h * a) c] 25
  have S0 := S0.box #[.int .i64 a, .int .i64 h, .slice (some ⟨bM, oM, none⟩) (h * a) cm] 36
  simp only [size_alloc1, List.nil_append, List.cons_append] at S0
  have HB := Lib.hid (fun u (hu : Below w.heap.size w u) => best_any a h k gb bA oA c u ha1 ha hh1 (by omega) hk1 hk hgl (hr.below hu) hc)
  have HMP := Lib.hid (show h * a ≤ 20 * 8 from Nat.mul_le_mul hh ha)
  have HGL := Lib.hid hgl
  obtain ⟨c0, c1, c2⟩ := (S0.blk 4 rfl).cell3
  clear hr hrm hrp hrq
  go_enter Try.func16, Try.ntmps16
  go_wp2_with fail
  refine (HB.out _ S0.below).mono ?_
  rintro e w1 ⟨B, cl, l, rfl, hll, hgr, ho, hb1⟩
  have S1 := (S0.keep hb1).addRd (rd_of_own ho)
  simp only [List.nil_append, List.cons_append] at S1
  have HX := Lib.hid (fun i (hi : i < a) => hgr (l.getD i 0) (by rw [List.getD_eq_getElem?_getD, List.getElem?_eq_getElem (by omega)]; exact List.getElem_mem _))
  have HGR := Lib.hid hgr
  have HLL := Lib.hid hll
  obtain ⟨cs, hcs⟩ : ∃ cs, costL a h gb l = cs := ⟨_, rfl⟩
  have HCS := Lib.hid hcs
  rw [hcs]
  clear c0 c1 c2 S0 hb1 ho HB hgr hll hcs
  obtain ⟨c0, c1, c2⟩ := (S1.blk 4 rfl).cell3
  go_wp2_with fail
  go_loopw [14, 15] (fun us i wr => ∃ (x us' : Nat), x ≤ a ∧ us = .int .i64 us' ∧ i = .int .i64 x ∧ us' ≤ k ∧ St w [Fact.rd (some ⟨bA, oA, none⟩) (h * a) (gb.map Value.bool), Fact.rd (some ⟨bM, oM, none⟩) (h * a) ((Pl.tab a h (frontF a gb p q)).map (Value.int .i64)), Fact.rd Ap a (p.map (Value.int .i64)), Fact.rd Aq h (q.map (Value.int .i64)),
      Fact.blk w.heap.size 25 #[.int .i64 a, .int .i64 h, .slice (some ⟨bA, oA, none⟩) (h * a) c], Fact.blk (w.heap.size + 1) 36 #[.int .i64 a, .int .i64 h, .slice (some ⟨bM, oM, none⟩) (h * a) cm], Fact.rd (some ⟨B, 0, none⟩) a (l.map (Value.int .i64))] wr) (fun _ i _ => a - (intOf i).toNat)
  case atStart => exact ⟨0, 0, Nat.zero_le _, rfl, rfl, Nat.zero_le _, S1⟩
  case round =>
    clear c0 c1 c2 S1
    obtain ⟨x, us, hxa, rfl, rfl, hus, T⟩ := hrel
    obtain ⟨c0, c1, c2⟩ := (T.blk 4 rfl).cell3
    by_cases hltx : x < a
    · obtain ⟨hv0, hvk, hva⟩ := HX.out x hltx
      have q0 := int_cell (T.rd 6 rfl) hltx
      generalize l.getD x 0 = v at hv0 hvk hva q0
      obtain ⟨v, rfl⟩ : ∃ v' : Nat, v = (v' : Int) := ⟨v.toNat, by omega⟩
      rw [Nat.zero_add] at q0
      have hv1 : decide ((v : Int) < 0) = false := decide_eq_false (by omega)
      obtain ⟨mn, hmn, hmv⟩ : ∃ mn : Nat, (if (a : Int) < (k : Int) then (a : Int) else (k : Int)) = (mn : Int) ∧ v < mn := by
        by_cases hak : (a : Int) < (k : Int)
        · exact ⟨a, if_pos hak, by omega⟩
        · exact ⟨k, if_neg hak, by omega⟩
      obtain ⟨us2, hus2, hus2k⟩ : ∃ us2 : Nat, (if (us : Int) < (v : Int) + 1 then (v : Int) + 1 else (us : Int)) = (us2 : Int) ∧ us2 ≤ k := by
        by_cases hak : (us : Int) < (v : Int) + 1
        · exact ⟨v + 1, by rw [if_pos hak]; rfl, by omega⟩
        · exact ⟨us, if_neg hak, by omega⟩
      have kA := Lib.hid (show wr.drew.cell? ⟨B, x, none⟩ = some (.int .i64 (v : Int)) ∧ wr.drew.cell? ⟨w.heap.size, 0, none⟩ = some (.int .i64 a) from ⟨q0, c0⟩)
      go_wp2_with fail
      refine wp_region_held_drew (S := (fun u : World => u.cell? ⟨B, x, none⟩ = some (.int .i64 (v : Int)) ∧ u.cell? ⟨w.heap.size, 0, none⟩ = some (.int .i64 a))) (by kernel_rfl) ?_ (fun hHeld => ?_)
      · (try dsimp only); exact kA.out
      refine man_take 0 49 (v := ?_) ⟨_, rfl, rfl⟩ (by as_aux_lemma => kernel_rfl) (by as_aux_lemma => kernel_rfl) (by as_aux_lemma => kernel_rfl) (fun _ _ _ h => h) (by assumption) ?_ ?_
      rotate_left
      · intro oi ho; cases ho; refine ⟨by rfl, ?_⟩; intro w hSw; (try dsimp only at hSw); go_simp; try with_reducible rfl
      (try simp only [Act.put, List.setIfInBounds_toArray, List.set_cons_zero, List.set_cons_succ])
      refine man_take 1 50 (v := ?_) ⟨_, rfl, rfl⟩ (by as_aux_lemma => kernel_rfl) (by as_aux_lemma => kernel_rfl) (by as_aux_lemma => kernel_rfl) (fun _ _ _ h => h) (by assumption) ?_ ?_
      rotate_left
      · intro oi ho; cases ho; refine ⟨by rfl, ?_⟩; intro w hSw; (try dsimp only at hSw); go_simp; try with_reducible rfl
      (try simp only [Act.put, List.setIfInBounds_toArray, List.set_cons_zero, List.set_cons_succ])
      refine man_take 2 51 (v := ?_) ⟨_, rfl, rfl⟩ (by as_aux_lemma => kernel_rfl) (by as_aux_lemma => kernel_rfl) (by as_aux_lemma => kernel_rfl) (fun _ _ _ h => h) (by assumption) ?_ ?_
      rotate_left
      · intro oi ho; cases ho; refine ⟨by rfl, ?_⟩; intro w hSw; (try dsimp only at hSw); go_simp; try with_reducible rfl
      (try simp only [Act.put, List.setIfInBounds_toArray, List.set_cons_zero, List.set_cons_succ])
      refine man_take 3 52 (v := ?_) ⟨_, rfl, rfl⟩ (by as_aux_lemma => kernel_rfl) (by as_aux_lemma => kernel_rfl) (by as_aux_lemma => kernel_rfl) (fun _ _ _ h => h) (by assumption) ?_ ?_
      rotate_left
      · intro oi ho; cases ho; refine ⟨by rfl, ?_⟩; intro w hSw; (try dsimp only at hSw); go_simp; try with_reducible rfl
      (try simp only [Act.put, List.setIfInBounds_toArray, List.set_cons_zero, List.set_cons_succ])
      refine man_take 4 53 (v := ?_) ⟨_, rfl, rfl⟩ (by as_aux_lemma => kernel_rfl) (by as_aux_lemma => kernel_rfl) (by as_aux_lemma => kernel_rfl) (fun _ _ _ h => h) (by assumption) ?_ ?_
      rotate_left
      · intro oi ho; cases ho; refine ⟨by rfl, ?_⟩; intro w hSw; (try dsimp only at hSw); go_simp; try with_reducible rfl
      (try simp only [Act.put, List.setIfInBounds_toArray, List.set_cons_zero, List.set_cons_succ])
      refine man_take 5 54 (v := ?_) ⟨_, rfl, rfl⟩ (by as_aux_lemma => kernel_rfl) (by as_aux_lemma => kernel_rfl) (by as_aux_lemma => kernel_rfl) (fun _ _ _ h => h) (by assumption) ?_ ?_
      rotate_left
      · intro oi ho; cases ho; refine ⟨by rfl, ?_⟩; intro w hSw; (try dsimp only at hSw); go_simp; try with_reducible rfl
      (try simp only [Act.put, List.setIfInBounds_toArray, List.set_cons_zero, List.set_cons_succ])
      refine man_take 6 55 (v := ?_) ⟨_, rfl, rfl⟩ (by as_aux_lemma => kernel_rfl) (by as_aux_lemma => kernel_rfl) (by as_aux_lemma => kernel_rfl) (fun _ _ _ h => h) (by assumption) ?_ ?_
      rotate_left
      · intro oi ho; cases ho; refine ⟨by rfl, ?_⟩; intro w hSw; (try dsimp only at hSw); go_simp; try with_reducible rfl
      (try simp only [Act.put, List.setIfInBounds_toArray, List.set_cons_zero, List.set_cons_succ])
      refine man_take 7 56 (v := ?_) ⟨_, rfl, rfl⟩ (by as_aux_lemma => kernel_rfl) (by as_aux_lemma => kernel_rfl) (by as_aux_lemma => kernel_rfl) (fun _ _ _ h => h) (by assumption) ?_ ?_
      rotate_left
      · intro oi ho; cases ho; refine ⟨by rfl, ?_⟩; intro w hSw; (try dsimp only at hSw); go_simp; try with_reducible rfl
      (try simp only [Act.put, List.setIfInBounds_toArray, List.set_cons_zero, List.set_cons_succ])
      refine man_take 8 57 (v := ?_) ⟨_, rfl, rfl⟩ (by as_aux_lemma => kernel_rfl) (by as_aux_lemma => kernel_rfl) (by as_aux_lemma => kernel_rfl) (fun _ _ _ h => h) (by assumption) ?_ ?_
      rotate_left
      · intro oi ho; cases ho; refine ⟨by rfl, ?_⟩; intro w hSw; (try dsimp only at hSw); go_simp; try with_reducible rfl
      (try simp only [Act.put, List.setIfInBounds_toArray, List.set_cons_zero, List.set_cons_succ])
      refine man_take 9 58 (v := ?_) ⟨_, rfl, rfl⟩ (by as_aux_lemma => kernel_rfl) (by as_aux_lemma => kernel_rfl) (by as_aux_lemma => kernel_rfl) (fun _ _ _ h => h) (by assumption) ?_ ?_
      rotate_left
      · intro oi ho; cases ho; refine ⟨by rfl, ?_⟩; intro w hSw; (try dsimp only at hSw); go_simp; try with_reducible rfl
      (try simp only [Act.put, List.setIfInBounds_toArray, List.set_cons_zero, List.set_cons_succ])
      refine man_take 10 59 (v := ?_) ⟨_, rfl, rfl⟩ (by as_aux_lemma => kernel_rfl) (by as_aux_lemma => kernel_rfl) (by as_aux_lemma => kernel_rfl) (fun _ _ _ h => h) (by assumption) ?_ ?_
      rotate_left
      · intro oi ho; cases ho; refine ⟨by rfl, ?_⟩; intro w hSw; (try dsimp only at hSw); go_simp; try with_reducible rfl
      (try simp only [Act.put, List.setIfInBounds_toArray, List.set_cons_zero, List.set_cons_succ])
      refine man_take 11 60 (v := ?_) ⟨_, rfl, rfl⟩ (by as_aux_lemma => kernel_rfl) (by as_aux_lemma => kernel_rfl) (by as_aux_lemma => kernel_rfl) (fun _ _ _ h => h) (by assumption) ?_ ?_
      rotate_left
      · intro oi ho; cases ho; refine ⟨by rfl, ?_⟩; intro w hSw; (try dsimp only at hSw); go_simp; try with_reducible rfl
      (try simp only [Act.put, List.setIfInBounds_toArray, List.set_cons_zero, List.set_cons_succ])
      refine man_take 12 61 (v := ?_) ⟨_, rfl, rfl⟩ (by as_aux_lemma => kernel_rfl) (by as_aux_lemma => kernel_rfl) (by as_aux_lemma => kernel_rfl) (fun _ _ _ h => h) (by assumption) ?_ ?_
      rotate_left
      · intro oi ho; cases ho; refine ⟨by rfl, ?_⟩; intro w hSw; (try dsimp only at hSw); go_simp; try with_reducible rfl
      (try simp only [Act.put, List.setIfInBounds_toArray, List.set_cons_zero, List.set_cons_succ])
      refine man_take 13 62 (v := ?_) ⟨_, rfl, rfl⟩ (by as_aux_lemma => kernel_rfl) (by as_aux_lemma => kernel_rfl) (by as_aux_lemma => kernel_rfl) (fun _ _ _ h => h) (by assumption) ?_ ?_
      rotate_left
      · intro oi ho; cases ho; refine ⟨by rfl, ?_⟩; intro w hSw; (try dsimp only at hSw); go_simp; try with_reducible rfl
      (try simp only [Act.put, List.setIfInBounds_toArray, List.set_cons_zero, List.set_cons_succ])
      refine man_take 14 63 (v := ?_) ⟨_, rfl, rfl⟩ (by as_aux_lemma => kernel_rfl) (by as_aux_lemma => kernel_rfl) (by as_aux_lemma => kernel_rfl) (fun _ _ _ h => h) (by assumption) ?_ ?_
      rotate_left
      · intro oi ho; cases ho; refine ⟨by rfl, ?_⟩; intro w hSw; (try dsimp only at hSw); go_simp; try with_reducible rfl
      (try simp only [Act.put, List.setIfInBounds_toArray, List.set_cons_zero, List.set_cons_succ])
      refine man_take 15 64 (v := ?_) ⟨_, rfl, rfl⟩ (by as_aux_lemma => kernel_rfl) (by as_aux_lemma => kernel_rfl) (by as_aux_lemma => kernel_rfl) (fun _ _ _ h => h) (by assumption) ?_ ?_
      rotate_left
      · intro oi ho; cases ho; refine ⟨by rfl, ?_⟩; intro w hSw; (try dsimp only at hSw); go_simp; try with_reducible rfl
      (try simp only [Act.put, List.setIfInBounds_toArray, List.set_cons_zero, List.set_cons_succ])
      refine wpAnyH_done (by kernel_rfl) ?_ _
      have T2 := T.drew
      clear kA
      go_wp2_with fail
      go_roundw
      case rel => exact ⟨x + 1, us2, by omega, by first | rfl | rw [hus2], by go_num, hus2k, T2⟩
      case measure => simp [intOf]; omega
    · obtain rfl : a = x := by omega
      go_wp2_with fail
      refine (fw_change a h bA oA c B cl gb l _ ha1 ha hh1 (by omega) HGL.out (T.rd 0 rfl) hc HLL.out (T.rd 6 rfl) (fun x hx => ⟨(HGR.out x hx).1, (HGR.out x hx).2.2⟩)).mono ?_
      rintro e w2 ⟨gc, cc, rfl, rc, hb2⟩
      rw [HCS.out]
      have HD := Lib.hid (show diffTo (chgL a h gb l) gb (h * a) = cs from HCS.out)
      have HCB := Lib.hid (chgL_len a h gb l)
      have HGP := Lib.hid (show ∀ x x' y, x < a → x' < a → y < h → (l.getD x 0).toNat = (l.getD x' 0).toNat → (chgL a h gb l).getD (y * a + x) false = (chgL a h gb l).getD (y * a + x') false from fun x x' y hx hx' hy he => by
        rw [chgL_at hx hy, chgL_at hx' hy]
        refine chgF_group ?_
        have h1 := (HX.out x hx).1
        have h2 := (HX.out x' hx').1
        omega)
      generalize chgL a h gb l = cb at *
      have S2 := ((T.keep hb2).addRd rc).box #[.int .i64 a, .int .i64 h, .slice (some ⟨gc, 0, none⟩) (h * a) cc] 25
      simp only [List.nil_append, List.cons_append] at S2
      have HCK := Lib.hid (show ∀ (g c : Nat) u, Calls Try.prog 7 #[.agg #[.int .i64 a, .int .i64 h, .slice (some ⟨g, 0, none⟩) (h * a) c]] u (fun e w' => e = .returned (.int .i64 0) ∧ Below u.heap.size u w') from fun g c u => by
        have h1 := rcheck_any a h (some ⟨g, 0, none⟩) (h * a) c u
        rwa [chk_ok (by omega) (by omega) (by omega) (by omega) (by rw [Nat.mul_comm]; push_cast; rfl)] at h1)
      clear c0 c1 c2 T hb2 rc
      obtain ⟨c0, c1, c2⟩ := (S2.blk 4 rfl).cell3
      obtain ⟨d0, d1, d2⟩ := (S2.blk 8 rfl).cell3
      go_wp2_with fail
      refine (HCK.out _ _ _).mono ?_
      rintro e w3 ⟨rfl, hb3⟩
      have S3 := S2.keep hb3
      clear c0 c1 c2 d0 d1 d2 S2 hb3
      obtain ⟨c0, c1, c2⟩ := (S3.blk 4 rfl).cell3
      obtain ⟨d0, d1, d2⟩ := (S3.blk 8 rfl).cell3
      go_wp2_with fail
      refine (grouped_any a h gc 0 cc B 0 cl cb l _ ha1 ha hh1 (by omega) HCB.out (S3.rd 7 rfl) HLL.out (S3.rd 6 rfl) (fun x hx => ⟨(HGR.out x hx).1, (HGR.out x hx).2.2⟩) HGP.out).mono ?_
      rintro e w4 ⟨br, cr, gt, ct, tb, rfl, hT, r1, r2, hb4⟩
      have S4 := ((S3.keep hb4).addRd r1).addRd r2
      simp only [List.nil_append, List.cons_append] at S4
      clear c0 c1 c2 d0 d1 d2 S3 hb4 r1 r2
      go_wp2_with fail
      refine (fw_weave a h B 0 cl br cr gt ct cb tb l _ ha1 ha hh1 (by omega) HCB.out hT HLL.out (S4.rd 6 rfl) (fun x hx => ⟨(HGR.out x hx).1, (HGR.out x hx).2.2⟩) (S4.rd 9 rfl) (S4.rd 10 rfl)).mono ?_
      rintro e w5 ⟨gw, co, rfl, ro, hb5⟩
      have S5 := ((S4.keep hb5).addRd ro).box #[.int .i64 a, .int .i64 h, .slice (some ⟨gw, 0, none⟩) (h * a) co] 25
      simp only [List.nil_append, List.cons_append] at S5
      clear S4 hb5 ro hT HGP HX HGR HLL HCS
      obtain ⟨d0, d1, d2⟩ := (S5.blk 8 rfl).cell3
      obtain ⟨e0, e1, e2⟩ := (S5.blk 12 rfl).cell3
      have hdu : decide ((k : Int) < (us : Int)) = false := decide_eq_false (by omega)
      have hdun : decide (k < us) = false := decide_eq_false (by omega)
      go_wp2_with fail
      have HS := rsame_any ⟨a, h, cb⟩ ⟨a, h, cb⟩ (some ⟨gw, 0, none⟩) (some ⟨gc, 0, none⟩) (h * a) co (h * a) cc _ (S5.rd 11 rfl) (S5.rd 7 rfl) (by have := HMP.out; omega)
      rw [sameG_self] at HS
      refine HS.mono ?_
      rintro e w6 ⟨rfl, hb6⟩
      have S6 := S5.keep hb6
      clear d0 d1 d2 e0 e1 e2 S5 hb6 HS
      obtain ⟨d0, d1, d2⟩ := (S6.blk 8 rfl).cell3
      go_wp2_with fail
      refine (fw_front a h cc cp cq (some ⟨gc, 0, none⟩) Ap Aq cb p q _ ha1 (by omega) hh1 (by omega) HCB.out hp hq hfp hfq (S6.rd 7 rfl) (S6.rd 2 rfl) (S6.rd 3 rfl)).mono ?_
      rintro e w7 ⟨gq, cq7, rfl, rq, hb7⟩
      have S7 := ((S6.keep hb7).addRd rq).box #[.int .i64 a, .int .i64 h, .slice (some ⟨gq, 0, none⟩) (h * a) cq7] 36
      simp only [List.nil_append, List.cons_append] at S7
      clear d0 d1 d2 S6 hb7 rq
      go_wp2_with fail
      refine (fw_equal a h cp cq Ap Aq p q _ ha1 (by omega) hh1 (by omega) hp hq hfp hfq (S7.rd 2 rfl) (S7.rd 3 rfl)).mono ?_
      rintro e w8 ⟨ge, ce, rfl, re, hb8⟩
      have S8 := ((S7.keep hb8).addRd re).box #[.int .i64 a, .int .i64 h, .slice (some ⟨ge, 0, none⟩) (h * a) ce] 25
      simp only [List.nil_append, List.cons_append] at S8
      have HQ := Lib.hid (thrI_front (bs := cb) ha1 (by omega) hh1 (by omega) hp hq hp hq hfp hfq hfp hfq).1
      have HFD := Lib.hid (fun x y (hx : x < a) (hy : y < h) => fronts_differ (cb := cb) (gb := gb) (p := p) (q := q) hx hy)
      generalize Pl.tab a h (frontF a cb p q) = ql at *
      generalize Pl.tab a h (frontF a gb p q) = ml at *
      generalize (Pl.tab a h fun x y => decide (q.getD y 0 = p.getD x 0)) = el at *
      clear S7 hb8 re hp hq hfp hfq
      obtain ⟨q0, q1, q2⟩ := (S8.blk 14 rfl).cell3
      go_wp2_with fail
      refine (rcheckI_to ⟨a, h, ql⟩ (some ⟨gq, 0, none⟩) (h * a) cq7 _ HQ.out (S8.rd 13 rfl) (by have := HMP.out; omega)).mono ?_
      rintro e w9 ⟨rfl, hb9⟩
      have S9 := S8.keep hb9
      clear q0 q1 q2 S8 hb9 HQ
      obtain ⟨e0, e1, e2⟩ := (S9.blk 16 rfl).cell3
      go_wp2_with fail
      refine (HCK.out _ _ _).mono ?_
      rintro e w10 ⟨rfl, hb10⟩
      have S10 := S9.keep hb10
      clear e0 e1 e2 S9 hb10 HCK
      obtain ⟨e0, e1, e2⟩ := (S10.blk 16 rfl).cell3
      obtain ⟨q0, q1, q2⟩ := (S10.blk 14 rfl).cell3
      obtain ⟨m0, m1, m2⟩ := (S10.blk 5 rfl).cell3
      go_wp2_with fail
      clear e0 e1 e2 q0 q1 q2 m0 m1 m2
      replace S10 := S10.sub (L' := [Fact.rd (some ⟨bA, oA, none⟩) (h * a) (gb.map Value.bool), Fact.rd (some ⟨bM, oM, none⟩) (h * a) (ml.map (Value.int .i64)), Fact.blk w.heap.size 25 #[.int .i64 a, .int .i64 h, .slice (some ⟨bA, oA, none⟩) (h * a) c], Fact.blk (w.heap.size + 1) 36 #[.int .i64 a, .int .i64 h, .slice (some ⟨bM, oM, none⟩) (h * a) cm], Fact.rd (some ⟨gc, 0, none⟩) (h * a) (cb.map Value.bool), Fact.blk w2.heap.size 25 #[.int .i64 a, .int .i64 h, .slice (some ⟨gc, 0, none⟩) (h * a) cc], Fact.rd (some ⟨gq, 0, none⟩) (h * a) (ql.map (Value.int .i64)), Fact.blk w7.heap.size 36 #[.int .i64 a, .int .i64 h, .slice (some ⟨gq, 0, none⟩) (h * a) cq7], Fact.rd (some ⟨ge, 0, none⟩) (h * a) (el.map Value.bool), Fact.blk w8.heap.size 25 #[.int .i64 a, .int .i64 h, .slice (some ⟨ge, 0, none⟩) (h * a) ce]]) (by simp)
      go_loopw [25, 26] (fun ch i wr => ∃ z : Nat, z ≤ h * a ∧ ch = .int .i64 (diffTo cb gb z) ∧ i = .int .i64 z ∧ St w [Fact.rd (some ⟨bA, oA, none⟩) (h * a) (gb.map Value.bool), Fact.rd (some ⟨bM, oM, none⟩) (h * a) (ml.map (Value.int .i64)), Fact.blk w.heap.size 25 #[.int .i64 a, .int .i64 h, .slice (some ⟨bA, oA, none⟩) (h * a) c], Fact.blk (w.heap.size + 1) 36 #[.int .i64 a, .int .i64 h, .slice (some ⟨bM, oM, none⟩) (h * a) cm], Fact.rd (some ⟨gc, 0, none⟩) (h * a) (cb.map Value.bool), Fact.blk w2.heap.size 25 #[.int .i64 a, .int .i64 h, .slice (some ⟨gc, 0, none⟩) (h * a) cc], Fact.rd (some ⟨gq, 0, none⟩) (h * a) (ql.map (Value.int .i64)), Fact.blk w7.heap.size 36 #[.int .i64 a, .int .i64 h, .slice (some ⟨gq, 0, none⟩) (h * a) cq7], Fact.rd (some ⟨ge, 0, none⟩) (h * a) (el.map Value.bool), Fact.blk w8.heap.size 25 #[.int .i64 a, .int .i64 h, .slice (some ⟨ge, 0, none⟩) (h * a) ce]] wr) (fun _ i _ => h * a - (intOf i).toNat)
      case atStart => exact ⟨0, Nat.zero_le _, rfl, rfl, S10⟩
      case round =>
        clear S10
        obtain ⟨z, hz, rfl, rfl, T⟩ := hrel
        obtain ⟨g0, g1, g2⟩ := (T.blk 2 rfl).cell3
        obtain ⟨m0, m1, m2⟩ := (T.blk 3 rfl).cell3
        obtain ⟨d0, d1, d2⟩ := (T.blk 5 rfl).cell3
        obtain ⟨q0, q1, q2⟩ := (T.blk 7 rfl).cell3
        obtain ⟨e0, e1, e2⟩ := (T.blk 9 rfl).cell3
        by_cases hlt : z < h * a
        · have HFZ := Lib.hid (show (ql.getD z 0 != ml.getD z 0) = ((cb.getD z false != gb.getD z false) && !(el.getD z false)) from by
            obtain ⟨x, y, hx, hy, rfl⟩ := Pl.cell_split hlt
            exact HFD.out x y hx hy)
          have HD0 := Lib.hid (fun (he : cb.getD z false = gb.getD z false) => show diffTo cb gb (z + 1) = diffTo cb gb z from diffTo_same he)
          have HD1 := Lib.hid (fun (he : cb.getD z false ≠ gb.getD z false) => show diffTo cb gb (z + 1) = diffTo cb gb z + 1 from diffTo_other he)
          have hle := diffTo_le cb gb z
          have g3 := bit_at (T.rd 0 rfl) hlt
          have m3 := int_cell (T.rd 1 rfl) hlt
          have d3 := bit_at (T.rd 4 rfl) hlt
          have q3 := int_cell (T.rd 6 rfl) hlt
          have e3 := bit_at (T.rd 8 rfl) hlt
          rw [Nat.zero_add] at d3 q3 e3
          have HMZ := HMP.out
          generalize gb.getD z false = gv at *
          generalize ml.getD z 0 = mv at *
          generalize cb.getD z false = cv at *
          generalize ql.getD z 0 = qv at *
          generalize el.getD z false = ev at *
          have hwp : IntKind.i64.wrap ((diffTo cb gb z : Int) + 1) = (diffTo cb gb z : Int) + 1 := IntWalk.i64_in _ (by omega)
          have kA := Lib.hid (show (fun u : World => u.cell? ⟨w.heap.size, 2, none⟩ = some (.slice (some ⟨bA, oA, none⟩) (h * a) c) ∧ u.cell? ⟨bA, oA + z, none⟩ = some (.bool gv) ∧ u.cell? ⟨(w.heap.size + 1), 2, none⟩ = some (.slice (some ⟨bM, oM, none⟩) (h * a) cm) ∧ u.cell? ⟨bM, oM + z, none⟩ = some (.int .i64 mv) ∧ u.cell? ⟨w2.heap.size, 2, none⟩ = some (.slice (some ⟨gc, 0, none⟩) (h * a) cc) ∧ u.cell? ⟨gc, z, none⟩ = some (.bool cv) ∧ u.cell? ⟨w7.heap.size, 2, none⟩ = some (.slice (some ⟨gq, 0, none⟩) (h * a) cq7) ∧ u.cell? ⟨gq, z, none⟩ = some (.int .i64 qv) ∧ u.cell? ⟨w8.heap.size, 2, none⟩ = some (.slice (some ⟨ge, 0, none⟩) (h * a) ce) ∧ u.cell? ⟨ge, z, none⟩ = some (.bool ev)) wr.drew from ⟨g2, g3, m2, m3, d2, d3, q2, q3, e2, e3⟩)
          have kA2 := Lib.hid (show (fun u : World => u.cell? ⟨w.heap.size, 2, none⟩ = some (.slice (some ⟨bA, oA, none⟩) (h * a) c) ∧ u.cell? ⟨bA, oA + z, none⟩ = some (.bool gv) ∧ u.cell? ⟨(w.heap.size + 1), 2, none⟩ = some (.slice (some ⟨bM, oM, none⟩) (h * a) cm) ∧ u.cell? ⟨bM, oM + z, none⟩ = some (.int .i64 mv) ∧ u.cell? ⟨w2.heap.size, 2, none⟩ = some (.slice (some ⟨gc, 0, none⟩) (h * a) cc) ∧ u.cell? ⟨gc, z, none⟩ = some (.bool cv) ∧ u.cell? ⟨w7.heap.size, 2, none⟩ = some (.slice (some ⟨gq, 0, none⟩) (h * a) cq7) ∧ u.cell? ⟨gq, z, none⟩ = some (.int .i64 qv) ∧ u.cell? ⟨w8.heap.size, 2, none⟩ = some (.slice (some ⟨ge, 0, none⟩) (h * a) ce) ∧ u.cell? ⟨ge, z, none⟩ = some (.bool ev)) wr.drew.drew from kA.out)
          clear g3 m3 d3 q3 e3 g0 g1 g2 m0 m1 d0 d1 d2 q0 q1 q2 e0 e1 e2
          cases cv <;> cases gv
          · replace HD0 := Lib.hid (HD0.out rfl)
            replace HFZ := HFZ.out
            rw [show (false != false) = false from rfl, Bool.false_and] at HFZ
            go_wp2_with fail
            refine wp_region_held_drew (S := (fun u : World => u.cell? ⟨w.heap.size, 2, none⟩ = some (.slice (some ⟨bA, oA, none⟩) (h * a) c) ∧ u.cell? ⟨bA, oA + z, none⟩ = some (.bool false) ∧ u.cell? ⟨(w.heap.size + 1), 2, none⟩ = some (.slice (some ⟨bM, oM, none⟩) (h * a) cm) ∧ u.cell? ⟨bM, oM + z, none⟩ = some (.int .i64 mv) ∧ u.cell? ⟨w2.heap.size, 2, none⟩ = some (.slice (some ⟨gc, 0, none⟩) (h * a) cc) ∧ u.cell? ⟨gc, z, none⟩ = some (.bool false) ∧ u.cell? ⟨w7.heap.size, 2, none⟩ = some (.slice (some ⟨gq, 0, none⟩) (h * a) cq7) ∧ u.cell? ⟨gq, z, none⟩ = some (.int .i64 qv) ∧ u.cell? ⟨w8.heap.size, 2, none⟩ = some (.slice (some ⟨ge, 0, none⟩) (h * a) ce) ∧ u.cell? ⟨ge, z, none⟩ = some (.bool ev))) (by kernel_rfl) ?_ (fun hHeld => ?_)
            · (try dsimp only); exact kA.out
            refine man_take 0 179 (v := ?_) ⟨_, rfl, rfl⟩ (by as_aux_lemma => kernel_rfl) (by as_aux_lemma => kernel_rfl) (by as_aux_lemma => kernel_rfl) (fun _ _ _ h => h) (by assumption) ?_ ?_
            rotate_left
            · intro oi ho; cases ho; refine ⟨by rfl, ?_⟩; intro w hSw; (try dsimp only at hSw); go_simp; try with_reducible rfl
            (try simp only [Act.put, List.setIfInBounds_toArray, List.set_cons_zero, List.set_cons_succ])
            refine man_take 1 180 (v := ?_) ⟨_, rfl, rfl⟩ (by as_aux_lemma => kernel_rfl) (by as_aux_lemma => kernel_rfl) (by as_aux_lemma => kernel_rfl) (fun _ _ _ h => h) (by assumption) ?_ ?_
            rotate_left
            · intro oi ho; cases ho; refine ⟨by rfl, ?_⟩; intro w hSw; (try dsimp only at hSw); go_simp; try with_reducible rfl
            (try simp only [Act.put, List.setIfInBounds_toArray, List.set_cons_zero, List.set_cons_succ])
            refine man_take 2 181 (v := ?_) ⟨_, rfl, rfl⟩ (by as_aux_lemma => kernel_rfl) (by as_aux_lemma => kernel_rfl) (by as_aux_lemma => kernel_rfl) (fun _ _ _ h => h) (by assumption) ?_ ?_
            rotate_left
            · intro oi ho; cases ho; refine ⟨by rfl, ?_⟩; intro w hSw; (try dsimp only at hSw); go_simp; try with_reducible rfl
            (try simp only [Act.put, List.setIfInBounds_toArray, List.set_cons_zero, List.set_cons_succ])
            refine man_take 3 182 (v := ?_) ⟨_, rfl, rfl⟩ (by as_aux_lemma => kernel_rfl) (by as_aux_lemma => kernel_rfl) (by as_aux_lemma => kernel_rfl) (fun _ _ _ h => h) (by assumption) ?_ ?_
            rotate_left
            · intro oi ho; cases ho; refine ⟨by rfl, ?_⟩; intro w hSw; (try dsimp only at hSw); go_simp; try with_reducible rfl
            (try simp only [Act.put, List.setIfInBounds_toArray, List.set_cons_zero, List.set_cons_succ])
            refine man_take 4 183 (v := ?_) ⟨_, rfl, rfl⟩ (by as_aux_lemma => kernel_rfl) (by as_aux_lemma => kernel_rfl) (by as_aux_lemma => kernel_rfl) (fun _ _ _ h => h) (by assumption) ?_ ?_
            rotate_left
            · intro oi ho; cases ho; refine ⟨by rfl, ?_⟩; intro w hSw; (try dsimp only at hSw); go_simp; try with_reducible rfl
            (try simp only [Act.put, List.setIfInBounds_toArray, List.set_cons_zero, List.set_cons_succ])
            refine man_take 5 184 (v := ?_) ⟨_, rfl, rfl⟩ (by as_aux_lemma => kernel_rfl) (by as_aux_lemma => kernel_rfl) (by as_aux_lemma => kernel_rfl) (fun _ _ _ h => h) (by assumption) ?_ ?_
            rotate_left
            · intro oi ho; cases ho; refine ⟨by rfl, ?_⟩; intro w hSw; (try dsimp only at hSw); go_simp; try with_reducible rfl
            (try simp only [Act.put, List.setIfInBounds_toArray, List.set_cons_zero, List.set_cons_succ])
            refine man_take 6 185 (v := ?_) ⟨_, rfl, rfl⟩ (by as_aux_lemma => kernel_rfl) (by as_aux_lemma => kernel_rfl) (by as_aux_lemma => kernel_rfl) (fun _ _ _ h => h) (by assumption) ?_ ?_
            rotate_left
            · intro oi ho; cases ho; refine ⟨by rfl, ?_⟩; intro w hSw; (try dsimp only at hSw); go_simp; try with_reducible rfl
            (try simp only [Act.put, List.setIfInBounds_toArray, List.set_cons_zero, List.set_cons_succ])
            refine man_take 7 186 (v := ?_) ⟨_, rfl, rfl⟩ (by as_aux_lemma => kernel_rfl) (by as_aux_lemma => kernel_rfl) (by as_aux_lemma => kernel_rfl) (fun _ _ _ h => h) (by assumption) ?_ ?_
            rotate_left
            · intro oi ho; cases ho; refine ⟨by rfl, ?_⟩; intro w hSw; (try dsimp only at hSw); go_simp; try with_reducible rfl
            (try simp only [Act.put, List.setIfInBounds_toArray, List.set_cons_zero, List.set_cons_succ])
            refine man_take 8 187 (v := ?_) ⟨_, rfl, rfl⟩ (by as_aux_lemma => kernel_rfl) (by as_aux_lemma => kernel_rfl) (by as_aux_lemma => kernel_rfl) (fun _ _ _ h => h) (by assumption) ?_ ?_
            rotate_left
            · intro oi ho; cases ho; refine ⟨by rfl, ?_⟩; intro w hSw; (try dsimp only at hSw); go_simp; try with_reducible rfl
            (try simp only [Act.put, List.setIfInBounds_toArray, List.set_cons_zero, List.set_cons_succ])
            refine man_take 9 188 (v := ?_) ⟨_, rfl, rfl⟩ (by as_aux_lemma => kernel_rfl) (by as_aux_lemma => kernel_rfl) (by as_aux_lemma => kernel_rfl) (fun _ _ _ h => h) (by assumption) ?_ ?_
            rotate_left
            · intro oi ho; cases ho; refine ⟨by rfl, ?_⟩; intro w hSw; (try dsimp only at hSw); go_simp; try with_reducible rfl
            (try simp only [Act.put, List.setIfInBounds_toArray, List.set_cons_zero, List.set_cons_succ])
            refine man_take 10 189 (v := ?_) ⟨_, rfl, rfl⟩ (by as_aux_lemma => kernel_rfl) (by as_aux_lemma => kernel_rfl) (by as_aux_lemma => kernel_rfl) (fun _ _ _ h => h) (by assumption) ?_ ?_
            rotate_left
            · intro oi ho; cases ho; refine ⟨by rfl, ?_⟩; intro w hSw; (try dsimp only at hSw); go_simp; try with_reducible rfl
            (try simp only [Act.put, List.setIfInBounds_toArray, List.set_cons_zero, List.set_cons_succ])
            refine man_take 11 190 (v := ?_) ⟨_, rfl, rfl⟩ (by as_aux_lemma => kernel_rfl) (by as_aux_lemma => kernel_rfl) (by as_aux_lemma => kernel_rfl) (fun _ _ _ h => h) (by assumption) ?_ ?_
            rotate_left
            · intro oi ho; cases ho; refine ⟨by rfl, ?_⟩; intro w hSw; (try dsimp only at hSw); go_simp; try with_reducible rfl
            (try simp only [Act.put, List.setIfInBounds_toArray, List.set_cons_zero, List.set_cons_succ])
            refine man_take 12 191 (v := ?_) ⟨_, rfl, rfl⟩ (by as_aux_lemma => kernel_rfl) (by as_aux_lemma => kernel_rfl) (by as_aux_lemma => kernel_rfl) (fun _ _ _ h => h) (by assumption) ?_ ?_
            rotate_left
            · intro oi ho; cases ho; refine ⟨by rfl, ?_⟩; intro w hSw; (try dsimp only at hSw); go_simp; try with_reducible rfl
            (try simp only [Act.put, List.setIfInBounds_toArray, List.set_cons_zero, List.set_cons_succ])
            refine man_take 13 192 (v := ?_) ⟨_, rfl, rfl⟩ (by as_aux_lemma => kernel_rfl) (by as_aux_lemma => kernel_rfl) (by as_aux_lemma => kernel_rfl) (fun _ _ _ h => h) (by assumption) ?_ ?_
            rotate_left
            · intro oi ho; cases ho; refine ⟨by rfl, ?_⟩; intro w hSw; (try dsimp only at hSw); go_simp; try with_reducible rfl
            (try simp only [Act.put, List.setIfInBounds_toArray, List.set_cons_zero, List.set_cons_succ])
            refine man_take 14 193 (v := ?_) ⟨_, rfl, rfl⟩ (by as_aux_lemma => kernel_rfl) (by as_aux_lemma => kernel_rfl) (by as_aux_lemma => kernel_rfl) (fun _ _ _ h => h) (by assumption) ?_ ?_
            rotate_left
            · intro oi ho; cases ho; refine ⟨by rfl, ?_⟩; intro w hSw; (try dsimp only at hSw); go_simp; try with_reducible rfl
            (try simp only [Act.put, List.setIfInBounds_toArray, List.set_cons_zero, List.set_cons_succ])
            refine man_take 15 194 (v := ?_) ⟨_, rfl, rfl⟩ (by as_aux_lemma => kernel_rfl) (by as_aux_lemma => kernel_rfl) (by as_aux_lemma => kernel_rfl) (fun _ _ _ h => h) (by assumption) ?_ ?_
            rotate_left
            · intro oi ho; cases ho; refine ⟨by rfl, ?_⟩; intro w hSw; (try dsimp only at hSw); go_simp; try with_reducible rfl
            (try simp only [Act.put, List.setIfInBounds_toArray, List.set_cons_zero, List.set_cons_succ])
            refine man_take 16 195 (v := ?_) ⟨_, rfl, rfl⟩ (by as_aux_lemma => kernel_rfl) (by as_aux_lemma => kernel_rfl) (by as_aux_lemma => kernel_rfl) (fun _ _ _ h => h) (by assumption) ?_ ?_
            rotate_left
            · intro oi ho; cases ho; refine ⟨by rfl, ?_⟩; intro w hSw; (try dsimp only at hSw); go_simp; try with_reducible rfl
            (try simp only [Act.put, List.setIfInBounds_toArray, List.set_cons_zero, List.set_cons_succ])
            refine man_take 17 196 (v := ?_) ⟨_, rfl, rfl⟩ (by as_aux_lemma => kernel_rfl) (by as_aux_lemma => kernel_rfl) (by as_aux_lemma => kernel_rfl) (fun _ _ _ h => h) (by assumption) ?_ ?_
            rotate_left
            · intro oi ho; cases ho; refine ⟨by rfl, ?_⟩; intro w hSw; (try dsimp only at hSw); go_simp; try with_reducible rfl
            (try simp only [Act.put, List.setIfInBounds_toArray, List.set_cons_zero, List.set_cons_succ])
            refine man_take 18 197 (v := ?_) ⟨_, rfl, rfl⟩ (by as_aux_lemma => kernel_rfl) (by as_aux_lemma => kernel_rfl) (by as_aux_lemma => kernel_rfl) (fun _ _ _ h => h) (by assumption) ?_ ?_
            rotate_left
            · intro oi ho; cases ho; refine ⟨by rfl, ?_⟩; intro w hSw; (try dsimp only at hSw); go_simp; try with_reducible rfl
            (try simp only [Act.put, List.setIfInBounds_toArray, List.set_cons_zero, List.set_cons_succ])
            refine man_take 19 198 (v := ?_) ⟨_, rfl, rfl⟩ (by as_aux_lemma => kernel_rfl) (by as_aux_lemma => kernel_rfl) (by as_aux_lemma => kernel_rfl) (fun _ _ _ h => h) (by assumption) ?_ ?_
            rotate_left
            · intro oi ho; cases ho; refine ⟨by rfl, ?_⟩; intro w hSw; (try dsimp only at hSw); go_simp; try with_reducible rfl
            (try simp only [Act.put, List.setIfInBounds_toArray, List.set_cons_zero, List.set_cons_succ])
            refine man_take 20 199 (v := ?_) ⟨_, rfl, rfl⟩ (by as_aux_lemma => kernel_rfl) (by as_aux_lemma => kernel_rfl) (by as_aux_lemma => kernel_rfl) (fun _ _ _ h => h) (by assumption) ?_ ?_
            rotate_left
            · intro oi ho; cases ho; refine ⟨by rfl, ?_⟩; intro w hSw; (try dsimp only at hSw); go_simp; try with_reducible rfl
            (try simp only [Act.put, List.setIfInBounds_toArray, List.set_cons_zero, List.set_cons_succ])
            refine man_take 21 200 (v := ?_) ⟨_, rfl, rfl⟩ (by as_aux_lemma => kernel_rfl) (by as_aux_lemma => kernel_rfl) (by as_aux_lemma => kernel_rfl) (fun _ _ _ h => h) (by assumption) ?_ ?_
            rotate_left
            · intro oi ho; cases ho; refine ⟨by rfl, ?_⟩; intro w hSw; (try dsimp only at hSw); go_simp; try with_reducible rfl
            (try simp only [Act.put, List.setIfInBounds_toArray, List.set_cons_zero, List.set_cons_succ])
            refine man_take 22 201 (v := ?_) ⟨_, rfl, rfl⟩ (by as_aux_lemma => kernel_rfl) (by as_aux_lemma => kernel_rfl) (by as_aux_lemma => kernel_rfl) (fun _ _ _ h => h) (by assumption) ?_ ?_
            rotate_left
            · intro oi ho; cases ho; refine ⟨by rfl, ?_⟩; intro w hSw; (try dsimp only at hSw); go_simp; try with_reducible rfl
            (try simp only [Act.put, List.setIfInBounds_toArray, List.set_cons_zero, List.set_cons_succ])
            refine man_skip 23 202 ⟨_, rfl, rfl⟩ (by as_aux_lemma => kernel_rfl) (by as_aux_lemma => kernel_rfl) (by as_aux_lemma => kernel_rfl) (fun _ _ _ h => h) (by assumption) ?_ ?_
            · intro oi ho; cases ho; rfl
            (try simp only [Act.put, List.setIfInBounds_toArray, List.set_cons_zero, List.set_cons_succ])
            refine man_skip 24 203 ⟨_, rfl, rfl⟩ (by as_aux_lemma => kernel_rfl) (by as_aux_lemma => kernel_rfl) (by as_aux_lemma => kernel_rfl) (fun _ _ _ h => h) (by assumption) ?_ ?_
            · intro oi ho; cases ho; rfl
            (try simp only [Act.put, List.setIfInBounds_toArray, List.set_cons_zero, List.set_cons_succ])
            refine man_skip 25 204 ⟨_, rfl, rfl⟩ (by as_aux_lemma => kernel_rfl) (by as_aux_lemma => kernel_rfl) (by as_aux_lemma => kernel_rfl) (fun _ _ _ h => h) (by assumption) ?_ ?_
            · intro oi ho; cases ho; rfl
            (try simp only [Act.put, List.setIfInBounds_toArray, List.set_cons_zero, List.set_cons_succ])
            refine man_skip 26 205 ⟨_, rfl, rfl⟩ (by as_aux_lemma => kernel_rfl) (by as_aux_lemma => kernel_rfl) (by as_aux_lemma => kernel_rfl) (fun _ _ _ h => h) (by assumption) ?_ ?_
            · intro oi ho; cases ho; rfl
            (try simp only [Act.put, List.setIfInBounds_toArray, List.set_cons_zero, List.set_cons_succ])
            refine man_skip 27 206 ⟨_, rfl, rfl⟩ (by as_aux_lemma => kernel_rfl) (by as_aux_lemma => kernel_rfl) (by as_aux_lemma => kernel_rfl) (fun _ _ _ h => h) (by assumption) ?_ ?_
            · intro oi ho; cases ho; rfl
            (try simp only [Act.put, List.setIfInBounds_toArray, List.set_cons_zero, List.set_cons_succ])
            refine man_skip 28 207 ⟨_, rfl, rfl⟩ (by as_aux_lemma => kernel_rfl) (by as_aux_lemma => kernel_rfl) (by as_aux_lemma => kernel_rfl) (fun _ _ _ h => h) (by assumption) ?_ ?_
            · intro oi ho; cases ho; rfl
            (try simp only [Act.put, List.setIfInBounds_toArray, List.set_cons_zero, List.set_cons_succ])
            refine man_take 29 208 (v := ?_) ⟨_, rfl, rfl⟩ (by as_aux_lemma => kernel_rfl) (by as_aux_lemma => kernel_rfl) (by as_aux_lemma => kernel_rfl) (fun _ _ _ h => h) (by assumption) ?_ ?_
            rotate_left
            · intro oi ho; cases ho; refine ⟨by rfl, ?_⟩; intro w hSw; (try dsimp only at hSw); go_simp; try with_reducible rfl
            (try simp only [Act.put, List.setIfInBounds_toArray, List.set_cons_zero, List.set_cons_succ])
            refine man_take 30 209 (v := ?_) ⟨_, rfl, rfl⟩ (by as_aux_lemma => kernel_rfl) (by as_aux_lemma => kernel_rfl) (by as_aux_lemma => kernel_rfl) (fun _ _ _ h => h) (by assumption) ?_ ?_
            rotate_left
            · intro oi ho; cases ho; refine ⟨by rfl, ?_⟩; intro w hSw; (try dsimp only at hSw); go_simp; try with_reducible rfl
            (try simp only [Act.put, List.setIfInBounds_toArray, List.set_cons_zero, List.set_cons_succ])
            refine wpAnyH_done (by kernel_rfl) ?_ _
            go_wp2_with fail
            refine wp_region_held_drew (S := (fun u : World => u.cell? ⟨w.heap.size, 2, none⟩ = some (.slice (some ⟨bA, oA, none⟩) (h * a) c) ∧ u.cell? ⟨bA, oA + z, none⟩ = some (.bool false) ∧ u.cell? ⟨(w.heap.size + 1), 2, none⟩ = some (.slice (some ⟨bM, oM, none⟩) (h * a) cm) ∧ u.cell? ⟨bM, oM + z, none⟩ = some (.int .i64 mv) ∧ u.cell? ⟨w2.heap.size, 2, none⟩ = some (.slice (some ⟨gc, 0, none⟩) (h * a) cc) ∧ u.cell? ⟨gc, z, none⟩ = some (.bool false) ∧ u.cell? ⟨w7.heap.size, 2, none⟩ = some (.slice (some ⟨gq, 0, none⟩) (h * a) cq7) ∧ u.cell? ⟨gq, z, none⟩ = some (.int .i64 qv) ∧ u.cell? ⟨w8.heap.size, 2, none⟩ = some (.slice (some ⟨ge, 0, none⟩) (h * a) ce) ∧ u.cell? ⟨ge, z, none⟩ = some (.bool ev))) (by kernel_rfl) ?_ (fun hHeld => ?_)
            · (try dsimp only); exact kA2.out
            refine man_take 0 210 (v := ?_) ⟨_, rfl, rfl⟩ (by as_aux_lemma => kernel_rfl) (by as_aux_lemma => kernel_rfl) (by as_aux_lemma => kernel_rfl) (fun _ _ _ h => h) (by assumption) ?_ ?_
            rotate_left
            · intro oi ho; cases ho; refine ⟨by rfl, ?_⟩; intro w hSw; (try dsimp only at hSw); go_simp; try with_reducible rfl
            (try simp only [Act.put, List.setIfInBounds_toArray, List.set_cons_zero, List.set_cons_succ])
            refine man_take 1 211 (v := ?_) ⟨_, rfl, rfl⟩ (by as_aux_lemma => kernel_rfl) (by as_aux_lemma => kernel_rfl) (by as_aux_lemma => kernel_rfl) (fun _ _ _ h => h) (by assumption) ?_ ?_
            rotate_left
            · intro oi ho; cases ho; refine ⟨by rfl, ?_⟩; intro w hSw; (try dsimp only at hSw); go_simp; try with_reducible rfl
            (try simp only [Act.put, List.setIfInBounds_toArray, List.set_cons_zero, List.set_cons_succ])
            refine man_take 2 212 (v := ?_) ⟨_, rfl, rfl⟩ (by as_aux_lemma => kernel_rfl) (by as_aux_lemma => kernel_rfl) (by as_aux_lemma => kernel_rfl) (fun _ _ _ h => h) (by assumption) ?_ ?_
            rotate_left
            · intro oi ho; cases ho; refine ⟨by rfl, ?_⟩; intro w hSw; (try dsimp only at hSw); go_simp; try with_reducible rfl
            (try simp only [Act.put, List.setIfInBounds_toArray, List.set_cons_zero, List.set_cons_succ])
            refine man_take 3 213 (v := ?_) ⟨_, rfl, rfl⟩ (by as_aux_lemma => kernel_rfl) (by as_aux_lemma => kernel_rfl) (by as_aux_lemma => kernel_rfl) (fun _ _ _ h => h) (by assumption) ?_ ?_
            rotate_left
            · intro oi ho; cases ho; refine ⟨by rfl, ?_⟩; intro w hSw; (try dsimp only at hSw); go_simp; try with_reducible rfl
            (try simp only [Act.put, List.setIfInBounds_toArray, List.set_cons_zero, List.set_cons_succ])
            refine man_take 4 214 (v := ?_) ⟨_, rfl, rfl⟩ (by as_aux_lemma => kernel_rfl) (by as_aux_lemma => kernel_rfl) (by as_aux_lemma => kernel_rfl) (fun _ _ _ h => h) (by assumption) ?_ ?_
            rotate_left
            · intro oi ho; cases ho; refine ⟨by rfl, ?_⟩; intro w hSw; (try dsimp only at hSw); go_simp; try with_reducible rfl
            (try simp only [Act.put, List.setIfInBounds_toArray, List.set_cons_zero, List.set_cons_succ])
            refine man_take 5 215 (v := ?_) ⟨_, rfl, rfl⟩ (by as_aux_lemma => kernel_rfl) (by as_aux_lemma => kernel_rfl) (by as_aux_lemma => kernel_rfl) (fun _ _ _ h => h) (by assumption) ?_ ?_
            rotate_left
            · intro oi ho; cases ho; refine ⟨by rfl, ?_⟩; intro w hSw; (try dsimp only at hSw); go_simp; try with_reducible rfl
            (try simp only [Act.put, List.setIfInBounds_toArray, List.set_cons_zero, List.set_cons_succ])
            refine man_take 6 216 (v := ?_) ⟨_, rfl, rfl⟩ (by as_aux_lemma => kernel_rfl) (by as_aux_lemma => kernel_rfl) (by as_aux_lemma => kernel_rfl) (fun _ _ _ h => h) (by assumption) ?_ ?_
            rotate_left
            · intro oi ho; cases ho; refine ⟨by rfl, ?_⟩; intro w hSw; (try dsimp only at hSw); go_simp; try with_reducible rfl
            (try simp only [Act.put, List.setIfInBounds_toArray, List.set_cons_zero, List.set_cons_succ])
            refine man_take 7 217 (v := ?_) ⟨_, rfl, rfl⟩ (by as_aux_lemma => kernel_rfl) (by as_aux_lemma => kernel_rfl) (by as_aux_lemma => kernel_rfl) (fun _ _ _ h => h) (by assumption) ?_ ?_
            rotate_left
            · intro oi ho; cases ho; refine ⟨by rfl, ?_⟩; intro w hSw; (try dsimp only at hSw); go_simp; try with_reducible rfl
            (try simp only [Act.put, List.setIfInBounds_toArray, List.set_cons_zero, List.set_cons_succ])
            refine man_take 8 218 (v := ?_) ⟨_, rfl, rfl⟩ (by as_aux_lemma => kernel_rfl) (by as_aux_lemma => kernel_rfl) (by as_aux_lemma => kernel_rfl) (fun _ _ _ h => h) (by assumption) ?_ ?_
            rotate_left
            · intro oi ho; cases ho; refine ⟨by rfl, ?_⟩; intro w hSw; (try dsimp only at hSw); go_simp; try with_reducible rfl
            (try simp only [Act.put, List.setIfInBounds_toArray, List.set_cons_zero, List.set_cons_succ])
            refine man_take 9 219 (v := ?_) ⟨_, rfl, rfl⟩ (by as_aux_lemma => kernel_rfl) (by as_aux_lemma => kernel_rfl) (by as_aux_lemma => kernel_rfl) (fun _ _ _ h => h) (by assumption) ?_ ?_
            rotate_left
            · intro oi ho; cases ho; refine ⟨by rfl, ?_⟩; intro w hSw; (try dsimp only at hSw); go_simp; try with_reducible rfl
            (try simp only [Act.put, List.setIfInBounds_toArray, List.set_cons_zero, List.set_cons_succ])
            refine man_take 10 220 (v := ?_) ⟨_, rfl, rfl⟩ (by as_aux_lemma => kernel_rfl) (by as_aux_lemma => kernel_rfl) (by as_aux_lemma => kernel_rfl) (fun _ _ _ h => h) (by assumption) ?_ ?_
            rotate_left
            · intro oi ho; cases ho; refine ⟨by rfl, ?_⟩; intro w hSw; (try dsimp only at hSw); go_simp; try with_reducible rfl
            (try simp only [Act.put, List.setIfInBounds_toArray, List.set_cons_zero, List.set_cons_succ])
            refine wpAnyH_done (by kernel_rfl) ?_ _
            have T3 := T.drew.drew
            clear kA kA2
            go_wp2_with fail
            go_roundw
            case rel => exact ⟨z + 1, by omega, by rw [HD0.out], by go_num, T3⟩
            case measure => simp [intOf]; omega
          · replace HD1 := Lib.hid (HD1.out (by decide))
            replace HFZ := HFZ.out
            rw [show (false != true) = true from rfl, Bool.true_and] at HFZ
            cases ev
            · rw [show (!false) = true from rfl] at HFZ
              go_wp2_with fail
              refine wp_region_held_drew (S := (fun u : World => u.cell? ⟨w.heap.size, 2, none⟩ = some (.slice (some ⟨bA, oA, none⟩) (h * a) c) ∧ u.cell? ⟨bA, oA + z, none⟩ = some (.bool true) ∧ u.cell? ⟨(w.heap.size + 1), 2, none⟩ = some (.slice (some ⟨bM, oM, none⟩) (h * a) cm) ∧ u.cell? ⟨bM, oM + z, none⟩ = some (.int .i64 mv) ∧ u.cell? ⟨w2.heap.size, 2, none⟩ = some (.slice (some ⟨gc, 0, none⟩) (h * a) cc) ∧ u.cell? ⟨gc, z, none⟩ = some (.bool false) ∧ u.cell? ⟨w7.heap.size, 2, none⟩ = some (.slice (some ⟨gq, 0, none⟩) (h * a) cq7) ∧ u.cell? ⟨gq, z, none⟩ = some (.int .i64 qv) ∧ u.cell? ⟨w8.heap.size, 2, none⟩ = some (.slice (some ⟨ge, 0, none⟩) (h * a) ce) ∧ u.cell? ⟨ge, z, none⟩ = some (.bool false))) (by kernel_rfl) ?_ (fun hHeld => ?_)
              · (try dsimp only); exact kA.out
              refine man_take 0 179 (v := ?_) ⟨_, rfl, rfl⟩ (by as_aux_lemma => kernel_rfl) (by as_aux_lemma => kernel_rfl) (by as_aux_lemma => kernel_rfl) (fun _ _ _ h => h) (by assumption) ?_ ?_
              rotate_left
              · intro oi ho; cases ho; refine ⟨by rfl, ?_⟩; intro w hSw; (try dsimp only at hSw); go_simp; try with_reducible rfl
              (try simp only [Act.put, List.setIfInBounds_toArray, List.set_cons_zero, List.set_cons_succ])
              refine man_take 1 180 (v := ?_) ⟨_, rfl, rfl⟩ (by as_aux_lemma => kernel_rfl) (by as_aux_lemma => kernel_rfl) (by as_aux_lemma => kernel_rfl) (fun _ _ _ h => h) (by assumption) ?_ ?_
              rotate_left
              · intro oi ho; cases ho; refine ⟨by rfl, ?_⟩; intro w hSw; (try dsimp only at hSw); go_simp; try with_reducible rfl
              (try simp only [Act.put, List.setIfInBounds_toArray, List.set_cons_zero, List.set_cons_succ])
              refine man_take 2 181 (v := ?_) ⟨_, rfl, rfl⟩ (by as_aux_lemma => kernel_rfl) (by as_aux_lemma => kernel_rfl) (by as_aux_lemma => kernel_rfl) (fun _ _ _ h => h) (by assumption) ?_ ?_
              rotate_left
              · intro oi ho; cases ho; refine ⟨by rfl, ?_⟩; intro w hSw; (try dsimp only at hSw); go_simp; try with_reducible rfl
              (try simp only [Act.put, List.setIfInBounds_toArray, List.set_cons_zero, List.set_cons_succ])
              refine man_take 3 182 (v := ?_) ⟨_, rfl, rfl⟩ (by as_aux_lemma => kernel_rfl) (by as_aux_lemma => kernel_rfl) (by as_aux_lemma => kernel_rfl) (fun _ _ _ h => h) (by assumption) ?_ ?_
              rotate_left
              · intro oi ho; cases ho; refine ⟨by rfl, ?_⟩; intro w hSw; (try dsimp only at hSw); go_simp; try with_reducible rfl
              (try simp only [Act.put, List.setIfInBounds_toArray, List.set_cons_zero, List.set_cons_succ])
              refine man_take 4 183 (v := ?_) ⟨_, rfl, rfl⟩ (by as_aux_lemma => kernel_rfl) (by as_aux_lemma => kernel_rfl) (by as_aux_lemma => kernel_rfl) (fun _ _ _ h => h) (by assumption) ?_ ?_
              rotate_left
              · intro oi ho; cases ho; refine ⟨by rfl, ?_⟩; intro w hSw; (try dsimp only at hSw); go_simp; try with_reducible rfl
              (try simp only [Act.put, List.setIfInBounds_toArray, List.set_cons_zero, List.set_cons_succ])
              refine man_take 5 184 (v := ?_) ⟨_, rfl, rfl⟩ (by as_aux_lemma => kernel_rfl) (by as_aux_lemma => kernel_rfl) (by as_aux_lemma => kernel_rfl) (fun _ _ _ h => h) (by assumption) ?_ ?_
              rotate_left
              · intro oi ho; cases ho; refine ⟨by rfl, ?_⟩; intro w hSw; (try dsimp only at hSw); go_simp; try with_reducible rfl
              (try simp only [Act.put, List.setIfInBounds_toArray, List.set_cons_zero, List.set_cons_succ])
              refine man_take 6 185 (v := ?_) ⟨_, rfl, rfl⟩ (by as_aux_lemma => kernel_rfl) (by as_aux_lemma => kernel_rfl) (by as_aux_lemma => kernel_rfl) (fun _ _ _ h => h) (by assumption) ?_ ?_
              rotate_left
              · intro oi ho; cases ho; refine ⟨by rfl, ?_⟩; intro w hSw; (try dsimp only at hSw); go_simp; try with_reducible rfl
              (try simp only [Act.put, List.setIfInBounds_toArray, List.set_cons_zero, List.set_cons_succ])
              refine man_take 7 186 (v := ?_) ⟨_, rfl, rfl⟩ (by as_aux_lemma => kernel_rfl) (by as_aux_lemma => kernel_rfl) (by as_aux_lemma => kernel_rfl) (fun _ _ _ h => h) (by assumption) ?_ ?_
              rotate_left
              · intro oi ho; cases ho; refine ⟨by rfl, ?_⟩; intro w hSw; (try dsimp only at hSw); go_simp; try with_reducible rfl
              (try simp only [Act.put, List.setIfInBounds_toArray, List.set_cons_zero, List.set_cons_succ])
              refine man_take 8 187 (v := ?_) ⟨_, rfl, rfl⟩ (by as_aux_lemma => kernel_rfl) (by as_aux_lemma => kernel_rfl) (by as_aux_lemma => kernel_rfl) (fun _ _ _ h => h) (by assumption) ?_ ?_
              rotate_left
              · intro oi ho; cases ho; refine ⟨by rfl, ?_⟩; intro w hSw; (try dsimp only at hSw); go_simp; try with_reducible rfl
              (try simp only [Act.put, List.setIfInBounds_toArray, List.set_cons_zero, List.set_cons_succ])
              refine man_take 9 188 (v := ?_) ⟨_, rfl, rfl⟩ (by as_aux_lemma => kernel_rfl) (by as_aux_lemma => kernel_rfl) (by as_aux_lemma => kernel_rfl) (fun _ _ _ h => h) (by assumption) ?_ ?_
              rotate_left
              · intro oi ho; cases ho; refine ⟨by rfl, ?_⟩; intro w hSw; (try dsimp only at hSw); go_simp; try with_reducible rfl
              (try simp only [Act.put, List.setIfInBounds_toArray, List.set_cons_zero, List.set_cons_succ])
              refine man_take 10 189 (v := ?_) ⟨_, rfl, rfl⟩ (by as_aux_lemma => kernel_rfl) (by as_aux_lemma => kernel_rfl) (by as_aux_lemma => kernel_rfl) (fun _ _ _ h => h) (by assumption) ?_ ?_
              rotate_left
              · intro oi ho; cases ho; refine ⟨by rfl, ?_⟩; intro w hSw; (try dsimp only at hSw); go_simp; try with_reducible rfl
              (try simp only [Act.put, List.setIfInBounds_toArray, List.set_cons_zero, List.set_cons_succ])
              refine man_take 11 190 (v := ?_) ⟨_, rfl, rfl⟩ (by as_aux_lemma => kernel_rfl) (by as_aux_lemma => kernel_rfl) (by as_aux_lemma => kernel_rfl) (fun _ _ _ h => h) (by assumption) ?_ ?_
              rotate_left
              · intro oi ho; cases ho; refine ⟨by rfl, ?_⟩; intro w hSw; (try dsimp only at hSw); go_simp; try with_reducible rfl
              (try simp only [Act.put, List.setIfInBounds_toArray, List.set_cons_zero, List.set_cons_succ])
              refine man_take 12 191 (v := ?_) ⟨_, rfl, rfl⟩ (by as_aux_lemma => kernel_rfl) (by as_aux_lemma => kernel_rfl) (by as_aux_lemma => kernel_rfl) (fun _ _ _ h => h) (by assumption) ?_ ?_
              rotate_left
              · intro oi ho; cases ho; refine ⟨by rfl, ?_⟩; intro w hSw; (try dsimp only at hSw); go_simp; try with_reducible rfl
              (try simp only [Act.put, List.setIfInBounds_toArray, List.set_cons_zero, List.set_cons_succ])
              refine man_take 13 192 (v := ?_) ⟨_, rfl, rfl⟩ (by as_aux_lemma => kernel_rfl) (by as_aux_lemma => kernel_rfl) (by as_aux_lemma => kernel_rfl) (fun _ _ _ h => h) (by assumption) ?_ ?_
              rotate_left
              · intro oi ho; cases ho; refine ⟨by rfl, ?_⟩; intro w hSw; (try dsimp only at hSw); go_simp; try with_reducible rfl
              (try simp only [Act.put, List.setIfInBounds_toArray, List.set_cons_zero, List.set_cons_succ])
              refine man_take 14 193 (v := ?_) ⟨_, rfl, rfl⟩ (by as_aux_lemma => kernel_rfl) (by as_aux_lemma => kernel_rfl) (by as_aux_lemma => kernel_rfl) (fun _ _ _ h => h) (by assumption) ?_ ?_
              rotate_left
              · intro oi ho; cases ho; refine ⟨by rfl, ?_⟩; intro w hSw; (try dsimp only at hSw); go_simp; try with_reducible rfl
              (try simp only [Act.put, List.setIfInBounds_toArray, List.set_cons_zero, List.set_cons_succ])
              refine man_take 15 194 (v := ?_) ⟨_, rfl, rfl⟩ (by as_aux_lemma => kernel_rfl) (by as_aux_lemma => kernel_rfl) (by as_aux_lemma => kernel_rfl) (fun _ _ _ h => h) (by assumption) ?_ ?_
              rotate_left
              · intro oi ho; cases ho; refine ⟨by rfl, ?_⟩; intro w hSw; (try dsimp only at hSw); go_simp; try with_reducible rfl
              (try simp only [Act.put, List.setIfInBounds_toArray, List.set_cons_zero, List.set_cons_succ])
              refine man_take 16 195 (v := ?_) ⟨_, rfl, rfl⟩ (by as_aux_lemma => kernel_rfl) (by as_aux_lemma => kernel_rfl) (by as_aux_lemma => kernel_rfl) (fun _ _ _ h => h) (by assumption) ?_ ?_
              rotate_left
              · intro oi ho; cases ho; refine ⟨by rfl, ?_⟩; intro w hSw; (try dsimp only at hSw); go_simp; try with_reducible rfl
              (try simp only [Act.put, List.setIfInBounds_toArray, List.set_cons_zero, List.set_cons_succ])
              refine man_take 17 196 (v := ?_) ⟨_, rfl, rfl⟩ (by as_aux_lemma => kernel_rfl) (by as_aux_lemma => kernel_rfl) (by as_aux_lemma => kernel_rfl) (fun _ _ _ h => h) (by assumption) ?_ ?_
              rotate_left
              · intro oi ho; cases ho; refine ⟨by rfl, ?_⟩; intro w hSw; (try dsimp only at hSw); go_simp; try with_reducible rfl
              (try simp only [Act.put, List.setIfInBounds_toArray, List.set_cons_zero, List.set_cons_succ])
              refine man_take 18 197 (v := ?_) ⟨_, rfl, rfl⟩ (by as_aux_lemma => kernel_rfl) (by as_aux_lemma => kernel_rfl) (by as_aux_lemma => kernel_rfl) (fun _ _ _ h => h) (by assumption) ?_ ?_
              rotate_left
              · intro oi ho; cases ho; refine ⟨by rfl, ?_⟩; intro w hSw; (try dsimp only at hSw); go_simp; try with_reducible rfl
              (try simp only [Act.put, List.setIfInBounds_toArray, List.set_cons_zero, List.set_cons_succ])
              refine man_take 19 198 (v := ?_) ⟨_, rfl, rfl⟩ (by as_aux_lemma => kernel_rfl) (by as_aux_lemma => kernel_rfl) (by as_aux_lemma => kernel_rfl) (fun _ _ _ h => h) (by assumption) ?_ ?_
              rotate_left
              · intro oi ho; cases ho; refine ⟨by rfl, ?_⟩; intro w hSw; (try dsimp only at hSw); go_simp; try with_reducible rfl
              (try simp only [Act.put, List.setIfInBounds_toArray, List.set_cons_zero, List.set_cons_succ])
              refine man_take 20 199 (v := ?_) ⟨_, rfl, rfl⟩ (by as_aux_lemma => kernel_rfl) (by as_aux_lemma => kernel_rfl) (by as_aux_lemma => kernel_rfl) (fun _ _ _ h => h) (by assumption) ?_ ?_
              rotate_left
              · intro oi ho; cases ho; refine ⟨by rfl, ?_⟩; intro w hSw; (try dsimp only at hSw); go_simp; try with_reducible rfl
              (try simp only [Act.put, List.setIfInBounds_toArray, List.set_cons_zero, List.set_cons_succ])
              refine man_take 21 200 (v := ?_) ⟨_, rfl, rfl⟩ (by as_aux_lemma => kernel_rfl) (by as_aux_lemma => kernel_rfl) (by as_aux_lemma => kernel_rfl) (fun _ _ _ h => h) (by assumption) ?_ ?_
              rotate_left
              · intro oi ho; cases ho; refine ⟨by rfl, ?_⟩; intro w hSw; (try dsimp only at hSw); go_simp; try with_reducible rfl
              (try simp only [Act.put, List.setIfInBounds_toArray, List.set_cons_zero, List.set_cons_succ])
              refine man_take 22 201 (v := ?_) ⟨_, rfl, rfl⟩ (by as_aux_lemma => kernel_rfl) (by as_aux_lemma => kernel_rfl) (by as_aux_lemma => kernel_rfl) (fun _ _ _ h => h) (by assumption) ?_ ?_
              rotate_left
              · intro oi ho; cases ho; refine ⟨by rfl, ?_⟩; intro w hSw; (try dsimp only at hSw); go_simp; try with_reducible rfl
              (try simp only [Act.put, List.setIfInBounds_toArray, List.set_cons_zero, List.set_cons_succ])
              refine man_take 23 202 (v := ?_) ⟨_, rfl, rfl⟩ (by as_aux_lemma => kernel_rfl) (by as_aux_lemma => kernel_rfl) (by as_aux_lemma => kernel_rfl) (fun _ _ _ h => h) (by assumption) ?_ ?_
              rotate_left
              · intro oi ho; cases ho; refine ⟨by rfl, ?_⟩; intro w hSw; (try dsimp only at hSw); go_simp; try with_reducible rfl
              (try simp only [Act.put, List.setIfInBounds_toArray, List.set_cons_zero, List.set_cons_succ])
              refine man_take 24 203 (v := ?_) ⟨_, rfl, rfl⟩ (by as_aux_lemma => kernel_rfl) (by as_aux_lemma => kernel_rfl) (by as_aux_lemma => kernel_rfl) (fun _ _ _ h => h) (by assumption) ?_ ?_
              rotate_left
              · intro oi ho; cases ho; refine ⟨by rfl, ?_⟩; intro w hSw; (try dsimp only at hSw); go_simp; try with_reducible rfl
              (try simp only [Act.put, List.setIfInBounds_toArray, List.set_cons_zero, List.set_cons_succ])
              refine man_take 25 204 (v := ?_) ⟨_, rfl, rfl⟩ (by as_aux_lemma => kernel_rfl) (by as_aux_lemma => kernel_rfl) (by as_aux_lemma => kernel_rfl) (fun _ _ _ h => h) (by assumption) ?_ ?_
              rotate_left
              · intro oi ho; cases ho; refine ⟨by rfl, ?_⟩; intro w hSw; (try dsimp only at hSw); go_simp; try with_reducible rfl
              (try simp only [Act.put, List.setIfInBounds_toArray, List.set_cons_zero, List.set_cons_succ])
              refine man_take 26 205 (v := ?_) ⟨_, rfl, rfl⟩ (by as_aux_lemma => kernel_rfl) (by as_aux_lemma => kernel_rfl) (by as_aux_lemma => kernel_rfl) (fun _ _ _ h => h) (by assumption) ?_ ?_
              rotate_left
              · intro oi ho; cases ho; refine ⟨by rfl, ?_⟩; intro w hSw; (try dsimp only at hSw); go_simp; try with_reducible rfl
              (try simp only [Act.put, List.setIfInBounds_toArray, List.set_cons_zero, List.set_cons_succ])
              refine man_take 27 206 (v := ?_) ⟨_, rfl, rfl⟩ (by as_aux_lemma => kernel_rfl) (by as_aux_lemma => kernel_rfl) (by as_aux_lemma => kernel_rfl) (fun _ _ _ h => h) (by assumption) ?_ ?_
              rotate_left
              · intro oi ho; cases ho; refine ⟨by rfl, ?_⟩; intro w hSw; (try dsimp only at hSw); go_simp; try with_reducible rfl
              (try simp only [Act.put, List.setIfInBounds_toArray, List.set_cons_zero, List.set_cons_succ])
              refine man_take 28 207 (v := ?_) ⟨_, rfl, rfl⟩ (by as_aux_lemma => kernel_rfl) (by as_aux_lemma => kernel_rfl) (by as_aux_lemma => kernel_rfl) (fun _ _ _ h => h) (by assumption) ?_ ?_
              rotate_left
              · intro oi ho; cases ho; refine ⟨by rfl, ?_⟩; intro w hSw; (try dsimp only at hSw); go_simp; try with_reducible rfl
              (try simp only [Act.put, List.setIfInBounds_toArray, List.set_cons_zero, List.set_cons_succ])
              refine man_take 29 208 (v := ?_) ⟨_, rfl, rfl⟩ (by as_aux_lemma => kernel_rfl) (by as_aux_lemma => kernel_rfl) (by as_aux_lemma => kernel_rfl) (fun _ _ _ h => h) (by assumption) ?_ ?_
              rotate_left
              · intro oi ho; cases ho; refine ⟨by rfl, ?_⟩; intro w hSw; (try dsimp only at hSw); go_simp; try with_reducible rfl
              (try simp only [Act.put, List.setIfInBounds_toArray, List.set_cons_zero, List.set_cons_succ])
              refine man_take 30 209 (v := ?_) ⟨_, rfl, rfl⟩ (by as_aux_lemma => kernel_rfl) (by as_aux_lemma => kernel_rfl) (by as_aux_lemma => kernel_rfl) (fun _ _ _ h => h) (by assumption) ?_ ?_
              rotate_left
              · intro oi ho; cases ho; refine ⟨by rfl, ?_⟩; intro w hSw; (try dsimp only at hSw); go_simp; try with_reducible rfl
              (try simp only [Act.put, List.setIfInBounds_toArray, List.set_cons_zero, List.set_cons_succ])
              refine wpAnyH_done (by kernel_rfl) ?_ _
              go_wp2_with fail
              refine wp_region_held_drew (S := (fun u : World => u.cell? ⟨w.heap.size, 2, none⟩ = some (.slice (some ⟨bA, oA, none⟩) (h * a) c) ∧ u.cell? ⟨bA, oA + z, none⟩ = some (.bool true) ∧ u.cell? ⟨(w.heap.size + 1), 2, none⟩ = some (.slice (some ⟨bM, oM, none⟩) (h * a) cm) ∧ u.cell? ⟨bM, oM + z, none⟩ = some (.int .i64 mv) ∧ u.cell? ⟨w2.heap.size, 2, none⟩ = some (.slice (some ⟨gc, 0, none⟩) (h * a) cc) ∧ u.cell? ⟨gc, z, none⟩ = some (.bool false) ∧ u.cell? ⟨w7.heap.size, 2, none⟩ = some (.slice (some ⟨gq, 0, none⟩) (h * a) cq7) ∧ u.cell? ⟨gq, z, none⟩ = some (.int .i64 qv) ∧ u.cell? ⟨w8.heap.size, 2, none⟩ = some (.slice (some ⟨ge, 0, none⟩) (h * a) ce) ∧ u.cell? ⟨ge, z, none⟩ = some (.bool false))) (by kernel_rfl) ?_ (fun hHeld => ?_)
              · (try dsimp only); exact kA2.out
              refine man_take 0 210 (v := ?_) ⟨_, rfl, rfl⟩ (by as_aux_lemma => kernel_rfl) (by as_aux_lemma => kernel_rfl) (by as_aux_lemma => kernel_rfl) (fun _ _ _ h => h) (by assumption) ?_ ?_
              rotate_left
              · intro oi ho; cases ho; refine ⟨by rfl, ?_⟩; intro w hSw; (try dsimp only at hSw); go_simp; try with_reducible rfl
              (try simp only [Act.put, List.setIfInBounds_toArray, List.set_cons_zero, List.set_cons_succ])
              refine man_take 1 211 (v := ?_) ⟨_, rfl, rfl⟩ (by as_aux_lemma => kernel_rfl) (by as_aux_lemma => kernel_rfl) (by as_aux_lemma => kernel_rfl) (fun _ _ _ h => h) (by assumption) ?_ ?_
              rotate_left
              · intro oi ho; cases ho; refine ⟨by rfl, ?_⟩; intro w hSw; (try dsimp only at hSw); go_simp; try with_reducible rfl
              (try simp only [Act.put, List.setIfInBounds_toArray, List.set_cons_zero, List.set_cons_succ])
              refine man_take 2 212 (v := ?_) ⟨_, rfl, rfl⟩ (by as_aux_lemma => kernel_rfl) (by as_aux_lemma => kernel_rfl) (by as_aux_lemma => kernel_rfl) (fun _ _ _ h => h) (by assumption) ?_ ?_
              rotate_left
              · intro oi ho; cases ho; refine ⟨by rfl, ?_⟩; intro w hSw; (try dsimp only at hSw); go_simp; try with_reducible rfl
              (try simp only [Act.put, List.setIfInBounds_toArray, List.set_cons_zero, List.set_cons_succ])
              refine man_take 3 213 (v := ?_) ⟨_, rfl, rfl⟩ (by as_aux_lemma => kernel_rfl) (by as_aux_lemma => kernel_rfl) (by as_aux_lemma => kernel_rfl) (fun _ _ _ h => h) (by assumption) ?_ ?_
              rotate_left
              · intro oi ho; cases ho; refine ⟨by rfl, ?_⟩; intro w hSw; (try dsimp only at hSw); go_simp; try with_reducible rfl
              (try simp only [Act.put, List.setIfInBounds_toArray, List.set_cons_zero, List.set_cons_succ])
              refine man_take 4 214 (v := ?_) ⟨_, rfl, rfl⟩ (by as_aux_lemma => kernel_rfl) (by as_aux_lemma => kernel_rfl) (by as_aux_lemma => kernel_rfl) (fun _ _ _ h => h) (by assumption) ?_ ?_
              rotate_left
              · intro oi ho; cases ho; refine ⟨by rfl, ?_⟩; intro w hSw; (try dsimp only at hSw); go_simp; try with_reducible rfl
              (try simp only [Act.put, List.setIfInBounds_toArray, List.set_cons_zero, List.set_cons_succ])
              refine man_take 5 215 (v := ?_) ⟨_, rfl, rfl⟩ (by as_aux_lemma => kernel_rfl) (by as_aux_lemma => kernel_rfl) (by as_aux_lemma => kernel_rfl) (fun _ _ _ h => h) (by assumption) ?_ ?_
              rotate_left
              · intro oi ho; cases ho; refine ⟨by rfl, ?_⟩; intro w hSw; (try dsimp only at hSw); go_simp; try with_reducible rfl
              (try simp only [Act.put, List.setIfInBounds_toArray, List.set_cons_zero, List.set_cons_succ])
              refine man_take 6 216 (v := ?_) ⟨_, rfl, rfl⟩ (by as_aux_lemma => kernel_rfl) (by as_aux_lemma => kernel_rfl) (by as_aux_lemma => kernel_rfl) (fun _ _ _ h => h) (by assumption) ?_ ?_
              rotate_left
              · intro oi ho; cases ho; refine ⟨by rfl, ?_⟩; intro w hSw; (try dsimp only at hSw); go_simp; try with_reducible rfl
              (try simp only [Act.put, List.setIfInBounds_toArray, List.set_cons_zero, List.set_cons_succ])
              refine man_take 7 217 (v := ?_) ⟨_, rfl, rfl⟩ (by as_aux_lemma => kernel_rfl) (by as_aux_lemma => kernel_rfl) (by as_aux_lemma => kernel_rfl) (fun _ _ _ h => h) (by assumption) ?_ ?_
              rotate_left
              · intro oi ho; cases ho; refine ⟨by rfl, ?_⟩; intro w hSw; (try dsimp only at hSw); go_simp; try with_reducible rfl
              (try simp only [Act.put, List.setIfInBounds_toArray, List.set_cons_zero, List.set_cons_succ])
              refine man_take 8 218 (v := ?_) ⟨_, rfl, rfl⟩ (by as_aux_lemma => kernel_rfl) (by as_aux_lemma => kernel_rfl) (by as_aux_lemma => kernel_rfl) (fun _ _ _ h => h) (by assumption) ?_ ?_
              rotate_left
              · intro oi ho; cases ho; refine ⟨by rfl, ?_⟩; intro w hSw; (try dsimp only at hSw); go_simp; try with_reducible rfl
              (try simp only [Act.put, List.setIfInBounds_toArray, List.set_cons_zero, List.set_cons_succ])
              refine man_take 9 219 (v := ?_) ⟨_, rfl, rfl⟩ (by as_aux_lemma => kernel_rfl) (by as_aux_lemma => kernel_rfl) (by as_aux_lemma => kernel_rfl) (fun _ _ _ h => h) (by assumption) ?_ ?_
              rotate_left
              · intro oi ho; cases ho; refine ⟨by rfl, ?_⟩; intro w hSw; (try dsimp only at hSw); go_simp; try with_reducible rfl
              (try simp only [Act.put, List.setIfInBounds_toArray, List.set_cons_zero, List.set_cons_succ])
              refine man_take 10 220 (v := ?_) ⟨_, rfl, rfl⟩ (by as_aux_lemma => kernel_rfl) (by as_aux_lemma => kernel_rfl) (by as_aux_lemma => kernel_rfl) (fun _ _ _ h => h) (by assumption) ?_ ?_
              rotate_left
              · intro oi ho; cases ho; refine ⟨by rfl, ?_⟩; intro w hSw; (try dsimp only at hSw); go_simp; try with_reducible rfl
              (try simp only [Act.put, List.setIfInBounds_toArray, List.set_cons_zero, List.set_cons_succ])
              refine wpAnyH_done (by kernel_rfl) ?_ _
              have T3 := T.drew.drew
              clear kA kA2
              go_wp2_with fail
              go_roundw
              case rel => exact ⟨z + 1, by omega, by rw [HD1.out]; push_cast; rfl, by go_num, T3⟩
              case measure => simp [intOf]; omega
            · rw [show (!true) = false from rfl] at HFZ
              go_wp2_with fail
              refine wp_region_held_drew (S := (fun u : World => u.cell? ⟨w.heap.size, 2, none⟩ = some (.slice (some ⟨bA, oA, none⟩) (h * a) c) ∧ u.cell? ⟨bA, oA + z, none⟩ = some (.bool true) ∧ u.cell? ⟨(w.heap.size + 1), 2, none⟩ = some (.slice (some ⟨bM, oM, none⟩) (h * a) cm) ∧ u.cell? ⟨bM, oM + z, none⟩ = some (.int .i64 mv) ∧ u.cell? ⟨w2.heap.size, 2, none⟩ = some (.slice (some ⟨gc, 0, none⟩) (h * a) cc) ∧ u.cell? ⟨gc, z, none⟩ = some (.bool false) ∧ u.cell? ⟨w7.heap.size, 2, none⟩ = some (.slice (some ⟨gq, 0, none⟩) (h * a) cq7) ∧ u.cell? ⟨gq, z, none⟩ = some (.int .i64 qv) ∧ u.cell? ⟨w8.heap.size, 2, none⟩ = some (.slice (some ⟨ge, 0, none⟩) (h * a) ce) ∧ u.cell? ⟨ge, z, none⟩ = some (.bool true))) (by kernel_rfl) ?_ (fun hHeld => ?_)
              · (try dsimp only); exact kA.out
              refine man_take 0 179 (v := ?_) ⟨_, rfl, rfl⟩ (by as_aux_lemma => kernel_rfl) (by as_aux_lemma => kernel_rfl) (by as_aux_lemma => kernel_rfl) (fun _ _ _ h => h) (by assumption) ?_ ?_
              rotate_left
              · intro oi ho; cases ho; refine ⟨by rfl, ?_⟩; intro w hSw; (try dsimp only at hSw); go_simp; try with_reducible rfl
              (try simp only [Act.put, List.setIfInBounds_toArray, List.set_cons_zero, List.set_cons_succ])
              refine man_take 1 180 (v := ?_) ⟨_, rfl, rfl⟩ (by as_aux_lemma => kernel_rfl) (by as_aux_lemma => kernel_rfl) (by as_aux_lemma => kernel_rfl) (fun _ _ _ h => h) (by assumption) ?_ ?_
              rotate_left
              · intro oi ho; cases ho; refine ⟨by rfl, ?_⟩; intro w hSw; (try dsimp only at hSw); go_simp; try with_reducible rfl
              (try simp only [Act.put, List.setIfInBounds_toArray, List.set_cons_zero, List.set_cons_succ])
              refine man_take 2 181 (v := ?_) ⟨_, rfl, rfl⟩ (by as_aux_lemma => kernel_rfl) (by as_aux_lemma => kernel_rfl) (by as_aux_lemma => kernel_rfl) (fun _ _ _ h => h) (by assumption) ?_ ?_
              rotate_left
              · intro oi ho; cases ho; refine ⟨by rfl, ?_⟩; intro w hSw; (try dsimp only at hSw); go_simp; try with_reducible rfl
              (try simp only [Act.put, List.setIfInBounds_toArray, List.set_cons_zero, List.set_cons_succ])
              refine man_take 3 182 (v := ?_) ⟨_, rfl, rfl⟩ (by as_aux_lemma => kernel_rfl) (by as_aux_lemma => kernel_rfl) (by as_aux_lemma => kernel_rfl) (fun _ _ _ h => h) (by assumption) ?_ ?_
              rotate_left
              · intro oi ho; cases ho; refine ⟨by rfl, ?_⟩; intro w hSw; (try dsimp only at hSw); go_simp; try with_reducible rfl
              (try simp only [Act.put, List.setIfInBounds_toArray, List.set_cons_zero, List.set_cons_succ])
              refine man_take 4 183 (v := ?_) ⟨_, rfl, rfl⟩ (by as_aux_lemma => kernel_rfl) (by as_aux_lemma => kernel_rfl) (by as_aux_lemma => kernel_rfl) (fun _ _ _ h => h) (by assumption) ?_ ?_
              rotate_left
              · intro oi ho; cases ho; refine ⟨by rfl, ?_⟩; intro w hSw; (try dsimp only at hSw); go_simp; try with_reducible rfl
              (try simp only [Act.put, List.setIfInBounds_toArray, List.set_cons_zero, List.set_cons_succ])
              refine man_take 5 184 (v := ?_) ⟨_, rfl, rfl⟩ (by as_aux_lemma => kernel_rfl) (by as_aux_lemma => kernel_rfl) (by as_aux_lemma => kernel_rfl) (fun _ _ _ h => h) (by assumption) ?_ ?_
              rotate_left
              · intro oi ho; cases ho; refine ⟨by rfl, ?_⟩; intro w hSw; (try dsimp only at hSw); go_simp; try with_reducible rfl
              (try simp only [Act.put, List.setIfInBounds_toArray, List.set_cons_zero, List.set_cons_succ])
              refine man_take 6 185 (v := ?_) ⟨_, rfl, rfl⟩ (by as_aux_lemma => kernel_rfl) (by as_aux_lemma => kernel_rfl) (by as_aux_lemma => kernel_rfl) (fun _ _ _ h => h) (by assumption) ?_ ?_
              rotate_left
              · intro oi ho; cases ho; refine ⟨by rfl, ?_⟩; intro w hSw; (try dsimp only at hSw); go_simp; try with_reducible rfl
              (try simp only [Act.put, List.setIfInBounds_toArray, List.set_cons_zero, List.set_cons_succ])
              refine man_take 7 186 (v := ?_) ⟨_, rfl, rfl⟩ (by as_aux_lemma => kernel_rfl) (by as_aux_lemma => kernel_rfl) (by as_aux_lemma => kernel_rfl) (fun _ _ _ h => h) (by assumption) ?_ ?_
              rotate_left
              · intro oi ho; cases ho; refine ⟨by rfl, ?_⟩; intro w hSw; (try dsimp only at hSw); go_simp; try with_reducible rfl
              (try simp only [Act.put, List.setIfInBounds_toArray, List.set_cons_zero, List.set_cons_succ])
              refine man_take 8 187 (v := ?_) ⟨_, rfl, rfl⟩ (by as_aux_lemma => kernel_rfl) (by as_aux_lemma => kernel_rfl) (by as_aux_lemma => kernel_rfl) (fun _ _ _ h => h) (by assumption) ?_ ?_
              rotate_left
              · intro oi ho; cases ho; refine ⟨by rfl, ?_⟩; intro w hSw; (try dsimp only at hSw); go_simp; try with_reducible rfl
              (try simp only [Act.put, List.setIfInBounds_toArray, List.set_cons_zero, List.set_cons_succ])
              refine man_take 9 188 (v := ?_) ⟨_, rfl, rfl⟩ (by as_aux_lemma => kernel_rfl) (by as_aux_lemma => kernel_rfl) (by as_aux_lemma => kernel_rfl) (fun _ _ _ h => h) (by assumption) ?_ ?_
              rotate_left
              · intro oi ho; cases ho; refine ⟨by rfl, ?_⟩; intro w hSw; (try dsimp only at hSw); go_simp; try with_reducible rfl
              (try simp only [Act.put, List.setIfInBounds_toArray, List.set_cons_zero, List.set_cons_succ])
              refine man_take 10 189 (v := ?_) ⟨_, rfl, rfl⟩ (by as_aux_lemma => kernel_rfl) (by as_aux_lemma => kernel_rfl) (by as_aux_lemma => kernel_rfl) (fun _ _ _ h => h) (by assumption) ?_ ?_
              rotate_left
              · intro oi ho; cases ho; refine ⟨by rfl, ?_⟩; intro w hSw; (try dsimp only at hSw); go_simp; try with_reducible rfl
              (try simp only [Act.put, List.setIfInBounds_toArray, List.set_cons_zero, List.set_cons_succ])
              refine man_take 11 190 (v := ?_) ⟨_, rfl, rfl⟩ (by as_aux_lemma => kernel_rfl) (by as_aux_lemma => kernel_rfl) (by as_aux_lemma => kernel_rfl) (fun _ _ _ h => h) (by assumption) ?_ ?_
              rotate_left
              · intro oi ho; cases ho; refine ⟨by rfl, ?_⟩; intro w hSw; (try dsimp only at hSw); go_simp; try with_reducible rfl
              (try simp only [Act.put, List.setIfInBounds_toArray, List.set_cons_zero, List.set_cons_succ])
              refine man_take 12 191 (v := ?_) ⟨_, rfl, rfl⟩ (by as_aux_lemma => kernel_rfl) (by as_aux_lemma => kernel_rfl) (by as_aux_lemma => kernel_rfl) (fun _ _ _ h => h) (by assumption) ?_ ?_
              rotate_left
              · intro oi ho; cases ho; refine ⟨by rfl, ?_⟩; intro w hSw; (try dsimp only at hSw); go_simp; try with_reducible rfl
              (try simp only [Act.put, List.setIfInBounds_toArray, List.set_cons_zero, List.set_cons_succ])
              refine man_take 13 192 (v := ?_) ⟨_, rfl, rfl⟩ (by as_aux_lemma => kernel_rfl) (by as_aux_lemma => kernel_rfl) (by as_aux_lemma => kernel_rfl) (fun _ _ _ h => h) (by assumption) ?_ ?_
              rotate_left
              · intro oi ho; cases ho; refine ⟨by rfl, ?_⟩; intro w hSw; (try dsimp only at hSw); go_simp; try with_reducible rfl
              (try simp only [Act.put, List.setIfInBounds_toArray, List.set_cons_zero, List.set_cons_succ])
              refine man_take 14 193 (v := ?_) ⟨_, rfl, rfl⟩ (by as_aux_lemma => kernel_rfl) (by as_aux_lemma => kernel_rfl) (by as_aux_lemma => kernel_rfl) (fun _ _ _ h => h) (by assumption) ?_ ?_
              rotate_left
              · intro oi ho; cases ho; refine ⟨by rfl, ?_⟩; intro w hSw; (try dsimp only at hSw); go_simp; try with_reducible rfl
              (try simp only [Act.put, List.setIfInBounds_toArray, List.set_cons_zero, List.set_cons_succ])
              refine man_take 15 194 (v := ?_) ⟨_, rfl, rfl⟩ (by as_aux_lemma => kernel_rfl) (by as_aux_lemma => kernel_rfl) (by as_aux_lemma => kernel_rfl) (fun _ _ _ h => h) (by assumption) ?_ ?_
              rotate_left
              · intro oi ho; cases ho; refine ⟨by rfl, ?_⟩; intro w hSw; (try dsimp only at hSw); go_simp; try with_reducible rfl
              (try simp only [Act.put, List.setIfInBounds_toArray, List.set_cons_zero, List.set_cons_succ])
              refine man_take 16 195 (v := ?_) ⟨_, rfl, rfl⟩ (by as_aux_lemma => kernel_rfl) (by as_aux_lemma => kernel_rfl) (by as_aux_lemma => kernel_rfl) (fun _ _ _ h => h) (by assumption) ?_ ?_
              rotate_left
              · intro oi ho; cases ho; refine ⟨by rfl, ?_⟩; intro w hSw; (try dsimp only at hSw); go_simp; try with_reducible rfl
              (try simp only [Act.put, List.setIfInBounds_toArray, List.set_cons_zero, List.set_cons_succ])
              refine man_take 17 196 (v := ?_) ⟨_, rfl, rfl⟩ (by as_aux_lemma => kernel_rfl) (by as_aux_lemma => kernel_rfl) (by as_aux_lemma => kernel_rfl) (fun _ _ _ h => h) (by assumption) ?_ ?_
              rotate_left
              · intro oi ho; cases ho; refine ⟨by rfl, ?_⟩; intro w hSw; (try dsimp only at hSw); go_simp; try with_reducible rfl
              (try simp only [Act.put, List.setIfInBounds_toArray, List.set_cons_zero, List.set_cons_succ])
              refine man_take 18 197 (v := ?_) ⟨_, rfl, rfl⟩ (by as_aux_lemma => kernel_rfl) (by as_aux_lemma => kernel_rfl) (by as_aux_lemma => kernel_rfl) (fun _ _ _ h => h) (by assumption) ?_ ?_
              rotate_left
              · intro oi ho; cases ho; refine ⟨by rfl, ?_⟩; intro w hSw; (try dsimp only at hSw); go_simp; try with_reducible rfl
              (try simp only [Act.put, List.setIfInBounds_toArray, List.set_cons_zero, List.set_cons_succ])
              refine man_take 19 198 (v := ?_) ⟨_, rfl, rfl⟩ (by as_aux_lemma => kernel_rfl) (by as_aux_lemma => kernel_rfl) (by as_aux_lemma => kernel_rfl) (fun _ _ _ h => h) (by assumption) ?_ ?_
              rotate_left
              · intro oi ho; cases ho; refine ⟨by rfl, ?_⟩; intro w hSw; (try dsimp only at hSw); go_simp; try with_reducible rfl
              (try simp only [Act.put, List.setIfInBounds_toArray, List.set_cons_zero, List.set_cons_succ])
              refine man_take 20 199 (v := ?_) ⟨_, rfl, rfl⟩ (by as_aux_lemma => kernel_rfl) (by as_aux_lemma => kernel_rfl) (by as_aux_lemma => kernel_rfl) (fun _ _ _ h => h) (by assumption) ?_ ?_
              rotate_left
              · intro oi ho; cases ho; refine ⟨by rfl, ?_⟩; intro w hSw; (try dsimp only at hSw); go_simp; try with_reducible rfl
              (try simp only [Act.put, List.setIfInBounds_toArray, List.set_cons_zero, List.set_cons_succ])
              refine man_take 21 200 (v := ?_) ⟨_, rfl, rfl⟩ (by as_aux_lemma => kernel_rfl) (by as_aux_lemma => kernel_rfl) (by as_aux_lemma => kernel_rfl) (fun _ _ _ h => h) (by assumption) ?_ ?_
              rotate_left
              · intro oi ho; cases ho; refine ⟨by rfl, ?_⟩; intro w hSw; (try dsimp only at hSw); go_simp; try with_reducible rfl
              (try simp only [Act.put, List.setIfInBounds_toArray, List.set_cons_zero, List.set_cons_succ])
              refine man_take 22 201 (v := ?_) ⟨_, rfl, rfl⟩ (by as_aux_lemma => kernel_rfl) (by as_aux_lemma => kernel_rfl) (by as_aux_lemma => kernel_rfl) (fun _ _ _ h => h) (by assumption) ?_ ?_
              rotate_left
              · intro oi ho; cases ho; refine ⟨by rfl, ?_⟩; intro w hSw; (try dsimp only at hSw); go_simp; try with_reducible rfl
              (try simp only [Act.put, List.setIfInBounds_toArray, List.set_cons_zero, List.set_cons_succ])
              refine man_take 23 202 (v := ?_) ⟨_, rfl, rfl⟩ (by as_aux_lemma => kernel_rfl) (by as_aux_lemma => kernel_rfl) (by as_aux_lemma => kernel_rfl) (fun _ _ _ h => h) (by assumption) ?_ ?_
              rotate_left
              · intro oi ho; cases ho; refine ⟨by rfl, ?_⟩; intro w hSw; (try dsimp only at hSw); go_simp; try with_reducible rfl
              (try simp only [Act.put, List.setIfInBounds_toArray, List.set_cons_zero, List.set_cons_succ])
              refine man_take 24 203 (v := ?_) ⟨_, rfl, rfl⟩ (by as_aux_lemma => kernel_rfl) (by as_aux_lemma => kernel_rfl) (by as_aux_lemma => kernel_rfl) (fun _ _ _ h => h) (by assumption) ?_ ?_
              rotate_left
              · intro oi ho; cases ho; refine ⟨by rfl, ?_⟩; intro w hSw; (try dsimp only at hSw); go_simp; try with_reducible rfl
              (try simp only [Act.put, List.setIfInBounds_toArray, List.set_cons_zero, List.set_cons_succ])
              refine man_take 25 204 (v := ?_) ⟨_, rfl, rfl⟩ (by as_aux_lemma => kernel_rfl) (by as_aux_lemma => kernel_rfl) (by as_aux_lemma => kernel_rfl) (fun _ _ _ h => h) (by assumption) ?_ ?_
              rotate_left
              · intro oi ho; cases ho; refine ⟨by rfl, ?_⟩; intro w hSw; (try dsimp only at hSw); go_simp; try with_reducible rfl
              (try simp only [Act.put, List.setIfInBounds_toArray, List.set_cons_zero, List.set_cons_succ])
              refine man_take 26 205 (v := ?_) ⟨_, rfl, rfl⟩ (by as_aux_lemma => kernel_rfl) (by as_aux_lemma => kernel_rfl) (by as_aux_lemma => kernel_rfl) (fun _ _ _ h => h) (by assumption) ?_ ?_
              rotate_left
              · intro oi ho; cases ho; refine ⟨by rfl, ?_⟩; intro w hSw; (try dsimp only at hSw); go_simp; try with_reducible rfl
              (try simp only [Act.put, List.setIfInBounds_toArray, List.set_cons_zero, List.set_cons_succ])
              refine man_take 27 206 (v := ?_) ⟨_, rfl, rfl⟩ (by as_aux_lemma => kernel_rfl) (by as_aux_lemma => kernel_rfl) (by as_aux_lemma => kernel_rfl) (fun _ _ _ h => h) (by assumption) ?_ ?_
              rotate_left
              · intro oi ho; cases ho; refine ⟨by rfl, ?_⟩; intro w hSw; (try dsimp only at hSw); go_simp; try with_reducible rfl
              (try simp only [Act.put, List.setIfInBounds_toArray, List.set_cons_zero, List.set_cons_succ])
              refine man_take 28 207 (v := ?_) ⟨_, rfl, rfl⟩ (by as_aux_lemma => kernel_rfl) (by as_aux_lemma => kernel_rfl) (by as_aux_lemma => kernel_rfl) (fun _ _ _ h => h) (by assumption) ?_ ?_
              rotate_left
              · intro oi ho; cases ho; refine ⟨by rfl, ?_⟩; intro w hSw; (try dsimp only at hSw); go_simp; try with_reducible rfl
              (try simp only [Act.put, List.setIfInBounds_toArray, List.set_cons_zero, List.set_cons_succ])
              refine man_take 29 208 (v := ?_) ⟨_, rfl, rfl⟩ (by as_aux_lemma => kernel_rfl) (by as_aux_lemma => kernel_rfl) (by as_aux_lemma => kernel_rfl) (fun _ _ _ h => h) (by assumption) ?_ ?_
              rotate_left
              · intro oi ho; cases ho; refine ⟨by rfl, ?_⟩; intro w hSw; (try dsimp only at hSw); go_simp; try with_reducible rfl
              (try simp only [Act.put, List.setIfInBounds_toArray, List.set_cons_zero, List.set_cons_succ])
              refine man_take 30 209 (v := ?_) ⟨_, rfl, rfl⟩ (by as_aux_lemma => kernel_rfl) (by as_aux_lemma => kernel_rfl) (by as_aux_lemma => kernel_rfl) (fun _ _ _ h => h) (by assumption) ?_ ?_
              rotate_left
              · intro oi ho; cases ho; refine ⟨by rfl, ?_⟩; intro w hSw; (try dsimp only at hSw); go_simp; try with_reducible rfl
              (try simp only [Act.put, List.setIfInBounds_toArray, List.set_cons_zero, List.set_cons_succ])
              refine wpAnyH_done (by kernel_rfl) ?_ _
              go_wp2_with fail
              refine wp_region_held_drew (S := (fun u : World => u.cell? ⟨w.heap.size, 2, none⟩ = some (.slice (some ⟨bA, oA, none⟩) (h * a) c) ∧ u.cell? ⟨bA, oA + z, none⟩ = some (.bool true) ∧ u.cell? ⟨(w.heap.size + 1), 2, none⟩ = some (.slice (some ⟨bM, oM, none⟩) (h * a) cm) ∧ u.cell? ⟨bM, oM + z, none⟩ = some (.int .i64 mv) ∧ u.cell? ⟨w2.heap.size, 2, none⟩ = some (.slice (some ⟨gc, 0, none⟩) (h * a) cc) ∧ u.cell? ⟨gc, z, none⟩ = some (.bool false) ∧ u.cell? ⟨w7.heap.size, 2, none⟩ = some (.slice (some ⟨gq, 0, none⟩) (h * a) cq7) ∧ u.cell? ⟨gq, z, none⟩ = some (.int .i64 qv) ∧ u.cell? ⟨w8.heap.size, 2, none⟩ = some (.slice (some ⟨ge, 0, none⟩) (h * a) ce) ∧ u.cell? ⟨ge, z, none⟩ = some (.bool true))) (by kernel_rfl) ?_ (fun hHeld => ?_)
              · (try dsimp only); exact kA2.out
              refine man_take 0 210 (v := ?_) ⟨_, rfl, rfl⟩ (by as_aux_lemma => kernel_rfl) (by as_aux_lemma => kernel_rfl) (by as_aux_lemma => kernel_rfl) (fun _ _ _ h => h) (by assumption) ?_ ?_
              rotate_left
              · intro oi ho; cases ho; refine ⟨by rfl, ?_⟩; intro w hSw; (try dsimp only at hSw); go_simp; try with_reducible rfl
              (try simp only [Act.put, List.setIfInBounds_toArray, List.set_cons_zero, List.set_cons_succ])
              refine man_take 1 211 (v := ?_) ⟨_, rfl, rfl⟩ (by as_aux_lemma => kernel_rfl) (by as_aux_lemma => kernel_rfl) (by as_aux_lemma => kernel_rfl) (fun _ _ _ h => h) (by assumption) ?_ ?_
              rotate_left
              · intro oi ho; cases ho; refine ⟨by rfl, ?_⟩; intro w hSw; (try dsimp only at hSw); go_simp; try with_reducible rfl
              (try simp only [Act.put, List.setIfInBounds_toArray, List.set_cons_zero, List.set_cons_succ])
              refine man_take 2 212 (v := ?_) ⟨_, rfl, rfl⟩ (by as_aux_lemma => kernel_rfl) (by as_aux_lemma => kernel_rfl) (by as_aux_lemma => kernel_rfl) (fun _ _ _ h => h) (by assumption) ?_ ?_
              rotate_left
              · intro oi ho; cases ho; refine ⟨by rfl, ?_⟩; intro w hSw; (try dsimp only at hSw); go_simp; try with_reducible rfl
              (try simp only [Act.put, List.setIfInBounds_toArray, List.set_cons_zero, List.set_cons_succ])
              refine man_take 3 213 (v := ?_) ⟨_, rfl, rfl⟩ (by as_aux_lemma => kernel_rfl) (by as_aux_lemma => kernel_rfl) (by as_aux_lemma => kernel_rfl) (fun _ _ _ h => h) (by assumption) ?_ ?_
              rotate_left
              · intro oi ho; cases ho; refine ⟨by rfl, ?_⟩; intro w hSw; (try dsimp only at hSw); go_simp; try with_reducible rfl
              (try simp only [Act.put, List.setIfInBounds_toArray, List.set_cons_zero, List.set_cons_succ])
              refine man_take 4 214 (v := ?_) ⟨_, rfl, rfl⟩ (by as_aux_lemma => kernel_rfl) (by as_aux_lemma => kernel_rfl) (by as_aux_lemma => kernel_rfl) (fun _ _ _ h => h) (by assumption) ?_ ?_
              rotate_left
              · intro oi ho; cases ho; refine ⟨by rfl, ?_⟩; intro w hSw; (try dsimp only at hSw); go_simp; try with_reducible rfl
              (try simp only [Act.put, List.setIfInBounds_toArray, List.set_cons_zero, List.set_cons_succ])
              refine man_take 5 215 (v := ?_) ⟨_, rfl, rfl⟩ (by as_aux_lemma => kernel_rfl) (by as_aux_lemma => kernel_rfl) (by as_aux_lemma => kernel_rfl) (fun _ _ _ h => h) (by assumption) ?_ ?_
              rotate_left
              · intro oi ho; cases ho; refine ⟨by rfl, ?_⟩; intro w hSw; (try dsimp only at hSw); go_simp; try with_reducible rfl
              (try simp only [Act.put, List.setIfInBounds_toArray, List.set_cons_zero, List.set_cons_succ])
              refine man_take 6 216 (v := ?_) ⟨_, rfl, rfl⟩ (by as_aux_lemma => kernel_rfl) (by as_aux_lemma => kernel_rfl) (by as_aux_lemma => kernel_rfl) (fun _ _ _ h => h) (by assumption) ?_ ?_
              rotate_left
              · intro oi ho; cases ho; refine ⟨by rfl, ?_⟩; intro w hSw; (try dsimp only at hSw); go_simp; try with_reducible rfl
              (try simp only [Act.put, List.setIfInBounds_toArray, List.set_cons_zero, List.set_cons_succ])
              refine man_take 7 217 (v := ?_) ⟨_, rfl, rfl⟩ (by as_aux_lemma => kernel_rfl) (by as_aux_lemma => kernel_rfl) (by as_aux_lemma => kernel_rfl) (fun _ _ _ h => h) (by assumption) ?_ ?_
              rotate_left
              · intro oi ho; cases ho; refine ⟨by rfl, ?_⟩; intro w hSw; (try dsimp only at hSw); go_simp; try with_reducible rfl
              (try simp only [Act.put, List.setIfInBounds_toArray, List.set_cons_zero, List.set_cons_succ])
              refine man_take 8 218 (v := ?_) ⟨_, rfl, rfl⟩ (by as_aux_lemma => kernel_rfl) (by as_aux_lemma => kernel_rfl) (by as_aux_lemma => kernel_rfl) (fun _ _ _ h => h) (by assumption) ?_ ?_
              rotate_left
              · intro oi ho; cases ho; refine ⟨by rfl, ?_⟩; intro w hSw; (try dsimp only at hSw); go_simp; try with_reducible rfl
              (try simp only [Act.put, List.setIfInBounds_toArray, List.set_cons_zero, List.set_cons_succ])
              refine man_take 9 219 (v := ?_) ⟨_, rfl, rfl⟩ (by as_aux_lemma => kernel_rfl) (by as_aux_lemma => kernel_rfl) (by as_aux_lemma => kernel_rfl) (fun _ _ _ h => h) (by assumption) ?_ ?_
              rotate_left
              · intro oi ho; cases ho; refine ⟨by rfl, ?_⟩; intro w hSw; (try dsimp only at hSw); go_simp; try with_reducible rfl
              (try simp only [Act.put, List.setIfInBounds_toArray, List.set_cons_zero, List.set_cons_succ])
              refine man_take 10 220 (v := ?_) ⟨_, rfl, rfl⟩ (by as_aux_lemma => kernel_rfl) (by as_aux_lemma => kernel_rfl) (by as_aux_lemma => kernel_rfl) (fun _ _ _ h => h) (by assumption) ?_ ?_
              rotate_left
              · intro oi ho; cases ho; refine ⟨by rfl, ?_⟩; intro w hSw; (try dsimp only at hSw); go_simp; try with_reducible rfl
              (try simp only [Act.put, List.setIfInBounds_toArray, List.set_cons_zero, List.set_cons_succ])
              refine wpAnyH_done (by kernel_rfl) ?_ _
              have T3 := T.drew.drew
              clear kA kA2
              go_wp2_with fail
              go_roundw
              case rel => exact ⟨z + 1, by omega, by rw [HD1.out]; push_cast; rfl, by go_num, T3⟩
              case measure => simp [intOf]; omega
          · replace HD1 := Lib.hid (HD1.out (by decide))
            replace HFZ := HFZ.out
            rw [show (true != false) = true from rfl, Bool.true_and] at HFZ
            cases ev
            · rw [show (!false) = true from rfl] at HFZ
              go_wp2_with fail
              refine wp_region_held_drew (S := (fun u : World => u.cell? ⟨w.heap.size, 2, none⟩ = some (.slice (some ⟨bA, oA, none⟩) (h * a) c) ∧ u.cell? ⟨bA, oA + z, none⟩ = some (.bool false) ∧ u.cell? ⟨(w.heap.size + 1), 2, none⟩ = some (.slice (some ⟨bM, oM, none⟩) (h * a) cm) ∧ u.cell? ⟨bM, oM + z, none⟩ = some (.int .i64 mv) ∧ u.cell? ⟨w2.heap.size, 2, none⟩ = some (.slice (some ⟨gc, 0, none⟩) (h * a) cc) ∧ u.cell? ⟨gc, z, none⟩ = some (.bool true) ∧ u.cell? ⟨w7.heap.size, 2, none⟩ = some (.slice (some ⟨gq, 0, none⟩) (h * a) cq7) ∧ u.cell? ⟨gq, z, none⟩ = some (.int .i64 qv) ∧ u.cell? ⟨w8.heap.size, 2, none⟩ = some (.slice (some ⟨ge, 0, none⟩) (h * a) ce) ∧ u.cell? ⟨ge, z, none⟩ = some (.bool false))) (by kernel_rfl) ?_ (fun hHeld => ?_)
              · (try dsimp only); exact kA.out
              refine man_take 0 179 (v := ?_) ⟨_, rfl, rfl⟩ (by as_aux_lemma => kernel_rfl) (by as_aux_lemma => kernel_rfl) (by as_aux_lemma => kernel_rfl) (fun _ _ _ h => h) (by assumption) ?_ ?_
              rotate_left
              · intro oi ho; cases ho; refine ⟨by rfl, ?_⟩; intro w hSw; (try dsimp only at hSw); go_simp; try with_reducible rfl
              (try simp only [Act.put, List.setIfInBounds_toArray, List.set_cons_zero, List.set_cons_succ])
              refine man_take 1 180 (v := ?_) ⟨_, rfl, rfl⟩ (by as_aux_lemma => kernel_rfl) (by as_aux_lemma => kernel_rfl) (by as_aux_lemma => kernel_rfl) (fun _ _ _ h => h) (by assumption) ?_ ?_
              rotate_left
              · intro oi ho; cases ho; refine ⟨by rfl, ?_⟩; intro w hSw; (try dsimp only at hSw); go_simp; try with_reducible rfl
              (try simp only [Act.put, List.setIfInBounds_toArray, List.set_cons_zero, List.set_cons_succ])
              refine man_take 2 181 (v := ?_) ⟨_, rfl, rfl⟩ (by as_aux_lemma => kernel_rfl) (by as_aux_lemma => kernel_rfl) (by as_aux_lemma => kernel_rfl) (fun _ _ _ h => h) (by assumption) ?_ ?_
              rotate_left
              · intro oi ho; cases ho; refine ⟨by rfl, ?_⟩; intro w hSw; (try dsimp only at hSw); go_simp; try with_reducible rfl
              (try simp only [Act.put, List.setIfInBounds_toArray, List.set_cons_zero, List.set_cons_succ])
              refine man_take 3 182 (v := ?_) ⟨_, rfl, rfl⟩ (by as_aux_lemma => kernel_rfl) (by as_aux_lemma => kernel_rfl) (by as_aux_lemma => kernel_rfl) (fun _ _ _ h => h) (by assumption) ?_ ?_
              rotate_left
              · intro oi ho; cases ho; refine ⟨by rfl, ?_⟩; intro w hSw; (try dsimp only at hSw); go_simp; try with_reducible rfl
              (try simp only [Act.put, List.setIfInBounds_toArray, List.set_cons_zero, List.set_cons_succ])
              refine man_take 4 183 (v := ?_) ⟨_, rfl, rfl⟩ (by as_aux_lemma => kernel_rfl) (by as_aux_lemma => kernel_rfl) (by as_aux_lemma => kernel_rfl) (fun _ _ _ h => h) (by assumption) ?_ ?_
              rotate_left
              · intro oi ho; cases ho; refine ⟨by rfl, ?_⟩; intro w hSw; (try dsimp only at hSw); go_simp; try with_reducible rfl
              (try simp only [Act.put, List.setIfInBounds_toArray, List.set_cons_zero, List.set_cons_succ])
              refine man_take 5 184 (v := ?_) ⟨_, rfl, rfl⟩ (by as_aux_lemma => kernel_rfl) (by as_aux_lemma => kernel_rfl) (by as_aux_lemma => kernel_rfl) (fun _ _ _ h => h) (by assumption) ?_ ?_
              rotate_left
              · intro oi ho; cases ho; refine ⟨by rfl, ?_⟩; intro w hSw; (try dsimp only at hSw); go_simp; try with_reducible rfl
              (try simp only [Act.put, List.setIfInBounds_toArray, List.set_cons_zero, List.set_cons_succ])
              refine man_take 6 185 (v := ?_) ⟨_, rfl, rfl⟩ (by as_aux_lemma => kernel_rfl) (by as_aux_lemma => kernel_rfl) (by as_aux_lemma => kernel_rfl) (fun _ _ _ h => h) (by assumption) ?_ ?_
              rotate_left
              · intro oi ho; cases ho; refine ⟨by rfl, ?_⟩; intro w hSw; (try dsimp only at hSw); go_simp; try with_reducible rfl
              (try simp only [Act.put, List.setIfInBounds_toArray, List.set_cons_zero, List.set_cons_succ])
              refine man_take 7 186 (v := ?_) ⟨_, rfl, rfl⟩ (by as_aux_lemma => kernel_rfl) (by as_aux_lemma => kernel_rfl) (by as_aux_lemma => kernel_rfl) (fun _ _ _ h => h) (by assumption) ?_ ?_
              rotate_left
              · intro oi ho; cases ho; refine ⟨by rfl, ?_⟩; intro w hSw; (try dsimp only at hSw); go_simp; try with_reducible rfl
              (try simp only [Act.put, List.setIfInBounds_toArray, List.set_cons_zero, List.set_cons_succ])
              refine man_take 8 187 (v := ?_) ⟨_, rfl, rfl⟩ (by as_aux_lemma => kernel_rfl) (by as_aux_lemma => kernel_rfl) (by as_aux_lemma => kernel_rfl) (fun _ _ _ h => h) (by assumption) ?_ ?_
              rotate_left
              · intro oi ho; cases ho; refine ⟨by rfl, ?_⟩; intro w hSw; (try dsimp only at hSw); go_simp; try with_reducible rfl
              (try simp only [Act.put, List.setIfInBounds_toArray, List.set_cons_zero, List.set_cons_succ])
              refine man_take 9 188 (v := ?_) ⟨_, rfl, rfl⟩ (by as_aux_lemma => kernel_rfl) (by as_aux_lemma => kernel_rfl) (by as_aux_lemma => kernel_rfl) (fun _ _ _ h => h) (by assumption) ?_ ?_
              rotate_left
              · intro oi ho; cases ho; refine ⟨by rfl, ?_⟩; intro w hSw; (try dsimp only at hSw); go_simp; try with_reducible rfl
              (try simp only [Act.put, List.setIfInBounds_toArray, List.set_cons_zero, List.set_cons_succ])
              refine man_take 10 189 (v := ?_) ⟨_, rfl, rfl⟩ (by as_aux_lemma => kernel_rfl) (by as_aux_lemma => kernel_rfl) (by as_aux_lemma => kernel_rfl) (fun _ _ _ h => h) (by assumption) ?_ ?_
              rotate_left
              · intro oi ho; cases ho; refine ⟨by rfl, ?_⟩; intro w hSw; (try dsimp only at hSw); go_simp; try with_reducible rfl
              (try simp only [Act.put, List.setIfInBounds_toArray, List.set_cons_zero, List.set_cons_succ])
              refine man_take 11 190 (v := ?_) ⟨_, rfl, rfl⟩ (by as_aux_lemma => kernel_rfl) (by as_aux_lemma => kernel_rfl) (by as_aux_lemma => kernel_rfl) (fun _ _ _ h => h) (by assumption) ?_ ?_
              rotate_left
              · intro oi ho; cases ho; refine ⟨by rfl, ?_⟩; intro w hSw; (try dsimp only at hSw); go_simp; try with_reducible rfl
              (try simp only [Act.put, List.setIfInBounds_toArray, List.set_cons_zero, List.set_cons_succ])
              refine man_take 12 191 (v := ?_) ⟨_, rfl, rfl⟩ (by as_aux_lemma => kernel_rfl) (by as_aux_lemma => kernel_rfl) (by as_aux_lemma => kernel_rfl) (fun _ _ _ h => h) (by assumption) ?_ ?_
              rotate_left
              · intro oi ho; cases ho; refine ⟨by rfl, ?_⟩; intro w hSw; (try dsimp only at hSw); go_simp; try with_reducible rfl
              (try simp only [Act.put, List.setIfInBounds_toArray, List.set_cons_zero, List.set_cons_succ])
              refine man_take 13 192 (v := ?_) ⟨_, rfl, rfl⟩ (by as_aux_lemma => kernel_rfl) (by as_aux_lemma => kernel_rfl) (by as_aux_lemma => kernel_rfl) (fun _ _ _ h => h) (by assumption) ?_ ?_
              rotate_left
              · intro oi ho; cases ho; refine ⟨by rfl, ?_⟩; intro w hSw; (try dsimp only at hSw); go_simp; try with_reducible rfl
              (try simp only [Act.put, List.setIfInBounds_toArray, List.set_cons_zero, List.set_cons_succ])
              refine man_take 14 193 (v := ?_) ⟨_, rfl, rfl⟩ (by as_aux_lemma => kernel_rfl) (by as_aux_lemma => kernel_rfl) (by as_aux_lemma => kernel_rfl) (fun _ _ _ h => h) (by assumption) ?_ ?_
              rotate_left
              · intro oi ho; cases ho; refine ⟨by rfl, ?_⟩; intro w hSw; (try dsimp only at hSw); go_simp; try with_reducible rfl
              (try simp only [Act.put, List.setIfInBounds_toArray, List.set_cons_zero, List.set_cons_succ])
              refine man_take 15 194 (v := ?_) ⟨_, rfl, rfl⟩ (by as_aux_lemma => kernel_rfl) (by as_aux_lemma => kernel_rfl) (by as_aux_lemma => kernel_rfl) (fun _ _ _ h => h) (by assumption) ?_ ?_
              rotate_left
              · intro oi ho; cases ho; refine ⟨by rfl, ?_⟩; intro w hSw; (try dsimp only at hSw); go_simp; try with_reducible rfl
              (try simp only [Act.put, List.setIfInBounds_toArray, List.set_cons_zero, List.set_cons_succ])
              refine man_take 16 195 (v := ?_) ⟨_, rfl, rfl⟩ (by as_aux_lemma => kernel_rfl) (by as_aux_lemma => kernel_rfl) (by as_aux_lemma => kernel_rfl) (fun _ _ _ h => h) (by assumption) ?_ ?_
              rotate_left
              · intro oi ho; cases ho; refine ⟨by rfl, ?_⟩; intro w hSw; (try dsimp only at hSw); go_simp; try with_reducible rfl
              (try simp only [Act.put, List.setIfInBounds_toArray, List.set_cons_zero, List.set_cons_succ])
              refine man_take 17 196 (v := ?_) ⟨_, rfl, rfl⟩ (by as_aux_lemma => kernel_rfl) (by as_aux_lemma => kernel_rfl) (by as_aux_lemma => kernel_rfl) (fun _ _ _ h => h) (by assumption) ?_ ?_
              rotate_left
              · intro oi ho; cases ho; refine ⟨by rfl, ?_⟩; intro w hSw; (try dsimp only at hSw); go_simp; try with_reducible rfl
              (try simp only [Act.put, List.setIfInBounds_toArray, List.set_cons_zero, List.set_cons_succ])
              refine man_take 18 197 (v := ?_) ⟨_, rfl, rfl⟩ (by as_aux_lemma => kernel_rfl) (by as_aux_lemma => kernel_rfl) (by as_aux_lemma => kernel_rfl) (fun _ _ _ h => h) (by assumption) ?_ ?_
              rotate_left
              · intro oi ho; cases ho; refine ⟨by rfl, ?_⟩; intro w hSw; (try dsimp only at hSw); go_simp; try with_reducible rfl
              (try simp only [Act.put, List.setIfInBounds_toArray, List.set_cons_zero, List.set_cons_succ])
              refine man_take 19 198 (v := ?_) ⟨_, rfl, rfl⟩ (by as_aux_lemma => kernel_rfl) (by as_aux_lemma => kernel_rfl) (by as_aux_lemma => kernel_rfl) (fun _ _ _ h => h) (by assumption) ?_ ?_
              rotate_left
              · intro oi ho; cases ho; refine ⟨by rfl, ?_⟩; intro w hSw; (try dsimp only at hSw); go_simp; try with_reducible rfl
              (try simp only [Act.put, List.setIfInBounds_toArray, List.set_cons_zero, List.set_cons_succ])
              refine man_take 20 199 (v := ?_) ⟨_, rfl, rfl⟩ (by as_aux_lemma => kernel_rfl) (by as_aux_lemma => kernel_rfl) (by as_aux_lemma => kernel_rfl) (fun _ _ _ h => h) (by assumption) ?_ ?_
              rotate_left
              · intro oi ho; cases ho; refine ⟨by rfl, ?_⟩; intro w hSw; (try dsimp only at hSw); go_simp; try with_reducible rfl
              (try simp only [Act.put, List.setIfInBounds_toArray, List.set_cons_zero, List.set_cons_succ])
              refine man_take 21 200 (v := ?_) ⟨_, rfl, rfl⟩ (by as_aux_lemma => kernel_rfl) (by as_aux_lemma => kernel_rfl) (by as_aux_lemma => kernel_rfl) (fun _ _ _ h => h) (by assumption) ?_ ?_
              rotate_left
              · intro oi ho; cases ho; refine ⟨by rfl, ?_⟩; intro w hSw; (try dsimp only at hSw); go_simp; try with_reducible rfl
              (try simp only [Act.put, List.setIfInBounds_toArray, List.set_cons_zero, List.set_cons_succ])
              refine man_take 22 201 (v := ?_) ⟨_, rfl, rfl⟩ (by as_aux_lemma => kernel_rfl) (by as_aux_lemma => kernel_rfl) (by as_aux_lemma => kernel_rfl) (fun _ _ _ h => h) (by assumption) ?_ ?_
              rotate_left
              · intro oi ho; cases ho; refine ⟨by rfl, ?_⟩; intro w hSw; (try dsimp only at hSw); go_simp; try with_reducible rfl
              (try simp only [Act.put, List.setIfInBounds_toArray, List.set_cons_zero, List.set_cons_succ])
              refine man_take 23 202 (v := ?_) ⟨_, rfl, rfl⟩ (by as_aux_lemma => kernel_rfl) (by as_aux_lemma => kernel_rfl) (by as_aux_lemma => kernel_rfl) (fun _ _ _ h => h) (by assumption) ?_ ?_
              rotate_left
              · intro oi ho; cases ho; refine ⟨by rfl, ?_⟩; intro w hSw; (try dsimp only at hSw); go_simp; try with_reducible rfl
              (try simp only [Act.put, List.setIfInBounds_toArray, List.set_cons_zero, List.set_cons_succ])
              refine man_take 24 203 (v := ?_) ⟨_, rfl, rfl⟩ (by as_aux_lemma => kernel_rfl) (by as_aux_lemma => kernel_rfl) (by as_aux_lemma => kernel_rfl) (fun _ _ _ h => h) (by assumption) ?_ ?_
              rotate_left
              · intro oi ho; cases ho; refine ⟨by rfl, ?_⟩; intro w hSw; (try dsimp only at hSw); go_simp; try with_reducible rfl
              (try simp only [Act.put, List.setIfInBounds_toArray, List.set_cons_zero, List.set_cons_succ])
              refine man_take 25 204 (v := ?_) ⟨_, rfl, rfl⟩ (by as_aux_lemma => kernel_rfl) (by as_aux_lemma => kernel_rfl) (by as_aux_lemma => kernel_rfl) (fun _ _ _ h => h) (by assumption) ?_ ?_
              rotate_left
              · intro oi ho; cases ho; refine ⟨by rfl, ?_⟩; intro w hSw; (try dsimp only at hSw); go_simp; try with_reducible rfl
              (try simp only [Act.put, List.setIfInBounds_toArray, List.set_cons_zero, List.set_cons_succ])
              refine man_take 26 205 (v := ?_) ⟨_, rfl, rfl⟩ (by as_aux_lemma => kernel_rfl) (by as_aux_lemma => kernel_rfl) (by as_aux_lemma => kernel_rfl) (fun _ _ _ h => h) (by assumption) ?_ ?_
              rotate_left
              · intro oi ho; cases ho; refine ⟨by rfl, ?_⟩; intro w hSw; (try dsimp only at hSw); go_simp; try with_reducible rfl
              (try simp only [Act.put, List.setIfInBounds_toArray, List.set_cons_zero, List.set_cons_succ])
              refine man_take 27 206 (v := ?_) ⟨_, rfl, rfl⟩ (by as_aux_lemma => kernel_rfl) (by as_aux_lemma => kernel_rfl) (by as_aux_lemma => kernel_rfl) (fun _ _ _ h => h) (by assumption) ?_ ?_
              rotate_left
              · intro oi ho; cases ho; refine ⟨by rfl, ?_⟩; intro w hSw; (try dsimp only at hSw); go_simp; try with_reducible rfl
              (try simp only [Act.put, List.setIfInBounds_toArray, List.set_cons_zero, List.set_cons_succ])
              refine man_take 28 207 (v := ?_) ⟨_, rfl, rfl⟩ (by as_aux_lemma => kernel_rfl) (by as_aux_lemma => kernel_rfl) (by as_aux_lemma => kernel_rfl) (fun _ _ _ h => h) (by assumption) ?_ ?_
              rotate_left
              · intro oi ho; cases ho; refine ⟨by rfl, ?_⟩; intro w hSw; (try dsimp only at hSw); go_simp; try with_reducible rfl
              (try simp only [Act.put, List.setIfInBounds_toArray, List.set_cons_zero, List.set_cons_succ])
              refine man_take 29 208 (v := ?_) ⟨_, rfl, rfl⟩ (by as_aux_lemma => kernel_rfl) (by as_aux_lemma => kernel_rfl) (by as_aux_lemma => kernel_rfl) (fun _ _ _ h => h) (by assumption) ?_ ?_
              rotate_left
              · intro oi ho; cases ho; refine ⟨by rfl, ?_⟩; intro w hSw; (try dsimp only at hSw); go_simp; try with_reducible rfl
              (try simp only [Act.put, List.setIfInBounds_toArray, List.set_cons_zero, List.set_cons_succ])
              refine man_take 30 209 (v := ?_) ⟨_, rfl, rfl⟩ (by as_aux_lemma => kernel_rfl) (by as_aux_lemma => kernel_rfl) (by as_aux_lemma => kernel_rfl) (fun _ _ _ h => h) (by assumption) ?_ ?_
              rotate_left
              · intro oi ho; cases ho; refine ⟨by rfl, ?_⟩; intro w hSw; (try dsimp only at hSw); go_simp; try with_reducible rfl
              (try simp only [Act.put, List.setIfInBounds_toArray, List.set_cons_zero, List.set_cons_succ])
              refine wpAnyH_done (by kernel_rfl) ?_ _
              go_wp2_with fail
              refine wp_region_held_drew (S := (fun u : World => u.cell? ⟨w.heap.size, 2, none⟩ = some (.slice (some ⟨bA, oA, none⟩) (h * a) c) ∧ u.cell? ⟨bA, oA + z, none⟩ = some (.bool false) ∧ u.cell? ⟨(w.heap.size + 1), 2, none⟩ = some (.slice (some ⟨bM, oM, none⟩) (h * a) cm) ∧ u.cell? ⟨bM, oM + z, none⟩ = some (.int .i64 mv) ∧ u.cell? ⟨w2.heap.size, 2, none⟩ = some (.slice (some ⟨gc, 0, none⟩) (h * a) cc) ∧ u.cell? ⟨gc, z, none⟩ = some (.bool true) ∧ u.cell? ⟨w7.heap.size, 2, none⟩ = some (.slice (some ⟨gq, 0, none⟩) (h * a) cq7) ∧ u.cell? ⟨gq, z, none⟩ = some (.int .i64 qv) ∧ u.cell? ⟨w8.heap.size, 2, none⟩ = some (.slice (some ⟨ge, 0, none⟩) (h * a) ce) ∧ u.cell? ⟨ge, z, none⟩ = some (.bool false))) (by kernel_rfl) ?_ (fun hHeld => ?_)
              · (try dsimp only); exact kA2.out
              refine man_take 0 210 (v := ?_) ⟨_, rfl, rfl⟩ (by as_aux_lemma => kernel_rfl) (by as_aux_lemma => kernel_rfl) (by as_aux_lemma => kernel_rfl) (fun _ _ _ h => h) (by assumption) ?_ ?_
              rotate_left
              · intro oi ho; cases ho; refine ⟨by rfl, ?_⟩; intro w hSw; (try dsimp only at hSw); go_simp; try with_reducible rfl
              (try simp only [Act.put, List.setIfInBounds_toArray, List.set_cons_zero, List.set_cons_succ])
              refine man_take 1 211 (v := ?_) ⟨_, rfl, rfl⟩ (by as_aux_lemma => kernel_rfl) (by as_aux_lemma => kernel_rfl) (by as_aux_lemma => kernel_rfl) (fun _ _ _ h => h) (by assumption) ?_ ?_
              rotate_left
              · intro oi ho; cases ho; refine ⟨by rfl, ?_⟩; intro w hSw; (try dsimp only at hSw); go_simp; try with_reducible rfl
              (try simp only [Act.put, List.setIfInBounds_toArray, List.set_cons_zero, List.set_cons_succ])
              refine man_take 2 212 (v := ?_) ⟨_, rfl, rfl⟩ (by as_aux_lemma => kernel_rfl) (by as_aux_lemma => kernel_rfl) (by as_aux_lemma => kernel_rfl) (fun _ _ _ h => h) (by assumption) ?_ ?_
              rotate_left
              · intro oi ho; cases ho; refine ⟨by rfl, ?_⟩; intro w hSw; (try dsimp only at hSw); go_simp; try with_reducible rfl
              (try simp only [Act.put, List.setIfInBounds_toArray, List.set_cons_zero, List.set_cons_succ])
              refine man_take 3 213 (v := ?_) ⟨_, rfl, rfl⟩ (by as_aux_lemma => kernel_rfl) (by as_aux_lemma => kernel_rfl) (by as_aux_lemma => kernel_rfl) (fun _ _ _ h => h) (by assumption) ?_ ?_
              rotate_left
              · intro oi ho; cases ho; refine ⟨by rfl, ?_⟩; intro w hSw; (try dsimp only at hSw); go_simp; try with_reducible rfl
              (try simp only [Act.put, List.setIfInBounds_toArray, List.set_cons_zero, List.set_cons_succ])
              refine man_take 4 214 (v := ?_) ⟨_, rfl, rfl⟩ (by as_aux_lemma => kernel_rfl) (by as_aux_lemma => kernel_rfl) (by as_aux_lemma => kernel_rfl) (fun _ _ _ h => h) (by assumption) ?_ ?_
              rotate_left
              · intro oi ho; cases ho; refine ⟨by rfl, ?_⟩; intro w hSw; (try dsimp only at hSw); go_simp; try with_reducible rfl
              (try simp only [Act.put, List.setIfInBounds_toArray, List.set_cons_zero, List.set_cons_succ])
              refine man_take 5 215 (v := ?_) ⟨_, rfl, rfl⟩ (by as_aux_lemma => kernel_rfl) (by as_aux_lemma => kernel_rfl) (by as_aux_lemma => kernel_rfl) (fun _ _ _ h => h) (by assumption) ?_ ?_
              rotate_left
              · intro oi ho; cases ho; refine ⟨by rfl, ?_⟩; intro w hSw; (try dsimp only at hSw); go_simp; try with_reducible rfl
              (try simp only [Act.put, List.setIfInBounds_toArray, List.set_cons_zero, List.set_cons_succ])
              refine man_take 6 216 (v := ?_) ⟨_, rfl, rfl⟩ (by as_aux_lemma => kernel_rfl) (by as_aux_lemma => kernel_rfl) (by as_aux_lemma => kernel_rfl) (fun _ _ _ h => h) (by assumption) ?_ ?_
              rotate_left
              · intro oi ho; cases ho; refine ⟨by rfl, ?_⟩; intro w hSw; (try dsimp only at hSw); go_simp; try with_reducible rfl
              (try simp only [Act.put, List.setIfInBounds_toArray, List.set_cons_zero, List.set_cons_succ])
              refine man_take 7 217 (v := ?_) ⟨_, rfl, rfl⟩ (by as_aux_lemma => kernel_rfl) (by as_aux_lemma => kernel_rfl) (by as_aux_lemma => kernel_rfl) (fun _ _ _ h => h) (by assumption) ?_ ?_
              rotate_left
              · intro oi ho; cases ho; refine ⟨by rfl, ?_⟩; intro w hSw; (try dsimp only at hSw); go_simp; try with_reducible rfl
              (try simp only [Act.put, List.setIfInBounds_toArray, List.set_cons_zero, List.set_cons_succ])
              refine man_take 8 218 (v := ?_) ⟨_, rfl, rfl⟩ (by as_aux_lemma => kernel_rfl) (by as_aux_lemma => kernel_rfl) (by as_aux_lemma => kernel_rfl) (fun _ _ _ h => h) (by assumption) ?_ ?_
              rotate_left
              · intro oi ho; cases ho; refine ⟨by rfl, ?_⟩; intro w hSw; (try dsimp only at hSw); go_simp; try with_reducible rfl
              (try simp only [Act.put, List.setIfInBounds_toArray, List.set_cons_zero, List.set_cons_succ])
              refine man_take 9 219 (v := ?_) ⟨_, rfl, rfl⟩ (by as_aux_lemma => kernel_rfl) (by as_aux_lemma => kernel_rfl) (by as_aux_lemma => kernel_rfl) (fun _ _ _ h => h) (by assumption) ?_ ?_
              rotate_left
              · intro oi ho; cases ho; refine ⟨by rfl, ?_⟩; intro w hSw; (try dsimp only at hSw); go_simp; try with_reducible rfl
              (try simp only [Act.put, List.setIfInBounds_toArray, List.set_cons_zero, List.set_cons_succ])
              refine man_take 10 220 (v := ?_) ⟨_, rfl, rfl⟩ (by as_aux_lemma => kernel_rfl) (by as_aux_lemma => kernel_rfl) (by as_aux_lemma => kernel_rfl) (fun _ _ _ h => h) (by assumption) ?_ ?_
              rotate_left
              · intro oi ho; cases ho; refine ⟨by rfl, ?_⟩; intro w hSw; (try dsimp only at hSw); go_simp; try with_reducible rfl
              (try simp only [Act.put, List.setIfInBounds_toArray, List.set_cons_zero, List.set_cons_succ])
              refine wpAnyH_done (by kernel_rfl) ?_ _
              have T3 := T.drew.drew
              clear kA kA2
              go_wp2_with fail
              go_roundw
              case rel => exact ⟨z + 1, by omega, by rw [HD1.out]; push_cast; rfl, by go_num, T3⟩
              case measure => simp [intOf]; omega
            · rw [show (!true) = false from rfl] at HFZ
              go_wp2_with fail
              refine wp_region_held_drew (S := (fun u : World => u.cell? ⟨w.heap.size, 2, none⟩ = some (.slice (some ⟨bA, oA, none⟩) (h * a) c) ∧ u.cell? ⟨bA, oA + z, none⟩ = some (.bool false) ∧ u.cell? ⟨(w.heap.size + 1), 2, none⟩ = some (.slice (some ⟨bM, oM, none⟩) (h * a) cm) ∧ u.cell? ⟨bM, oM + z, none⟩ = some (.int .i64 mv) ∧ u.cell? ⟨w2.heap.size, 2, none⟩ = some (.slice (some ⟨gc, 0, none⟩) (h * a) cc) ∧ u.cell? ⟨gc, z, none⟩ = some (.bool true) ∧ u.cell? ⟨w7.heap.size, 2, none⟩ = some (.slice (some ⟨gq, 0, none⟩) (h * a) cq7) ∧ u.cell? ⟨gq, z, none⟩ = some (.int .i64 qv) ∧ u.cell? ⟨w8.heap.size, 2, none⟩ = some (.slice (some ⟨ge, 0, none⟩) (h * a) ce) ∧ u.cell? ⟨ge, z, none⟩ = some (.bool true))) (by kernel_rfl) ?_ (fun hHeld => ?_)
              · (try dsimp only); exact kA.out
              refine man_take 0 179 (v := ?_) ⟨_, rfl, rfl⟩ (by as_aux_lemma => kernel_rfl) (by as_aux_lemma => kernel_rfl) (by as_aux_lemma => kernel_rfl) (fun _ _ _ h => h) (by assumption) ?_ ?_
              rotate_left
              · intro oi ho; cases ho; refine ⟨by rfl, ?_⟩; intro w hSw; (try dsimp only at hSw); go_simp; try with_reducible rfl
              (try simp only [Act.put, List.setIfInBounds_toArray, List.set_cons_zero, List.set_cons_succ])
              refine man_take 1 180 (v := ?_) ⟨_, rfl, rfl⟩ (by as_aux_lemma => kernel_rfl) (by as_aux_lemma => kernel_rfl) (by as_aux_lemma => kernel_rfl) (fun _ _ _ h => h) (by assumption) ?_ ?_
              rotate_left
              · intro oi ho; cases ho; refine ⟨by rfl, ?_⟩; intro w hSw; (try dsimp only at hSw); go_simp; try with_reducible rfl
              (try simp only [Act.put, List.setIfInBounds_toArray, List.set_cons_zero, List.set_cons_succ])
              refine man_take 2 181 (v := ?_) ⟨_, rfl, rfl⟩ (by as_aux_lemma => kernel_rfl) (by as_aux_lemma => kernel_rfl) (by as_aux_lemma => kernel_rfl) (fun _ _ _ h => h) (by assumption) ?_ ?_
              rotate_left
              · intro oi ho; cases ho; refine ⟨by rfl, ?_⟩; intro w hSw; (try dsimp only at hSw); go_simp; try with_reducible rfl
              (try simp only [Act.put, List.setIfInBounds_toArray, List.set_cons_zero, List.set_cons_succ])
              refine man_take 3 182 (v := ?_) ⟨_, rfl, rfl⟩ (by as_aux_lemma => kernel_rfl) (by as_aux_lemma => kernel_rfl) (by as_aux_lemma => kernel_rfl) (fun _ _ _ h => h) (by assumption) ?_ ?_
              rotate_left
              · intro oi ho; cases ho; refine ⟨by rfl, ?_⟩; intro w hSw; (try dsimp only at hSw); go_simp; try with_reducible rfl
              (try simp only [Act.put, List.setIfInBounds_toArray, List.set_cons_zero, List.set_cons_succ])
              refine man_take 4 183 (v := ?_) ⟨_, rfl, rfl⟩ (by as_aux_lemma => kernel_rfl) (by as_aux_lemma => kernel_rfl) (by as_aux_lemma => kernel_rfl) (fun _ _ _ h => h) (by assumption) ?_ ?_
              rotate_left
              · intro oi ho; cases ho; refine ⟨by rfl, ?_⟩; intro w hSw; (try dsimp only at hSw); go_simp; try with_reducible rfl
              (try simp only [Act.put, List.setIfInBounds_toArray, List.set_cons_zero, List.set_cons_succ])
              refine man_take 5 184 (v := ?_) ⟨_, rfl, rfl⟩ (by as_aux_lemma => kernel_rfl) (by as_aux_lemma => kernel_rfl) (by as_aux_lemma => kernel_rfl) (fun _ _ _ h => h) (by assumption) ?_ ?_
              rotate_left
              · intro oi ho; cases ho; refine ⟨by rfl, ?_⟩; intro w hSw; (try dsimp only at hSw); go_simp; try with_reducible rfl
              (try simp only [Act.put, List.setIfInBounds_toArray, List.set_cons_zero, List.set_cons_succ])
              refine man_take 6 185 (v := ?_) ⟨_, rfl, rfl⟩ (by as_aux_lemma => kernel_rfl) (by as_aux_lemma => kernel_rfl) (by as_aux_lemma => kernel_rfl) (fun _ _ _ h => h) (by assumption) ?_ ?_
              rotate_left
              · intro oi ho; cases ho; refine ⟨by rfl, ?_⟩; intro w hSw; (try dsimp only at hSw); go_simp; try with_reducible rfl
              (try simp only [Act.put, List.setIfInBounds_toArray, List.set_cons_zero, List.set_cons_succ])
              refine man_take 7 186 (v := ?_) ⟨_, rfl, rfl⟩ (by as_aux_lemma => kernel_rfl) (by as_aux_lemma => kernel_rfl) (by as_aux_lemma => kernel_rfl) (fun _ _ _ h => h) (by assumption) ?_ ?_
              rotate_left
              · intro oi ho; cases ho; refine ⟨by rfl, ?_⟩; intro w hSw; (try dsimp only at hSw); go_simp; try with_reducible rfl
              (try simp only [Act.put, List.setIfInBounds_toArray, List.set_cons_zero, List.set_cons_succ])
              refine man_take 8 187 (v := ?_) ⟨_, rfl, rfl⟩ (by as_aux_lemma => kernel_rfl) (by as_aux_lemma => kernel_rfl) (by as_aux_lemma => kernel_rfl) (fun _ _ _ h => h) (by assumption) ?_ ?_
              rotate_left
              · intro oi ho; cases ho; refine ⟨by rfl, ?_⟩; intro w hSw; (try dsimp only at hSw); go_simp; try with_reducible rfl
              (try simp only [Act.put, List.setIfInBounds_toArray, List.set_cons_zero, List.set_cons_succ])
              refine man_take 9 188 (v := ?_) ⟨_, rfl, rfl⟩ (by as_aux_lemma => kernel_rfl) (by as_aux_lemma => kernel_rfl) (by as_aux_lemma => kernel_rfl) (fun _ _ _ h => h) (by assumption) ?_ ?_
              rotate_left
              · intro oi ho; cases ho; refine ⟨by rfl, ?_⟩; intro w hSw; (try dsimp only at hSw); go_simp; try with_reducible rfl
              (try simp only [Act.put, List.setIfInBounds_toArray, List.set_cons_zero, List.set_cons_succ])
              refine man_take 10 189 (v := ?_) ⟨_, rfl, rfl⟩ (by as_aux_lemma => kernel_rfl) (by as_aux_lemma => kernel_rfl) (by as_aux_lemma => kernel_rfl) (fun _ _ _ h => h) (by assumption) ?_ ?_
              rotate_left
              · intro oi ho; cases ho; refine ⟨by rfl, ?_⟩; intro w hSw; (try dsimp only at hSw); go_simp; try with_reducible rfl
              (try simp only [Act.put, List.setIfInBounds_toArray, List.set_cons_zero, List.set_cons_succ])
              refine man_take 11 190 (v := ?_) ⟨_, rfl, rfl⟩ (by as_aux_lemma => kernel_rfl) (by as_aux_lemma => kernel_rfl) (by as_aux_lemma => kernel_rfl) (fun _ _ _ h => h) (by assumption) ?_ ?_
              rotate_left
              · intro oi ho; cases ho; refine ⟨by rfl, ?_⟩; intro w hSw; (try dsimp only at hSw); go_simp; try with_reducible rfl
              (try simp only [Act.put, List.setIfInBounds_toArray, List.set_cons_zero, List.set_cons_succ])
              refine man_take 12 191 (v := ?_) ⟨_, rfl, rfl⟩ (by as_aux_lemma => kernel_rfl) (by as_aux_lemma => kernel_rfl) (by as_aux_lemma => kernel_rfl) (fun _ _ _ h => h) (by assumption) ?_ ?_
              rotate_left
              · intro oi ho; cases ho; refine ⟨by rfl, ?_⟩; intro w hSw; (try dsimp only at hSw); go_simp; try with_reducible rfl
              (try simp only [Act.put, List.setIfInBounds_toArray, List.set_cons_zero, List.set_cons_succ])
              refine man_take 13 192 (v := ?_) ⟨_, rfl, rfl⟩ (by as_aux_lemma => kernel_rfl) (by as_aux_lemma => kernel_rfl) (by as_aux_lemma => kernel_rfl) (fun _ _ _ h => h) (by assumption) ?_ ?_
              rotate_left
              · intro oi ho; cases ho; refine ⟨by rfl, ?_⟩; intro w hSw; (try dsimp only at hSw); go_simp; try with_reducible rfl
              (try simp only [Act.put, List.setIfInBounds_toArray, List.set_cons_zero, List.set_cons_succ])
              refine man_take 14 193 (v := ?_) ⟨_, rfl, rfl⟩ (by as_aux_lemma => kernel_rfl) (by as_aux_lemma => kernel_rfl) (by as_aux_lemma => kernel_rfl) (fun _ _ _ h => h) (by assumption) ?_ ?_
              rotate_left
              · intro oi ho; cases ho; refine ⟨by rfl, ?_⟩; intro w hSw; (try dsimp only at hSw); go_simp; try with_reducible rfl
              (try simp only [Act.put, List.setIfInBounds_toArray, List.set_cons_zero, List.set_cons_succ])
              refine man_take 15 194 (v := ?_) ⟨_, rfl, rfl⟩ (by as_aux_lemma => kernel_rfl) (by as_aux_lemma => kernel_rfl) (by as_aux_lemma => kernel_rfl) (fun _ _ _ h => h) (by assumption) ?_ ?_
              rotate_left
              · intro oi ho; cases ho; refine ⟨by rfl, ?_⟩; intro w hSw; (try dsimp only at hSw); go_simp; try with_reducible rfl
              (try simp only [Act.put, List.setIfInBounds_toArray, List.set_cons_zero, List.set_cons_succ])
              refine man_take 16 195 (v := ?_) ⟨_, rfl, rfl⟩ (by as_aux_lemma => kernel_rfl) (by as_aux_lemma => kernel_rfl) (by as_aux_lemma => kernel_rfl) (fun _ _ _ h => h) (by assumption) ?_ ?_
              rotate_left
              · intro oi ho; cases ho; refine ⟨by rfl, ?_⟩; intro w hSw; (try dsimp only at hSw); go_simp; try with_reducible rfl
              (try simp only [Act.put, List.setIfInBounds_toArray, List.set_cons_zero, List.set_cons_succ])
              refine man_take 17 196 (v := ?_) ⟨_, rfl, rfl⟩ (by as_aux_lemma => kernel_rfl) (by as_aux_lemma => kernel_rfl) (by as_aux_lemma => kernel_rfl) (fun _ _ _ h => h) (by assumption) ?_ ?_
              rotate_left
              · intro oi ho; cases ho; refine ⟨by rfl, ?_⟩; intro w hSw; (try dsimp only at hSw); go_simp; try with_reducible rfl
              (try simp only [Act.put, List.setIfInBounds_toArray, List.set_cons_zero, List.set_cons_succ])
              refine man_take 18 197 (v := ?_) ⟨_, rfl, rfl⟩ (by as_aux_lemma => kernel_rfl) (by as_aux_lemma => kernel_rfl) (by as_aux_lemma => kernel_rfl) (fun _ _ _ h => h) (by assumption) ?_ ?_
              rotate_left
              · intro oi ho; cases ho; refine ⟨by rfl, ?_⟩; intro w hSw; (try dsimp only at hSw); go_simp; try with_reducible rfl
              (try simp only [Act.put, List.setIfInBounds_toArray, List.set_cons_zero, List.set_cons_succ])
              refine man_take 19 198 (v := ?_) ⟨_, rfl, rfl⟩ (by as_aux_lemma => kernel_rfl) (by as_aux_lemma => kernel_rfl) (by as_aux_lemma => kernel_rfl) (fun _ _ _ h => h) (by assumption) ?_ ?_
              rotate_left
              · intro oi ho; cases ho; refine ⟨by rfl, ?_⟩; intro w hSw; (try dsimp only at hSw); go_simp; try with_reducible rfl
              (try simp only [Act.put, List.setIfInBounds_toArray, List.set_cons_zero, List.set_cons_succ])
              refine man_take 20 199 (v := ?_) ⟨_, rfl, rfl⟩ (by as_aux_lemma => kernel_rfl) (by as_aux_lemma => kernel_rfl) (by as_aux_lemma => kernel_rfl) (fun _ _ _ h => h) (by assumption) ?_ ?_
              rotate_left
              · intro oi ho; cases ho; refine ⟨by rfl, ?_⟩; intro w hSw; (try dsimp only at hSw); go_simp; try with_reducible rfl
              (try simp only [Act.put, List.setIfInBounds_toArray, List.set_cons_zero, List.set_cons_succ])
              refine man_take 21 200 (v := ?_) ⟨_, rfl, rfl⟩ (by as_aux_lemma => kernel_rfl) (by as_aux_lemma => kernel_rfl) (by as_aux_lemma => kernel_rfl) (fun _ _ _ h => h) (by assumption) ?_ ?_
              rotate_left
              · intro oi ho; cases ho; refine ⟨by rfl, ?_⟩; intro w hSw; (try dsimp only at hSw); go_simp; try with_reducible rfl
              (try simp only [Act.put, List.setIfInBounds_toArray, List.set_cons_zero, List.set_cons_succ])
              refine man_take 22 201 (v := ?_) ⟨_, rfl, rfl⟩ (by as_aux_lemma => kernel_rfl) (by as_aux_lemma => kernel_rfl) (by as_aux_lemma => kernel_rfl) (fun _ _ _ h => h) (by assumption) ?_ ?_
              rotate_left
              · intro oi ho; cases ho; refine ⟨by rfl, ?_⟩; intro w hSw; (try dsimp only at hSw); go_simp; try with_reducible rfl
              (try simp only [Act.put, List.setIfInBounds_toArray, List.set_cons_zero, List.set_cons_succ])
              refine man_take 23 202 (v := ?_) ⟨_, rfl, rfl⟩ (by as_aux_lemma => kernel_rfl) (by as_aux_lemma => kernel_rfl) (by as_aux_lemma => kernel_rfl) (fun _ _ _ h => h) (by assumption) ?_ ?_
              rotate_left
              · intro oi ho; cases ho; refine ⟨by rfl, ?_⟩; intro w hSw; (try dsimp only at hSw); go_simp; try with_reducible rfl
              (try simp only [Act.put, List.setIfInBounds_toArray, List.set_cons_zero, List.set_cons_succ])
              refine man_take 24 203 (v := ?_) ⟨_, rfl, rfl⟩ (by as_aux_lemma => kernel_rfl) (by as_aux_lemma => kernel_rfl) (by as_aux_lemma => kernel_rfl) (fun _ _ _ h => h) (by assumption) ?_ ?_
              rotate_left
              · intro oi ho; cases ho; refine ⟨by rfl, ?_⟩; intro w hSw; (try dsimp only at hSw); go_simp; try with_reducible rfl
              (try simp only [Act.put, List.setIfInBounds_toArray, List.set_cons_zero, List.set_cons_succ])
              refine man_take 25 204 (v := ?_) ⟨_, rfl, rfl⟩ (by as_aux_lemma => kernel_rfl) (by as_aux_lemma => kernel_rfl) (by as_aux_lemma => kernel_rfl) (fun _ _ _ h => h) (by assumption) ?_ ?_
              rotate_left
              · intro oi ho; cases ho; refine ⟨by rfl, ?_⟩; intro w hSw; (try dsimp only at hSw); go_simp; try with_reducible rfl
              (try simp only [Act.put, List.setIfInBounds_toArray, List.set_cons_zero, List.set_cons_succ])
              refine man_take 26 205 (v := ?_) ⟨_, rfl, rfl⟩ (by as_aux_lemma => kernel_rfl) (by as_aux_lemma => kernel_rfl) (by as_aux_lemma => kernel_rfl) (fun _ _ _ h => h) (by assumption) ?_ ?_
              rotate_left
              · intro oi ho; cases ho; refine ⟨by rfl, ?_⟩; intro w hSw; (try dsimp only at hSw); go_simp; try with_reducible rfl
              (try simp only [Act.put, List.setIfInBounds_toArray, List.set_cons_zero, List.set_cons_succ])
              refine man_take 27 206 (v := ?_) ⟨_, rfl, rfl⟩ (by as_aux_lemma => kernel_rfl) (by as_aux_lemma => kernel_rfl) (by as_aux_lemma => kernel_rfl) (fun _ _ _ h => h) (by assumption) ?_ ?_
              rotate_left
              · intro oi ho; cases ho; refine ⟨by rfl, ?_⟩; intro w hSw; (try dsimp only at hSw); go_simp; try with_reducible rfl
              (try simp only [Act.put, List.setIfInBounds_toArray, List.set_cons_zero, List.set_cons_succ])
              refine man_take 28 207 (v := ?_) ⟨_, rfl, rfl⟩ (by as_aux_lemma => kernel_rfl) (by as_aux_lemma => kernel_rfl) (by as_aux_lemma => kernel_rfl) (fun _ _ _ h => h) (by assumption) ?_ ?_
              rotate_left
              · intro oi ho; cases ho; refine ⟨by rfl, ?_⟩; intro w hSw; (try dsimp only at hSw); go_simp; try with_reducible rfl
              (try simp only [Act.put, List.setIfInBounds_toArray, List.set_cons_zero, List.set_cons_succ])
              refine man_take 29 208 (v := ?_) ⟨_, rfl, rfl⟩ (by as_aux_lemma => kernel_rfl) (by as_aux_lemma => kernel_rfl) (by as_aux_lemma => kernel_rfl) (fun _ _ _ h => h) (by assumption) ?_ ?_
              rotate_left
              · intro oi ho; cases ho; refine ⟨by rfl, ?_⟩; intro w hSw; (try dsimp only at hSw); go_simp; try with_reducible rfl
              (try simp only [Act.put, List.setIfInBounds_toArray, List.set_cons_zero, List.set_cons_succ])
              refine man_take 30 209 (v := ?_) ⟨_, rfl, rfl⟩ (by as_aux_lemma => kernel_rfl) (by as_aux_lemma => kernel_rfl) (by as_aux_lemma => kernel_rfl) (fun _ _ _ h => h) (by assumption) ?_ ?_
              rotate_left
              · intro oi ho; cases ho; refine ⟨by rfl, ?_⟩; intro w hSw; (try dsimp only at hSw); go_simp; try with_reducible rfl
              (try simp only [Act.put, List.setIfInBounds_toArray, List.set_cons_zero, List.set_cons_succ])
              refine wpAnyH_done (by kernel_rfl) ?_ _
              go_wp2_with fail
              refine wp_region_held_drew (S := (fun u : World => u.cell? ⟨w.heap.size, 2, none⟩ = some (.slice (some ⟨bA, oA, none⟩) (h * a) c) ∧ u.cell? ⟨bA, oA + z, none⟩ = some (.bool false) ∧ u.cell? ⟨(w.heap.size + 1), 2, none⟩ = some (.slice (some ⟨bM, oM, none⟩) (h * a) cm) ∧ u.cell? ⟨bM, oM + z, none⟩ = some (.int .i64 mv) ∧ u.cell? ⟨w2.heap.size, 2, none⟩ = some (.slice (some ⟨gc, 0, none⟩) (h * a) cc) ∧ u.cell? ⟨gc, z, none⟩ = some (.bool true) ∧ u.cell? ⟨w7.heap.size, 2, none⟩ = some (.slice (some ⟨gq, 0, none⟩) (h * a) cq7) ∧ u.cell? ⟨gq, z, none⟩ = some (.int .i64 qv) ∧ u.cell? ⟨w8.heap.size, 2, none⟩ = some (.slice (some ⟨ge, 0, none⟩) (h * a) ce) ∧ u.cell? ⟨ge, z, none⟩ = some (.bool true))) (by kernel_rfl) ?_ (fun hHeld => ?_)
              · (try dsimp only); exact kA2.out
              refine man_take 0 210 (v := ?_) ⟨_, rfl, rfl⟩ (by as_aux_lemma => kernel_rfl) (by as_aux_lemma => kernel_rfl) (by as_aux_lemma => kernel_rfl) (fun _ _ _ h => h) (by assumption) ?_ ?_
              rotate_left
              · intro oi ho; cases ho; refine ⟨by rfl, ?_⟩; intro w hSw; (try dsimp only at hSw); go_simp; try with_reducible rfl
              (try simp only [Act.put, List.setIfInBounds_toArray, List.set_cons_zero, List.set_cons_succ])
              refine man_take 1 211 (v := ?_) ⟨_, rfl, rfl⟩ (by as_aux_lemma => kernel_rfl) (by as_aux_lemma => kernel_rfl) (by as_aux_lemma => kernel_rfl) (fun _ _ _ h => h) (by assumption) ?_ ?_
              rotate_left
              · intro oi ho; cases ho; refine ⟨by rfl, ?_⟩; intro w hSw; (try dsimp only at hSw); go_simp; try with_reducible rfl
              (try simp only [Act.put, List.setIfInBounds_toArray, List.set_cons_zero, List.set_cons_succ])
              refine man_take 2 212 (v := ?_) ⟨_, rfl, rfl⟩ (by as_aux_lemma => kernel_rfl) (by as_aux_lemma => kernel_rfl) (by as_aux_lemma => kernel_rfl) (fun _ _ _ h => h) (by assumption) ?_ ?_
              rotate_left
              · intro oi ho; cases ho; refine ⟨by rfl, ?_⟩; intro w hSw; (try dsimp only at hSw); go_simp; try with_reducible rfl
              (try simp only [Act.put, List.setIfInBounds_toArray, List.set_cons_zero, List.set_cons_succ])
              refine man_take 3 213 (v := ?_) ⟨_, rfl, rfl⟩ (by as_aux_lemma => kernel_rfl) (by as_aux_lemma => kernel_rfl) (by as_aux_lemma => kernel_rfl) (fun _ _ _ h => h) (by assumption) ?_ ?_
              rotate_left
              · intro oi ho; cases ho; refine ⟨by rfl, ?_⟩; intro w hSw; (try dsimp only at hSw); go_simp; try with_reducible rfl
              (try simp only [Act.put, List.setIfInBounds_toArray, List.set_cons_zero, List.set_cons_succ])
              refine man_take 4 214 (v := ?_) ⟨_, rfl, rfl⟩ (by as_aux_lemma => kernel_rfl) (by as_aux_lemma => kernel_rfl) (by as_aux_lemma => kernel_rfl) (fun _ _ _ h => h) (by assumption) ?_ ?_
              rotate_left
              · intro oi ho; cases ho; refine ⟨by rfl, ?_⟩; intro w hSw; (try dsimp only at hSw); go_simp; try with_reducible rfl
              (try simp only [Act.put, List.setIfInBounds_toArray, List.set_cons_zero, List.set_cons_succ])
              refine man_take 5 215 (v := ?_) ⟨_, rfl, rfl⟩ (by as_aux_lemma => kernel_rfl) (by as_aux_lemma => kernel_rfl) (by as_aux_lemma => kernel_rfl) (fun _ _ _ h => h) (by assumption) ?_ ?_
              rotate_left
              · intro oi ho; cases ho; refine ⟨by rfl, ?_⟩; intro w hSw; (try dsimp only at hSw); go_simp; try with_reducible rfl
              (try simp only [Act.put, List.setIfInBounds_toArray, List.set_cons_zero, List.set_cons_succ])
              refine man_take 6 216 (v := ?_) ⟨_, rfl, rfl⟩ (by as_aux_lemma => kernel_rfl) (by as_aux_lemma => kernel_rfl) (by as_aux_lemma => kernel_rfl) (fun _ _ _ h => h) (by assumption) ?_ ?_
              rotate_left
              · intro oi ho; cases ho; refine ⟨by rfl, ?_⟩; intro w hSw; (try dsimp only at hSw); go_simp; try with_reducible rfl
              (try simp only [Act.put, List.setIfInBounds_toArray, List.set_cons_zero, List.set_cons_succ])
              refine man_take 7 217 (v := ?_) ⟨_, rfl, rfl⟩ (by as_aux_lemma => kernel_rfl) (by as_aux_lemma => kernel_rfl) (by as_aux_lemma => kernel_rfl) (fun _ _ _ h => h) (by assumption) ?_ ?_
              rotate_left
              · intro oi ho; cases ho; refine ⟨by rfl, ?_⟩; intro w hSw; (try dsimp only at hSw); go_simp; try with_reducible rfl
              (try simp only [Act.put, List.setIfInBounds_toArray, List.set_cons_zero, List.set_cons_succ])
              refine man_take 8 218 (v := ?_) ⟨_, rfl, rfl⟩ (by as_aux_lemma => kernel_rfl) (by as_aux_lemma => kernel_rfl) (by as_aux_lemma => kernel_rfl) (fun _ _ _ h => h) (by assumption) ?_ ?_
              rotate_left
              · intro oi ho; cases ho; refine ⟨by rfl, ?_⟩; intro w hSw; (try dsimp only at hSw); go_simp; try with_reducible rfl
              (try simp only [Act.put, List.setIfInBounds_toArray, List.set_cons_zero, List.set_cons_succ])
              refine man_take 9 219 (v := ?_) ⟨_, rfl, rfl⟩ (by as_aux_lemma => kernel_rfl) (by as_aux_lemma => kernel_rfl) (by as_aux_lemma => kernel_rfl) (fun _ _ _ h => h) (by assumption) ?_ ?_
              rotate_left
              · intro oi ho; cases ho; refine ⟨by rfl, ?_⟩; intro w hSw; (try dsimp only at hSw); go_simp; try with_reducible rfl
              (try simp only [Act.put, List.setIfInBounds_toArray, List.set_cons_zero, List.set_cons_succ])
              refine man_take 10 220 (v := ?_) ⟨_, rfl, rfl⟩ (by as_aux_lemma => kernel_rfl) (by as_aux_lemma => kernel_rfl) (by as_aux_lemma => kernel_rfl) (fun _ _ _ h => h) (by assumption) ?_ ?_
              rotate_left
              · intro oi ho; cases ho; refine ⟨by rfl, ?_⟩; intro w hSw; (try dsimp only at hSw); go_simp; try with_reducible rfl
              (try simp only [Act.put, List.setIfInBounds_toArray, List.set_cons_zero, List.set_cons_succ])
              refine wpAnyH_done (by kernel_rfl) ?_ _
              have T3 := T.drew.drew
              clear kA kA2
              go_wp2_with fail
              go_roundw
              case rel => exact ⟨z + 1, by omega, by rw [HD1.out]; push_cast; rfl, by go_num, T3⟩
              case measure => simp [intOf]; omega
          · replace HD0 := Lib.hid (HD0.out rfl)
            replace HFZ := HFZ.out
            rw [show (true != true) = false from rfl, Bool.false_and] at HFZ
            go_wp2_with fail
            refine wp_region_held_drew (S := (fun u : World => u.cell? ⟨w.heap.size, 2, none⟩ = some (.slice (some ⟨bA, oA, none⟩) (h * a) c) ∧ u.cell? ⟨bA, oA + z, none⟩ = some (.bool true) ∧ u.cell? ⟨(w.heap.size + 1), 2, none⟩ = some (.slice (some ⟨bM, oM, none⟩) (h * a) cm) ∧ u.cell? ⟨bM, oM + z, none⟩ = some (.int .i64 mv) ∧ u.cell? ⟨w2.heap.size, 2, none⟩ = some (.slice (some ⟨gc, 0, none⟩) (h * a) cc) ∧ u.cell? ⟨gc, z, none⟩ = some (.bool true) ∧ u.cell? ⟨w7.heap.size, 2, none⟩ = some (.slice (some ⟨gq, 0, none⟩) (h * a) cq7) ∧ u.cell? ⟨gq, z, none⟩ = some (.int .i64 qv) ∧ u.cell? ⟨w8.heap.size, 2, none⟩ = some (.slice (some ⟨ge, 0, none⟩) (h * a) ce) ∧ u.cell? ⟨ge, z, none⟩ = some (.bool ev))) (by kernel_rfl) ?_ (fun hHeld => ?_)
            · (try dsimp only); exact kA.out
            refine man_take 0 179 (v := ?_) ⟨_, rfl, rfl⟩ (by as_aux_lemma => kernel_rfl) (by as_aux_lemma => kernel_rfl) (by as_aux_lemma => kernel_rfl) (fun _ _ _ h => h) (by assumption) ?_ ?_
            rotate_left
            · intro oi ho; cases ho; refine ⟨by rfl, ?_⟩; intro w hSw; (try dsimp only at hSw); go_simp; try with_reducible rfl
            (try simp only [Act.put, List.setIfInBounds_toArray, List.set_cons_zero, List.set_cons_succ])
            refine man_take 1 180 (v := ?_) ⟨_, rfl, rfl⟩ (by as_aux_lemma => kernel_rfl) (by as_aux_lemma => kernel_rfl) (by as_aux_lemma => kernel_rfl) (fun _ _ _ h => h) (by assumption) ?_ ?_
            rotate_left
            · intro oi ho; cases ho; refine ⟨by rfl, ?_⟩; intro w hSw; (try dsimp only at hSw); go_simp; try with_reducible rfl
            (try simp only [Act.put, List.setIfInBounds_toArray, List.set_cons_zero, List.set_cons_succ])
            refine man_take 2 181 (v := ?_) ⟨_, rfl, rfl⟩ (by as_aux_lemma => kernel_rfl) (by as_aux_lemma => kernel_rfl) (by as_aux_lemma => kernel_rfl) (fun _ _ _ h => h) (by assumption) ?_ ?_
            rotate_left
            · intro oi ho; cases ho; refine ⟨by rfl, ?_⟩; intro w hSw; (try dsimp only at hSw); go_simp; try with_reducible rfl
            (try simp only [Act.put, List.setIfInBounds_toArray, List.set_cons_zero, List.set_cons_succ])
            refine man_take 3 182 (v := ?_) ⟨_, rfl, rfl⟩ (by as_aux_lemma => kernel_rfl) (by as_aux_lemma => kernel_rfl) (by as_aux_lemma => kernel_rfl) (fun _ _ _ h => h) (by assumption) ?_ ?_
            rotate_left
            · intro oi ho; cases ho; refine ⟨by rfl, ?_⟩; intro w hSw; (try dsimp only at hSw); go_simp; try with_reducible rfl
            (try simp only [Act.put, List.setIfInBounds_toArray, List.set_cons_zero, List.set_cons_succ])
            refine man_take 4 183 (v := ?_) ⟨_, rfl, rfl⟩ (by as_aux_lemma => kernel_rfl) (by as_aux_lemma => kernel_rfl) (by as_aux_lemma => kernel_rfl) (fun _ _ _ h => h) (by assumption) ?_ ?_
            rotate_left
            · intro oi ho; cases ho; refine ⟨by rfl, ?_⟩; intro w hSw; (try dsimp only at hSw); go_simp; try with_reducible rfl
            (try simp only [Act.put, List.setIfInBounds_toArray, List.set_cons_zero, List.set_cons_succ])
            refine man_take 5 184 (v := ?_) ⟨_, rfl, rfl⟩ (by as_aux_lemma => kernel_rfl) (by as_aux_lemma => kernel_rfl) (by as_aux_lemma => kernel_rfl) (fun _ _ _ h => h) (by assumption) ?_ ?_
            rotate_left
            · intro oi ho; cases ho; refine ⟨by rfl, ?_⟩; intro w hSw; (try dsimp only at hSw); go_simp; try with_reducible rfl
            (try simp only [Act.put, List.setIfInBounds_toArray, List.set_cons_zero, List.set_cons_succ])
            refine man_take 6 185 (v := ?_) ⟨_, rfl, rfl⟩ (by as_aux_lemma => kernel_rfl) (by as_aux_lemma => kernel_rfl) (by as_aux_lemma => kernel_rfl) (fun _ _ _ h => h) (by assumption) ?_ ?_
            rotate_left
            · intro oi ho; cases ho; refine ⟨by rfl, ?_⟩; intro w hSw; (try dsimp only at hSw); go_simp; try with_reducible rfl
            (try simp only [Act.put, List.setIfInBounds_toArray, List.set_cons_zero, List.set_cons_succ])
            refine man_take 7 186 (v := ?_) ⟨_, rfl, rfl⟩ (by as_aux_lemma => kernel_rfl) (by as_aux_lemma => kernel_rfl) (by as_aux_lemma => kernel_rfl) (fun _ _ _ h => h) (by assumption) ?_ ?_
            rotate_left
            · intro oi ho; cases ho; refine ⟨by rfl, ?_⟩; intro w hSw; (try dsimp only at hSw); go_simp; try with_reducible rfl
            (try simp only [Act.put, List.setIfInBounds_toArray, List.set_cons_zero, List.set_cons_succ])
            refine man_take 8 187 (v := ?_) ⟨_, rfl, rfl⟩ (by as_aux_lemma => kernel_rfl) (by as_aux_lemma => kernel_rfl) (by as_aux_lemma => kernel_rfl) (fun _ _ _ h => h) (by assumption) ?_ ?_
            rotate_left
            · intro oi ho; cases ho; refine ⟨by rfl, ?_⟩; intro w hSw; (try dsimp only at hSw); go_simp; try with_reducible rfl
            (try simp only [Act.put, List.setIfInBounds_toArray, List.set_cons_zero, List.set_cons_succ])
            refine man_take 9 188 (v := ?_) ⟨_, rfl, rfl⟩ (by as_aux_lemma => kernel_rfl) (by as_aux_lemma => kernel_rfl) (by as_aux_lemma => kernel_rfl) (fun _ _ _ h => h) (by assumption) ?_ ?_
            rotate_left
            · intro oi ho; cases ho; refine ⟨by rfl, ?_⟩; intro w hSw; (try dsimp only at hSw); go_simp; try with_reducible rfl
            (try simp only [Act.put, List.setIfInBounds_toArray, List.set_cons_zero, List.set_cons_succ])
            refine man_take 10 189 (v := ?_) ⟨_, rfl, rfl⟩ (by as_aux_lemma => kernel_rfl) (by as_aux_lemma => kernel_rfl) (by as_aux_lemma => kernel_rfl) (fun _ _ _ h => h) (by assumption) ?_ ?_
            rotate_left
            · intro oi ho; cases ho; refine ⟨by rfl, ?_⟩; intro w hSw; (try dsimp only at hSw); go_simp; try with_reducible rfl
            (try simp only [Act.put, List.setIfInBounds_toArray, List.set_cons_zero, List.set_cons_succ])
            refine man_take 11 190 (v := ?_) ⟨_, rfl, rfl⟩ (by as_aux_lemma => kernel_rfl) (by as_aux_lemma => kernel_rfl) (by as_aux_lemma => kernel_rfl) (fun _ _ _ h => h) (by assumption) ?_ ?_
            rotate_left
            · intro oi ho; cases ho; refine ⟨by rfl, ?_⟩; intro w hSw; (try dsimp only at hSw); go_simp; try with_reducible rfl
            (try simp only [Act.put, List.setIfInBounds_toArray, List.set_cons_zero, List.set_cons_succ])
            refine man_take 12 191 (v := ?_) ⟨_, rfl, rfl⟩ (by as_aux_lemma => kernel_rfl) (by as_aux_lemma => kernel_rfl) (by as_aux_lemma => kernel_rfl) (fun _ _ _ h => h) (by assumption) ?_ ?_
            rotate_left
            · intro oi ho; cases ho; refine ⟨by rfl, ?_⟩; intro w hSw; (try dsimp only at hSw); go_simp; try with_reducible rfl
            (try simp only [Act.put, List.setIfInBounds_toArray, List.set_cons_zero, List.set_cons_succ])
            refine man_take 13 192 (v := ?_) ⟨_, rfl, rfl⟩ (by as_aux_lemma => kernel_rfl) (by as_aux_lemma => kernel_rfl) (by as_aux_lemma => kernel_rfl) (fun _ _ _ h => h) (by assumption) ?_ ?_
            rotate_left
            · intro oi ho; cases ho; refine ⟨by rfl, ?_⟩; intro w hSw; (try dsimp only at hSw); go_simp; try with_reducible rfl
            (try simp only [Act.put, List.setIfInBounds_toArray, List.set_cons_zero, List.set_cons_succ])
            refine man_take 14 193 (v := ?_) ⟨_, rfl, rfl⟩ (by as_aux_lemma => kernel_rfl) (by as_aux_lemma => kernel_rfl) (by as_aux_lemma => kernel_rfl) (fun _ _ _ h => h) (by assumption) ?_ ?_
            rotate_left
            · intro oi ho; cases ho; refine ⟨by rfl, ?_⟩; intro w hSw; (try dsimp only at hSw); go_simp; try with_reducible rfl
            (try simp only [Act.put, List.setIfInBounds_toArray, List.set_cons_zero, List.set_cons_succ])
            refine man_take 15 194 (v := ?_) ⟨_, rfl, rfl⟩ (by as_aux_lemma => kernel_rfl) (by as_aux_lemma => kernel_rfl) (by as_aux_lemma => kernel_rfl) (fun _ _ _ h => h) (by assumption) ?_ ?_
            rotate_left
            · intro oi ho; cases ho; refine ⟨by rfl, ?_⟩; intro w hSw; (try dsimp only at hSw); go_simp; try with_reducible rfl
            (try simp only [Act.put, List.setIfInBounds_toArray, List.set_cons_zero, List.set_cons_succ])
            refine man_take 16 195 (v := ?_) ⟨_, rfl, rfl⟩ (by as_aux_lemma => kernel_rfl) (by as_aux_lemma => kernel_rfl) (by as_aux_lemma => kernel_rfl) (fun _ _ _ h => h) (by assumption) ?_ ?_
            rotate_left
            · intro oi ho; cases ho; refine ⟨by rfl, ?_⟩; intro w hSw; (try dsimp only at hSw); go_simp; try with_reducible rfl
            (try simp only [Act.put, List.setIfInBounds_toArray, List.set_cons_zero, List.set_cons_succ])
            refine man_take 17 196 (v := ?_) ⟨_, rfl, rfl⟩ (by as_aux_lemma => kernel_rfl) (by as_aux_lemma => kernel_rfl) (by as_aux_lemma => kernel_rfl) (fun _ _ _ h => h) (by assumption) ?_ ?_
            rotate_left
            · intro oi ho; cases ho; refine ⟨by rfl, ?_⟩; intro w hSw; (try dsimp only at hSw); go_simp; try with_reducible rfl
            (try simp only [Act.put, List.setIfInBounds_toArray, List.set_cons_zero, List.set_cons_succ])
            refine man_take 18 197 (v := ?_) ⟨_, rfl, rfl⟩ (by as_aux_lemma => kernel_rfl) (by as_aux_lemma => kernel_rfl) (by as_aux_lemma => kernel_rfl) (fun _ _ _ h => h) (by assumption) ?_ ?_
            rotate_left
            · intro oi ho; cases ho; refine ⟨by rfl, ?_⟩; intro w hSw; (try dsimp only at hSw); go_simp; try with_reducible rfl
            (try simp only [Act.put, List.setIfInBounds_toArray, List.set_cons_zero, List.set_cons_succ])
            refine man_take 19 198 (v := ?_) ⟨_, rfl, rfl⟩ (by as_aux_lemma => kernel_rfl) (by as_aux_lemma => kernel_rfl) (by as_aux_lemma => kernel_rfl) (fun _ _ _ h => h) (by assumption) ?_ ?_
            rotate_left
            · intro oi ho; cases ho; refine ⟨by rfl, ?_⟩; intro w hSw; (try dsimp only at hSw); go_simp; try with_reducible rfl
            (try simp only [Act.put, List.setIfInBounds_toArray, List.set_cons_zero, List.set_cons_succ])
            refine man_take 20 199 (v := ?_) ⟨_, rfl, rfl⟩ (by as_aux_lemma => kernel_rfl) (by as_aux_lemma => kernel_rfl) (by as_aux_lemma => kernel_rfl) (fun _ _ _ h => h) (by assumption) ?_ ?_
            rotate_left
            · intro oi ho; cases ho; refine ⟨by rfl, ?_⟩; intro w hSw; (try dsimp only at hSw); go_simp; try with_reducible rfl
            (try simp only [Act.put, List.setIfInBounds_toArray, List.set_cons_zero, List.set_cons_succ])
            refine man_take 21 200 (v := ?_) ⟨_, rfl, rfl⟩ (by as_aux_lemma => kernel_rfl) (by as_aux_lemma => kernel_rfl) (by as_aux_lemma => kernel_rfl) (fun _ _ _ h => h) (by assumption) ?_ ?_
            rotate_left
            · intro oi ho; cases ho; refine ⟨by rfl, ?_⟩; intro w hSw; (try dsimp only at hSw); go_simp; try with_reducible rfl
            (try simp only [Act.put, List.setIfInBounds_toArray, List.set_cons_zero, List.set_cons_succ])
            refine man_take 22 201 (v := ?_) ⟨_, rfl, rfl⟩ (by as_aux_lemma => kernel_rfl) (by as_aux_lemma => kernel_rfl) (by as_aux_lemma => kernel_rfl) (fun _ _ _ h => h) (by assumption) ?_ ?_
            rotate_left
            · intro oi ho; cases ho; refine ⟨by rfl, ?_⟩; intro w hSw; (try dsimp only at hSw); go_simp; try with_reducible rfl
            (try simp only [Act.put, List.setIfInBounds_toArray, List.set_cons_zero, List.set_cons_succ])
            refine man_skip 23 202 ⟨_, rfl, rfl⟩ (by as_aux_lemma => kernel_rfl) (by as_aux_lemma => kernel_rfl) (by as_aux_lemma => kernel_rfl) (fun _ _ _ h => h) (by assumption) ?_ ?_
            · intro oi ho; cases ho; rfl
            (try simp only [Act.put, List.setIfInBounds_toArray, List.set_cons_zero, List.set_cons_succ])
            refine man_skip 24 203 ⟨_, rfl, rfl⟩ (by as_aux_lemma => kernel_rfl) (by as_aux_lemma => kernel_rfl) (by as_aux_lemma => kernel_rfl) (fun _ _ _ h => h) (by assumption) ?_ ?_
            · intro oi ho; cases ho; rfl
            (try simp only [Act.put, List.setIfInBounds_toArray, List.set_cons_zero, List.set_cons_succ])
            refine man_skip 25 204 ⟨_, rfl, rfl⟩ (by as_aux_lemma => kernel_rfl) (by as_aux_lemma => kernel_rfl) (by as_aux_lemma => kernel_rfl) (fun _ _ _ h => h) (by assumption) ?_ ?_
            · intro oi ho; cases ho; rfl
            (try simp only [Act.put, List.setIfInBounds_toArray, List.set_cons_zero, List.set_cons_succ])
            refine man_skip 26 205 ⟨_, rfl, rfl⟩ (by as_aux_lemma => kernel_rfl) (by as_aux_lemma => kernel_rfl) (by as_aux_lemma => kernel_rfl) (fun _ _ _ h => h) (by assumption) ?_ ?_
            · intro oi ho; cases ho; rfl
            (try simp only [Act.put, List.setIfInBounds_toArray, List.set_cons_zero, List.set_cons_succ])
            refine man_skip 27 206 ⟨_, rfl, rfl⟩ (by as_aux_lemma => kernel_rfl) (by as_aux_lemma => kernel_rfl) (by as_aux_lemma => kernel_rfl) (fun _ _ _ h => h) (by assumption) ?_ ?_
            · intro oi ho; cases ho; rfl
            (try simp only [Act.put, List.setIfInBounds_toArray, List.set_cons_zero, List.set_cons_succ])
            refine man_skip 28 207 ⟨_, rfl, rfl⟩ (by as_aux_lemma => kernel_rfl) (by as_aux_lemma => kernel_rfl) (by as_aux_lemma => kernel_rfl) (fun _ _ _ h => h) (by assumption) ?_ ?_
            · intro oi ho; cases ho; rfl
            (try simp only [Act.put, List.setIfInBounds_toArray, List.set_cons_zero, List.set_cons_succ])
            refine man_take 29 208 (v := ?_) ⟨_, rfl, rfl⟩ (by as_aux_lemma => kernel_rfl) (by as_aux_lemma => kernel_rfl) (by as_aux_lemma => kernel_rfl) (fun _ _ _ h => h) (by assumption) ?_ ?_
            rotate_left
            · intro oi ho; cases ho; refine ⟨by rfl, ?_⟩; intro w hSw; (try dsimp only at hSw); go_simp; try with_reducible rfl
            (try simp only [Act.put, List.setIfInBounds_toArray, List.set_cons_zero, List.set_cons_succ])
            refine man_take 30 209 (v := ?_) ⟨_, rfl, rfl⟩ (by as_aux_lemma => kernel_rfl) (by as_aux_lemma => kernel_rfl) (by as_aux_lemma => kernel_rfl) (fun _ _ _ h => h) (by assumption) ?_ ?_
            rotate_left
            · intro oi ho; cases ho; refine ⟨by rfl, ?_⟩; intro w hSw; (try dsimp only at hSw); go_simp; try with_reducible rfl
            (try simp only [Act.put, List.setIfInBounds_toArray, List.set_cons_zero, List.set_cons_succ])
            refine wpAnyH_done (by kernel_rfl) ?_ _
            go_wp2_with fail
            refine wp_region_held_drew (S := (fun u : World => u.cell? ⟨w.heap.size, 2, none⟩ = some (.slice (some ⟨bA, oA, none⟩) (h * a) c) ∧ u.cell? ⟨bA, oA + z, none⟩ = some (.bool true) ∧ u.cell? ⟨(w.heap.size + 1), 2, none⟩ = some (.slice (some ⟨bM, oM, none⟩) (h * a) cm) ∧ u.cell? ⟨bM, oM + z, none⟩ = some (.int .i64 mv) ∧ u.cell? ⟨w2.heap.size, 2, none⟩ = some (.slice (some ⟨gc, 0, none⟩) (h * a) cc) ∧ u.cell? ⟨gc, z, none⟩ = some (.bool true) ∧ u.cell? ⟨w7.heap.size, 2, none⟩ = some (.slice (some ⟨gq, 0, none⟩) (h * a) cq7) ∧ u.cell? ⟨gq, z, none⟩ = some (.int .i64 qv) ∧ u.cell? ⟨w8.heap.size, 2, none⟩ = some (.slice (some ⟨ge, 0, none⟩) (h * a) ce) ∧ u.cell? ⟨ge, z, none⟩ = some (.bool ev))) (by kernel_rfl) ?_ (fun hHeld => ?_)
            · (try dsimp only); exact kA2.out
            refine man_take 0 210 (v := ?_) ⟨_, rfl, rfl⟩ (by as_aux_lemma => kernel_rfl) (by as_aux_lemma => kernel_rfl) (by as_aux_lemma => kernel_rfl) (fun _ _ _ h => h) (by assumption) ?_ ?_
            rotate_left
            · intro oi ho; cases ho; refine ⟨by rfl, ?_⟩; intro w hSw; (try dsimp only at hSw); go_simp; try with_reducible rfl
            (try simp only [Act.put, List.setIfInBounds_toArray, List.set_cons_zero, List.set_cons_succ])
            refine man_take 1 211 (v := ?_) ⟨_, rfl, rfl⟩ (by as_aux_lemma => kernel_rfl) (by as_aux_lemma => kernel_rfl) (by as_aux_lemma => kernel_rfl) (fun _ _ _ h => h) (by assumption) ?_ ?_
            rotate_left
            · intro oi ho; cases ho; refine ⟨by rfl, ?_⟩; intro w hSw; (try dsimp only at hSw); go_simp; try with_reducible rfl
            (try simp only [Act.put, List.setIfInBounds_toArray, List.set_cons_zero, List.set_cons_succ])
            refine man_take 2 212 (v := ?_) ⟨_, rfl, rfl⟩ (by as_aux_lemma => kernel_rfl) (by as_aux_lemma => kernel_rfl) (by as_aux_lemma => kernel_rfl) (fun _ _ _ h => h) (by assumption) ?_ ?_
            rotate_left
            · intro oi ho; cases ho; refine ⟨by rfl, ?_⟩; intro w hSw; (try dsimp only at hSw); go_simp; try with_reducible rfl
            (try simp only [Act.put, List.setIfInBounds_toArray, List.set_cons_zero, List.set_cons_succ])
            refine man_take 3 213 (v := ?_) ⟨_, rfl, rfl⟩ (by as_aux_lemma => kernel_rfl) (by as_aux_lemma => kernel_rfl) (by as_aux_lemma => kernel_rfl) (fun _ _ _ h => h) (by assumption) ?_ ?_
            rotate_left
            · intro oi ho; cases ho; refine ⟨by rfl, ?_⟩; intro w hSw; (try dsimp only at hSw); go_simp; try with_reducible rfl
            (try simp only [Act.put, List.setIfInBounds_toArray, List.set_cons_zero, List.set_cons_succ])
            refine man_take 4 214 (v := ?_) ⟨_, rfl, rfl⟩ (by as_aux_lemma => kernel_rfl) (by as_aux_lemma => kernel_rfl) (by as_aux_lemma => kernel_rfl) (fun _ _ _ h => h) (by assumption) ?_ ?_
            rotate_left
            · intro oi ho; cases ho; refine ⟨by rfl, ?_⟩; intro w hSw; (try dsimp only at hSw); go_simp; try with_reducible rfl
            (try simp only [Act.put, List.setIfInBounds_toArray, List.set_cons_zero, List.set_cons_succ])
            refine man_take 5 215 (v := ?_) ⟨_, rfl, rfl⟩ (by as_aux_lemma => kernel_rfl) (by as_aux_lemma => kernel_rfl) (by as_aux_lemma => kernel_rfl) (fun _ _ _ h => h) (by assumption) ?_ ?_
            rotate_left
            · intro oi ho; cases ho; refine ⟨by rfl, ?_⟩; intro w hSw; (try dsimp only at hSw); go_simp; try with_reducible rfl
            (try simp only [Act.put, List.setIfInBounds_toArray, List.set_cons_zero, List.set_cons_succ])
            refine man_take 6 216 (v := ?_) ⟨_, rfl, rfl⟩ (by as_aux_lemma => kernel_rfl) (by as_aux_lemma => kernel_rfl) (by as_aux_lemma => kernel_rfl) (fun _ _ _ h => h) (by assumption) ?_ ?_
            rotate_left
            · intro oi ho; cases ho; refine ⟨by rfl, ?_⟩; intro w hSw; (try dsimp only at hSw); go_simp; try with_reducible rfl
            (try simp only [Act.put, List.setIfInBounds_toArray, List.set_cons_zero, List.set_cons_succ])
            refine man_take 7 217 (v := ?_) ⟨_, rfl, rfl⟩ (by as_aux_lemma => kernel_rfl) (by as_aux_lemma => kernel_rfl) (by as_aux_lemma => kernel_rfl) (fun _ _ _ h => h) (by assumption) ?_ ?_
            rotate_left
            · intro oi ho; cases ho; refine ⟨by rfl, ?_⟩; intro w hSw; (try dsimp only at hSw); go_simp; try with_reducible rfl
            (try simp only [Act.put, List.setIfInBounds_toArray, List.set_cons_zero, List.set_cons_succ])
            refine man_take 8 218 (v := ?_) ⟨_, rfl, rfl⟩ (by as_aux_lemma => kernel_rfl) (by as_aux_lemma => kernel_rfl) (by as_aux_lemma => kernel_rfl) (fun _ _ _ h => h) (by assumption) ?_ ?_
            rotate_left
            · intro oi ho; cases ho; refine ⟨by rfl, ?_⟩; intro w hSw; (try dsimp only at hSw); go_simp; try with_reducible rfl
            (try simp only [Act.put, List.setIfInBounds_toArray, List.set_cons_zero, List.set_cons_succ])
            refine man_take 9 219 (v := ?_) ⟨_, rfl, rfl⟩ (by as_aux_lemma => kernel_rfl) (by as_aux_lemma => kernel_rfl) (by as_aux_lemma => kernel_rfl) (fun _ _ _ h => h) (by assumption) ?_ ?_
            rotate_left
            · intro oi ho; cases ho; refine ⟨by rfl, ?_⟩; intro w hSw; (try dsimp only at hSw); go_simp; try with_reducible rfl
            (try simp only [Act.put, List.setIfInBounds_toArray, List.set_cons_zero, List.set_cons_succ])
            refine man_take 10 220 (v := ?_) ⟨_, rfl, rfl⟩ (by as_aux_lemma => kernel_rfl) (by as_aux_lemma => kernel_rfl) (by as_aux_lemma => kernel_rfl) (fun _ _ _ h => h) (by assumption) ?_ ?_
            rotate_left
            · intro oi ho; cases ho; refine ⟨by rfl, ?_⟩; intro w hSw; (try dsimp only at hSw); go_simp; try with_reducible rfl
            (try simp only [Act.put, List.setIfInBounds_toArray, List.set_cons_zero, List.set_cons_succ])
            refine wpAnyH_done (by kernel_rfl) ?_ _
            have T3 := T.drew.drew
            clear kA kA2
            go_wp2_with fail
            go_roundw
            case rel => exact ⟨z + 1, by omega, by rw [HD0.out], by go_num, T3⟩
            case measure => simp [intOf]; omega
        · obtain rfl : z = h * a := by omega
          rw [HD.out]
          go_wp2_with fail
          go_ret
          exact ⟨by simp, T.below⟩
end Go.Proofs.Ytmajmbfbnchbfaa
