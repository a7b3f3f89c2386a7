/- raddleref14.Front and Back give the plain results frontI and backI, for any grid and lists of numbers. -/
import Derived.Test.YtpfonniepinjnaaShown
import Derived.Test.YtpfonniepinjnaaRd2
namespace Go.Proofs.Ytpfonniepinjnaa
open Go.RowKit

theorem shown_front (a : Nat) (bs : List Bool) (p q : List Int) : shownF a bs p q false = frontF a bs p q := by
  funext x y
  unfold shownF frontF
  cases bs.getD (y * a + x) false <;> rfl
theorem shown_back {a x y : Nat} (bs : List Bool) (p q : List Int) : shownF a bs p q true (a - 1 - x) y = backF a bs p q x y := by
  unfold shownF backF
  cases bs.getD (y * a + (a - 1 - x)) false <;> rfl

set_option maxHeartbeats 4000000 in
set_option maxRecDepth 100000 in
theorem rfront_any (g : Gd) (p q : List Int) (A Ap Aq : Option Addr) (n c np cp nq cq : Nat) (w : World) (hr : Rd w A n (g.bits.map Value.bool)) (hrp : Rd w Ap np (p.map (Value.int .i64))) (hrq : Rd w Aq nq (q.map (Value.int .i64))) :
    Calls Try.prog 20 #[.agg #[.int .i64 g.w, .int .i64 g.h, .slice A n c], .slice Ap np cp, .slice Aq nq cq] w (RetI (frontI g p q) w) := by
  have lb : g.bits.length = n := by simpa using hr.len
  have lp : p.length = np := by simpa using hrp.len
  have lq : q.length = nq := by simpa using hrq.len
  have S0 := ((((((St.start w).addRd hr).addRd hrp).addRd hrq).box #[.int .i64 g.w, .int .i64 g.h, .slice A n c] 24).box #[.int .i64 0, .int .i64 0, .slice none 0 0] 29)
  simp only [size_alloc1, List.nil_append, List.cons_append] at S0
  obtain ⟨c0, c1, c2⟩ := (S0.blk 3 rfl).cell3
  have HT := Lib.hid (fun W1 h1 h2 => rthr_any g p q A Ap Aq n c np cp nq cq W1 lb h1 h2)
  by_cases h0 : thr g p q = 0
  · obtain ⟨a, b, bs, rfl, ha1, ha, hbb1, hb, hl, hpa, hqb, _, _⟩ := thr_open h0
    have HC := Lib.hid (frontI_mk h0)
    rw [h0] at HT
    simp only at lb lp lq HT S0 c0 c1 c2 ⊢
    obtain rfl : n = b * a := by omega
    obtain rfl : np = a := by omega
    obtain rfl : nq = b := by omega
    have hba : nq * np ≤ 4096 := Nat.mul_le_mul hb ha
    clear h0 lb lp lq hl hpa hqb hr hrp hrq
    go_enter Try.func20, Try.ntmps20
    go_wp2_with fail
    refine (HT.out _ (S0.rd 1 rfl) (S0.rd 2 rfl)).mono ?_
    rintro e w1 ⟨rfl, hb1⟩
    have S1 := S0.keep hb1
    clear c0 c1 c2 HT
    obtain ⟨c0, c1, c2⟩ := (S1.blk 3 rfl).cell3
    go_wp2_with fail
    refine (shown_false np nq bs p q _ _ _ _ _ _ _ ha1 hbb1 ha hb (S1.rd 0 rfl) (S1.rd 1 rfl) (S1.rd 2 rfl)).mono ?_
    rintro e w2 ⟨A2, n2, c2', rfl, hown2, hb2⟩
    simp only at hown2 ⊢
    rw [shown_front] at hown2
    have S2 := S1.keep hb2
    have hR2 := S2.blk 4 rfl
    obtain ⟨r0, r1, r2⟩ := hR2.cell3
    obtain ⟨f0, f1, f2⟩ := hR2.frozen3
    obtain ⟨q0, q1, q2⟩ := (hR2.set3 (.int .i64 np) (.int .i64 nq) (.slice A2 n2 c2')).cell3
    clear c0 c1 c2
    go_wp2_with fail
    refine bodyPost_ret (v := .tuple #[.agg #[.int .i64 np, .int .i64 nq, .slice A2 n2 c2'], .int .i64 0]) (by simp [results, Try.results20, go_sem, q0, q1, q2]) rfl ?_
    refine ⟨A2, n2, c2', by rw [HC.out], ?_, below_set3 S2.below (by omega) _ _ _⟩
    rw [HC.out]
    exact own_set3 (own_base hown2 S1.size) hR2 (by decide) _ _ _
  · have hcb : (thr g p q != 0) = true := by simpa using h0
    have HC : Hid (frontI g p q = (Im.zero, thr g p q)) := withThr_bad h0 _
    clear h0 lb lp lq
    generalize thr g p q = t at *
    go_enter Try.func20, Try.ntmps20
    go_wp2_with fail
    refine (HT.out _ (S0.rd 1 rfl) (S0.rd 2 rfl)).mono ?_
    rintro e w1 ⟨rfl, hb1⟩
    have S1 := S0.keep hb1
    clear c0 c1 c2
    obtain ⟨c0, c1, c2⟩ := (S1.blk 3 rfl).cell3
    go_wp2_with fail
    refine (HT.out _ (S1.rd 1 rfl) (S1.rd 2 rfl)).mono ?_
    rintro e w2 ⟨rfl, hb2⟩
    have S2 := S1.keep hb2
    clear c0 c1 c2
    have hR2 := S2.blk 4 rfl
    obtain ⟨r0, r1, r2⟩ := hR2.cell3
    obtain ⟨f0, f1, f2⟩ := hR2.frozen3
    obtain ⟨q0, q1, q2⟩ := (hR2.set3 (.int .i64 0) (.int .i64 0) (.slice none 0 0)).cell3
    go_wp2_with fail
    refine bodyPost_ret (v := .tuple #[.agg #[.int .i64 0, .int .i64 0, .slice none 0 0], .int .i64 t]) (by simp [results, Try.results20, go_sem, q0, q1, q2]) rfl ?_
    exact bad_retI HC.out (below_set3 S2.below (by omega) _ _ _)

set_option maxHeartbeats 4000000 in
set_option maxRecDepth 100000 in
theorem rback_any (g : Gd) (p q : List Int) (A Ap Aq : Option Addr) (n c np cp nq cq : Nat) (w : World) (hr : Rd w A n (g.bits.map Value.bool)) (hrp : Rd w Ap np (p.map (Value.int .i64))) (hrq : Rd w Aq nq (q.map (Value.int .i64))) :
    Calls Try.prog 21 #[.agg #[.int .i64 g.w, .int .i64 g.h, .slice A n c], .slice Ap np cp, .slice Aq nq cq] w (RetI (backI g p q) w) := by
  have lb : g.bits.length = n := by simpa using hr.len
  have lp : p.length = np := by simpa using hrp.len
  have lq : q.length = nq := by simpa using hrq.len
  have S0 := ((((((St.start w).addRd hr).addRd hrp).addRd hrq).box #[.int .i64 g.w, .int .i64 g.h, .slice A n c] 24).box #[.int .i64 0, .int .i64 0, .slice none 0 0] 29)
  simp only [size_alloc1, List.nil_append, List.cons_append] at S0
  obtain ⟨c0, c1, c2⟩ := (S0.blk 3 rfl).cell3
  have HT := Lib.hid (fun W1 h1 h2 => rthr_any g p q A Ap Aq n c np cp nq cq W1 lb h1 h2)
  by_cases h0 : thr g p q = 0
  · obtain ⟨a, b, bs, rfl, ha1, ha, hbb1, hb, hl, hpa, hqb, _, _⟩ := thr_open h0
    have HC := Lib.hid (backI_mk h0)
    rw [h0] at HT
    simp only at lb lp lq HT S0 c0 c1 c2 ⊢
    obtain rfl : n = b * a := by omega
    obtain rfl : np = a := by omega
    obtain rfl : nq = b := by omega
    have hba : nq * np ≤ 4096 := Nat.mul_le_mul hb ha
    clear h0 lb lp lq hl hpa hqb hr hrp hrq
    go_enter Try.func21, Try.ntmps21
    go_wp2_with fail
    refine (HT.out _ (S0.rd 1 rfl) (S0.rd 2 rfl)).mono ?_
    rintro e w1 ⟨rfl, hb1⟩
    have S1 := S0.keep hb1
    clear c0 c1 c2 HT
    obtain ⟨c0, c1, c2⟩ := (S1.blk 3 rfl).cell3
    go_wp2_with fail
    refine (shown_true np nq bs p q _ _ _ _ _ _ _ ha1 hbb1 ha hb (S1.rd 0 rfl) (S1.rd 1 rfl) (S1.rd 2 rfl)).mono ?_
    rintro e w2 ⟨A2, n2, c2', rfl, hown2, hb2⟩
    simp only at hown2 ⊢
    obtain rfl : n2 = nq * np := by have := hown2.1; rw [List.length_map, Pl.tab_length] at this; omega
    have S2 := (((S1.keep hb2).addRd (rd_of_own hown2)).box #[.int .i64 np, .int .i64 nq, .slice A2 (nq * np) c2'] 29).box #[.int .i64 np, .int .i64 nq, .slice none 0 0] 29
    simp only [size_alloc1, List.nil_append, List.cons_append] at S2
    obtain ⟨i0, hi, hz0, hz1, hz2⟩ := info_parts Try.infoI
    -- rows that stand below this mark are never written
    obtain ⟨M, hM⟩ : ∃ M, M = w2.heap.size := ⟨_, rfl⟩
    have hrd2 := (S2.rd 5 rfl)
    have hlt2 := (rd_of_own hown2).lt
    have hsM : w.heap.size + 1 < w2.heap.size := by have := ((S1.keep hb2).blk 4 rfl).lt; exact this
    clear c0 c1 c2
    go_wp2_with fail
    go_loopw [10] (fun i wr => ∃ (y cg : Nat) (A9 : Option Addr), y ≤ nq ∧ i = .int .i64 y ∧ Blk wr (w2.heap.size + 1) 29 #[.int .i64 np, .int .i64 nq, .slice A9 (y * np) cg] ∧ Blk wr w2.heap.size 29 #[.int .i64 np, .int .i64 nq, .slice A2 (nq * np) c2'] ∧ Blk wr (w.heap.size + 1) 29 #[.int .i64 0, .int .i64 0, .slice none 0 0] ∧
        wr.ownsRow w2.heap.size 3 1 (.slice A9 (y * np) cg) (y * np) ((Pl.tab np y (backF np bs p q)).map (Value.int .i64)) ∧ Rd wr A2 (nq * np) ((Pl.tab np nq (shownF np bs p q true)).map (Value.int .i64)) ∧ Below w.heap.size w wr)
      (fun i _ => nq - (intOf i).toNat)
    case atStart => exact ⟨0, 0, none, Nat.zero_le _, rfl, by simpa using S2.blk 7 rfl, S2.blk 6 rfl, S2.blk 4 rfl, by simpa [Pl.tab_zero] using World.ownsRow_nil _ _ _ _, hrd2, S2.below⟩
    case round =>
      clear S2 S1 hrd2
      obtain ⟨y, cg, A9, hy, rfl, hO, hm, hR, hown, hrd, hbel⟩ := hrel
      obtain ⟨c0, c1, c2⟩ := hm.cell3
      by_cases hlt : y < nq
      · go_wp2_with fail
        go_loopw [11] (fun i wr => ∃ (k cg : Nat) (A9 : Option Addr), k ≤ np ∧ i = .int .i64 ((np : Int) - 1 - (k : Int)) ∧ Blk wr (w2.heap.size + 1) 29 #[.int .i64 np, .int .i64 nq, .slice A9 (y * np + k) cg] ∧ Blk wr w2.heap.size 29 #[.int .i64 np, .int .i64 nq, .slice A2 (nq * np) c2'] ∧ Blk wr (w.heap.size + 1) 29 #[.int .i64 0, .int .i64 0, .slice none 0 0] ∧
            wr.ownsRow w2.heap.size 3 1 (.slice A9 (y * np + k) cg) (y * np + k) (((Pl.tab np y (backF np bs p q)) ++ (List.range k).map fun x => backF np bs p q x y).map (Value.int .i64)) ∧ Rd wr A2 (nq * np) ((Pl.tab np nq (shownF np bs p q true)).map (Value.int .i64)) ∧ Below w.heap.size w wr)
          (fun i _ => (intOf i + 1).toNat)
        case atStart => exact ⟨0, cg, A9, Nat.zero_le _, by simp, hO, hm, hR, by simpa using hown, hrd, hbel⟩
        case round =>
          clear hO hm hR hown hrd hbel c0 c1 c2 A9
          obtain ⟨k, cg, A9, hk, rfl, hO, hm, hR, hown, hrd, hbel⟩ := hrel
          obtain ⟨c0, c1, c2⟩ := hm.cell3
          by_cases hltk : k < np
          · have hk0 : (0 : Int) ≤ (np : Int) - 1 - (k : Int) := by omega
            have hT : Hid ((Pl.tab np nq (shownF np bs p q true)).getD (y * np + (np - 1 - k)) 0 = backF np bs p q k y) := Lib.hid ((tab_getD _ _ (by omega) hlt).trans (shown_back bs p q))
            obtain ⟨m0, m1, m2⟩ := hO.cell3
            have hsm : y * np + k + 1 ≤ 1048576 := by
              have h1 := Pl.cell_lt (w := np) (h := nq) hltk hlt
              omega
            have hsx : w2.heap.size ≤ wr.heap.size := by have := hm.lt; omega
            have hXX : Hid ((np : Int) - 1 - (k : Int) = ((np - 1 - k : Nat) : Int)) := Lib.hid (by omega)
            go_wp2_with fail
            generalize hrr : backF np bs p q k y = r at *
            have HRR := Lib.hid hrr
            clear hrr
            go_region_law
              (first
                | (go_simp
                   go_at_call 14
                   refine (atI_to np nq (np - 1 - k) y _ _ _ _ _ _ _ hT.out hXX.out rfl ha hb (by omega) hlt hrd.drew).mono ?_
                   rintro e w3 ⟨rfl, hb3⟩
                   have hown3 := own_below hown.drew hb3
                   have hO3 := hO.drew.keep hb3
                   have cc3 := hO3.cell 2
                   have cc3a := fun o => (hO3.alloc o).cell 2
                   have hs3 : wr.heap.size ≤ w3.heap.size := hb3.size)
                | (refine step_app _ rfl (.tmp 45) (.tmp 50) 25 rfl w2.heap.size 3 i0 (.int .i64 0) 8 Try.underlying25 hi hz0 hz1 hz2 rfl (by decide) (.slice A9 (y * np + k) cg) (y * np + k) _ rfl (hown3.alloc _) w3.heap.size (.int .i64 r) rfl (new_cell w3 _ _) rfl hsm (size_alloc_le (Nat.le_trans hsx hs3) _) ?_; intro g' cp' w4 hown4 hgr4; have hO4 := (hO3.alloc _).grown hgr4 (own_blk_ne hown3 hO3 (by decide)); have hfz4 := hO4.frozen 2; have cc4 := hO4.cell 2)
                | fail)
            all_goals
              have hm3 := (hm.drew.keep hb3).alloc (.cells #[.int .i64 r] 3)
              have hR3 := (hR.drew.keep hb3).alloc (.cells #[.int .i64 r] 3)
              have hm4 := hm3.grown hgr4 (own_blk_ne (hown3.alloc (.cells #[.int .i64 r] 3)) hm3 (by decide))
              have hR4 := hR3.grown hgr4 (own_blk_ne (hown3.alloc (.cells #[.int .i64 r] 3)) hR3 (by decide))
              have hbel4 : Below w.heap.size w w4 := ((hbel.drew.trans (hb3.mono hbel.size)).alloc (Nat.le_trans hbel.size hs3) _).grown hgr4 (size_alloc_le (Nat.le_trans hbel.size hs3) _) (fun g hg => Nat.le_trans (by omega) (hown3.lt g hg).1)
              have hrd3 := (hrd.drew.below hb3).alloc (.cells #[.int .i64 r] 3)
              have hrd4 := hrd3.grown2 hgr4 (fun b o h1 h2 h3 => by have := hlt2 b o h1 h2; have := (hown3.lt b h3.symm).1; omega)
              have R1 := Lib.hid (hO4.set_ 2 (.slice (some ⟨g', 0, none⟩) (y * np + k + 1) cp'))
              have R2 := Lib.hid (hm4.far (p := ⟨w2.heap.size + 1, 2, none⟩) (by simp) (.slice (some ⟨g', 0, none⟩) (y * np + k + 1) cp'))
              have R5 := Lib.hid (hR4.far (p := ⟨w2.heap.size + 1, 2, none⟩) (by simp; omega) (.slice (some ⟨g', 0, none⟩) (y * np + k + 1) cp'))
              have R3 := Lib.hid (own_far hown4 (p := ⟨w2.heap.size + 1, 2, none⟩) (own_blk_ne hown4 hO4 (by decide)) (.slice (some ⟨g', 0, none⟩) (y * np + k + 1) cp'))
              have R4 := Lib.hid (hbel4.setCell (p := ⟨w2.heap.size + 1, 2, none⟩) (by simp; omega) (.slice (some ⟨g', 0, none⟩) (y * np + k + 1) cp'))
              have R6 := Lib.hid (hrd4.far (p := ⟨w2.heap.size + 1, 2, none⟩) (fun b o h1 h2 => by have := hlt2 b o h1 h2; simp; omega) (.slice (some ⟨g', 0, none⟩) (y * np + k + 1) cp'))
              clear hO hm hR hown hrd hbel hrd3 hrd4 hm3 hR3 hm4 hR4 hbel4 hO3 hO4 hown3 hown4 hgr4 hb3 cc3 cc3a cc4 hfz4 c0 c1 c2 m0 m1 m2
              go_wp2_with fail
              go_roundw
              case rel => exact ⟨k + 1, cp', some ⟨g', 0, none⟩, by omega, by go_num, by simpa [Nat.add_assoc] using R1.out, R2.out, R5.out, by have h := R3.out; rw [← HRR.out] at h; simpa [List.range_succ, Nat.add_assoc] using h, R6.out, R4.out⟩
              case measure => simp [intOf]; omega
          · obtain rfl : k = np := by omega
            go_wp2_with fail
            go_roundw
            case rel => exact ⟨y + 1, cg, A9, by omega, by go_num, by simpa [Nat.succ_mul] using hO, hm, hR, by rw [Pl.tab_succ]; simpa [Nat.succ_mul] using hown, hrd, hbel⟩
            case measure => simp [intOf]; omega
      · obtain rfl : y = nq := by omega
        obtain ⟨m0, m1, m2⟩ := hO.cell3
        obtain ⟨r0, r1, r2⟩ := hR.cell3
        obtain ⟨f0, f1, f2⟩ := hR.frozen3
        obtain ⟨q0, q1, q2⟩ := (hR.set3 (.int .i64 np) (.int .i64 y) (.slice A9 (y * np) cg)).cell3
        go_wp2_with fail
        refine bodyPost_ret (v := .tuple #[.agg #[.int .i64 np, .int .i64 y, .slice A9 (y * np) cg], .int .i64 0]) (by simp [results, Try.results21, go_sem, q0, q1, q2]) rfl ?_
        refine ⟨A9, y * np, cg, by rw [HC.out], ?_, below_set3 hbel (by omega) _ _ _⟩
        rw [HC.out]
        exact own_set3 (own_base hown (by omega)) hR (by decide) _ _ _
  · have hcb : (thr g p q != 0) = true := by simpa using h0
    have HC : Hid (backI g p q = (Im.zero, thr g p q)) := withThr_bad h0 _
    clear h0 lb lp lq
    generalize thr g p q = t at *
    go_enter Try.func21, Try.ntmps21
    go_wp2_with fail
    refine (HT.out _ (S0.rd 1 rfl) (S0.rd 2 rfl)).mono ?_
    rintro e w1 ⟨rfl, hb1⟩
    have S1 := S0.keep hb1
    clear c0 c1 c2
    obtain ⟨c0, c1, c2⟩ := (S1.blk 3 rfl).cell3
    go_wp2_with fail
    refine (HT.out _ (S1.rd 1 rfl) (S1.rd 2 rfl)).mono ?_
    rintro e w2 ⟨rfl, hb2⟩
    have S2 := S1.keep hb2
    clear c0 c1 c2
    have hR2 := S2.blk 4 rfl
    obtain ⟨r0, r1, r2⟩ := hR2.cell3
    obtain ⟨f0, f1, f2⟩ := hR2.frozen3
    obtain ⟨q0, q1, q2⟩ := (hR2.set3 (.int .i64 0) (.int .i64 0) (.slice none 0 0)).cell3
    go_wp2_with fail
    refine bodyPost_ret (v := .tuple #[.agg #[.int .i64 0, .int .i64 0, .slice none 0 0], .int .i64 t]) (by simp [results, Try.results21, go_sem, q0, q1, q2]) rfl ?_
    exact bad_retI HC.out (below_set3 S2.below (by omega) _ _ _)

end Go.Proofs.Ytpfonniepinjnaa
