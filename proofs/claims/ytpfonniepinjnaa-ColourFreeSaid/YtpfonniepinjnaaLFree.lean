/- The law ColourFree, walked: it answers true and turns nothing that was there, for any grid, thread colours and cell. -/
import Derived.Test.YtpfonniepinjnaaLTop
import Derived.Test.YtpfonniepinjnaaEqual
import Derived.Test.YtpfonniepinjnaaTwin
namespace Go.Proofs.Ytpfonniepinjnaa
open Go.RowKit

theorem equal_to {r : Gd × Int} (p q : List Int) (Ap Aq : Option Addr) (np cp nq cq : Nat) (w : World) (h : equalG p q = r) (hrp : Rd w Ap np (p.map (Value.int .i64))) (hrq : Rd w Aq nq (q.map (Value.int .i64))) :
    Calls Try.prog 15 #[.slice Ap np cp, .slice Aq nq cq] w (RetG r w) := h ▸ equal_any p q Ap Aq np cp nq cq w hrp hrq
theorem rcheck_to {v : Int} (W H : Int) (A : Option Addr) (n c : Nat) (w : World) (h : chk W H n = v) :
    Calls Try.prog 18 #[.agg #[.int .i64 W, .int .i64 H, .slice A n c]] w fun e w' => e = .returned (.int .i64 v) ∧ Below w.heap.size w w' := h ▸ rcheck_any W H A n c w

set_option maxHeartbeats 8000000 in
set_option maxRecDepth 100000 in
theorem free_walk (g : Gd) (p q : List Int) (X Y : Int) (A Ap Aq : Option Addr) (n c np cp nq cq : Nat) (w : World) (hr : Rd w A n (g.bits.map Value.bool)) (hrp : Rd w Ap np (p.map (Value.int .i64))) (hrq : Rd w Aq nq (q.map (Value.int .i64))) :
    Calls Try.prog 4 #[.agg #[.int .i64 g.w, .int .i64 g.h, .slice A n c], .slice Ap np cp, .slice Aq nq cq, .int .i64 X, .int .i64 Y] w fun e w' => e = .returned (.bool true) ∧ Below w.heap.size w w' := by
  have lb : g.bits.length = n := by simpa using hr.len
  have lp : p.length = np := by simpa using hrp.len
  have lq : q.length = nq := by simpa using hrq.len
  have S0 := ((((St.start w).addRd hr).addRd hrp).addRd hrq).box #[.int .i64 g.w, .int .i64 g.h, .slice A n c] 24
  simp only [List.nil_append, List.cons_append] at S0
  have HF := Lib.hid (fun W h1 h2 h3 => fit_any g p q A Ap Aq n c np cp nq cq W h1 h2 h3)
  by_cases ht : thr g p q = 0
  · have hd : decide (thr g p q = 0) = true := by simpa using ht
    rw [hd] at HF
    obtain ⟨a, b, bs, rfl, ha1, ha, hbb1, hb, hl, hpa, hqb, fp, fq⟩ := thr_open ht
    simp only at lb S0 HF ⊢
    obtain rfl : n = b * a := by omega
    obtain rfl : np = a := by omega
    obtain rfl : nq = b := by omega
    by_cases hx0 : X < 0
    · clear ht lb lp lq hr hrp hrq hl hpa hqb fp fq hd
      go_enter Try.func4, Try.ntmps4
      go_wp2_with fail
      refine (alive_any _).mono ?_
      rintro e w1 ⟨rfl, hb1⟩
      have S1 := S0.keep hb1
      obtain ⟨c0, c1, c2⟩ := (S1.blk 3 rfl).cell3
      go_wp2_with fail
      refine (HF.out _ (S1.rd 0 rfl) (S1.rd 1 rfl) (S1.rd 2 rfl)).mono ?_
      rintro e w2 ⟨rfl, hb2⟩
      have S2 := S1.keep hb2
      clear c0 c1 c2
      obtain ⟨c0, c1, c2⟩ := (S2.blk 3 rfl).cell3
      go_wp2_with fail
      go_ret
      exact ⟨rfl, S2.below⟩
    by_cases hy0 : Y < 0
    · clear ht lb lp lq hr hrp hrq hl hpa hqb fp fq hd
      go_enter Try.func4, Try.ntmps4
      go_wp2_with fail
      refine (alive_any _).mono ?_
      rintro e w1 ⟨rfl, hb1⟩
      have S1 := S0.keep hb1
      obtain ⟨c0, c1, c2⟩ := (S1.blk 3 rfl).cell3
      go_wp2_with fail
      refine (HF.out _ (S1.rd 0 rfl) (S1.rd 1 rfl) (S1.rd 2 rfl)).mono ?_
      rintro e w2 ⟨rfl, hb2⟩
      have S2 := S1.keep hb2
      clear c0 c1 c2
      obtain ⟨c0, c1, c2⟩ := (S2.blk 3 rfl).cell3
      go_wp2_with fail
      go_ret
      exact ⟨rfl, S2.below⟩
    by_cases hx1 : (np : Int) ≤ X
    · clear ht lb lp lq hr hrp hrq hl hpa hqb fp fq hd
      go_enter Try.func4, Try.ntmps4
      go_wp2_with fail
      refine (alive_any _).mono ?_
      rintro e w1 ⟨rfl, hb1⟩
      have S1 := S0.keep hb1
      obtain ⟨c0, c1, c2⟩ := (S1.blk 3 rfl).cell3
      go_wp2_with fail
      refine (HF.out _ (S1.rd 0 rfl) (S1.rd 1 rfl) (S1.rd 2 rfl)).mono ?_
      rintro e w2 ⟨rfl, hb2⟩
      have S2 := S1.keep hb2
      clear c0 c1 c2
      obtain ⟨c0, c1, c2⟩ := (S2.blk 3 rfl).cell3
      go_wp2_with fail
      go_ret
      exact ⟨rfl, S2.below⟩
    by_cases hy1 : (nq : Int) ≤ Y
    · clear ht lb lp lq hr hrp hrq hl hpa hqb fp fq hd
      go_enter Try.func4, Try.ntmps4
      go_wp2_with fail
      refine (alive_any _).mono ?_
      rintro e w1 ⟨rfl, hb1⟩
      have S1 := S0.keep hb1
      obtain ⟨c0, c1, c2⟩ := (S1.blk 3 rfl).cell3
      go_wp2_with fail
      refine (HF.out _ (S1.rd 0 rfl) (S1.rd 1 rfl) (S1.rd 2 rfl)).mono ?_
      rintro e w2 ⟨rfl, hb2⟩
      have S2 := S1.keep hb2
      clear c0 c1 c2
      obtain ⟨c0, c1, c2⟩ := (S2.blk 3 rfl).cell3
      go_wp2_with fail
      go_ret
      exact ⟨rfl, S2.below⟩
    obtain ⟨x, rfl⟩ : ∃ x : Nat, X = (x : Int) := ⟨X.toNat, by omega⟩
    obtain ⟨y, rfl⟩ : ∃ y : Nat, Y = (y : Int) := ⟨Y.toNat, by omega⟩
    have hx : x < np := by omega
    have hy : y < nq := by omega
    have hix : y * np + x < bs.length := by rw [hl]; exact Pl.cell_lt hx hy
    obtain ⟨bs', hbs'⟩ : ∃ bs', bs' = bs.set (y * np + x) (!bs.getD (y * np + x) false) := ⟨_, rfl⟩
    have hl' : bs'.length = nq * np := by rw [hbs', List.length_set]; exact hl
    have ht' := thr_mk (bs := bs') ha1 ha hbb1 hb hl' hpa hqb fp fq
    have H0 := Lib.hid (equalG_mk (by omega) (by omega) (by omega) (by omega) fp fq)
    rw [lp, lq] at H0
    have H1 := Lib.hid (frontI_mk ht)
    have H2 := Lib.hid (frontI_mk ht')
    have C0 : Hid (chk np nq (nq * np) = 0) := by
      have h := chkG_mk (bs := bs) ha1 ha hbb1 hb hl
      unfold chkG at h
      simp only [hl] at h
      exact h
    have C1 := Lib.hid (chkI_tab ha1 ha hbb1 hb fun x y hx hy => frontF_fine (bs := bs) fp fq hpa hqb hx hy)
    have C2 := Lib.hid (chkI_tab ha1 ha hbb1 hb fun x y hx hy => frontF_fine (bs := bs') fp fq hpa hqb hx hy)
    have HFar : Hid (∀ u v, u < np → ¬ (u = x ∧ v = y) → frontF np bs p q u v = frontF np bs' p q u v) := fun u v hu h => by
      rw [hbs']; exact (set_far hx hu h).symm
    have HNear : Hid (decide (frontF np bs p q x y = frontF np bs' p q x y) = decide (q.getD y 0 = p.getD x 0)) := by
      rw [hbs']; exact set_near hix
    have HS := Lib.hid hbs'
    have LP := Lib.hid lp
    have LQ := Lib.hid lq
    have hsm : nq * np ≤ 64 * 64 := Nat.mul_le_mul hb ha
    clear lb lp lq ht ht' hl hl' hpa hqb fp fq hd hbs' hix hr hrp hrq
    go_enter Try.func4, Try.ntmps4
    go_wp2_with fail
    refine (alive_any _).mono ?_
    rintro e w1 ⟨rfl, hb1⟩
    have S1 := S0.keep hb1
    obtain ⟨c0, c1, c2⟩ := (S1.blk 3 rfl).cell3
    go_wp2_with fail
    refine (HF.out _ (S1.rd 0 rfl) (S1.rd 1 rfl) (S1.rd 2 rfl)).mono ?_
    rintro e w2 ⟨rfl, hb2⟩
    have S2 := S1.keep hb2
    clear c0 c1 c2
    obtain ⟨c0, c1, c2⟩ := (S2.blk 3 rfl).cell3
    go_wp2_with fail
    refine (equal_to p q _ _ _ _ _ _ _ H0.out (S2.rd 1 rfl) (S2.rd 2 rfl)).mono ?_
    rintro e w3 ⟨A3, n3, c3, rfl, hown3, hb3⟩
    simp only at hown3 ⊢
    obtain rfl : n3 = nq * np := by have := hown3.1; rw [List.length_map, Pl.tab_length] at this; omega
    have S3 := ((S2.keep hb3).addRd (rd_of_own hown3)).box #[.int .i64 np, .int .i64 nq, .slice A3 (nq * np) c3] 24
    simp only [List.nil_append, List.cons_append] at S3
    clear c0 c1 c2
    obtain ⟨c0, c1, c2⟩ := (S3.blk 3 rfl).cell3
    go_wp2_with fail
    refine (front_to ⟨np, nq, bs⟩ p q _ _ _ _ _ _ _ _ _ _ H1.out (S3.rd 0 rfl) (S3.rd 1 rfl) (S3.rd 2 rfl)).mono ?_
    rintro e w4 ⟨A4, n4, c4, rfl, hown4, hb4⟩
    simp only at hown4 ⊢
    obtain rfl : n4 = nq * np := by have := hown4.1; rw [List.length_map, Pl.tab_length] at this; omega
    have S4 := ((S3.keep hb4).addRd (rd_of_own hown4)).box #[.int .i64 np, .int .i64 nq, .slice A4 (nq * np) c4] 29
    simp only [List.nil_append, List.cons_append] at S4
    clear c0 c1 c2
    obtain ⟨c0, c1, c2⟩ := (S4.blk 3 rfl).cell3
    go_wp2_with fail
    refine (twin_any _ _ _ _ _ bs _ (S4.rd 0 rfl) (by omega)).mono ?_
    rintro e w5 ⟨A5, n5, c5, rfl, hown5, hb5⟩
    simp only at hown5 ⊢
    obtain rfl : n5 = nq * np := by have h1 := hown5.1; have h2 := (S4.rd 0 rfl).len; rw [h1] at h2; omega
    obtain ⟨gr, rfl, hg1, hg2, hgc⟩ := own_form hown5 (Nat.mul_pos hbb1 ha1)
    have hO := Blk.new w5 24 #[.int .i64 np, .int .i64 nq, .slice (some ⟨gr, 0, none⟩) (nq * np) c5]
    have S5 := (S4.keep hb5).alloc (.cells #[.int .i64 np, .int .i64 nq, .slice (some ⟨gr, 0, none⟩) (nq * np) c5] 24)
    have hB5 := (hb5.alloc hb5.size (.cells #[.int .i64 np, .int .i64 nq, .slice (some ⟨gr, 0, none⟩) (nq * np) c5] 24))
    clear c0 c1 c2
    obtain ⟨c0, c1, c2⟩ := (S5.blk 3 rfl).cell3
    obtain ⟨d0, d1, d2⟩ := hO.cell3
    have hix : Hid (bs.getD (y * np + x) false = bs.getD (y * np + x) false) := rfl
    clear S0 S1 S2 S3 hown3 hown4 hb1 hb2 hb3 hb4
    go_wp2_with fail
    go_region_held3 (fun w' => (w'.cell? ⟨w.heap.size, 0, none⟩ = some (.int .i64 np) ∧ w'.cell? ⟨w.heap.size, 1, none⟩ = some (.int .i64 nq) ∧ w'.cell? ⟨w.heap.size, 2, none⟩ = some (.slice A (nq * np) c)) ∧
        (w'.cell? ⟨w5.heap.size, 0, none⟩ = some (.int .i64 np) ∧ w'.cell? ⟨w5.heap.size, 1, none⟩ = some (.int .i64 nq) ∧ w'.cell? ⟨w5.heap.size, 2, none⟩ = some (.slice (some ⟨gr, 0, none⟩) (nq * np) c5)))
      (first | exact ⟨(S7.blk 3 rfl).cell3, hO7.cell3⟩ | exact ⟨(S6.blk 3 rfl).cell3, hO6.cell3⟩ | exact ⟨(S5.drew.blk 3 rfl).cell3, hO.drew.cell3⟩ | go_keep)
      (first
        | (go_at_call 13
           refine (at_any np nq x y bs _ _ _ _ ha hb hx hy (S5.drew.rd 0 rfl)).mono ?_
           rintro e w6 ⟨rfl, hb6⟩
           have S6 := S5.drew.keep hb6
           have hO6 := hO.drew.keep hb6
           have hown6 := own_below (hown5.alloc _).drew hb6
           have hB6 := hB5.drew.trans (hb6.mono hB5.drew.size))
        | (go_at_call 17
           refine (set_any np nq x y _ gr c5 bs nq (!bs.getD (y * np + x) false) _ ha hb hx hy hown6).mono ?_
           rintro e w7 ⟨rfl, hown7, hgr7⟩
           have hO7 := hO6.grown hgr7 (own_blk_ne hown6 hO6 (by decide))
           have hB7 := hB6.grown hgr7 hB6.size (fun k hk => (hown6.lt k hk).1)
           have S7 := S4.keep hB7)
        | fail)
    have hr7 := rd_of_own hown7
    rw [← HS.out] at hr7
    obtain ⟨e0, e1, e2⟩ := hO7.cell3
    clear hown5 hown6 hown7 hb5 hb6 hB5 hB6 hB7 hgr7 S4 S5 S6 hO6 hO c0 c1 c2 d0 d1 d2
    go_wp2_with fail
    refine (front_to ⟨np, nq, bs'⟩ p q _ _ _ _ _ _ _ _ _ _ H2.out hr7 (S7.rd 1 rfl) (S7.rd 2 rfl)).mono ?_
    rintro e w8 ⟨A8, n8, c8, rfl, hown8, hb8⟩
    simp only at hown8 ⊢
    obtain rfl : n8 = nq * np := by have := hown8.1; rw [List.length_map, Pl.tab_length] at this; omega
    have S8 := ((S7.keep hb8).addRd (rd_of_own hown8)).box #[.int .i64 np, .int .i64 nq, .slice A8 (nq * np) c8] 29
    simp only [List.nil_append, List.cons_append] at S8
    clear e0 e1 e2 hO7 hr7 hown8 S7
    obtain ⟨c0, c1, c2⟩ := (S8.blk 5 rfl).cell3
    go_wp2_with fail
    refine (rcheck_to _ _ _ _ _ _ C0.out).mono ?_
    rintro e w9 ⟨rfl, hb9⟩
    have S9 := S8.keep hb9
    clear c0 c1 c2
    obtain ⟨c0, c1, c2⟩ := (S9.blk 5 rfl).cell3
    obtain ⟨d0, d1, d2⟩ := (S9.blk 3 rfl).cell3
    obtain ⟨e0, e1, e2⟩ := (S9.blk 7 rfl).cell3
    go_wp2_with fail
    refine (rcheckI_to _ _ _ _ _ C1.out (S9.rd 6 rfl) (by omega)).mono ?_
    rintro e w10 ⟨rfl, hb10⟩
    have S10 := S9.keep hb10
    clear c0 c1 c2 d0 d1 d2 e0 e1 e2
    obtain ⟨c0, c1, c2⟩ := (S10.blk 9 rfl).cell3
    go_wp2_with fail
    refine (rcheckI_to _ _ _ _ _ C2.out (S10.rd 8 rfl) (by omega)).mono ?_
    rintro e w11 ⟨rfl, hb11⟩
    have S11 := S10.keep hb11
    clear c0 c1 c2
    obtain ⟨c0, c1, c2⟩ := (S11.blk 9 rfl).cell3
    obtain ⟨d0, d1, d2⟩ := (S11.blk 3 rfl).cell3
    obtain ⟨e0, e1, e2⟩ := (S11.blk 7 rfl).cell3
    clear S8 S9 S10 hb8 hb9 hb10 hb11 H0 H1 H2 C0 C1 C2 HS
    go_wp2_with fail
    go_loopw [19] (fun i wr => ∃ v : Nat, v ≤ nq ∧ i = .int .i64 v ∧ St w [.rd A (nq * np) (bs.map Value.bool), .rd Ap np (p.map (Value.int .i64)), .rd Aq nq (q.map (Value.int .i64)), .blk w.heap.size 24 #[.int .i64 np, .int .i64 nq, .slice A (nq * np) c], .rd A3 (nq * np) ((Pl.tab np nq fun x y => decide (q.getD y 0 = p.getD x 0)).map Value.bool), .blk w3.heap.size 24 #[.int .i64 np, .int .i64 nq, .slice A3 (nq * np) c3], .rd A4 (nq * np) ((Pl.tab np nq (frontF np bs p q)).map (Value.int .i64)), .blk w4.heap.size 29 #[.int .i64 np, .int .i64 nq, .slice A4 (nq * np) c4], .rd A8 (nq * np) ((Pl.tab np nq (frontF np bs' p q)).map (Value.int .i64)), .blk w8.heap.size 29 #[.int .i64 np, .int .i64 nq, .slice A8 (nq * np) c8]] wr) (fun i _ => nq - (intOf i).toNat)
    case atStart => exact ⟨0, Nat.zero_le _, rfl, S11⟩
    case round =>
      clear c0 c1 c2 d0 d1 d2 e0 e1 e2 S11
      obtain ⟨v, hv, rfl, S⟩ := hrel
      obtain ⟨c0, c1, c2⟩ := (S.blk 3 rfl).cell3
      by_cases hlt : v < nq
      · go_wp2_with fail
        go_loopw [20] (fun i wr => ∃ u : Nat, u ≤ np ∧ i = .int .i64 u ∧ St w [.rd A (nq * np) (bs.map Value.bool), .rd Ap np (p.map (Value.int .i64)), .rd Aq nq (q.map (Value.int .i64)), .blk w.heap.size 24 #[.int .i64 np, .int .i64 nq, .slice A (nq * np) c], .rd A3 (nq * np) ((Pl.tab np nq fun x y => decide (q.getD y 0 = p.getD x 0)).map Value.bool), .blk w3.heap.size 24 #[.int .i64 np, .int .i64 nq, .slice A3 (nq * np) c3], .rd A4 (nq * np) ((Pl.tab np nq (frontF np bs p q)).map (Value.int .i64)), .blk w4.heap.size 29 #[.int .i64 np, .int .i64 nq, .slice A4 (nq * np) c4], .rd A8 (nq * np) ((Pl.tab np nq (frontF np bs' p q)).map (Value.int .i64)), .blk w8.heap.size 29 #[.int .i64 np, .int .i64 nq, .slice A8 (nq * np) c8]] wr) (fun i _ => np - (intOf i).toNat)
        case atStart => exact ⟨0, Nat.zero_le _, rfl, S⟩
        case round =>
          clear c0 c1 c2 S
          obtain ⟨u, hu, rfl, S⟩ := hrel
          obtain ⟨c0, c1, c2⟩ := (S.blk 3 rfl).cell3
          by_cases hltu : u < np
          · have T1 := Lib.hid (tab_getD (frontF np bs p q) 0 hltu hlt)
            have T2 := Lib.hid (tab_getD (frontF np bs' p q) 0 hltu hlt)
            have T3 := Lib.hid (tab_getD (fun x y => decide (q.getD y 0 = p.getD x 0)) false hx hy)
            obtain ⟨d0, d1, d2⟩ := (S.blk 7 rfl).cell3
            obtain ⟨e0, e1', e2'⟩ := (S.blk 9 rfl).cell3
            by_cases hxy : u = x ∧ v = y
            · obtain ⟨rfl, rfl⟩ := hxy
              have hN := HNear.out
              generalize frontF np bs p q u v = fa at *
              generalize frontF np bs' p q u v = fb at *
              have T4 := T3.out
              rw [← hN] at T4
              clear hN
              obtain ⟨B, hB, e1⟩ : ∃ B : Bool, decide (fa = fb) = B ∧ (fa == fb) = B := ⟨decide (fa = fb), rfl, by rw [Bool.eq_iff_iff]; simp⟩
              rw [hB] at T4
              have T5 := Lib.hid T4
              clear T4 hB HNear HFar T3 LP LQ
              rcases B
              all_goals
                have k1 : ((u : Int) != (u : Int)) = false := by simp
                have k2 : ((v : Int) != (v : Int)) = false := by simp
                have SD := S.drew
                go_wp2_with fail
                go_region_held3 (fun w' => (w'.cell? ⟨w4.heap.size, 0, none⟩ = some (.int .i64 np) ∧ w'.cell? ⟨w4.heap.size, 1, none⟩ = some (.int .i64 nq) ∧ w'.cell? ⟨w4.heap.size, 2, none⟩ = some (.slice A4 (nq * np) c4)) ∧
                    (w'.cell? ⟨w8.heap.size, 0, none⟩ = some (.int .i64 np) ∧ w'.cell? ⟨w8.heap.size, 1, none⟩ = some (.int .i64 nq) ∧ w'.cell? ⟨w8.heap.size, 2, none⟩ = some (.slice A8 (nq * np) c8)))
                  (first | exact ⟨(SD.blk 7 rfl).cell3, (SD.blk 9 rfl).cell3⟩ | go_keep)
                  (first
                    | (go_at_call 14; ((with_reducible refine (atI_to np nq u v _ _ _ _ A4 _ _ T1.out rfl rfl ha hb hltu hlt (SD.rd 6 rfl)).mono ?_); rintro e wa ⟨rfl, hba⟩; replace SD := SD.keep hba))
                    | (go_at_call 14; ((with_reducible refine (atI_to np nq u v _ _ _ _ A8 _ _ T2.out rfl rfl ha hb hltu hlt (SD.rd 8 rfl)).mono ?_); rintro e wa ⟨rfl, hba⟩; replace SD := SD.keep hba))
                    | fail)
              all_goals
                obtain ⟨g0, g1, g2⟩ := (SD.blk 5 rfl).cell3
                go_wp2_with fail
                refine (at_to np nq u v _ _ _ _ _ T5.out ha hb hltu hlt (SD.rd 4 rfl)).mono ?_
                rintro e wb ⟨rfl, hbb⟩
                have SE := SD.keep hbb
                clear g0 g1 g2
                go_wp2_with fail
                go_roundw
                case rel => exact ⟨u + 1, by omega, by go_num, SE⟩
                case measure => simp [intOf]; omega
            · have hF := HFar.out u v hltu hxy
              rw [← hF] at T2
              clear hF HNear HFar T3 LP LQ
              generalize frontF np bs p q u v = fa at *
              have e1 : (fa == fa) = true := by simp
              have e2 : decide (fa = fa) = true := by simp
              by_cases hux : u = x
              · have hvy : v ≠ y := fun h => hxy ⟨hux, h⟩
                subst hux
                have k1 : ((u : Int) != (u : Int)) = false := by simp
                have k2 : ((v : Int) != (y : Int)) = true := by simp; omega
                have k3 : (v != y) = true := by simp; omega
                have k4 : ((v : Int) == (y : Int)) = false := by simp; omega
                have k5 : (v == y) = false := by simp; omega
                clear hxy
                have SD := S.drew
                go_wp2_with fail
                go_region_held3 (fun w' => (w'.cell? ⟨w4.heap.size, 0, none⟩ = some (.int .i64 np) ∧ w'.cell? ⟨w4.heap.size, 1, none⟩ = some (.int .i64 nq) ∧ w'.cell? ⟨w4.heap.size, 2, none⟩ = some (.slice A4 (nq * np) c4)) ∧
                    (w'.cell? ⟨w8.heap.size, 0, none⟩ = some (.int .i64 np) ∧ w'.cell? ⟨w8.heap.size, 1, none⟩ = some (.int .i64 nq) ∧ w'.cell? ⟨w8.heap.size, 2, none⟩ = some (.slice A8 (nq * np) c8)))
                  (first | exact ⟨(SD.blk 7 rfl).cell3, (SD.blk 9 rfl).cell3⟩ | go_keep)
                  (first
                    | (go_at_call 14; ((with_reducible refine (atI_to np nq u v _ _ _ _ A4 _ _ T1.out rfl rfl ha hb hltu hlt (SD.rd 6 rfl)).mono ?_); rintro e wa ⟨rfl, hba⟩; replace SD := SD.keep hba))
                    | (go_at_call 14; ((with_reducible refine (atI_to np nq u v _ _ _ _ A8 _ _ T2.out rfl rfl ha hb hltu hlt (SD.rd 8 rfl)).mono ?_); rintro e wa ⟨rfl, hba⟩; replace SD := SD.keep hba))
                    | fail)
                all_goals
                  go_wp2_with fail
                  go_roundw
                  case rel => exact ⟨u + 1, by omega, by go_num, SD⟩
                  case measure => simp [intOf]; omega
              · have k2 : ((u : Int) != (x : Int)) = true := by simp; omega
                have k3 : (u != x) = true := by simp; omega
                have k4 : ((u : Int) == (x : Int)) = false := by simp; omega
                have k5 : (u == x) = false := by simp; omega
                clear hxy
                have SD := S.drew
                go_wp2_with fail
                go_region_held3 (fun w' => (w'.cell? ⟨w4.heap.size, 0, none⟩ = some (.int .i64 np) ∧ w'.cell? ⟨w4.heap.size, 1, none⟩ = some (.int .i64 nq) ∧ w'.cell? ⟨w4.heap.size, 2, none⟩ = some (.slice A4 (nq * np) c4)) ∧
                    (w'.cell? ⟨w8.heap.size, 0, none⟩ = some (.int .i64 np) ∧ w'.cell? ⟨w8.heap.size, 1, none⟩ = some (.int .i64 nq) ∧ w'.cell? ⟨w8.heap.size, 2, none⟩ = some (.slice A8 (nq * np) c8)))
                  (first | exact ⟨(SD.blk 7 rfl).cell3, (SD.blk 9 rfl).cell3⟩ | go_keep)
                  (first
                    | (go_at_call 14; ((with_reducible refine (atI_to np nq u v _ _ _ _ A4 _ _ T1.out rfl rfl ha hb hltu hlt (SD.rd 6 rfl)).mono ?_); rintro e wa ⟨rfl, hba⟩; replace SD := SD.keep hba))
                    | (go_at_call 14; ((with_reducible refine (atI_to np nq u v _ _ _ _ A8 _ _ T2.out rfl rfl ha hb hltu hlt (SD.rd 8 rfl)).mono ?_); rintro e wa ⟨rfl, hba⟩; replace SD := SD.keep hba))
                    | fail)
                all_goals
                  go_wp2_with fail
                  go_roundw
                  case rel => exact ⟨u + 1, by omega, by go_num, SD⟩
                  case measure => simp [intOf]; omega
          · obtain rfl : u = np := by omega
            go_wp2_with fail
            go_roundw
            case rel => exact ⟨v + 1, by omega, by go_num, S⟩
            case measure => simp [intOf]; omega
      · obtain rfl : v = nq := by omega
        go_wp2_with fail
        go_ret
        exact ⟨rfl, S.below⟩
  · have hd : decide (thr g p q = 0) = false := by simpa using ht
    rw [hd] at HF
    clear lb lp lq hr hrp hrq ht hd
    go_enter Try.func4, Try.ntmps4
    go_wp2_with fail
    refine (alive_any _).mono ?_
    rintro e w1 ⟨rfl, hb1⟩
    have S1 := S0.keep hb1
    obtain ⟨c0, c1, c2⟩ := (S1.blk 3 rfl).cell3
    go_wp2_with fail
    refine (HF.out _ (S1.rd 0 rfl) (S1.rd 1 rfl) (S1.rd 2 rfl)).mono ?_
    rintro e w2 ⟨rfl, hb2⟩
    have S2 := S1.keep hb2
    clear c0 c1 c2
    obtain ⟨c0, c1, c2⟩ := (S2.blk 3 rfl).cell3
    go_wp2_with fail
    go_ret
    exact ⟨rfl, S2.below⟩
end Go.Proofs.Ytpfonniepinjnaa
