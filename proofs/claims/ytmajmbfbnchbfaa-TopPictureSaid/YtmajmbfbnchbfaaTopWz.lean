/- raddletop.TopPicture answers true. -/
import Derived.Test.YtmajmbfbnchbfaaFewerz
import Derived.Test.YtmajmbfbnchbfaaAlive17z
import Derived.Test.YtmajmbfbnchbfaaRDChkz
import Derived.Test.YtmajmbfbnchbfaaWeave15z
import Derived.Test.YtmajmbfbnchbfaaShowsA15z
import Derived.Test.YtmajmbfbnchbfaaMg15z
import Derived.Test.YtmajmbfbnchbfaaThr15z
namespace Go.Proofs.Ytmajmbfbnchbfaa
open Go.RowKit

theorem tp_weave (a h bM oM cm cp cq bA oA c : Nat) (Ap Aq : Option Addr) (cs p q : List Int) (gb ob : List Bool) (w : World) (hL : h * a ≤ 1048576) (hpos : 1 ≤ h * a) (hw : weaveI ⟨a, h, cs⟩ p q ⟨a, h, gb⟩ = (⟨a, h, ob⟩, 0)) (hol : ob.length = h * a)
    (hrm : Rd w (some ⟨bM, oM, none⟩) (h * a) (cs.map (Value.int .i64))) (hrp : Rd w Ap a (p.map (Value.int .i64))) (hrq : Rd w Aq h (q.map (Value.int .i64))) (hr : Rd w (some ⟨bA, oA, none⟩) (h * a) (gb.map Value.bool)) :
    Calls Try.prog 11 #[.agg #[.int .i64 a, .int .i64 h, .slice (some ⟨bM, oM, none⟩) (h * a) cm], .slice Ap a cp, .slice Aq h cq, .agg #[.int .i64 a, .int .i64 h, .slice (some ⟨bA, oA, none⟩) (h * a) c]] w fun e w' => ∃ g c',
      e = .returned (.tuple #[.agg #[.int .i64 a, .int .i64 h, .slice (some ⟨g, 0, none⟩) (h * a) c'], .int .i64 0]) ∧ Rd w' (some ⟨g, 0, none⟩) (h * a) (ob.map Value.bool) ∧ Below w.heap.size w w' := by
  refine (weave_any ⟨a, h, cs⟩ p q ⟨a, h, gb⟩ (some ⟨bM, oM, none⟩) Ap Aq (some ⟨bA, oA, none⟩) (h * a) cm a cp h cq (h * a) c w hrm hL hrp hrq hr).mono ?_
  rintro e w' ⟨A', n', c', rfl, ho, hb⟩
  rw [hw] at *
  obtain rfl : n' = h * a := by
    have h5 : ob.length = n' := by simpa using ho.1
    omega
  obtain ⟨g, rfl⟩ := own_addr ho hpos
  exact ⟨g, c', rfl, rd_of_own ho, hb⟩
set_option linter.unusedVariables false in
/-- What is known of the first colours of a front. -/
theorem tp_first (a h : Nat) (gb : List Bool) (p q P Q : List Int) (hp : p.length = a) (hq : q.length = h) (hfp : fineL p = true) (hfq : fineL q = true) (hP : P.length = a) (hQ : Q.length = h)
    (hF : FitF (N2 a h) (M2 a (Pl.tab a h (frontF a gb p q))) (F2 P Q)) : fineL P = true ∧ fineL Q = true ∧ fitB a h (Pl.tab a h (frontF a gb p q)) P Q = true := by
  have h1 := fitF_fine hP hQ hF
  exact ⟨h1.1, h1.2, (fitF_lists hP hQ h1.1 h1.2).1 hF⟩
set_option linter.unusedVariables false in
set_option maxHeartbeats 16000000 in
set_option maxRecDepth 100000 in
theorem top_any (s t W H k : Int) (th tr p q : List Int) (tb : List Bool) (Ah Ar At Ap Aq : Option Addr) (nh ch nr cr n ct np cp nq cq : Nat) (w : World) (rh : Rd w Ah nh (th.map (Value.int .i64))) (rr : Rd w Ar nr (tr.map (Value.int .i64))) (rt : Rd w At n (tb.map Value.bool))
    (hrp : Rd w Ap np (p.map (Value.int .i64))) (hrq : Rd w Aq nq (q.map (Value.int .i64))) :
    Calls Try.prog 3 #[.agg #[.int .i64 s, .int .i64 t, .slice Ah nh ch, .slice Ar nr cr, .int .i64 W, .int .i64 H, .slice At n ct], .slice Ap np cp, .slice Aq nq cq, .int .i64 k] w fun e w' => e = .returned (.bool true) ∧ Below w.heap.size w w' := by
  have S0 := (((((St.start w).addRd rh).addRd rr).addRd rt).addRd hrp).addRd hrq
  have S0 := S0.box #[.int .i64 s, .int .i64 t, .slice Ah nh ch, .slice Ar nr cr, .int .i64 W, .int .i64 H, .slice At n ct] 27
  simp only [List.nil_append, List.cons_append] at S0
  have HCK := Lib.hid (fun u (hu : Below w.heap.size w u) => rdcheck_any s t W H th tr Ah Ar At nh ch nr cr n ct u (rh.below hu) (rr.below hu))
  have HTL := Lib.hid (show tb.length = n from by simpa using rt.len)
  have HHL := Lib.hid (show th.length = nh from by simpa using rh.len)
  have HRL := Lib.hid (show tr.length = nr from by simpa using rr.len)
  have HPL := Lib.hid (show p.length = np from by simpa using hrp.len)
  have HQL := Lib.hid (show q.length = nq from by simpa using hrq.len)
  clear rh rr rt hrp hrq
  go_enter Try.func3, Try.ntmps3
  go_wp2_with fail
  refine (alive17_any _).mono ?_
  rintro e w1 ⟨rfl, hb1⟩
  have S1 := S0.keep hb1
  clear S0 hb1
  obtain ⟨d0, d1, d2, d3, d4, d5, d6⟩ := (S1.blk 5 rfl).cell7
  go_wp2_with fail
  refine (HCK.out _ S1.below).mono ?_
  rintro e w2 ⟨hr2, hb2⟩
  have S2 := S1.keep hb2
  clear S1 hb2 HCK d0 d1 d2 d3 d4 d5 d6
  obtain ⟨d0, d1, d2, d3, d4, d5, d6⟩ := (S2.blk 5 rfl).cell7
  rcases hr2 with ⟨rfl, HF⟩ | ⟨v, hv, rfl⟩
  rotate_left
  · have hv1 : (v != 0) = true := by rw [bne_iff_ne]; exact hv
    clear hv
    go_wp2_with fail
    go_ret
    exact ⟨rfl, S2.below⟩
  by_cases h3 : 8 < nh
  · have h3a : decide (8 < (nh : Int)) = true := decide_eq_true (by omega)
    have h3b : decide (8 < nh) = true := decide_eq_true (by omega)
    clear h3 HF
    go_wp2_with fail
    go_ret
    exact ⟨rfl, S2.below⟩
  have h3a : decide (8 < (nh : Int)) = false := decide_eq_false (by omega)
  have h3b : decide (8 < nh) = false := decide_eq_false (by omega)
  by_cases h4 : 20 < nr
  · have h4a : decide (20 < (nr : Int)) = true := decide_eq_true (by omega)
    have h4b : decide (20 < nr) = true := decide_eq_true (by omega)
    clear h4 HF
    go_wp2_with fail
    go_ret
    exact ⟨rfl, S2.below⟩
  have h4a : decide (20 < (nr : Int)) = false := decide_eq_false (by omega)
  have h4b : decide (20 < nr) = false := decide_eq_false (by omega)
  by_cases h5 : k < 1
  · have h5a : decide (k < 1) = true := decide_eq_true h5
    clear h5 HF
    go_wp2_with fail
    go_ret
    exact ⟨rfl, S2.below⟩
  have h5a : decide (k < 1) = false := decide_eq_false h5
  by_cases h6 : 40 < k
  · have h6a : decide (40 < k) = true := decide_eq_true h6
    clear h6 HF
    go_wp2_with fail
    go_ret
    exact ⟨rfl, S2.below⟩
  have h6a : decide (40 < k) = false := decide_eq_false h6
  obtain ⟨f1, f2, f3, f4, f5, f6, f7, f8, f9, rfl, rfl⟩ := HF
  obtain ⟨f7a, f7b⟩ := wiB_yes f7
  obtain ⟨f8a, f8b⟩ := wiB_yes f8
  rw [HHL.out] at f7a
  rw [HRL.out] at f8a
  obtain ⟨s, rfl⟩ : ∃ s' : Nat, H = (s' : Int) := ⟨H.toNat, by omega⟩
  obtain ⟨t, rfl⟩ : ∃ t' : Nat, W = (t' : Int) := ⟨W.toNat, by omega⟩
  obtain ⟨k, rfl⟩ : ∃ k' : Nat, k = (k' : Int) := ⟨k.toNat, by omega⟩
  obtain rfl : n = s * t := by
    unfold chk at f9
    rw [if_neg (by omega)] at f9
    have h9 : (n : Int) = (t : Int) * (s : Int) := Classical.byContradiction fun hne => by
      rw [if_pos (.inr (.inr hne))] at f9
      cases f9
    have h8 : (n : Int) = ((s * t : Nat) : Int) := by rw [h9, Int.mul_comm]; push_cast; rfl
    omega
  have K : DOk s t nh nr th tr tb := ⟨by omega, by omega, by omega, by omega, by omega, by omega, by omega, by omega, HHL.out, HRL.out, f7b, f8b, HTL.out⟩
  obtain ⟨bh, oh, rfl, _⟩ := (S2.rd 0 rfl).at_ (by omega)
  obtain ⟨br, or, rfl, _⟩ := (S2.rd 1 rfl).at_ (by omega)
  obtain ⟨bt, ot, rfl, _⟩ := (S2.rd 2 rfl).at_ (Nat.mul_pos (by omega) (by omega))
  have ha1 : 1 ≤ nh := by omega
  have ha : nh ≤ 8 := by omega
  have hh1 : 1 ≤ nr := by omega
  have hh : nr ≤ 20 := by omega
  have hk1 : 1 ≤ k := by omega
  have hk : k ≤ 40 := by omega
  have hpos : 1 ≤ nr * nh := Nat.mul_pos (by omega) (by omega)
  have HMP := Lib.hid (show nr * nh ≤ 20 * 8 from Nat.mul_le_mul hh ha)
  have HCK := Lib.hid (show ∀ (g c : Nat) u, Calls Try.prog 7 #[.agg #[.int .i64 nh, .int .i64 nr, .slice (some ⟨g, 0, none⟩) (nr * nh) c]] u (fun e w' => e = .returned (.int .i64 0) ∧ Below u.heap.size u w') from fun g c u => by
    have h1 := rcheck_any nh nr (some ⟨g, 0, none⟩) (nr * nh) c u
    rwa [chk_ok (by omega) (by omega) (by omega) (by omega) (by rw [Nat.mul_comm]; push_cast; rfl)] at h1)
  clear f1 f2 f3 f4 f5 f6 f7 f8 f9 f7a f7b f8a f8b h3 h4 h5 h6
  go_wp2_with fail
  have HWV := weave3_any s t bt ot ct bh oh nh ch br or nr cr th tr tb w2 K (S2.rd 0 rfl) (S2.rd 1 rfl) (S2.rd 2 rfl)
  unfold dC at HWV
  refine HWV.mono ?_
  rintro e w3 ⟨A3, cg, rfl, hown3, hb3⟩
  obtain ⟨g, rfl⟩ := own_addr hown3 hpos
  have hcg := own_cap hown3
  have HGL := Lib.hid (show (Pl.tab nh nr (wovF th tr tb t)).length = nr * nh from Pl.tab_length)
  generalize Pl.tab nh nr (wovF th tr tb t) = gb at *
  have S3 := ((S2.keep hb3).addRd (rd_of_own hown3)).box #[.int .i64 nh, .int .i64 nr, .slice (some ⟨g, 0, none⟩) (nr * nh) cg] 25
  simp only [List.nil_append, List.cons_append] at S3
  clear S2 hb3 hown3 HWV K d0 d1 d2 d3 d4 d5 d6
  obtain ⟨d0, d1, d2, d3, d4, d5, d6⟩ := (S3.blk 5 rfl).cell7
  obtain ⟨g0, g1, g2⟩ := (S3.blk 7 rfl).cell3
  go_wp2_with fail
  refine (HCK.out _ _ _).mono ?_
  rintro e w4 ⟨rfl, hb4⟩
  have S4 := S3.keep hb4
  clear S3 hb4 d0 d1 d2 d3 d4 d5 d6 g0 g1 g2
  obtain ⟨d0, d1, d2, d3, d4, d5, d6⟩ := (S4.blk 5 rfl).cell7
  obtain ⟨g0, g1, g2⟩ := (S4.blk 7 rfl).cell3
  go_wp2_with fail
  refine (rthr_any ⟨nh, nr, gb⟩ p q (some ⟨g, 0, none⟩) Ap Aq (nr * nh) cg np cp nq cq _ HGL.out (S4.rd 3 rfl) (S4.rd 4 rfl)).mono ?_
  rintro e w5 ⟨rfl, hb5⟩
  have S5 := S4.keep hb5
  clear S4 hb5 d0 d1 d2 d3 d4 d5 d6 g0 g1 g2
  have HTO := Lib.hid (fun (h : thr ⟨nh, nr, gb⟩ p q = 0) => thr_zero h)
  generalize thr ⟨nh, nr, gb⟩ p q = tv at *
  by_cases htv : tv = 0
  rotate_left
  · have hv1 : (tv != 0) = true := by rw [bne_iff_ne]; exact htv
    clear htv HTO
    go_wp2_with fail
    go_ret
    exact ⟨rfl, S5.below⟩
  obtain ⟨_, hp0, hq0, hfp, hfq⟩ := HTO.out htv
  subst htv
  have hp1 : p.length = nh := Int.ofNat.inj hp0
  have hq1 : q.length = nr := Int.ofNat.inj hq0
  obtain rfl : np = nh := HPL.out.symm.trans hp1
  obtain rfl : nq = nr := HQL.out.symm.trans hq1
  clear hp0 hq0 HTO
  have hp := HPL.out
  have hq := HQL.out
  have HC1 := Lib.hid (thrI_front (bs := gb) ha1 (by omega) hh1 (by omega) hp hq hp hq hfp hfq hfp hfq).1
  have HW1 := Lib.hid (weave_front ha1 (by omega) hh1 (by omega) HGL.out hp hq hfp hfq)
  have HFF := Lib.hid (front_fits (bs := gb) hp hq hfp hfq)
  have HTP := Lib.hid (fun P Q => tp_first np nq gb p q P Q hp hq hfp hfq)
  have HTF := Lib.hid (fun (P Q : List Int) (hP : P.length = np) (hQ : Q.length = nq) (h3 : fineL P = true) (h4 : fineL Q = true) => (thrI_front (bs := gb) ha1 (by omega) hh1 (by omega) hp hq hP hQ hfp hfq h3 h4).2)
  obtain ⟨g0, g1, g2⟩ := (S5.blk 7 rfl).cell3
  go_wp2_with fail
  refine (fw_front np nq cg cp cq (some ⟨g, 0, none⟩) Ap Aq gb p q _ ha1 (by omega) hh1 (by omega) HGL.out hp hq hfp hfq (S5.rd 6 rfl) (S5.rd 3 rfl) (S5.rd 4 rfl)).mono ?_
  rintro e w6 ⟨gm, cm, rfl, rm, hb6⟩
  have S6 := ((S5.keep hb6).addRd rm).box #[.int .i64 np, .int .i64 nq, .slice (some ⟨gm, 0, none⟩) (nq * np) cm] 36
  simp only [List.nil_append, List.cons_append] at S6
  clear S5 hb6 rm g0 g1 g2
  obtain ⟨g0, g1, g2⟩ := (S6.blk 7 rfl).cell3
  obtain ⟨m0, m1, m2⟩ := (S6.blk 9 rfl).cell3
  have HCL := Lib.hid (show (Pl.tab np nq (frontF np gb p q)).length = nq * np from Pl.tab_length)
  obtain ⟨ml, hml⟩ : ∃ ml, Pl.tab np nq (frontF np gb p q) = ml := ⟨_, rfl⟩
  have HML := Lib.hid hml
  rw [hml] at HC1 HW1 HFF HTP HTF HCL S6
  clear hml
  go_wp2_with fail
  refine (rcheckI_to ⟨np, nq, ml⟩ (some ⟨gm, 0, none⟩) (nq * np) cm _ HC1.out (S6.rd 8 rfl) (by have := HMP.out; omega)).mono ?_
  rintro e w7 ⟨rfl, hb7⟩
  have S7 := S6.keep hb7
  clear S6 hb7 g0 g1 g2 m0 m1 m2
  obtain ⟨g0, g1, g2⟩ := (S7.blk 7 rfl).cell3
  obtain ⟨m0, m1, m2⟩ := (S7.blk 9 rfl).cell3
  go_wp2_with fail
  refine (tp_weave np nq gm 0 cm cp cq g 0 cg Ap Aq ml p q gb gb _ (by have := HMP.out; omega) hpos HW1.out HGL.out (S7.rd 8 rfl) (S7.rd 3 rfl) (S7.rd 4 rfl) (S7.rd 6 rfl)).mono ?_
  rintro e w8 ⟨gw, cw, rfl, rw8, hb8⟩
  have S8 := ((S7.keep hb8).addRd rw8).box #[.int .i64 np, .int .i64 nq, .slice (some ⟨gw, 0, none⟩) (nq * np) cw] 25
  simp only [List.nil_append, List.cons_append] at S8
  clear S7 hb8 rw8 g0 g1 g2 m0 m1 m2 HW1
  obtain ⟨m0, m1, m2⟩ := (S8.blk 9 rfl).cell3
  go_wp2_with fail
  refine (First_fit np nq ml (some ⟨gm, 0, none⟩) cm _ HC1.out ⟨_, HFF.out⟩ (S8.rd 8 rfl) (by have := HMP.out; omega)).mono ?_
  rintro e w9 ⟨P, Q, A1, A2, k1, k2, rfl, hP, hQ, hfit, _, rP, rQ, hb9⟩
  obtain ⟨hfP, hfQ, hfB⟩ := HTP.out P Q hP hQ hfit
  have S9 := ((S8.keep hb9).addRd rP).addRd rQ
  simp only [List.nil_append, List.cons_append] at S9
  have HT2 := Lib.hid (HTF.out P Q hP hQ hfP hfQ)
  have HW2 := Lib.hid (weave_mk (bs := gb) HT2.out ha1 (by omega) hh1 (by omega) HGL.out hfB)
  have HS2 := Lib.hid (shows_weave (bs := gb) HT2.out ha1 (by omega) hh1 (by omega) HCL.out hfB)
  clear S8 hb9 rP rQ m0 m1 m2 hfit hfB HTP HTF HFF
  obtain ⟨g0, g1, g2⟩ := (S9.blk 7 rfl).cell3
  obtain ⟨e0, e1, e2⟩ := (S9.blk 11 rfl).cell3
  go_wp2_with fail
  have HS := rsame_any ⟨np, nq, gb⟩ ⟨np, nq, gb⟩ (some ⟨gw, 0, none⟩) (some ⟨g, 0, none⟩) (nq * np) cw (nq * np) cg _ (S9.rd 10 rfl) (S9.rd 6 rfl) (by have := HMP.out; omega)
  rw [sameG_self] at HS
  refine HS.mono ?_
  rintro e w10 ⟨rfl, hb10⟩
  have S10 := S9.keep hb10
  clear S9 hb10 HS g0 g1 g2 e0 e1 e2
  obtain ⟨m0, m1, m2⟩ := (S10.blk 9 rfl).cell3
  go_wp2_with fail
  have HR := rthrI_any ⟨np, nq, ml⟩ P Q (some ⟨gm, 0, none⟩) A1 A2 (nq * np) cm np k1 nq k2 w10 (S10.rd 8 rfl) (by have := HMP.out; omega) (S10.rd 12 rfl) (S10.rd 13 rfl)
  rw [HT2.out] at HR
  refine HR.mono ?_
  rintro e w11 ⟨rfl, hb11⟩
  have S11 := S10.keep hb11
  clear S10 hb11 HR m0 m1 m2
  obtain ⟨m0, m1, m2⟩ := (S11.blk 9 rfl).cell3
  obtain ⟨g0, g1, g2⟩ := (S11.blk 7 rfl).cell3
  go_wp2_with fail
  refine (tp_weave np nq gm 0 cm k1 k2 g 0 cg A1 A2 ml P Q gb _ _ (by have := HMP.out; omega) hpos HW2.out Pl.tab_length (S11.rd 8 rfl) (S11.rd 12 rfl) (S11.rd 13 rfl) (S11.rd 6 rfl)).mono ?_
  rintro e w12 ⟨gv, cv, rfl, rv, hb12⟩
  generalize Pl.tab np nq (weaveF np ml P Q gb) = vb at *
  have S12 := ((S11.keep hb12).addRd rv).box #[.int .i64 np, .int .i64 nq, .slice (some ⟨gv, 0, none⟩) (nq * np) cv] 25
  simp only [List.nil_append, List.cons_append] at S12
  clear S11 hb12 rv g0 g1 g2 m0 m1 m2
  obtain ⟨m0, m1, m2⟩ := (S12.blk 9 rfl).cell3
  obtain ⟨e0, e1, e2⟩ := (S12.blk 15 rfl).cell3
  go_wp2_with fail
  have HSH := shows_any ⟨np, nq, vb⟩ ⟨np, nq, ml⟩ P Q (some ⟨gv, 0, none⟩) (some ⟨gm, 0, none⟩) A1 A2 (nq * np) cv (nq * np) cm np k1 nq k2 _ (S12.rd 14 rfl) (S12.rd 8 rfl) (by have := HMP.out; omega) (S12.rd 12 rfl) (S12.rd 13 rfl)
  rw [HS2.out] at HSH
  refine HSH.mono ?_
  rintro e w13 ⟨rfl, hb13⟩
  have S13 := S12.keep hb13
  clear S12 hb13 HSH m0 m1 m2 e0 e1 e2
  obtain ⟨m0, m1, m2⟩ := (S13.blk 9 rfl).cell3
  obtain ⟨g0, g1, g2⟩ := (S13.blk 7 rfl).cell3
  go_wp2_with fail
  refine (fewer_any np nq k g 0 cg gm 0 cm cp cq Ap Aq gb p q _ ha1 ha hh1 hh hk1 hk HGL.out hp hq hfp hfq (S13.rd 6 rfl) hcg (HML.out ▸ S13.rd 8 rfl) (S13.rd 3 rfl) (S13.rd 4 rfl)).mono ?_
  rintro e w14 ⟨rfl, hb14⟩
  have S14 := S13.keep hb14
  clear S13 hb14 m0 m1 m2 g0 g1 g2
  go_wp2_with fail
  go_ret
  exact ⟨rfl, S14.below⟩
end Go.Proofs.Ytmajmbfbnchbfaa
