/- colour.Front and Back give the plain results frontI and backI, in new memory, for any grid and lists of numbers. -/
import Derived.Test.YtpfonniepinjnaaDoorFrontF
import Derived.Test.YtpfonniepinjnaaDoorView
import Derived.Test.YtpfonniepinjnaaDoorThrC
namespace Go.Proofs.YtpfonniepinjnaaDoor
open Go.RowKit

theorem back1_gives (a b Bg Bp Bq : Nat) (A Ap Aq : Option Addr) (c cp cq : Nat) (bs : List Bool) (p q : List Int) (w : World) (ha : a ≤ 64) (hb : b ≤ 64)
    (hg : Blk w Bg 46 #[.int .i64 a, .int .i64 b, .slice A (b * a) c]) (hp : Blk w Bp 22 #[.slice Ap a cp]) (hq : Blk w Bq 22 #[.slice Aq b cq])
    (hr : Rd w A (b * a) (bs.map Value.bool)) (hrp : Rd w Ap a (p.map (Value.int .i64))) (hrq : Rd w Aq b (q.map (Value.int .i64))) :
    GivesI 38 #[.pointer (some ⟨Bg, 0, none⟩), .pointer (some ⟨Bq, 0, none⟩), .pointer (some ⟨Bp, 0, none⟩)] a b (backF a bs p q) w := by
  intro w' x y hbel hx hy
  show Calls _ _ _ _ fun e w'' => e = .returned (.int .i64 (backF a bs p q x y)) ∧ Below w'.heap.size w' w''
  have hg' := hg.keep hbel
  have hp' := hp.keep hbel
  have hq' := hq.keep hbel
  have hr' := hr.below hbel
  have hrp' := hrp.below hbel
  have hrq' := hrq.below hbel
  have lb : bs.length = b * a := by simpa using hr.len
  have lp : p.length = a := by simpa using hrp.len
  have lq : q.length = b := by simpa using hrq.len
  obtain ⟨u, hu, hua⟩ : ∃ u, a - 1 - x = u ∧ (u : Int) = (a : Int) - 1 - (x : Int) := ⟨_, rfl, by omega⟩
  have hux : u < a := by omega
  have hF : y * a + u < b * a := Pl.cell_lt hux hy
  have hFF : Hid (backF a bs p q x y = if bs.getD (y * a + u) false then q.getD y 0 else p.getD u 0) := by
    have : backF a bs p q x y = if bs.getD (y * a + (a - 1 - x)) false then q.getD y 0 else p.getD (a - 1 - x) 0 := rfl
    rw [hu] at this
    exact this
  clear hu
  obtain rfl : x = a - 1 - u := by omega
  have hxu : ((a - 1 - u : Nat) : Int) = (a : Int) - 1 - (u : Int) := by omega
  generalize a - 1 - u = x at *
  obtain ⟨i0, i1⟩ := mul_bound (p := (y : Int)) (q := (a : Int)) (by omega) (by omega) (by omega) (by omega)
  obtain ⟨bl, o, rfl, hbl, hc⟩ := hr'.at_ (by omega)
  have hcell := cell_read lb hF hc
  obtain ⟨bp, op, rfl, hbp, hcp⟩ := hrp'.at_ (by omega)
  have hcellp := int_read lp hux hcp
  obtain ⟨bq, oq, rfl, hbq, hcq⟩ := hrq'.at_ (by omega)
  have hcellq := int_read lq hy hcq
  obtain ⟨c0, c1, c2⟩ := hg'.cell3
  have cp0 := hp'.cell 0
  have cq0 := hq'.cell 0
  have HX := Lib.hid hxu
  have hsub : (a : Int) - 1 - (x : Int) = (u : Int) := by omega
  clear hua hxu
  generalize backF a bs p q x y = r at *
  generalize p.getD u 0 = k at *
  generalize q.getD y 0 = v at *
  clear hg hp hq hr hrp hrq hg' hp' hq' hr' hrp' hrq' hc hcp hcq lb lp lq
  rcases Bool.eq_false_or_eq_true (bs.getD (y * a + u) false) with e | e
  all_goals
    rw [e] at hcell hFF
    clear e
    go_enter Tryd.func38, Tryd.ntmps38
    go_wp2
    go_ret
    exact ⟨ret_i hFF.out.symm, Below.refl _ _⟩

set_option maxHeartbeats 1000000 in
theorem back_any (g : Gd) (p q : List Int) (A Ap Aq : Option Addr) (n c np cp nq cq : Nat) (w : World) (hr : Rd w A n (g.bits.map Value.bool)) (hrp : Rd w Ap np (p.map (Value.int .i64))) (hrq : Rd w Aq nq (q.map (Value.int .i64))) :
    Calls Tryd.prog 21 #[.agg #[.int .i64 g.w, .int .i64 g.h, .slice A n c], .slice Ap np cp, .slice Aq nq cq] w (RetI (backI g p q) w) := by
  have lb : g.bits.length = n := by simpa using hr.len
  have lp : p.length = np := by simpa using hrp.len
  have lq : q.length = nq := by simpa using hrq.len
  have S0 := (((((((St.start w).addRd hr).addRd hrp).addRd hrq).box #[.int .i64 g.w, .int .i64 g.h, .slice A n c] 46).box #[.slice Ap np cp] 22).box #[.slice Aq nq cq] 22).box #[.int .i64 0, .int .i64 0, .slice none 0 0] 24
  simp only [size_alloc1, List.nil_append, List.cons_append] at S0
  obtain ⟨c0, c1, c2⟩ := (S0.blk 3 rfl).cell3
  have cp0 := (S0.blk 4 rfl).cell 0
  have cq0 := (S0.blk 5 rfl).cell 0
  have HT := Lib.hid (thr_any g p q A Ap Aq n c np cp nq cq _ lb (S0.rd 1 rfl) (S0.rd 2 rfl))
  by_cases h0 : thr g p q = 0
  · obtain ⟨a, b, bs, rfl, ha1, ha, hb1, hb, hl, hpa, hqb, _, _⟩ := thr_open h0
    have HC := Lib.hid (backI_mk h0)
    rw [h0] at HT
    simp only at lb lp lq HT S0 c0 c1 c2 ⊢
    obtain rfl : n = b * a := by omega
    obtain rfl : np = a := by omega
    obtain rfl : nq = b := by omega
    clear h0 lb lp lq hl hpa hqb hr hrp hrq
    have hE := Proofs.enters_of Tryd.func38 (by kernel_rfl) rfl
    go_enter Tryd.func21, Tryd.ntmps21
    go_wp2_with fail
    refine HT.out.mono ?_
    rintro e w1 ⟨rfl, hb1⟩
    have S1 := S0.keep hb1
    clear c0 c1 c2 cp0 cq0 HT
    obtain ⟨c0, c1, c2⟩ := (S1.blk 3 rfl).cell3
    go_wp2_with fail
    refine (image_any 38 _ _ _ _ w1 ha hb hE (back1_gives _ _ _ _ _ A Ap Aq c cp cq bs p q w1 ha hb (S1.blk 3 rfl) (S1.blk 4 rfl) (S1.blk 5 rfl) (S1.rd 0 rfl) (S1.rd 1 rfl) (S1.rd 2 rfl))).mono ?_
    rintro e w2 ⟨A2, n2, c2', rfl, hown2, hb2⟩
    simp only at hown2 ⊢
    have S2 := S1.keep hb2
    have hR2 := S2.blk 6 rfl
    obtain ⟨r0, r1, r2⟩ := hR2.cell3
    obtain ⟨f0, f1, f2⟩ := hR2.frozen3
    obtain ⟨q0, q1, q2⟩ := (hR2.set3 (.int .i64 np) (.int .i64 nq) (.slice A2 n2 c2')).cell3
    clear c0 c1 c2
    go_wp2_with fail
    refine bodyPost_ret (v := .tuple #[.agg #[.int .i64 np, .int .i64 nq, .slice A2 n2 c2'], .int .i64 0]) (by simp [results, Tryd.results21, go_sem, q0, q1, q2]) rfl ?_
    refine ⟨A2, n2, c2', by rw [HC.out], ?_, below_set3 S2.below (by omega) _ _ _⟩
    rw [HC.out]
    exact own_set3 (own_base hown2 S1.size) hR2 (by decide) _ _ _
  · have hcb : (thr g p q != 0) = true := by simpa using h0
    have HC : Hid (backI g p q = (Im.zero, thr g p q)) := withThr_bad h0 _
    clear h0 lb lp lq
    generalize thr g p q = t at *
    go_enter Tryd.func21, Tryd.ntmps21
    go_wp2_with fail
    refine HT.out.mono ?_
    rintro e w1 ⟨rfl, hb1⟩
    have S1 := S0.keep hb1
    clear c0 c1 c2 cp0 cq0 HT
    have hR2 := S1.blk 6 rfl
    obtain ⟨r0, r1, r2⟩ := hR2.cell3
    obtain ⟨f0, f1, f2⟩ := hR2.frozen3
    obtain ⟨q0, q1, q2⟩ := (hR2.set3 (.int .i64 0) (.int .i64 0) (.slice none 0 0)).cell3
    go_wp2_with fail
    refine bodyPost_ret (v := .tuple #[.agg #[.int .i64 0, .int .i64 0, .slice none 0 0], .int .i64 t]) (by simp [results, Tryd.results21, go_sem, q0, q1, q2]) rfl ?_
    exact bad_retI HC.out (below_set3 S1.below (by omega) _ _ _)

end Go.Proofs.YtpfonniepinjnaaDoor
