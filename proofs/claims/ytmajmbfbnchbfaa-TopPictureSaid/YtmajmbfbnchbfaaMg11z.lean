/- Parts of the proof, in their order. -/
import Derived.Test.YtmajmbfbnchbfaaViewz
import Derived.Test.YtmajmbfbnchbfaaThrCz
import Derived.Test.YtmajmbfbnchbfaaFirstPz
import Derived.Test.YtmajmbfbnchbfaaLibz
/- colour.Front: the side that is seen. -/
namespace Go.Proofs.Ytmajmbfbnchbfaa
open Go.RowKit

set_option maxHeartbeats 1000000 in
theorem front_any (g : Gd) (p q : List Int) (A Ap Aq : Option Addr) (n c np cp nq cq : Nat) (w : World) (hr : Rd w A n (g.bits.map Value.bool)) (hrp : Rd w Ap np (p.map (Value.int .i64))) (hrq : Rd w Aq nq (q.map (Value.int .i64))) :
    Calls Try.prog 9 #[.agg #[.int .i64 g.w, .int .i64 g.h, .slice A n c], .slice Ap np cp, .slice Aq nq cq] w (RetI (frontI g p q) w) := by
  have lb : g.bits.length = n := by simpa using hr.len
  have lp : p.length = np := by simpa using hrp.len
  have lq : q.length = nq := by simpa using hrq.len
  have S0 := (((((((St.start w).addRd hr).addRd hrp).addRd hrq).box #[.int .i64 g.w, .int .i64 g.h, .slice A n c] 25).box #[.slice Ap np cp] 22).box #[.slice Aq nq cq] 22).box #[.int .i64 0, .int .i64 0, .slice none 0 0] 36
  simp only [size_alloc1, List.nil_append, List.cons_append] at S0
  obtain ⟨c0, c1, c2⟩ := (S0.blk 3 rfl).cell3
  have cp0 := (S0.blk 4 rfl).cell 0
  have cq0 := (S0.blk 5 rfl).cell 0
  have HT := Lib.hid (thr_any g p q A Ap Aq n c np cp nq cq _ lb (S0.rd 1 rfl) (S0.rd 2 rfl))
  by_cases h0 : thr g p q = 0
  · obtain ⟨a, b, bs, rfl, ha1, ha, hb1, hb, hl, hpa, hqb, _, _⟩ := thr_open h0
    have HC := Lib.hid (frontI_mk h0)
    rw [h0] at HT
    simp only at lb lp lq HT S0 c0 c1 c2 ⊢
    obtain rfl : n = b * a := by omega
    obtain rfl : np = a := by omega
    obtain rfl : nq = b := by omega
    clear h0 lb lp lq hl hpa hqb hr hrp hrq
    have hE := Proofs.enters_of Try.func27 (by kernel_rfl) rfl
    go_enter Try.func9, Try.ntmps9
    go_wp2_with fail
    refine HT.out.mono ?_
    rintro e w1 ⟨rfl, hb1⟩
    have S1 := S0.keep hb1
    clear c0 c1 c2 cp0 cq0 HT
    obtain ⟨c0, c1, c2⟩ := (S1.blk 3 rfl).cell3
    go_wp2_with fail
    refine (image_any 27 _ _ _ _ w1 ha hb hE (front1_gives _ _ _ _ _ A Ap Aq c cp cq bs p q w1 ha hb (S1.blk 3 rfl) (S1.blk 4 rfl) (S1.blk 5 rfl) (S1.rd 0 rfl) (S1.rd 1 rfl) (S1.rd 2 rfl))).mono ?_
    rintro e w2 ⟨A2, n2, c2', rfl, hown2, hb2⟩
    simp only at hown2 ⊢
    have S2 := S1.keep hb2
    have hR2 := S2.blk 6 rfl
    obtain ⟨r0, r1, r2⟩ := hR2.cell3
    obtain ⟨f0, f1, f2⟩ := hR2.frozen3
    obtain ⟨q0, q1, q2⟩ := (hR2.set3 (.int .i64 np) (.int .i64 nq) (.slice A2 n2 c2')).cell3
    clear c0 c1 c2
    go_wp2_with fail
    refine bodyPost_ret (v := .tuple #[.agg #[.int .i64 np, .int .i64 nq, .slice A2 n2 c2'], .int .i64 0]) (by simp [results, Try.results9, go_sem, q0, q1, q2]) rfl ?_
    refine ⟨A2, n2, c2', by rw [HC.out], ?_, below_set3 S2.below (by omega) _ _ _⟩
    rw [HC.out]
    exact own_set3 (own_base hown2 S1.size) hR2 (by decide) _ _ _
  · have hcb : (thr g p q != 0) = true := by simpa using h0
    have HC : Hid (frontI g p q = (Im.zero, thr g p q)) := withThr_bad h0 _
    clear h0 lb lp lq
    generalize thr g p q = t at *
    go_enter Try.func9, Try.ntmps9
    go_wp2_with fail
    refine HT.out.mono ?_
    rintro e w1 ⟨rfl, hb1⟩
    have S1 := S0.keep hb1
    clear c0 c1 c2 cp0 cq0 HT
    have hR2 := S1.blk 6 rfl
    obtain ⟨r0, r1, r2⟩ := hR2.cell3
    obtain ⟨f0, f1, f2⟩ := hR2.frozen3
    obtain ⟨q0, q1, q2⟩ := (hR2.set3 (.int .i64 0) (.int .i64 0) (.slice none 0 0)).cell3
    go_wp2_with fail
    refine bodyPost_ret (v := .tuple #[.agg #[.int .i64 0, .int .i64 0, .slice none 0 0], .int .i64 t]) (by simp [results, Try.results9, go_sem, q0, q1, q2]) rfl ?_
    exact bad_retI HC.out (below_set3 S1.below (by omega) _ _ _)

end Go.Proofs.Ytmajmbfbnchbfaa
/- The block of a state of picture: the sides, the function values, the colours so far. -/
namespace Go.Proofs.Ytmajmbfbnchbfaa
open Go.RowKit

def stL (a b : Nat) (F0 F1 : Value) (p q : List Int) : List Value := (.int .i64 a :: F0 :: p.map (Value.int .i64)) ++ (.int .i64 b :: F1 :: q.map (Value.int .i64))
section
variable {a b : Nat} {F0 F1 : Value} {p q : List Int} {w : World} {g : Nat} {t : TypeId}
theorem stL_length (hp : p.length = 64) (hq : q.length = 64) : (stL a b F0 F1 p q).length = 132 := by simp [stL, hp, hq]
theorem stL_0 : (stL a b F0 F1 p q)[0]? = some (.int .i64 a) := rfl
theorem stL_1 : (stL a b F0 F1 p q)[1]? = some F0 := rfl
theorem stL_p {i : Nat} (hp : p.length = 64) (hi : i < 64) : (stL a b F0 F1 p q)[2 + i]? = some (.int .i64 (p.getD i (-1))) := by
  unfold stL
  rw [List.getElem?_append_left (by simp; omega), show 2 + i = i + 1 + 1 by omega, List.getElem?_cons_succ, List.getElem?_cons_succ, List.getElem?_map, List.getD_eq_getElem?_getD, List.getElem?_eq_getElem (by omega)]
  rfl
theorem stL_66 (hp : p.length = 64) : (stL a b F0 F1 p q)[66]? = some (.int .i64 b) := by
  unfold stL
  rw [List.getElem?_append_right (by simp; omega)]
  simp [hp]
theorem stL_67 (hp : p.length = 64) : (stL a b F0 F1 p q)[67]? = some F1 := by
  unfold stL
  rw [List.getElem?_append_right (by simp; omega)]
  simp [hp]
theorem stL_q {i : Nat} (hp : p.length = 64) (hq : q.length = 64) (hi : i < 64) : (stL a b F0 F1 p q)[68 + i]? = some (.int .i64 (q.getD i (-1))) := by
  unfold stL
  rw [List.getElem?_append_right (by simp; omega)]
  have e : 68 + i - (Value.int .i64 a :: F0 :: p.map (Value.int .i64)).length = i + 1 + 1 := by simp [hp]; omega
  rw [e, List.getElem?_cons_succ, List.getElem?_cons_succ, List.getElem?_map, List.getD_eq_getElem?_getD, List.getElem?_eq_getElem (by omega)]
  rfl
theorem stL_setp {i : Nat} {c : Int} (hp : p.length = 64) (hi : i < 64) : (stL a b F0 F1 p q).set (2 + i) (.int .i64 c) = stL a b F0 F1 (p.set i c) q := by
  unfold stL
  rw [List.set_append_left _ _ (by simp; omega), show 2 + i = i + 1 + 1 by omega, List.set_cons_succ, List.set_cons_succ, List.map_set]
theorem stL_setq {i : Nat} {c : Int} (hp : p.length = 64) : (stL a b F0 F1 p q).set (68 + i) (.int .i64 c) = stL a b F0 F1 p (q.set i c) := by
  unfold stL
  rw [List.set_append_right _ _ (by simp; omega)]
  have e : 68 + i - (Value.int .i64 a :: F0 :: p.map (Value.int .i64)).length = i + 1 + 1 := by simp [hp]; omega
  rw [e, List.set_cons_succ, List.set_cons_succ, List.map_set]
abbrev StB (w : World) (g : Nat) (t : TypeId) (a b : Nat) (F0 F1 : Value) (p q : List Int) : Prop := Blk w g t (stL a b F0 F1 p q).toArray
theorem StB.cell (h : StB w g t a b F0 F1 p q) (j : Nat) {v : Value} (e : (stL a b F0 F1 p q)[j]? = some v) : w.cell? ⟨g, j, none⟩ = some v := by
  rw [Blk.cell h]
  simpa using e
theorem StB.setp (h : StB w g t a b F0 F1 p q) {i : Nat} (hp : p.length = 64) (hi : i < 64) (c : Int) : StB (w.setCell ⟨g, 2 + i, none⟩ (.int .i64 c)) g t a b F0 F1 (p.set i c) q := by
  have k := Blk.set_ h (2 + i) (.int .i64 c)
  rw [List.setIfInBounds_toArray, stL_setp hp hi] at k
  exact k
theorem StB.setq (h : StB w g t a b F0 F1 p q) {i : Nat} (hp : p.length = 64) (c : Int) : StB (w.setCell ⟨g, 68 + i, none⟩ (.int .i64 c)) g t a b F0 F1 p (q.set i c) := by
  have k := Blk.set_ h (68 + i) (.int .i64 c)
  rw [List.setIfInBounds_toArray, stL_setq hp] at k
  exact k
end
end Go.Proofs.Ytmajmbfbnchbfaa
