/- raddleref15.Weave: the forced cells, and another grid's in open cells. -/
import Derived.Test.YtefeghpglacghaaRCells15
import Derived.Test.YtefeghpglacghaaLike15
namespace Go.Proofs.Ytefeghpglacghaa
open Go.RowKit

theorem rw_bad {m : Im} {p q : List Int} {g : Gd} (h : thrI m p q ≠ 0) : weaveI m p q g = (Gd.zero, thrI m p q) := if_pos h
theorem rw_like {m : Im} {p q : List Int} {g : Gd} (h : thrI m p q = 0) (h2 : likeG g m ≠ 0) : weaveI m p q g = (Gd.zero, likeG g m) := by unfold weaveI; rw [if_neg (by omega), if_pos h2]
theorem rw_fit {a b : Nat} {cs p q : List Int} {g : Gd} (h : thrI ⟨a, b, cs⟩ p q = 0) (h2 : likeG g ⟨a, b, cs⟩ = 0) : weaveI ⟨a, b, cs⟩ p q g = if fitB a b cs p q then (⟨a, b, Pl.tab a b (weaveF a cs p q g.bits)⟩, 0) else (Gd.zero, 6) := by
  unfold weaveI
  rw [if_neg (by omega), if_neg (by omega)]
  simp only [Int.toNat_natCast]
/-- Woven up to a cell. -/
def mixF (a : Nat) (cs p q : List Int) (bs : List Bool) (x y : Nat) : Nat → Nat → Bool := fun x' y' => if x' < x ∨ x' = x ∧ y' < y then weaveF a cs p q bs x' y' else upF a cs q x' y'
section
variable {a b : Nat} {cs p q : List Int} {bs : List Bool} {x y : Nat}
theorem mix_start : Pl.tab a b (mixF a cs p q bs 0 0) = Pl.tab a b (upF a cs q) := Pl.tab_congr fun x y _ _ => by unfold mixF; rw [if_neg (by omega)]
theorem mix_done : Pl.tab a b (mixF a cs p q bs a 0) = Pl.tab a b (weaveF a cs p q bs) := Pl.tab_congr fun x y hx _ => by unfold mixF; rw [if_pos (by omega)]
theorem mix_col : Pl.tab a b (mixF a cs p q bs x b) = Pl.tab a b (mixF a cs p q bs (x + 1) 0) := Pl.tab_congr fun x' y' hx hy => by
  unfold mixF
  by_cases h : x' < x ∨ x' = x ∧ y' < b
  · rw [if_pos h, if_pos (by omega)]
  · rw [if_neg h, if_neg (by omega)]
theorem mix_keep (h : openF a cs p q x y = false) : Pl.tab a b (mixF a cs p q bs x (y + 1)) = Pl.tab a b (mixF a cs p q bs x y) := Pl.tab_congr fun x' y' hx hy => by
  unfold mixF
  by_cases e : x' = x ∧ y' = y
  · obtain ⟨rfl, rfl⟩ := e
    rw [if_pos (by omega), if_neg (by omega)]
    unfold weaveF
    rw [h, Bool.false_and, Bool.or_false]
  · by_cases h2 : x' < x ∨ x' = x ∧ y' < y
    · rw [if_pos h2, if_pos (by omega)]
    · rw [if_neg h2, if_neg (by omega)]
theorem mix_set (hx : x < a) (hy : y < b) (h : openF a cs p q x y = true) : (Pl.tab a b (mixF a cs p q bs x y)).set (y * a + x) (bs.getD (y * a + x) false) = Pl.tab a b (mixF a cs p q bs x (y + 1)) := by
  refine Pl.tab_ext (by rw [List.length_set, Pl.tab_length]) fun x' y' hx' hy' => ?_
  rw [List.getElem?_set]
  by_cases e : y * a + x = y' * a + x'
  · obtain ⟨h1, h2⟩ := Pl.cell_inj hx hx' e
    subst h1 h2
    have hcl := Pl.cell_lt (w := a) (h := b) hx hy
    rw [if_pos rfl, if_pos (by rw [Pl.tab_length]; exact hcl)]
    unfold mixF
    rw [if_pos (by omega)]
    unfold weaveF
    rw [h, Bool.true_and]
    have hu : upF a cs q x y = false := by
      unfold openF at h
      unfold upF
      rw [Bool.and_eq_true] at h
      rw [h.2]
      rfl
    rw [hu, Bool.false_or]
  · rw [if_neg e, Pl.tab_get hx' hy']
    unfold mixF
    have hne : ¬ (x' = x ∧ y' = y) := by rintro ⟨rfl, rfl⟩; exact e rfl
    by_cases h2 : x' < x ∨ x' = x ∧ y' < y
    · rw [if_pos h2, if_pos (by omega)]
    · rw [if_neg h2, if_neg (by omega)]
end

set_option linter.unusedSimpArgs false in
set_option linter.unusedVariables false in
set_option maxHeartbeats 40000000 in
set_option maxRecDepth 100000 in
theorem rweave_one (m : Im) (p q : List Int) (g : Gd) (A Ap Aq B : Option Addr) (n c np cp nq cq k d : Nat) (w : World) (h0 : thrI m p q ≠ 0)
    (HT : Hid (∀ W : World, Below w.heap.size w W → Calls Try.prog 35 #[.agg #[.int .i64 m.w, .int .i64 m.h, .slice A n c], .slice Ap np cp, .slice Aq nq cq] W fun e w' => e = .returned (.int .i64 (thrI m p q)) ∧ Below W.heap.size W w')) :
    Calls Try.prog 24 #[.agg #[.int .i64 m.w, .int .i64 m.h, .slice A n c], .slice Ap np cp, .slice Aq nq cq, .agg #[.int .i64 g.w, .int .i64 g.h, .slice B k d]] w (RetG (weaveI m p q g) w) := by
  have HB := Lib.hid (rw_bad (g := g) h0)
  have k0 : (thrI m p q != 0) = true := by simpa using h0
  generalize thrI m p q = t at *
  clear h0
  have S0 := (((St.start w).box #[.int .i64 m.w, .int .i64 m.h, .slice A n c] 24).box #[.int .i64 g.w, .int .i64 g.h, .slice B k d] 40).box #[.int .i64 0, .int .i64 0, .slice none 0 0] 40
  simp only [size_alloc1, List.nil_append, List.cons_append] at S0
  obtain ⟨c0, c1, c2⟩ := (S0.blk 0 rfl).cell3
  obtain ⟨d0, d1, d2⟩ := (S0.blk 1 rfl).cell3
  go_enter Try.func24, Try.ntmps24
  go_wp2_with fail
  refine (HT.out _ S0.below).mono ?_
  rintro e w1 ⟨rfl, hb1⟩
  have S := S0.keep hb1
  clear S0 c0 c1 c2 d0 d1 d2
  obtain ⟨c0, c1, c2⟩ := (S.blk 0 rfl).cell3
  obtain ⟨d0, d1, d2⟩ := (S.blk 1 rfl).cell3
  go_wp2_with fail
  refine (HT.out _ S.below).mono ?_
  rintro e w2 ⟨rfl, hb2⟩
  replace S := S.keep hb2
  clear c0 c1 c2 d0 d1 d2
  obtain ⟨c0, c1, c2⟩ := (S.blk 0 rfl).cell3
  obtain ⟨d0, d1, d2⟩ := (S.blk 1 rfl).cell3
  have hR := S.blk 2 rfl
  clear c0 c1 c2 d0 d1 d2
  obtain ⟨r0, r1, r2⟩ := hR.cell3
  obtain ⟨f0, f1, f2⟩ := hR.frozen3
  obtain ⟨q0, q1, q2⟩ := (hR.set3 (.int .i64 0) (.int .i64 0) (.slice none 0 0)).cell3
  go_wp2_with fail
  refine bodyPost_ret (v := .tuple #[.agg #[.int .i64 0, .int .i64 0, .slice none 0 0], .int .i64 t]) (by simp [results, Try.results24, go_sem, q0, q1, q2]) rfl ?_
  exact bad_ret HB.out (below_set3 S.below (by omega) _ _ _)

set_option linter.unusedSimpArgs false in
set_option linter.unusedVariables false in
set_option maxHeartbeats 40000000 in
set_option maxRecDepth 100000 in
theorem rweave_two (m : Im) (p q : List Int) (g : Gd) (A Ap Aq B : Option Addr) (n c np cp nq cq k d : Nat) (w : World) (h0 : thrI m p q = 0) (h1 : likeG g m ≠ 0)
    (HT : Hid (∀ W : World, Below w.heap.size w W → Calls Try.prog 35 #[.agg #[.int .i64 m.w, .int .i64 m.h, .slice A n c], .slice Ap np cp, .slice Aq nq cq] W fun e w' => e = .returned (.int .i64 0) ∧ Below W.heap.size W w'))
    (HL : Hid (∀ W : World, Below w.heap.size w W → Calls Try.prog 59 #[.agg #[.int .i64 g.w, .int .i64 g.h, .slice B k d], .agg #[.int .i64 m.w, .int .i64 m.h, .slice A n c]] W fun e w' => e = .returned (.int .i64 (likeG g m)) ∧ Below W.heap.size W w')) :
    Calls Try.prog 24 #[.agg #[.int .i64 m.w, .int .i64 m.h, .slice A n c], .slice Ap np cp, .slice Aq nq cq, .agg #[.int .i64 g.w, .int .i64 g.h, .slice B k d]] w (RetG (weaveI m p q g) w) := by
  have HB := Lib.hid (rw_like (g := g) h0 h1)
  have k0 : (likeG g m != 0) = true := by simpa using h1
  generalize likeG g m = t at *
  clear h0 h1
  have S0 := (((St.start w).box #[.int .i64 m.w, .int .i64 m.h, .slice A n c] 24).box #[.int .i64 g.w, .int .i64 g.h, .slice B k d] 40).box #[.int .i64 0, .int .i64 0, .slice none 0 0] 40
  simp only [size_alloc1, List.nil_append, List.cons_append] at S0
  obtain ⟨c0, c1, c2⟩ := (S0.blk 0 rfl).cell3
  obtain ⟨d0, d1, d2⟩ := (S0.blk 1 rfl).cell3
  go_enter Try.func24, Try.ntmps24
  go_wp2_with fail
  refine (HT.out _ S0.below).mono ?_
  rintro e w1 ⟨rfl, hb1⟩
  have S := S0.keep hb1
  clear S0 c0 c1 c2 d0 d1 d2
  obtain ⟨c0, c1, c2⟩ := (S.blk 0 rfl).cell3
  obtain ⟨d0, d1, d2⟩ := (S.blk 1 rfl).cell3
  go_wp2_with fail
  refine (HL.out _ S.below).mono ?_
  rintro e w2 ⟨rfl, hb2⟩
  replace S := S.keep hb2
  clear c0 c1 c2 d0 d1 d2
  obtain ⟨c0, c1, c2⟩ := (S.blk 0 rfl).cell3
  obtain ⟨d0, d1, d2⟩ := (S.blk 1 rfl).cell3
  go_wp2_with fail
  refine (HL.out _ S.below).mono ?_
  rintro e w3 ⟨rfl, hb3⟩
  replace S := S.keep hb3
  clear c0 c1 c2 d0 d1 d2
  obtain ⟨c0, c1, c2⟩ := (S.blk 0 rfl).cell3
  obtain ⟨d0, d1, d2⟩ := (S.blk 1 rfl).cell3
  have hR := S.blk 2 rfl
  clear c0 c1 c2 d0 d1 d2
  obtain ⟨r0, r1, r2⟩ := hR.cell3
  obtain ⟨f0, f1, f2⟩ := hR.frozen3
  obtain ⟨q0, q1, q2⟩ := (hR.set3 (.int .i64 0) (.int .i64 0) (.slice none 0 0)).cell3
  go_wp2_with fail
  refine bodyPost_ret (v := .tuple #[.agg #[.int .i64 0, .int .i64 0, .slice none 0 0], .int .i64 t]) (by simp [results, Try.results24, go_sem, q0, q1, q2]) rfl ?_
  exact bad_ret HB.out (below_set3 S.below (by omega) _ _ _)

set_option linter.unusedSimpArgs false in
set_option linter.unusedVariables false in
set_option maxHeartbeats 40000000 in
set_option maxRecDepth 100000 in
theorem rweave_three (a b : Nat) (cs p q : List Int) (bs : List Bool) (A Ap Aq B : Option Addr) (n c np cp nq cq k d : Nat) (w : World) (ha1 : 1 ≤ a) (ha : a ≤ 64) (hb1 : 1 ≤ b) (hb : b ≤ 64) (h0 : thrI ⟨a, b, cs⟩ p q = 0) (h1 : likeG ⟨a, b, bs⟩ ⟨a, b, cs⟩ = 0)
    (hg : Rd w B (b * a) (bs.map Value.bool)) (hkk : k = b * a)
    (HT : Hid (∀ W : World, Below w.heap.size w W → Calls Try.prog 35 #[.agg #[.int .i64 a, .int .i64 b, .slice A n c], .slice Ap np cp, .slice Aq nq cq] W fun e w' => e = .returned (.int .i64 0) ∧ Below W.heap.size W w'))
    (HL : Hid (∀ W : World, Below w.heap.size w W → Calls Try.prog 59 #[.agg #[.int .i64 a, .int .i64 b, .slice B k d], .agg #[.int .i64 a, .int .i64 b, .slice A n c]] W fun e w' => e = .returned (.int .i64 0) ∧ Below W.heap.size W w'))
    (HC : Hid (∀ W : World, Below w.heap.size w W → Calls Try.prog 22 #[.agg #[.int .i64 a, .int .i64 b, .slice A n c], .slice Ap np cp, .slice Aq nq cq] W (RetC (cellsI ⟨a, b, cs⟩ p q) W))) :
    Calls Try.prog 24 #[.agg #[.int .i64 a, .int .i64 b, .slice A n c], .slice Ap np cp, .slice Aq nq cq, .agg #[.int .i64 a, .int .i64 b, .slice B k d]] w (RetG (weaveI ⟨a, b, cs⟩ p q ⟨a, b, bs⟩) w) := by
  have HW := Lib.hid (rw_fit (g := ⟨a, b, bs⟩) h0 h1)
  have HRC := Lib.hid (fun hf => rc_ok (a := a) (b := b) (cs := cs) (p := p) (q := q) h0 hf)
  have HRN := Lib.hid (fun hf => rc_none (a := a) (b := b) (cs := cs) (p := p) (q := q) h0 hf)
  have HLK := Lib.hid (fun wz (hz : Below w.heap.size w wz) => hg.below hz)
  have hpos : 0 < b * a := Nat.mul_pos hb1 ha1
  subst hkk
  obtain ⟨r, hr⟩ : ∃ r, cellsI ⟨a, b, cs⟩ p q = r := ⟨_, rfl⟩
  rw [hr] at HC
  have HR := Lib.hid hr
  clear hr h0 h1 hg
  obtain ⟨⟨⟨uw, uh, ub⟩, ⟨ow, oh, ob⟩⟩, e⟩ := r
  have S0 := (((St.start w).box #[.int .i64 a, .int .i64 b, .slice A n c] 24).box #[.int .i64 a, .int .i64 b, .slice B (b * a) d] 40).box #[.int .i64 0, .int .i64 0, .slice none 0 0] 40
  simp only [size_alloc1, List.nil_append, List.cons_append] at S0
  obtain ⟨c0, c1, c2⟩ := (S0.blk 0 rfl).cell3
  obtain ⟨d0, d1, d2⟩ := (S0.blk 1 rfl).cell3
  go_enter Try.func24, Try.ntmps24
  go_wp2_with fail
  refine (HT.out _ S0.below).mono ?_
  rintro e1 w1 ⟨rfl, hb1'⟩
  have S := S0.keep hb1'
  clear S0 c0 c1 c2 d0 d1 d2
  obtain ⟨c0, c1, c2⟩ := (S.blk 0 rfl).cell3
  obtain ⟨d0, d1, d2⟩ := (S.blk 1 rfl).cell3
  go_wp2_with fail
  refine (HL.out _ S.below).mono ?_
  rintro e2 w3 ⟨rfl, hb2⟩
  replace S := S.keep hb2
  clear c0 c1 c2 d0 d1 d2
  obtain ⟨c0, c1, c2⟩ := (S.blk 0 rfl).cell3
  obtain ⟨d0, d1, d2⟩ := (S.blk 1 rfl).cell3
  go_upto_region 5 with fail
  go_cut [10, 11, 12] (fun s10 s11 s12 wx => ∃ (g1 g2 : Nat) (B1 B2 : Option Addr) (m1 m2 k1 k2 : Nat), s10 = .pointer (some ⟨g1, 0, none⟩) ∧ s11 = .pointer (some ⟨g2, 0, none⟩) ∧ s12 = .int .i64 e ∧ Blk wx g1 40 #[.int .i64 uw, .int .i64 uh, .slice B1 m1 k1] ∧ Blk wx g2 40 #[.int .i64 ow, .int .i64 oh, .slice B2 m2 k2] ∧
      wx.ownsRow w.heap.size 4 1 (.slice B1 m1 k1) m1 (ub.map Value.bool) ∧ wx.ownsRow w.heap.size 4 1 (.slice B2 m2 k2) m2 (ob.map Value.bool) ∧ ((Value.slice B1 m1 k1).ownBlock = none ∨ (Value.slice B2 m2 k2).ownBlock = none ∨ (Value.slice B1 m1 k1).ownBlock ≠ (Value.slice B2 m2 k2).ownBlock) ∧ g1 ≠ g2 ∧ St w [.blk w.heap.size 24 #[.int .i64 a, .int .i64 b, .slice A n c], .blk (w.heap.size + 1) 40 #[.int .i64 a, .int .i64 b, .slice B (b * a) d], .blk (w.heap.size + 1 + 1) 40 #[.int .i64 0, .int .i64 0, .slice none 0 0]] wx)
  case first =>
    clear HT HL HW HRC HRN HLK
    go_wp2_with fail
    refine (HC.out _ S.below).mono ?_
    rintro e4 w4 ⟨B1, m1, k1, B2, m2, k2, rfl, hown1, hown2, HNE, hb3⟩
    have hw3 := S.size
    have ho1 := own_base hown1 hw3
    have ho2 := own_base hown2 hw3
    have SD := ((S.keep hb3).box #[.int .i64 uw, .int .i64 uh, .slice B1 m1 k1] 40).box #[.int .i64 ow, .int .i64 oh, .slice B2 m2 k2] 40
    simp only [size_alloc1, List.nil_append, List.cons_append] at SD
    clear S c0 c1 c2 d0 d1 d2 hown1 hown2 hb3
    go_wp2_with fail
    go_meet
    exact ⟨_, _, B1, B2, m1, m2, k1, k2, rfl, rfl, rfl, SD.blk 3 rfl, SD.blk 4 rfl, (ho1.alloc _).alloc _, (ho2.alloc _).alloc _, HNE, by omega, SD.sub (L' := [.blk w.heap.size 24 #[.int .i64 a, .int .i64 b, .slice A n c], .blk (w.heap.size + 1) 40 #[.int .i64 a, .int .i64 b, .slice B (b * a) d], .blk (w.heap.size + 1 + 1) 40 #[.int .i64 0, .int .i64 0, .slice none 0 0]]) (by simp)⟩
  case rest =>
    obtain ⟨g1, g2, B1, B2, m1, m2, k1, k2, rfl, rfl, rfl, hU, hO, ho1, ho2, HNE, hgne, S2⟩ := hcut
    clear S c0 c1 c2 d0 d1 d2 HT HL HC
    have hI := S2.blk 0 rfl
    have hL := S2.blk 1 rfl
    have hR := S2.blk 2 rfl
    have hbel := S2.below
    clear S2
    cases hf : fitB a b cs p q with
    | false =>
      have HB := HW.out
      rw [hf] at HB
      have hq := HR.out
      rw [HRN.out hf] at hq
      injection hq with hq1 hq2
      subst hq2
      clear HRC HRN HW HR HLK hf hq1
      replace HB := Lib.hid HB
      obtain ⟨r0, r1, r2⟩ := hR.cell3
      obtain ⟨f0, f1, f2⟩ := hR.frozen3
      obtain ⟨q0, q1, q2⟩ := (hR.set3 (.int .i64 0) (.int .i64 0) (.slice none 0 0)).cell3
      go_wp2_with fail
      refine bodyPost_ret (v := .tuple #[.agg #[.int .i64 0, .int .i64 0, .slice none 0 0], .int .i64 6]) (by simp [results, Try.results24, go_sem, q0, q1, q2]) rfl ?_
      exact bad_ret HB.out (below_set3 hbel (by omega) _ _ _)
    | true =>
      have HB := HW.out
      rw [hf, if_pos rfl] at HB
      have hq := HR.out
      rw [HRC.out hf] at hq
      injection hq with hq1 hq2
      injection hq1 with hq3 hq4
      injection hq3 with e1 e2 e3
      injection hq4 with e4 e5 e6
      subst hq2 e1 e2 e3 e4 e5 e6
      clear HRC HRN HW HR hf
      replace HB := Lib.hid HB
      have hm1 : m1 = b * a := by have h1 := ho1.1; simp [Pl.tab_length] at h1; omega
      have hm2 : m2 = b * a := by have h1 := ho2.1; simp [Pl.tab_length] at h1; omega
      subst hm1 hm2
      obtain ⟨r1, rfl, hl1, hu1, hk1⟩ := own_form ho1 hpos
      obtain ⟨r2, rfl, hl2, hu2, hk2⟩ := own_form ho2 hpos
      have hne : r1 ≠ r2 := by
        rcases HNE with h | h | h
        · simp [Value.ownBlock] at h
        · simp [Value.ownBlock] at h
        · intro e; exact h (by rw [e]; rfl)
      rw [← mix_start (p := p) (bs := bs)] at ho1
      clear HNE
      obtain ⟨c0, c1, c2⟩ := hI.cell3
      go_wp2_with fail
      go_loopw [13] (fun i wr => ∃ x : Nat, x ≤ a ∧ i = .int .i64 x ∧ Blk wr g1 40 #[.int .i64 a, .int .i64 b, .slice (some ⟨r1, 0, none⟩) (b * a) k1] ∧ Blk wr g2 40 #[.int .i64 a, .int .i64 b, .slice (some ⟨r2, 0, none⟩) (b * a) k2] ∧ wr.ownsRow w.heap.size 4 1 (.slice (some ⟨r1, 0, none⟩) (b * a) k1) (b * a) ((Pl.tab a b (mixF a cs p q bs x 0)).map Value.bool) ∧ wr.ownsRow w.heap.size 4 1 (.slice (some ⟨r2, 0, none⟩) (b * a) k2) (b * a) ((Pl.tab a b (openF a cs p q)).map Value.bool) ∧ Blk wr w.heap.size 24 #[.int .i64 a, .int .i64 b, .slice A n c] ∧ Blk wr (w.heap.size + 1) 40 #[.int .i64 a, .int .i64 b, .slice B (b * a) d] ∧ Blk wr (w.heap.size + 1 + 1) 40 #[.int .i64 0, .int .i64 0, .slice none 0 0] ∧ Below w.heap.size w wr) (fun i _ => a - (intOf i).toNat)
      case atStart => exact ⟨0, Nat.zero_le _, rfl, hU, hO, ho1, ho2, hI, hL, hR, hbel⟩
      case round =>
        clear hU hO ho1 ho2 hI hL hR hbel c0 c1 c2
        obtain ⟨x, hx, rfl, hU, hO, ho1, ho2, hI, hL, hR, hbel⟩ := hrel
        obtain ⟨c0, c1, c2⟩ := hI.cell3
        by_cases hltx : x < a
        · go_wp2_with fail
          go_loopw [14] (fun i wr => ∃ y : Nat, y ≤ b ∧ i = .int .i64 y ∧ Blk wr g1 40 #[.int .i64 a, .int .i64 b, .slice (some ⟨r1, 0, none⟩) (b * a) k1] ∧ Blk wr g2 40 #[.int .i64 a, .int .i64 b, .slice (some ⟨r2, 0, none⟩) (b * a) k2] ∧ wr.ownsRow w.heap.size 4 1 (.slice (some ⟨r1, 0, none⟩) (b * a) k1) (b * a) ((Pl.tab a b (mixF a cs p q bs x y)).map Value.bool) ∧ wr.ownsRow w.heap.size 4 1 (.slice (some ⟨r2, 0, none⟩) (b * a) k2) (b * a) ((Pl.tab a b (openF a cs p q)).map Value.bool) ∧ Blk wr w.heap.size 24 #[.int .i64 a, .int .i64 b, .slice A n c] ∧ Blk wr (w.heap.size + 1) 40 #[.int .i64 a, .int .i64 b, .slice B (b * a) d] ∧ Blk wr (w.heap.size + 1 + 1) 40 #[.int .i64 0, .int .i64 0, .slice none 0 0] ∧ Below w.heap.size w wr) (fun i _ => b - (intOf i).toNat)
          case atStart => exact ⟨0, Nat.zero_le _, rfl, hU, hO, ho1, ho2, hI, hL, hR, hbel⟩
          case round =>
            clear hU hO ho1 ho2 hI hL hR hbel c0 c1 c2
            obtain ⟨y, hy, rfl, hU, hO, ho1, ho2, hI, hL, hR, hbel⟩ := hrel
            obtain ⟨c0, c1, c2⟩ := hI.cell3
            by_cases hlty : y < b
            · have hopq : (Pl.tab a b (openF a cs p q)).getD (y * a + x) false = openF a cs p q x y := by rw [List.getD_eq_getElem?_getD, Pl.tab_get hltx hlty]; rfl
              have HOP := Lib.hid hopq
              clear hopq
              obtain ⟨d0, d1, d2⟩ := hO.cell3
              go_wp2_with fail
              refine (at_any a b x y _ b _ k2 _ ha hb hltx hlty (rd_of_own ho2)).mono ?_
              rintro e wa ⟨rfl, hb5⟩
              replace hU := hU.keep hb5
              replace hO := hO.keep hb5
              replace hI := hI.keep hb5
              replace hL := hL.keep hb5
              replace hR := hR.keep hb5
              replace ho1 := own_below ho1 hb5
              replace ho2 := own_below ho2 hb5
              replace hbel := below_then hbel hb5
              clear hb5 c0 c1 c2 d0 d1 d2
              rw [HOP.out]
              cases hop : openF a cs p q x y with
              | true =>
                go_wp2_with fail
                replace hU := hU.drew
                replace hO := hO.drew
                replace ho1 := ho1.drew
                replace ho2 := ho2.drew
                replace hI := hI.drew
                replace hL := hL.drew
                replace hR := hR.drew
                replace hbel := hbel.drew
                refine wp_region_held_drew (S := (fun w' => (w'.cell? ⟨g1, 0, none⟩ = some (.int .i64 a) ∧ w'.cell? ⟨g1, 1, none⟩ = some (.int .i64 b) ∧ w'.cell? ⟨g1, 2, none⟩ = some (.slice (some ⟨r1, 0, none⟩) (b * a) k1)) ∧ (w'.cell? ⟨w.heap.size + 1, 0, none⟩ = some (.int .i64 a) ∧ w'.cell? ⟨w.heap.size + 1, 1, none⟩ = some (.int .i64 b) ∧ w'.cell? ⟨w.heap.size + 1, 2, none⟩ = some (.slice B (b * a) d)))) (by kernel_rfl) ?_ (fun hHeld => ?_)
                · (try dsimp only); exact ⟨hU.cell3, hL.cell3⟩
                refine man_take 0 61 (v := ?_) ⟨_, rfl, rfl⟩ (by kernel_rfl) (by kernel_rfl) (by kernel_rfl) (fun _ _ _ h => h) (by assumption) ?_ ?_
                rotate_left
                · intro oi ho; cases ho; refine ⟨by rfl, ?_⟩; intro w hSw; (try dsimp only at hSw); go_simp; try with_reducible rfl
                (try simp only [Act.put, List.setIfInBounds_toArray, List.set_cons_zero, List.set_cons_succ])
                refine man_take 1 62 (v := ?_) ⟨_, rfl, rfl⟩ (by kernel_rfl) (by kernel_rfl) (by kernel_rfl) (fun _ _ _ h => h) (by assumption) ?_ ?_
                rotate_left
                · intro oi ho; cases ho; refine ⟨by rfl, ?_⟩; intro w hSw; (try dsimp only at hSw); go_simp; try with_reducible rfl
                (try simp only [Act.put, List.setIfInBounds_toArray, List.set_cons_zero, List.set_cons_succ])
                refine man_take 2 63 (v := ?_) ⟨_, rfl, rfl⟩ (by kernel_rfl) (by kernel_rfl) (by kernel_rfl) (fun _ _ _ h => h) (by assumption) ?_ ?_
                rotate_left
                · intro oi ho; cases ho; refine ⟨by rfl, ?_⟩; intro w hSw; (try dsimp only at hSw); go_simp; try with_reducible rfl
                (try simp only [Act.put, List.setIfInBounds_toArray, List.set_cons_zero, List.set_cons_succ])
                refine man_take 3 64 (v := ?_) ⟨_, rfl, rfl⟩ (by kernel_rfl) (by kernel_rfl) (by kernel_rfl) (fun _ _ _ h => h) (by assumption) ?_ ?_
                rotate_left
                · intro oi ho; cases ho; refine ⟨by rfl, ?_⟩; intro w hSw; (try dsimp only at hSw); go_simp; try with_reducible rfl
                (try simp only [Act.put, List.setIfInBounds_toArray, List.set_cons_zero, List.set_cons_succ])
                refine man_take 4 65 (v := ?_) ⟨_, rfl, rfl⟩ (by kernel_rfl) (by kernel_rfl) (by kernel_rfl) (fun _ _ _ h => h) (by assumption) ?_ ?_
                rotate_left
                · intro oi ho; cases ho; refine ⟨by rfl, ?_⟩; intro w hSw; (try dsimp only at hSw); go_simp; try with_reducible rfl
                (try simp only [Act.put, List.setIfInBounds_toArray, List.set_cons_zero, List.set_cons_succ])
                refine man_take 5 66 (v := ?_) ⟨_, rfl, rfl⟩ (by kernel_rfl) (by kernel_rfl) (by kernel_rfl) (fun _ _ _ h => h) (by assumption) ?_ ?_
                rotate_left
                · intro oi ho; cases ho; refine ⟨by rfl, ?_⟩; intro w hSw; (try dsimp only at hSw); go_simp; try with_reducible rfl
                (try simp only [Act.put, List.setIfInBounds_toArray, List.set_cons_zero, List.set_cons_succ])
                refine man_run 6 rfl (by kernel_rfl) (fun K hK => ?_)
                go_simp
                refine (at_any a b x y bs b B d _ ha hb hltx hlty (HLK.out _ hbel)).mono ?_
                rintro e wb ⟨rfl, hb6⟩
                replace hU := hU.keep hb6
                replace hO := hO.keep hb6
                replace hI := hI.keep hb6
                replace hL := hL.keep hb6
                replace hR := hR.keep hb6
                replace ho1 := own_below ho1 hb6
                replace ho2 := own_below ho2 hb6
                replace hbel := below_then hbel hb6
                clear hb6
                go_wp2_with fail
                refine hK.out _ _ ?_ (fun hHeld => ?_)
                · (try dsimp only); exact ⟨hU.cell3, hL.cell3⟩
                clear hK K
                (try simp only [Act.put, List.setIfInBounds_toArray, List.set_cons_zero, List.set_cons_succ])
                refine man_run 7 rfl (by kernel_rfl) (fun K hK => ?_)
                go_simp
                refine (set_any a b x y w.heap.size r1 k1 _ b (bs.getD (y * a + x) false) _ ha hb hltx hlty ho1).mono ?_
                rintro e wc ⟨rfl, hown7, hgr7⟩
                have zU := hU.grown hgr7 (own_blk_ne ho1 hU (by decide))
                have zO := hO.grown hgr7 (own_blk_ne ho1 hO (by decide))
                have zI := hI.grown hgr7 (own_blk_ne ho1 hI (by decide))
                have zL := hL.grown hgr7 (own_blk_ne ho1 hL (by decide))
                have zR := hR.grown hgr7 (own_blk_ne ho1 hR (by decide))
                have zo2 := ho2.kept hgr7 (.inr (fun e => hne (Option.some.inj e).symm))
                have zbel := hbel.grown hgr7 hbel.size (fun k hk => (ho1.lt k hk).1)
                rw [mix_set hltx hlty hop] at hown7
                clear hU hO hI hL hR ho1 ho2 hbel hgr7
                have hU := zU
                have hO := zO
                have hI := zI
                have hL := zL
                have hR := zR
                have ho1 := hown7
                have ho2 := zo2
                have hbel := zbel
                clear zU zO zI zL zR hown7 zo2 zbel
                go_wp2_with fail
                refine hK.out _ _ ?_ (fun hHeld => ?_)
                · (try dsimp only); exact ⟨hU.cell3, hL.cell3⟩
                clear hK K
                (try simp only [Act.put, List.setIfInBounds_toArray, List.set_cons_zero, List.set_cons_succ])
                refine wpAnyH_done (by kernel_rfl) ?_ _
                go_wp2_with fail
                go_roundw
                case rel => exact ⟨y + 1, by omega, by go_num, hU, hO, ho1, ho2, hI, hL, hR, hbel⟩
                case measure => simp [intOf]; omega
              | false =>
                rw [← mix_keep hop] at ho1
                go_wp2_with fail
                go_roundw
                case rel => exact ⟨y + 1, by omega, by go_num, hU, hO, ho1, ho2, hI, hL, hR, hbel⟩
                case measure => simp [intOf]; omega
            · have hyb : y = b := by omega
              subst hyb
              rw [mix_col] at ho1
              go_wp2_with fail
              go_roundw
              case rel => exact ⟨x + 1, by omega, by go_num, hU, hO, ho1, ho2, hI, hL, hR, hbel⟩
              case measure => simp [intOf]; omega
        · have hxa : x = a := by omega
          subst hxa
          rw [mix_done] at ho1
          obtain ⟨d0, d1, d2⟩ := hU.cell3
          obtain ⟨rr0, rr1, rr2⟩ := hR.cell3
          obtain ⟨f0, f1, f2⟩ := hR.frozen3
          obtain ⟨q0, q1, q2⟩ := (hR.set3 (.int .i64 x) (.int .i64 b) (.slice (some ⟨r1, 0, none⟩) (b * x) k1)).cell3
          go_wp2_with fail
          refine bodyPost_ret (v := .tuple #[.agg #[.int .i64 x, .int .i64 b, .slice (some ⟨r1, 0, none⟩) (b * x) k1], .int .i64 0]) (by simp [results, Try.results24, go_sem, q0, q1, q2]) rfl ?_
          refine ⟨_, _, _, by rw [HB.out], ?_, below_set3 hbel (by omega) _ _ _⟩
          rw [HB.out]
          exact own_set3 ho1 hR (by decide) (.int .i64 x) (.int .i64 b) (.slice (some ⟨r1, 0, none⟩) (b * x) k1)

theorem rweave_any (m : Im) (p q : List Int) (g : Gd) (A Ap Aq B : Option Addr) (n c np cp nq cq k d : Nat) (w : World) (hr : Rd w A n (m.c.map (Value.int .i64))) (hn : n ≤ 1048576) (hrp : Rd w Ap np (p.map (Value.int .i64))) (hrq : Rd w Aq nq (q.map (Value.int .i64))) (hg : Rd w B k (g.bits.map Value.bool)) :
    Calls Try.prog 24 #[.agg #[.int .i64 m.w, .int .i64 m.h, .slice A n c], .slice Ap np cp, .slice Aq nq cq, .agg #[.int .i64 g.w, .int .i64 g.h, .slice B k d]] w (RetG (weaveI m p q g) w) := by
  have HT := fun (W : World) (h : Below w.heap.size w W) => rthrI_any m p q A Ap Aq n c np cp nq cq W (hr.below h) hn (hrp.below h) (hrq.below h)
  have hk : g.bits.length = k := by simpa using hg.len
  have HL := fun (W : World) (_ : Below w.heap.size w W) => sized_any g m B A k d n c W hk
  by_cases h0 : thrI m p q = 0
  · rw [h0] at HT
    by_cases h1 : likeG g m = 0
    · have HC := fun (W : World) (h : Below w.heap.size w W) => rcells_any m p q A Ap Aq n c np cp nq cq W (hr.below h) hn (hrp.below h) (hrq.below h)
      rw [h1] at HL
      obtain ⟨a, b, cs, rfl, ha1, ha, hb1, hb, hl, hlp, hlq, _, _, _⟩ := thrI_open h0
      obtain ⟨h2, h3, h4⟩ := likeG_zero h1
      obtain ⟨gw, gh, bs⟩ := g
      simp only at h3 h4 hr HT HC HL hg hk
      subst h3 h4
      have e1 : k = b * a := by
        obtain ⟨a', b', q1, q2, _, _, _, _, q3⟩ := chk_zero (show chk (a : Int) (b : Int) bs.length = 0 from h2)
        have : a' = a := by omega
        have : b' = b := by omega
        subst_vars
        exact q3
      have hg' := hg
      rw [e1] at hg'
      exact rweave_three a b cs p q bs A Ap Aq B n c np cp nq cq k d w ha1 ha hb1 hb h0 h1 hg' e1 (Lib.hid HT) (Lib.hid HL) (Lib.hid HC)
    · exact rweave_two m p q g A Ap Aq B n c np cp nq cq k d w h0 h1 (Lib.hid HT) (Lib.hid HL)
  · exact rweave_one m p q g A Ap Aq B n c np cp nq cq k d w h0 (Lib.hid HT)
end Go.Proofs.Ytefeghpglacghaa
