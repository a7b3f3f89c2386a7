/- The law PictureCells, walked: it answers true and turns nothing that was there. -/
import Derived.Test.YtefeghpglacghaaCells15
import Derived.Test.YtefeghpglacghaaWeave15
import Derived.Test.YtefeghpglacghaaShows15
import Derived.Test.YtefeghpglacghaaRWeave15
import Derived.Test.YtefeghpglacghaaTwinI
import Derived.Test.YtefeghpglacghaaTwin
import Derived.Test.YtefeghpglacghaaGreat
import Derived.Test.YtefeghpglacghaaSameTo
import Derived.Test.YtefeghpglacghaaISame
namespace Go.Proofs.Ytefeghpglacghaa
open Go.RowKit

theorem greatG_to {b : Bool} (W H : Int) (n : Nat) (h : decide (4200 < n) = b) (A : Option Addr) (c : Nat) (w : World) :
    Calls Try.prog 18 #[.agg #[.int .i64 W, .int .i64 H, .slice A n c]] w fun e w' => e = .returned (.bool b) ∧ Below w.heap.size w w' := h ▸ great_any W H A n c w
theorem greatI_to {b : Bool} (W H : Int) (n : Nat) (h : decide (4200 < n) = b) (A : Option Addr) (c : Nat) (w : World) :
    Calls Try.prog 17 #[.agg #[.int .i64 W, .int .i64 H, .slice A n c]] w fun e w' => e = .returned (.bool b) ∧ Below w.heap.size w w' := h ▸ greatI_any W H A n c w
theorem pcells_len (m : Im) (p q : List Int) : (cellsI m p q).1.1.bits.length ≤ 4096 ∧ (cellsI m p q).1.2.bits.length ≤ 4096 := by
  by_cases h0 : thrI m p q = 0
  · obtain ⟨a, b, cs, rfl, ha1, ha, hb1, hb, _⟩ := thrI_open h0
    have hba : b * a ≤ 64 * 64 := Nat.mul_le_mul hb ha
    cases hf : fitB a b cs p q with
    | true => rw [rc_ok h0 hf]; exact ⟨by simp only [Pl.tab_length]; omega, by simp only [Pl.tab_length]; omega⟩
    | false => rw [rc_none h0 hf]; exact ⟨Nat.zero_le _, Nat.zero_le _⟩
  · rw [rc_bad h0]; exact ⟨Nat.zero_le _, Nat.zero_le _⟩
theorem pweave_len (m : Im) (p q : List Int) (g : Gd) : (weaveI m p q g).1.bits.length ≤ 4096 := by
  by_cases h0 : thrI m p q = 0
  · by_cases h1 : likeG g m = 0
    · obtain ⟨a, b, cs, rfl, ha1, ha, hb1, hb, _⟩ := thrI_open h0
      have hba : b * a ≤ 64 * 64 := Nat.mul_le_mul hb ha
      rw [rw_fit h0 h1]
      split
      · simp only [Pl.tab_length]; omega
      · exact Nat.zero_le _
    · rw [rw_like h0 h1]; exact Nat.zero_le _
  · rw [rw_bad h0]; exact Nat.zero_le _
theorem psame_self (g : Gd) (hs : g.bits.length ≤ 4200) (A A2 : Option Addr) (n c n2 c2 : Nat) (w : World) (hr : Rd w A n (g.bits.map Value.bool)) (hr2 : Rd w A2 n2 (g.bits.map Value.bool)) :
    Calls Try.prog 27 #[.agg #[.int .i64 g.w, .int .i64 g.h, .slice A n c], .agg #[.int .i64 g.w, .int .i64 g.h, .slice A2 n2 c2]] w fun e w' => e = .returned (.bool true) ∧ Below w.heap.size w w' := by
  have hl : g.bits.length = n := by simpa using hr.len
  have h := rsame_any g g A A2 n c n2 c2 w hr hr2 (by omega)
  rw [sameG_self] at h
  exact h
theorem psameI_self (m : Im) (hs : m.c.length ≤ 4200) (A A2 : Option Addr) (n c n2 c2 : Nat) (w : World) (hr : Rd w A n (m.c.map (Value.int .i64))) (hr2 : Rd w A2 n2 (m.c.map (Value.int .i64))) :
    Calls Try.prog 28 #[.agg #[.int .i64 m.w, .int .i64 m.h, .slice A n c], .agg #[.int .i64 m.w, .int .i64 m.h, .slice A2 n2 c2]] w fun e w' => e = .returned (.bool true) ∧ Below w.heap.size w w' := by
  have hl : m.c.length = n := by simpa using hr.len
  have h := rsameI_any m m A A2 n c n2 c2 w hr hr2 (by omega)
  rw [show sameI m m = true from sameI_iff.2 rfl] at h
  exact h

set_option linter.unusedVariables false in
set_option linter.unusedSimpArgs false in
set_option maxHeartbeats 40000000 in
set_option maxRecDepth 100000 in
theorem pcells_0 (m : Im) (p q : List Int) (g : Gd) (A Ap Aq B : Option Addr) (n c np cp nq cq k d : Nat) (w : World) (hr : Rd w A n (m.c.map (Value.int .i64))) (hrp : Rd w Ap np (p.map (Value.int .i64))) (hrq : Rd w Aq nq (q.map (Value.int .i64))) (hg : Rd w B k (g.bits.map Value.bool)) (h1 : 4200 < n) :
    Calls Try.prog 4 #[.agg #[.int .i64 m.w, .int .i64 m.h, .slice A n c], .slice Ap np cp, .slice Aq nq cq, .agg #[.int .i64 g.w, .int .i64 g.h, .slice B k d]] w fun e w' => e = .returned (.bool true) ∧ Below w.heap.size w w' := by
  have HA := Lib.hid (fun A c W => greatI_to m.w m.h n (decide_eq_true h1) A c W)
  have S0 := ((((((St.start w).addRd hr).addRd hrp).addRd hrq).addRd hg).box #[.int .i64 m.w, .int .i64 m.h, .slice A n c] 24).box #[.int .i64 g.w, .int .i64 g.h, .slice B k d] 40
  simp only [size_alloc1, List.nil_append, List.cons_append] at S0
  clear hr hrp hrq hg
  go_enter Try.func4, Try.ntmps4
  obtain ⟨ca0, ca1, ca2⟩ := (S0.blk 4 rfl).cell3
  go_wp2_with fail
  refine (HA.out _ _ _).mono ?_
  rintro e w1 ⟨rfl, hb1⟩
  have S1 := S0.keep hb1
  clear ca0 ca1 ca2
  go_wp2_with fail
  go_ret
  exact ⟨rfl, S1.below⟩

set_option linter.unusedVariables false in
set_option linter.unusedSimpArgs false in
set_option maxHeartbeats 40000000 in
set_option maxRecDepth 100000 in
theorem pcells_1 (m : Im) (p q : List Int) (g : Gd) (A Ap Aq B : Option Addr) (n c np cp nq cq k d : Nat) (w : World) (hr : Rd w A n (m.c.map (Value.int .i64))) (hrp : Rd w Ap np (p.map (Value.int .i64))) (hrq : Rd w Aq nq (q.map (Value.int .i64))) (hg : Rd w B k (g.bits.map Value.bool)) (h1 : ¬ 4200 < n) (h2 : 4200 < k) :
    Calls Try.prog 4 #[.agg #[.int .i64 m.w, .int .i64 m.h, .slice A n c], .slice Ap np cp, .slice Aq nq cq, .agg #[.int .i64 g.w, .int .i64 g.h, .slice B k d]] w fun e w' => e = .returned (.bool true) ∧ Below w.heap.size w w' := by
  have HA := Lib.hid (fun A c W => greatI_to m.w m.h n (decide_eq_false h1) A c W)
  have HB := Lib.hid (fun A c W => greatG_to g.w g.h k (decide_eq_true h2) A c W)
  have S0 := ((((((St.start w).addRd hr).addRd hrp).addRd hrq).addRd hg).box #[.int .i64 m.w, .int .i64 m.h, .slice A n c] 24).box #[.int .i64 g.w, .int .i64 g.h, .slice B k d] 40
  simp only [size_alloc1, List.nil_append, List.cons_append] at S0
  clear hr hrp hrq hg
  go_enter Try.func4, Try.ntmps4
  obtain ⟨ca0, ca1, ca2⟩ := (S0.blk 4 rfl).cell3
  go_wp2_with fail
  refine (HA.out _ _ _).mono ?_
  rintro e w1 ⟨rfl, hb1⟩
  have S1 := S0.keep hb1
  clear ca0 ca1 ca2
  obtain ⟨ca0, ca1, ca2⟩ := (S1.blk 5 rfl).cell3
  go_wp2_with fail
  refine (HB.out _ _ _).mono ?_
  rintro e w2 ⟨rfl, hb2⟩
  have S2 := S1.keep hb2
  clear ca0 ca1 ca2 S1
  go_wp2_with fail
  go_ret
  exact ⟨rfl, S2.below⟩

set_option linter.unusedVariables false in
set_option linter.unusedSimpArgs false in
set_option maxHeartbeats 40000000 in
set_option maxRecDepth 100000 in
theorem pcells_2 (m : Im) (p q : List Int) (g : Gd) (A Ap Aq B : Option Addr) (n c np cp nq cq k d : Nat) (w : World) (hr : Rd w A n (m.c.map (Value.int .i64))) (hrp : Rd w Ap np (p.map (Value.int .i64))) (hrq : Rd w Aq nq (q.map (Value.int .i64))) (hg : Rd w B k (g.bits.map Value.bool)) (h1 : ¬ 4200 < n) (h2 : ¬ 4200 < k) (h3 : 100 < np) :
    Calls Try.prog 4 #[.agg #[.int .i64 m.w, .int .i64 m.h, .slice A n c], .slice Ap np cp, .slice Aq nq cq, .agg #[.int .i64 g.w, .int .i64 g.h, .slice B k d]] w fun e w' => e = .returned (.bool true) ∧ Below w.heap.size w w' := by
  have HA := Lib.hid (fun A c W => greatI_to m.w m.h n (decide_eq_false h1) A c W)
  have HB := Lib.hid (fun A c W => greatG_to g.w g.h k (decide_eq_false h2) A c W)
  have S0 := ((((((St.start w).addRd hr).addRd hrp).addRd hrq).addRd hg).box #[.int .i64 m.w, .int .i64 m.h, .slice A n c] 24).box #[.int .i64 g.w, .int .i64 g.h, .slice B k d] 40
  simp only [size_alloc1, List.nil_append, List.cons_append] at S0
  clear hr hrp hrq hg
  go_enter Try.func4, Try.ntmps4
  obtain ⟨ca0, ca1, ca2⟩ := (S0.blk 4 rfl).cell3
  go_wp2_with fail
  refine (HA.out _ _ _).mono ?_
  rintro e w1 ⟨rfl, hb1⟩
  have S1 := S0.keep hb1
  clear ca0 ca1 ca2
  obtain ⟨ca0, ca1, ca2⟩ := (S1.blk 5 rfl).cell3
  go_wp2_with fail
  refine (HB.out _ _ _).mono ?_
  rintro e w2 ⟨rfl, hb2⟩
  have S2 := S1.keep hb2
  clear ca0 ca1 ca2 S1
  go_wp2_with fail
  go_ret
  exact ⟨rfl, S2.below⟩

set_option linter.unusedVariables false in
set_option linter.unusedSimpArgs false in
set_option maxHeartbeats 40000000 in
set_option maxRecDepth 100000 in
theorem pcells_3 (m : Im) (p q : List Int) (g : Gd) (A Ap Aq B : Option Addr) (n c np cp nq cq k d : Nat) (w : World) (hr : Rd w A n (m.c.map (Value.int .i64))) (hrp : Rd w Ap np (p.map (Value.int .i64))) (hrq : Rd w Aq nq (q.map (Value.int .i64))) (hg : Rd w B k (g.bits.map Value.bool)) (h1 : ¬ 4200 < n) (h2 : ¬ 4200 < k) (h3 : ¬ 100 < np) (h4 : 100 < nq) :
    Calls Try.prog 4 #[.agg #[.int .i64 m.w, .int .i64 m.h, .slice A n c], .slice Ap np cp, .slice Aq nq cq, .agg #[.int .i64 g.w, .int .i64 g.h, .slice B k d]] w fun e w' => e = .returned (.bool true) ∧ Below w.heap.size w w' := by
  have HA := Lib.hid (fun A c W => greatI_to m.w m.h n (decide_eq_false h1) A c W)
  have HB := Lib.hid (fun A c W => greatG_to g.w g.h k (decide_eq_false h2) A c W)
  have S0 := ((((((St.start w).addRd hr).addRd hrp).addRd hrq).addRd hg).box #[.int .i64 m.w, .int .i64 m.h, .slice A n c] 24).box #[.int .i64 g.w, .int .i64 g.h, .slice B k d] 40
  simp only [size_alloc1, List.nil_append, List.cons_append] at S0
  clear hr hrp hrq hg
  go_enter Try.func4, Try.ntmps4
  obtain ⟨ca0, ca1, ca2⟩ := (S0.blk 4 rfl).cell3
  go_wp2_with fail
  refine (HA.out _ _ _).mono ?_
  rintro e w1 ⟨rfl, hb1⟩
  have S1 := S0.keep hb1
  clear ca0 ca1 ca2
  obtain ⟨ca0, ca1, ca2⟩ := (S1.blk 5 rfl).cell3
  go_wp2_with fail
  refine (HB.out _ _ _).mono ?_
  rintro e w2 ⟨rfl, hb2⟩
  have S2 := S1.keep hb2
  clear ca0 ca1 ca2 S1
  go_wp2_with fail
  go_ret
  exact ⟨rfl, S2.below⟩

set_option linter.unusedVariables false in
set_option linter.unusedSimpArgs false in
set_option maxHeartbeats 40000000 in
set_option maxRecDepth 100000 in
theorem pcells_4 (m : Im) (p q : List Int) (g : Gd) (A Ap Aq B : Option Addr) (n c np cp nq cq k d : Nat) (w : World) (hr : Rd w A n (m.c.map (Value.int .i64))) (hrp : Rd w Ap np (p.map (Value.int .i64))) (hrq : Rd w Aq nq (q.map (Value.int .i64))) (hg : Rd w B k (g.bits.map Value.bool)) (h1 : ¬ 4200 < n) (h2 : ¬ 4200 < k) (h3 : ¬ 100 < np) (h4 : ¬ 100 < nq) :
    Calls Try.prog 4 #[.agg #[.int .i64 m.w, .int .i64 m.h, .slice A n c], .slice Ap np cp, .slice Aq nq cq, .agg #[.int .i64 g.w, .int .i64 g.h, .slice B k d]] w fun e w' => e = .returned (.bool true) ∧ Below w.heap.size w w' := by
  have HA := Lib.hid (fun A c W => greatI_to m.w m.h n (decide_eq_false h1) A c W)
  have HB := Lib.hid (fun A c W => greatG_to g.w g.h k (decide_eq_false h2) A c W)
  have hlm : m.c.length = n := by simpa using hr.len
  have hlg : g.bits.length = k := by simpa using hg.len
  have hm42 : m.c.length ≤ 4200 := by omega
  have hg42 : g.bits.length ≤ 4200 := by omega
  have HTI := Lib.hid (fun W (h : Rd W A n (m.c.map (Value.int .i64))) => twinI_any m.w m.h A n c m.c W h (by omega))
  have HTG := Lib.hid (fun W (h : Rd W B k (g.bits.map Value.bool)) => twin_any g.w g.h B k d g.bits W h (by omega))
  have HRm := Lib.hid (fun wz (hz : Below w.heap.size w wz) => hr.below hz)
  have HRp := Lib.hid (fun wz (hz : Below w.heap.size w wz) => hrp.below hz)
  have HRq := Lib.hid (fun wz (hz : Below w.heap.size w wz) => hrq.below hz)
  have HRg := Lib.hid (fun wz (hz : Below w.heap.size w wz) => hg.below hz)
  have hle : ∀ (W : World) (A : Option Addr) (n : Nat), Rd W A n (m.c.map (Value.int .i64)) → n ≤ 1048576 := fun W A n h => by
    have e : m.c.length = n := by simpa using h.len
    omega
  have HC1 := Lib.hid (fun A n c W h h2 h3 => cells_any m p q A Ap Aq n c np cp nq cq W h (hle W A n h) h2 h3)
  have HC2 := Lib.hid (fun A n c W h h2 h3 => rcells_any m p q A Ap Aq n c np cp nq cq W h (hle W A n h) h2 h3)
  have HW1 := Lib.hid (fun A n c B k d W h h2 h3 h4 => weave_any m p q g A Ap Aq B n c np cp nq cq k d W h (hle W A n h) h2 h3 h4)
  have HW2 := Lib.hid (fun A n c B k d W h h2 h3 h4 => rweave_any m p q g A Ap Aq B n c np cp nq cq k d W h (hle W A n h) h2 h3 h4)
  have HS1 := Lib.hid (fun A n c B k d W h4 h h2 h3 => shows_any g m p q B A Ap Aq k d n c np cp nq cq W h4 h (hle W A n h) h2 h3)
  have HS2 := Lib.hid (fun A n c B k d W h4 h h2 h3 => rshows_any g m p q B A Ap Aq k d n c np cp nq cq W h4 h (hle W A n h) h2 h3)
  have HQu := Lib.hid (fun A A2 n c n2 c2 W h h2 => psame_self (cellsI m p q).1.1 (Nat.le_trans (pcells_len m p q).1 (by decide)) A A2 n c n2 c2 W h h2)
  have HQv := Lib.hid (fun A A2 n c n2 c2 W h h2 => psame_self (cellsI m p q).1.2 (Nat.le_trans (pcells_len m p q).2 (by decide)) A A2 n c n2 c2 W h h2)
  have HQx := Lib.hid (fun A A2 n c n2 c2 W h h2 => psame_self (weaveI m p q g).1 (Nat.le_trans (pweave_len m p q g) (by decide)) A A2 n c n2 c2 W h h2)
  have HQm := Lib.hid (fun A A2 n c n2 c2 W h h2 => psameI_self m hm42 A A2 n c n2 c2 W h h2)
  have HQg := Lib.hid (fun A A2 n c n2 c2 W h h2 => psame_self g hg42 A A2 n c n2 c2 W h h2)
  clear hlm hlg hm42 hg42 hle
  generalize cellsI m p q = cr at *
  generalize weaveI m p q g = wr at *
  generalize showsI g m p q = sr at *
  obtain ⟨⟨⟨uw, uh, ub⟩, ⟨vw, vh, vb⟩⟩, ce⟩ := cr
  obtain ⟨⟨xw, xh, xb⟩, we⟩ := wr
  obtain ⟨sb, se⟩ := sr
  simp only at HQu HQv HQx HS1 HS2
  have S0 := ((((((St.start w).addRd hr).addRd hrp).addRd hrq).addRd hg).box #[.int .i64 m.w, .int .i64 m.h, .slice A n c] 24).box #[.int .i64 g.w, .int .i64 g.h, .slice B k d] 40
  simp only [size_alloc1, List.nil_append, List.cons_append] at S0
  clear hr hrp hrq hg
  go_enter Try.func4, Try.ntmps4
  obtain ⟨ca0, ca1, ca2⟩ := (S0.blk 4 rfl).cell3
  go_wp2_with fail
  refine (HA.out _ _ _).mono ?_
  rintro e w1 ⟨rfl, hb1⟩
  have S1 := S0.keep hb1
  clear ca0 ca1 ca2
  obtain ⟨ca0, ca1, ca2⟩ := (S1.blk 5 rfl).cell3
  go_wp2_with fail
  refine (HB.out _ _ _).mono ?_
  rintro e w2 ⟨rfl, hb2⟩
  have S2 := S1.keep hb2
  clear ca0 ca1 ca2 S1
  have SX := S2.sub (L' := [.blk w.heap.size 24 #[.int .i64 m.w, .int .i64 m.h, .slice A n c], .blk (w.heap.size + 1) 40 #[.int .i64 g.w, .int .i64 g.h, .slice B k d]]) (by simp)
  clear S2
  obtain ⟨c0, c1, c2⟩ := (SX.blk 0 rfl).cell3
  obtain ⟨d0, d1, d2⟩ := (SX.blk 1 rfl).cell3
  go_upto_region 3 with fail
  go_cut [9, 10] (fun s9 s10 wx => ∃ (g1 g2 : Nat) (A5 B5 : Option Addr) (n5 c5 k5 d5 : Nat), s9 = .pointer (some ⟨g1, 0, none⟩) ∧ s10 = .pointer (some ⟨g2, 0, none⟩) ∧ Blk wx g1 24 #[.int .i64 m.w, .int .i64 m.h, .slice A5 n5 c5] ∧ Blk wx g2 40 #[.int .i64 g.w, .int .i64 g.h, .slice B5 k5 d5] ∧ Rd wx A5 n5 (m.c.map (Value.int .i64)) ∧ Rd wx B5 k5 (g.bits.map Value.bool) ∧ St w [.blk w.heap.size 24 #[.int .i64 m.w, .int .i64 m.h, .slice A n c], .blk (w.heap.size + 1) 40 #[.int .i64 g.w, .int .i64 g.h, .slice B k d]] wx)
  case first =>
    clear c0 c1 c2 d0 d1 d2 HC1 HC2 HW1 HW2 HS1 HS2 HQu HQv HQx HQm HQg
    have hx0 := SX.size
    have hx1 := (SX.blk 0 rfl).lt
    have hx2 := (SX.blk 1 rfl).lt
    have SD := SX.drew
    clear SX
    have hxd : w2.drew.heap.size = w2.heap.size := rfl
    rw [← hxd] at hx0 hx1 hx2
    clear hxd
    refine wp_region_held_drew (S := (fun w' => (w'.cell? ⟨w.heap.size, 0, none⟩ = some (.int .i64 m.w) ∧ w'.cell? ⟨w.heap.size, 1, none⟩ = some (.int .i64 m.h) ∧ w'.cell? ⟨w.heap.size, 2, none⟩ = some (.slice A n c)) ∧ (w'.cell? ⟨w.heap.size + 1, 0, none⟩ = some (.int .i64 g.w) ∧ w'.cell? ⟨w.heap.size + 1, 1, none⟩ = some (.int .i64 g.h) ∧ w'.cell? ⟨w.heap.size + 1, 2, none⟩ = some (.slice B k d)))) (by kernel_rfl) ?_ (fun hHeld => ?_)
    · (try dsimp only); exact ⟨(SD.blk 0 rfl).cell3, (SD.blk 1 rfl).cell3⟩
    generalize w2.drew = wd at *
    refine man_take 0 41 (v := ?_) ⟨_, rfl, rfl⟩ (by kernel_rfl) (by kernel_rfl) (by kernel_rfl) (fun _ _ _ h => h) (by assumption) ?_ ?_
    rotate_left
    · intro oi ho; cases ho; refine ⟨by rfl, ?_⟩; intro w hSw; (try dsimp only at hSw); go_simp; try with_reducible rfl
    (try simp only [Act.put, List.setIfInBounds_toArray, List.set_cons_zero, List.set_cons_succ])
    refine man_take 2 43 (v := ?_) ⟨_, rfl, rfl⟩ (by kernel_rfl) (by kernel_rfl) (by kernel_rfl) (fun _ _ _ h => h) (by assumption) ?_ ?_
    rotate_left
    · intro oi ho; cases ho; refine ⟨by rfl, ?_⟩; intro w hSw; (try dsimp only at hSw); go_simp; try with_reducible rfl
    (try simp only [Act.put, List.setIfInBounds_toArray, List.set_cons_zero, List.set_cons_succ])
    refine man_three 1 4 5 rfl rfl rfl (by kernel_rfl) (fun K hK => ?_) (fun K hK => ?_) (fun K hK => ?_)
    · go_simp
      refine (HTI.out _ (HRm.out _ SD.below)).mono ?_
      rintro e wz1 ⟨A5, n5, c5, rfl, hown1, hb1⟩
      have hs1 := hb1.size
      have hw1 := SD.size
      replace SD := SD.keep hb1
      have ho1 := own_base hown1 hw1
      clear hown1
      go_wp2_with fail
      refine hK.out _ _ ?_ (fun hHeld => ?_)
      · (try dsimp only); exact ⟨(SD.blk 0 rfl).cell3, (SD.blk 1 rfl).cell3⟩
      clear hK K
      (try simp only [Act.put, List.setIfInBounds_toArray, List.set_cons_zero, List.set_cons_succ])
      refine man_three 3 4 5 rfl rfl rfl (by kernel_rfl) (fun K hK => ?_) (fun K hK => ?_) (fun K hK => ?_)
      · go_simp
        refine (HTG.out _ (HRg.out _ SD.below)).mono ?_
        rintro e wz3 ⟨B5, k5, d5, rfl, hown3, hb3⟩
        have hs3 := hb3.size
        have hw3 := SD.size
        replace SD := SD.keep hb3
        replace ho1 := own_below ho1 hb3
        have ho3 := own_base hown3 hw3
        clear hown3
        go_wp2_with fail
        refine hK.out _ _ ?_ (fun hHeld => ?_)
        · (try dsimp only); exact ⟨(SD.blk 0 rfl).cell3, (SD.blk 1 rfl).cell3⟩
        clear hK K
        (try simp only [Act.put, List.setIfInBounds_toArray, List.set_cons_zero, List.set_cons_succ])
        refine man_two 4 5 rfl rfl (by kernel_rfl) (fun K hK => ?_) (fun K hK => ?_)
        · go_simp
          have hz4 := size_alloc1 wz3 (.cells #[.int .i64 0, .int .i64 0, .slice none 0 0] 24)
          replace SD := SD.box #[.int .i64 0, .int .i64 0, .slice none 0 0] 24
          simp only [List.nil_append, List.cons_append] at SD
          replace ho1 := ho1.alloc (.cells #[.int .i64 0, .int .i64 0, .slice none 0 0] 24)
          replace ho3 := ho3.alloc (.cells #[.int .i64 0, .int .i64 0, .slice none 0 0] 24)
          generalize wz3.alloc (.cells #[.int .i64 0, .int .i64 0, .slice none 0 0] 24) = wz4 at *
          refine hK.out _ _ ?_ (fun hHeld => ?_)
          · (try dsimp only); exact ⟨(SD.blk 0 rfl).cell3, (SD.blk 1 rfl).cell3⟩
          clear hK K
          (try simp only [Act.put, List.setIfInBounds_toArray, List.set_cons_zero, List.set_cons_succ])
          refine man_run 5 rfl (by kernel_rfl) (fun K hK => ?_)
          go_simp
          have hz5 := size_alloc1 wz4 (.cells #[.int .i64 0, .int .i64 0, .slice none 0 0] 40)
          replace SD := SD.box #[.int .i64 0, .int .i64 0, .slice none 0 0] 40
          simp only [List.nil_append, List.cons_append] at SD
          rw [hz4] at hz5
          simp only [hz4] at SD
          replace ho1 := ho1.alloc (.cells #[.int .i64 0, .int .i64 0, .slice none 0 0] 40)
          replace ho3 := ho3.alloc (.cells #[.int .i64 0, .int .i64 0, .slice none 0 0] 40)
          generalize wz4.alloc (.cells #[.int .i64 0, .int .i64 0, .slice none 0 0] 40) = wz5 at *
          refine hK.out _ _ ?_ (fun hHeld => ?_)
          · (try dsimp only); exact ⟨(SD.blk 0 rfl).cell3, (SD.blk 1 rfl).cell3⟩
          clear hK K
          (try simp only [Act.put, List.setIfInBounds_toArray, List.set_cons_zero, List.set_cons_succ])
          refine man_run 6 rfl (by kernel_rfl) (fun K hK => ?_)
          obtain ⟨y50, y51, y52⟩ := (SD.blk 3 rfl).cell3
          obtain ⟨x50, x51, x52⟩ := (SD.blk 3 rfl).frozen3
          have hB := SD.blk 2 rfl
          obtain ⟨z0, z1, z2⟩ := hB.cell3
          obtain ⟨f0, f1, f2⟩ := hB.frozen3
          go_simp
          clear z0 z1 z2 f0 f1 f2
          replace ho1 := own_set3 ho1 hB (by decide) (.int .i64 m.w) (.int .i64 m.h) (.slice A5 n5 c5)
          replace ho3 := own_set3 ho3 hB (by decide) (.int .i64 m.w) (.int .i64 m.h) (.slice A5 n5 c5)
          have SQ := ((SD.sub (L' := [.blk (w.heap.size) 24 #[.int .i64 m.w, .int .i64 m.h, .slice A n c], .blk ((w.heap.size + 1)) 40 #[.int .i64 g.w, .int .i64 g.h, .slice B k d], .blk ((wz3.heap.size + 1)) 40 #[.int .i64 0, .int .i64 0, .slice none 0 0]]) (by simp)).put3 (bb := wz3.heap.size) (by omega) hB ⟨(by show _ ≠ _; omega), (by show _ ≠ _; omega), (by show _ ≠ _; omega), trivial⟩ m.w m.h A5 n5 c5).addBlk (hB.set3 (.int .i64 m.w) (.int .i64 m.h) (.slice A5 n5 c5))
          simp only [List.nil_append, List.cons_append] at SQ
          replace SD := SQ
          clear hB SQ
          refine hK.out _ _ ?_ (fun hHeld => ?_)
          · (try dsimp only); exact ⟨(SD.blk 0 rfl).cell3, (SD.blk 1 rfl).cell3⟩
          clear hK K
          (try simp only [Act.put, List.setIfInBounds_toArray, List.set_cons_zero, List.set_cons_succ])
          refine man_run 7 rfl (by kernel_rfl) (fun K hK => ?_)
          have hB := SD.blk 2 rfl
          obtain ⟨z0, z1, z2⟩ := hB.cell3
          obtain ⟨f0, f1, f2⟩ := hB.frozen3
          go_simp
          clear z0 z1 z2 f0 f1 f2
          replace ho1 := own_set3 ho1 hB (by decide) (.int .i64 g.w) (.int .i64 g.h) (.slice B5 k5 d5)
          replace ho3 := own_set3 ho3 hB (by decide) (.int .i64 g.w) (.int .i64 g.h) (.slice B5 k5 d5)
          have SQ := ((SD.sub (L' := [.blk (w.heap.size) 24 #[.int .i64 m.w, .int .i64 m.h, .slice A n c], .blk ((w.heap.size + 1)) 40 #[.int .i64 g.w, .int .i64 g.h, .slice B k d], .blk (wz3.heap.size) 24 #[.int .i64 m.w, .int .i64 m.h, .slice A5 n5 c5]]) (by simp)).put3 (bb := (wz3.heap.size + 1)) (by omega) hB ⟨(by show _ ≠ _; omega), (by show _ ≠ _; omega), (by show _ ≠ _; omega), trivial⟩ g.w g.h B5 k5 d5).addBlk (hB.set3 (.int .i64 g.w) (.int .i64 g.h) (.slice B5 k5 d5))
          simp only [List.nil_append, List.cons_append] at SQ
          replace SD := SQ
          clear hB SQ
          refine hK.out _ _ ?_ (fun hHeld => ?_)
          · (try dsimp only); exact ⟨(SD.blk 0 rfl).cell3, (SD.blk 1 rfl).cell3⟩
          clear hK K
          (try simp only [Act.put, List.setIfInBounds_toArray, List.set_cons_zero, List.set_cons_succ])
          refine wpAnyH_done (by kernel_rfl) ?_ _
          go_wp2_with fail
          go_meet
          exact ⟨_, _, A5, B5, n5, c5, k5, d5, rfl, rfl, SD.blk 2 rfl, SD.blk 3 rfl, rd_of_own ho1, rd_of_own ho3, SD.sub (L' := [.blk w.heap.size 24 #[.int .i64 m.w, .int .i64 m.h, .slice A n c], .blk (w.heap.size + 1) 40 #[.int .i64 g.w, .int .i64 g.h, .slice B k d]]) (by simp)⟩
        · go_simp
          have hz5 := size_alloc1 wz3 (.cells #[.int .i64 0, .int .i64 0, .slice none 0 0] 40)
          replace SD := SD.box #[.int .i64 0, .int .i64 0, .slice none 0 0] 40
          simp only [List.nil_append, List.cons_append] at SD
          replace ho1 := ho1.alloc (.cells #[.int .i64 0, .int .i64 0, .slice none 0 0] 40)
          replace ho3 := ho3.alloc (.cells #[.int .i64 0, .int .i64 0, .slice none 0 0] 40)
          generalize wz3.alloc (.cells #[.int .i64 0, .int .i64 0, .slice none 0 0] 40) = wz5 at *
          refine hK.out _ _ ?_ (fun hHeld => ?_)
          · (try dsimp only); exact ⟨(SD.blk 0 rfl).cell3, (SD.blk 1 rfl).cell3⟩
          clear hK K
          (try simp only [Act.put, List.setIfInBounds_toArray, List.set_cons_zero, List.set_cons_succ])
          refine man_run 4 rfl (by kernel_rfl) (fun K hK => ?_)
          go_simp
          have hz4 := size_alloc1 wz5 (.cells #[.int .i64 0, .int .i64 0, .slice none 0 0] 24)
          replace SD := SD.box #[.int .i64 0, .int .i64 0, .slice none 0 0] 24
          simp only [List.nil_append, List.cons_append] at SD
          rw [hz5] at hz4
          simp only [hz5] at SD
          replace ho1 := ho1.alloc (.cells #[.int .i64 0, .int .i64 0, .slice none 0 0] 24)
          replace ho3 := ho3.alloc (.cells #[.int .i64 0, .int .i64 0, .slice none 0 0] 24)
          generalize wz5.alloc (.cells #[.int .i64 0, .int .i64 0, .slice none 0 0] 24) = wz4 at *
          refine hK.out _ _ ?_ (fun hHeld => ?_)
          · (try dsimp only); exact ⟨(SD.blk 0 rfl).cell3, (SD.blk 1 rfl).cell3⟩
          clear hK K
          (try simp only [Act.put, List.setIfInBounds_toArray, List.set_cons_zero, List.set_cons_succ])
          refine man_run 6 rfl (by kernel_rfl) (fun K hK => ?_)
          obtain ⟨y50, y51, y52⟩ := (SD.blk 2 rfl).cell3
          obtain ⟨x50, x51, x52⟩ := (SD.blk 2 rfl).frozen3
          have hB := SD.blk 3 rfl
          obtain ⟨z0, z1, z2⟩ := hB.cell3
          obtain ⟨f0, f1, f2⟩ := hB.frozen3
          go_simp
          clear z0 z1 z2 f0 f1 f2
          replace ho1 := own_set3 ho1 hB (by decide) (.int .i64 m.w) (.int .i64 m.h) (.slice A5 n5 c5)
          replace ho3 := own_set3 ho3 hB (by decide) (.int .i64 m.w) (.int .i64 m.h) (.slice A5 n5 c5)
          have SQ := ((SD.sub (L' := [.blk (w.heap.size) 24 #[.int .i64 m.w, .int .i64 m.h, .slice A n c], .blk ((w.heap.size + 1)) 40 #[.int .i64 g.w, .int .i64 g.h, .slice B k d], .blk (wz3.heap.size) 40 #[.int .i64 0, .int .i64 0, .slice none 0 0]]) (by simp)).put3 (bb := (wz3.heap.size + 1)) (by omega) hB ⟨(by show _ ≠ _; omega), (by show _ ≠ _; omega), (by show _ ≠ _; omega), trivial⟩ m.w m.h A5 n5 c5).addBlk (hB.set3 (.int .i64 m.w) (.int .i64 m.h) (.slice A5 n5 c5))
          simp only [List.nil_append, List.cons_append] at SQ
          replace SD := SQ
          clear hB SQ
          refine hK.out _ _ ?_ (fun hHeld => ?_)
          · (try dsimp only); exact ⟨(SD.blk 0 rfl).cell3, (SD.blk 1 rfl).cell3⟩
          clear hK K
          (try simp only [Act.put, List.setIfInBounds_toArray, List.set_cons_zero, List.set_cons_succ])
          refine man_run 7 rfl (by kernel_rfl) (fun K hK => ?_)
          have hB := SD.blk 2 rfl
          obtain ⟨z0, z1, z2⟩ := hB.cell3
          obtain ⟨f0, f1, f2⟩ := hB.frozen3
          go_simp
          clear z0 z1 z2 f0 f1 f2
          replace ho1 := own_set3 ho1 hB (by decide) (.int .i64 g.w) (.int .i64 g.h) (.slice B5 k5 d5)
          replace ho3 := own_set3 ho3 hB (by decide) (.int .i64 g.w) (.int .i64 g.h) (.slice B5 k5 d5)
          have SQ := ((SD.sub (L' := [.blk (w.heap.size) 24 #[.int .i64 m.w, .int .i64 m.h, .slice A n c], .blk ((w.heap.size + 1)) 40 #[.int .i64 g.w, .int .i64 g.h, .slice B k d], .blk ((wz3.heap.size + 1)) 24 #[.int .i64 m.w, .int .i64 m.h, .slice A5 n5 c5]]) (by simp)).put3 (bb := wz3.heap.size) (by omega) hB ⟨(by show _ ≠ _; omega), (by show _ ≠ _; omega), (by show _ ≠ _; omega), trivial⟩ g.w g.h B5 k5 d5).addBlk (hB.set3 (.int .i64 g.w) (.int .i64 g.h) (.slice B5 k5 d5))
          simp only [List.nil_append, List.cons_append] at SQ
          replace SD := SQ
          clear hB SQ
          refine hK.out _ _ ?_ (fun hHeld => ?_)
          · (try dsimp only); exact ⟨(SD.blk 0 rfl).cell3, (SD.blk 1 rfl).cell3⟩
          clear hK K
          (try simp only [Act.put, List.setIfInBounds_toArray, List.set_cons_zero, List.set_cons_succ])
          refine wpAnyH_done (by kernel_rfl) ?_ _
          go_wp2_with fail
          go_meet
          exact ⟨_, _, A5, B5, n5, c5, k5, d5, rfl, rfl, SD.blk 2 rfl, SD.blk 3 rfl, rd_of_own ho1, rd_of_own ho3, SD.sub (L' := [.blk w.heap.size 24 #[.int .i64 m.w, .int .i64 m.h, .slice A n c], .blk (w.heap.size + 1) 40 #[.int .i64 g.w, .int .i64 g.h, .slice B k d]]) (by simp)⟩
      · go_simp
        have hz4 := size_alloc1 wz1 (.cells #[.int .i64 0, .int .i64 0, .slice none 0 0] 24)
        replace SD := SD.box #[.int .i64 0, .int .i64 0, .slice none 0 0] 24
        simp only [List.nil_append, List.cons_append] at SD
        replace ho1 := ho1.alloc (.cells #[.int .i64 0, .int .i64 0, .slice none 0 0] 24)
        generalize wz1.alloc (.cells #[.int .i64 0, .int .i64 0, .slice none 0 0] 24) = wz4 at *
        refine hK.out _ _ ?_ (fun hHeld => ?_)
        · (try dsimp only); exact ⟨(SD.blk 0 rfl).cell3, (SD.blk 1 rfl).cell3⟩
        clear hK K
        (try simp only [Act.put, List.setIfInBounds_toArray, List.set_cons_zero, List.set_cons_succ])
        refine man_two 3 5 rfl rfl (by kernel_rfl) (fun K hK => ?_) (fun K hK => ?_)
        · go_simp
          refine (HTG.out _ (HRg.out _ SD.below)).mono ?_
          rintro e wz3 ⟨B5, k5, d5, rfl, hown3, hb3⟩
          have hs3 := hb3.size
          have hw3 := SD.size
          replace SD := SD.keep hb3
          replace ho1 := own_below ho1 hb3
          have ho3 := own_base hown3 hw3
          clear hown3
          go_wp2_with fail
          refine hK.out _ _ ?_ (fun hHeld => ?_)
          · (try dsimp only); exact ⟨(SD.blk 0 rfl).cell3, (SD.blk 1 rfl).cell3⟩
          clear hK K
          (try simp only [Act.put, List.setIfInBounds_toArray, List.set_cons_zero, List.set_cons_succ])
          refine man_run 5 rfl (by kernel_rfl) (fun K hK => ?_)
          go_simp
          have hz5 := size_alloc1 wz3 (.cells #[.int .i64 0, .int .i64 0, .slice none 0 0] 40)
          replace SD := SD.box #[.int .i64 0, .int .i64 0, .slice none 0 0] 40
          simp only [List.nil_append, List.cons_append] at SD
          replace ho1 := ho1.alloc (.cells #[.int .i64 0, .int .i64 0, .slice none 0 0] 40)
          replace ho3 := ho3.alloc (.cells #[.int .i64 0, .int .i64 0, .slice none 0 0] 40)
          generalize wz3.alloc (.cells #[.int .i64 0, .int .i64 0, .slice none 0 0] 40) = wz5 at *
          refine hK.out _ _ ?_ (fun hHeld => ?_)
          · (try dsimp only); exact ⟨(SD.blk 0 rfl).cell3, (SD.blk 1 rfl).cell3⟩
          clear hK K
          (try simp only [Act.put, List.setIfInBounds_toArray, List.set_cons_zero, List.set_cons_succ])
          refine man_run 6 rfl (by kernel_rfl) (fun K hK => ?_)
          obtain ⟨y50, y51, y52⟩ := (SD.blk 3 rfl).cell3
          obtain ⟨x50, x51, x52⟩ := (SD.blk 3 rfl).frozen3
          have hB := SD.blk 2 rfl
          obtain ⟨z0, z1, z2⟩ := hB.cell3
          obtain ⟨f0, f1, f2⟩ := hB.frozen3
          go_simp
          clear z0 z1 z2 f0 f1 f2
          replace ho1 := own_set3 ho1 hB (by decide) (.int .i64 m.w) (.int .i64 m.h) (.slice A5 n5 c5)
          replace ho3 := own_set3 ho3 hB (by decide) (.int .i64 m.w) (.int .i64 m.h) (.slice A5 n5 c5)
          have SQ := ((SD.sub (L' := [.blk (w.heap.size) 24 #[.int .i64 m.w, .int .i64 m.h, .slice A n c], .blk ((w.heap.size + 1)) 40 #[.int .i64 g.w, .int .i64 g.h, .slice B k d], .blk (wz3.heap.size) 40 #[.int .i64 0, .int .i64 0, .slice none 0 0]]) (by simp)).put3 (bb := wz1.heap.size) (by omega) hB ⟨(by show _ ≠ _; omega), (by show _ ≠ _; omega), (by show _ ≠ _; omega), trivial⟩ m.w m.h A5 n5 c5).addBlk (hB.set3 (.int .i64 m.w) (.int .i64 m.h) (.slice A5 n5 c5))
          simp only [List.nil_append, List.cons_append] at SQ
          replace SD := SQ
          clear hB SQ
          refine hK.out _ _ ?_ (fun hHeld => ?_)
          · (try dsimp only); exact ⟨(SD.blk 0 rfl).cell3, (SD.blk 1 rfl).cell3⟩
          clear hK K
          (try simp only [Act.put, List.setIfInBounds_toArray, List.set_cons_zero, List.set_cons_succ])
          refine man_run 7 rfl (by kernel_rfl) (fun K hK => ?_)
          have hB := SD.blk 2 rfl
          obtain ⟨z0, z1, z2⟩ := hB.cell3
          obtain ⟨f0, f1, f2⟩ := hB.frozen3
          go_simp
          clear z0 z1 z2 f0 f1 f2
          replace ho1 := own_set3 ho1 hB (by decide) (.int .i64 g.w) (.int .i64 g.h) (.slice B5 k5 d5)
          replace ho3 := own_set3 ho3 hB (by decide) (.int .i64 g.w) (.int .i64 g.h) (.slice B5 k5 d5)
          have SQ := ((SD.sub (L' := [.blk (w.heap.size) 24 #[.int .i64 m.w, .int .i64 m.h, .slice A n c], .blk ((w.heap.size + 1)) 40 #[.int .i64 g.w, .int .i64 g.h, .slice B k d], .blk (wz1.heap.size) 24 #[.int .i64 m.w, .int .i64 m.h, .slice A5 n5 c5]]) (by simp)).put3 (bb := wz3.heap.size) (by omega) hB ⟨(by show _ ≠ _; omega), (by show _ ≠ _; omega), (by show _ ≠ _; omega), trivial⟩ g.w g.h B5 k5 d5).addBlk (hB.set3 (.int .i64 g.w) (.int .i64 g.h) (.slice B5 k5 d5))
          simp only [List.nil_append, List.cons_append] at SQ
          replace SD := SQ
          clear hB SQ
          refine hK.out _ _ ?_ (fun hHeld => ?_)
          · (try dsimp only); exact ⟨(SD.blk 0 rfl).cell3, (SD.blk 1 rfl).cell3⟩
          clear hK K
          (try simp only [Act.put, List.setIfInBounds_toArray, List.set_cons_zero, List.set_cons_succ])
          refine wpAnyH_done (by kernel_rfl) ?_ _
          go_wp2_with fail
          go_meet
          exact ⟨_, _, A5, B5, n5, c5, k5, d5, rfl, rfl, SD.blk 2 rfl, SD.blk 3 rfl, rd_of_own ho1, rd_of_own ho3, SD.sub (L' := [.blk w.heap.size 24 #[.int .i64 m.w, .int .i64 m.h, .slice A n c], .blk (w.heap.size + 1) 40 #[.int .i64 g.w, .int .i64 g.h, .slice B k d]]) (by simp)⟩
        · go_simp
          have hz5 := size_alloc1 wz4 (.cells #[.int .i64 0, .int .i64 0, .slice none 0 0] 40)
          replace SD := SD.box #[.int .i64 0, .int .i64 0, .slice none 0 0] 40
          simp only [List.nil_append, List.cons_append] at SD
          rw [hz4] at hz5
          simp only [hz4] at SD
          replace ho1 := ho1.alloc (.cells #[.int .i64 0, .int .i64 0, .slice none 0 0] 40)
          generalize wz4.alloc (.cells #[.int .i64 0, .int .i64 0, .slice none 0 0] 40) = wz5 at *
          refine hK.out _ _ ?_ (fun hHeld => ?_)
          · (try dsimp only); exact ⟨(SD.blk 0 rfl).cell3, (SD.blk 1 rfl).cell3⟩
          clear hK K
          (try simp only [Act.put, List.setIfInBounds_toArray, List.set_cons_zero, List.set_cons_succ])
          refine man_run 3 rfl (by kernel_rfl) (fun K hK => ?_)
          go_simp
          refine (HTG.out _ (HRg.out _ SD.below)).mono ?_
          rintro e wz3 ⟨B5, k5, d5, rfl, hown3, hb3⟩
          have hs3 := hb3.size
          have hw3 := SD.size
          replace SD := SD.keep hb3
          replace ho1 := own_below ho1 hb3
          have ho3 := own_base hown3 hw3
          clear hown3
          go_wp2_with fail
          refine hK.out _ _ ?_ (fun hHeld => ?_)
          · (try dsimp only); exact ⟨(SD.blk 0 rfl).cell3, (SD.blk 1 rfl).cell3⟩
          clear hK K
          (try simp only [Act.put, List.setIfInBounds_toArray, List.set_cons_zero, List.set_cons_succ])
          refine man_run 6 rfl (by kernel_rfl) (fun K hK => ?_)
          obtain ⟨y50, y51, y52⟩ := (SD.blk 3 rfl).cell3
          obtain ⟨x50, x51, x52⟩ := (SD.blk 3 rfl).frozen3
          have hB := SD.blk 2 rfl
          obtain ⟨z0, z1, z2⟩ := hB.cell3
          obtain ⟨f0, f1, f2⟩ := hB.frozen3
          go_simp
          clear z0 z1 z2 f0 f1 f2
          replace ho1 := own_set3 ho1 hB (by decide) (.int .i64 m.w) (.int .i64 m.h) (.slice A5 n5 c5)
          replace ho3 := own_set3 ho3 hB (by decide) (.int .i64 m.w) (.int .i64 m.h) (.slice A5 n5 c5)
          have SQ := ((SD.sub (L' := [.blk (w.heap.size) 24 #[.int .i64 m.w, .int .i64 m.h, .slice A n c], .blk ((w.heap.size + 1)) 40 #[.int .i64 g.w, .int .i64 g.h, .slice B k d], .blk ((wz1.heap.size + 1)) 40 #[.int .i64 0, .int .i64 0, .slice none 0 0]]) (by simp)).put3 (bb := wz1.heap.size) (by omega) hB ⟨(by show _ ≠ _; omega), (by show _ ≠ _; omega), (by show _ ≠ _; omega), trivial⟩ m.w m.h A5 n5 c5).addBlk (hB.set3 (.int .i64 m.w) (.int .i64 m.h) (.slice A5 n5 c5))
          simp only [List.nil_append, List.cons_append] at SQ
          replace SD := SQ
          clear hB SQ
          refine hK.out _ _ ?_ (fun hHeld => ?_)
          · (try dsimp only); exact ⟨(SD.blk 0 rfl).cell3, (SD.blk 1 rfl).cell3⟩
          clear hK K
          (try simp only [Act.put, List.setIfInBounds_toArray, List.set_cons_zero, List.set_cons_succ])
          refine man_run 7 rfl (by kernel_rfl) (fun K hK => ?_)
          have hB := SD.blk 2 rfl
          obtain ⟨z0, z1, z2⟩ := hB.cell3
          obtain ⟨f0, f1, f2⟩ := hB.frozen3
          go_simp
          clear z0 z1 z2 f0 f1 f2
          replace ho1 := own_set3 ho1 hB (by decide) (.int .i64 g.w) (.int .i64 g.h) (.slice B5 k5 d5)
          replace ho3 := own_set3 ho3 hB (by decide) (.int .i64 g.w) (.int .i64 g.h) (.slice B5 k5 d5)
          have SQ := ((SD.sub (L' := [.blk (w.heap.size) 24 #[.int .i64 m.w, .int .i64 m.h, .slice A n c], .blk ((w.heap.size + 1)) 40 #[.int .i64 g.w, .int .i64 g.h, .slice B k d], .blk (wz1.heap.size) 24 #[.int .i64 m.w, .int .i64 m.h, .slice A5 n5 c5]]) (by simp)).put3 (bb := (wz1.heap.size + 1)) (by omega) hB ⟨(by show _ ≠ _; omega), (by show _ ≠ _; omega), (by show _ ≠ _; omega), trivial⟩ g.w g.h B5 k5 d5).addBlk (hB.set3 (.int .i64 g.w) (.int .i64 g.h) (.slice B5 k5 d5))
          simp only [List.nil_append, List.cons_append] at SQ
          replace SD := SQ
          clear hB SQ
          refine hK.out _ _ ?_ (fun hHeld => ?_)
          · (try dsimp only); exact ⟨(SD.blk 0 rfl).cell3, (SD.blk 1 rfl).cell3⟩
          clear hK K
          (try simp only [Act.put, List.setIfInBounds_toArray, List.set_cons_zero, List.set_cons_succ])
          refine wpAnyH_done (by kernel_rfl) ?_ _
          go_wp2_with fail
          go_meet
          exact ⟨_, _, A5, B5, n5, c5, k5, d5, rfl, rfl, SD.blk 2 rfl, SD.blk 3 rfl, rd_of_own ho1, rd_of_own ho3, SD.sub (L' := [.blk w.heap.size 24 #[.int .i64 m.w, .int .i64 m.h, .slice A n c], .blk (w.heap.size + 1) 40 #[.int .i64 g.w, .int .i64 g.h, .slice B k d]]) (by simp)⟩
      · go_simp
        have hz5 := size_alloc1 wz1 (.cells #[.int .i64 0, .int .i64 0, .slice none 0 0] 40)
        replace SD := SD.box #[.int .i64 0, .int .i64 0, .slice none 0 0] 40
        simp only [List.nil_append, List.cons_append] at SD
        replace ho1 := ho1.alloc (.cells #[.int .i64 0, .int .i64 0, .slice none 0 0] 40)
        generalize wz1.alloc (.cells #[.int .i64 0, .int .i64 0, .slice none 0 0] 40) = wz5 at *
        refine hK.out _ _ ?_ (fun hHeld => ?_)
        · (try dsimp only); exact ⟨(SD.blk 0 rfl).cell3, (SD.blk 1 rfl).cell3⟩
        clear hK K
        (try simp only [Act.put, List.setIfInBounds_toArray, List.set_cons_zero, List.set_cons_succ])
        refine man_two 3 4 rfl rfl (by kernel_rfl) (fun K hK => ?_) (fun K hK => ?_)
        · go_simp
          refine (HTG.out _ (HRg.out _ SD.below)).mono ?_
          rintro e wz3 ⟨B5, k5, d5, rfl, hown3, hb3⟩
          have hs3 := hb3.size
          have hw3 := SD.size
          replace SD := SD.keep hb3
          replace ho1 := own_below ho1 hb3
          have ho3 := own_base hown3 hw3
          clear hown3
          go_wp2_with fail
          refine hK.out _ _ ?_ (fun hHeld => ?_)
          · (try dsimp only); exact ⟨(SD.blk 0 rfl).cell3, (SD.blk 1 rfl).cell3⟩
          clear hK K
          (try simp only [Act.put, List.setIfInBounds_toArray, List.set_cons_zero, List.set_cons_succ])
          refine man_run 4 rfl (by kernel_rfl) (fun K hK => ?_)
          go_simp
          have hz4 := size_alloc1 wz3 (.cells #[.int .i64 0, .int .i64 0, .slice none 0 0] 24)
          replace SD := SD.box #[.int .i64 0, .int .i64 0, .slice none 0 0] 24
          simp only [List.nil_append, List.cons_append] at SD
          replace ho1 := ho1.alloc (.cells #[.int .i64 0, .int .i64 0, .slice none 0 0] 24)
          replace ho3 := ho3.alloc (.cells #[.int .i64 0, .int .i64 0, .slice none 0 0] 24)
          generalize wz3.alloc (.cells #[.int .i64 0, .int .i64 0, .slice none 0 0] 24) = wz4 at *
          refine hK.out _ _ ?_ (fun hHeld => ?_)
          · (try dsimp only); exact ⟨(SD.blk 0 rfl).cell3, (SD.blk 1 rfl).cell3⟩
          clear hK K
          (try simp only [Act.put, List.setIfInBounds_toArray, List.set_cons_zero, List.set_cons_succ])
          refine man_run 6 rfl (by kernel_rfl) (fun K hK => ?_)
          obtain ⟨y50, y51, y52⟩ := (SD.blk 2 rfl).cell3
          obtain ⟨x50, x51, x52⟩ := (SD.blk 2 rfl).frozen3
          have hB := SD.blk 3 rfl
          obtain ⟨z0, z1, z2⟩ := hB.cell3
          obtain ⟨f0, f1, f2⟩ := hB.frozen3
          go_simp
          clear z0 z1 z2 f0 f1 f2
          replace ho1 := own_set3 ho1 hB (by decide) (.int .i64 m.w) (.int .i64 m.h) (.slice A5 n5 c5)
          replace ho3 := own_set3 ho3 hB (by decide) (.int .i64 m.w) (.int .i64 m.h) (.slice A5 n5 c5)
          have SQ := ((SD.sub (L' := [.blk (w.heap.size) 24 #[.int .i64 m.w, .int .i64 m.h, .slice A n c], .blk ((w.heap.size + 1)) 40 #[.int .i64 g.w, .int .i64 g.h, .slice B k d], .blk (wz1.heap.size) 40 #[.int .i64 0, .int .i64 0, .slice none 0 0]]) (by simp)).put3 (bb := wz3.heap.size) (by omega) hB ⟨(by show _ ≠ _; omega), (by show _ ≠ _; omega), (by show _ ≠ _; omega), trivial⟩ m.w m.h A5 n5 c5).addBlk (hB.set3 (.int .i64 m.w) (.int .i64 m.h) (.slice A5 n5 c5))
          simp only [List.nil_append, List.cons_append] at SQ
          replace SD := SQ
          clear hB SQ
          refine hK.out _ _ ?_ (fun hHeld => ?_)
          · (try dsimp only); exact ⟨(SD.blk 0 rfl).cell3, (SD.blk 1 rfl).cell3⟩
          clear hK K
          (try simp only [Act.put, List.setIfInBounds_toArray, List.set_cons_zero, List.set_cons_succ])
          refine man_run 7 rfl (by kernel_rfl) (fun K hK => ?_)
          have hB := SD.blk 2 rfl
          obtain ⟨z0, z1, z2⟩ := hB.cell3
          obtain ⟨f0, f1, f2⟩ := hB.frozen3
          go_simp
          clear z0 z1 z2 f0 f1 f2
          replace ho1 := own_set3 ho1 hB (by decide) (.int .i64 g.w) (.int .i64 g.h) (.slice B5 k5 d5)
          replace ho3 := own_set3 ho3 hB (by decide) (.int .i64 g.w) (.int .i64 g.h) (.slice B5 k5 d5)
          have SQ := ((SD.sub (L' := [.blk (w.heap.size) 24 #[.int .i64 m.w, .int .i64 m.h, .slice A n c], .blk ((w.heap.size + 1)) 40 #[.int .i64 g.w, .int .i64 g.h, .slice B k d], .blk (wz3.heap.size) 24 #[.int .i64 m.w, .int .i64 m.h, .slice A5 n5 c5]]) (by simp)).put3 (bb := wz1.heap.size) (by omega) hB ⟨(by show _ ≠ _; omega), (by show _ ≠ _; omega), (by show _ ≠ _; omega), trivial⟩ g.w g.h B5 k5 d5).addBlk (hB.set3 (.int .i64 g.w) (.int .i64 g.h) (.slice B5 k5 d5))
          simp only [List.nil_append, List.cons_append] at SQ
          replace SD := SQ
          clear hB SQ
          refine hK.out _ _ ?_ (fun hHeld => ?_)
          · (try dsimp only); exact ⟨(SD.blk 0 rfl).cell3, (SD.blk 1 rfl).cell3⟩
          clear hK K
          (try simp only [Act.put, List.setIfInBounds_toArray, List.set_cons_zero, List.set_cons_succ])
          refine wpAnyH_done (by kernel_rfl) ?_ _
          go_wp2_with fail
          go_meet
          exact ⟨_, _, A5, B5, n5, c5, k5, d5, rfl, rfl, SD.blk 2 rfl, SD.blk 3 rfl, rd_of_own ho1, rd_of_own ho3, SD.sub (L' := [.blk w.heap.size 24 #[.int .i64 m.w, .int .i64 m.h, .slice A n c], .blk (w.heap.size + 1) 40 #[.int .i64 g.w, .int .i64 g.h, .slice B k d]]) (by simp)⟩
        · go_simp
          have hz4 := size_alloc1 wz5 (.cells #[.int .i64 0, .int .i64 0, .slice none 0 0] 24)
          replace SD := SD.box #[.int .i64 0, .int .i64 0, .slice none 0 0] 24
          simp only [List.nil_append, List.cons_append] at SD
          rw [hz5] at hz4
          simp only [hz5] at SD
          replace ho1 := ho1.alloc (.cells #[.int .i64 0, .int .i64 0, .slice none 0 0] 24)
          generalize wz5.alloc (.cells #[.int .i64 0, .int .i64 0, .slice none 0 0] 24) = wz4 at *
          refine hK.out _ _ ?_ (fun hHeld => ?_)
          · (try dsimp only); exact ⟨(SD.blk 0 rfl).cell3, (SD.blk 1 rfl).cell3⟩
          clear hK K
          (try simp only [Act.put, List.setIfInBounds_toArray, List.set_cons_zero, List.set_cons_succ])
          refine man_run 3 rfl (by kernel_rfl) (fun K hK => ?_)
          go_simp
          refine (HTG.out _ (HRg.out _ SD.below)).mono ?_
          rintro e wz3 ⟨B5, k5, d5, rfl, hown3, hb3⟩
          have hs3 := hb3.size
          have hw3 := SD.size
          replace SD := SD.keep hb3
          replace ho1 := own_below ho1 hb3
          have ho3 := own_base hown3 hw3
          clear hown3
          go_wp2_with fail
          refine hK.out _ _ ?_ (fun hHeld => ?_)
          · (try dsimp only); exact ⟨(SD.blk 0 rfl).cell3, (SD.blk 1 rfl).cell3⟩
          clear hK K
          (try simp only [Act.put, List.setIfInBounds_toArray, List.set_cons_zero, List.set_cons_succ])
          refine man_run 6 rfl (by kernel_rfl) (fun K hK => ?_)
          obtain ⟨y50, y51, y52⟩ := (SD.blk 2 rfl).cell3
          obtain ⟨x50, x51, x52⟩ := (SD.blk 2 rfl).frozen3
          have hB := SD.blk 3 rfl
          obtain ⟨z0, z1, z2⟩ := hB.cell3
          obtain ⟨f0, f1, f2⟩ := hB.frozen3
          go_simp
          clear z0 z1 z2 f0 f1 f2
          replace ho1 := own_set3 ho1 hB (by decide) (.int .i64 m.w) (.int .i64 m.h) (.slice A5 n5 c5)
          replace ho3 := own_set3 ho3 hB (by decide) (.int .i64 m.w) (.int .i64 m.h) (.slice A5 n5 c5)
          have SQ := ((SD.sub (L' := [.blk (w.heap.size) 24 #[.int .i64 m.w, .int .i64 m.h, .slice A n c], .blk ((w.heap.size + 1)) 40 #[.int .i64 g.w, .int .i64 g.h, .slice B k d], .blk (wz1.heap.size) 40 #[.int .i64 0, .int .i64 0, .slice none 0 0]]) (by simp)).put3 (bb := (wz1.heap.size + 1)) (by omega) hB ⟨(by show _ ≠ _; omega), (by show _ ≠ _; omega), (by show _ ≠ _; omega), trivial⟩ m.w m.h A5 n5 c5).addBlk (hB.set3 (.int .i64 m.w) (.int .i64 m.h) (.slice A5 n5 c5))
          simp only [List.nil_append, List.cons_append] at SQ
          replace SD := SQ
          clear hB SQ
          refine hK.out _ _ ?_ (fun hHeld => ?_)
          · (try dsimp only); exact ⟨(SD.blk 0 rfl).cell3, (SD.blk 1 rfl).cell3⟩
          clear hK K
          (try simp only [Act.put, List.setIfInBounds_toArray, List.set_cons_zero, List.set_cons_succ])
          refine man_run 7 rfl (by kernel_rfl) (fun K hK => ?_)
          have hB := SD.blk 2 rfl
          obtain ⟨z0, z1, z2⟩ := hB.cell3
          obtain ⟨f0, f1, f2⟩ := hB.frozen3
          go_simp
          clear z0 z1 z2 f0 f1 f2
          replace ho1 := own_set3 ho1 hB (by decide) (.int .i64 g.w) (.int .i64 g.h) (.slice B5 k5 d5)
          replace ho3 := own_set3 ho3 hB (by decide) (.int .i64 g.w) (.int .i64 g.h) (.slice B5 k5 d5)
          have SQ := ((SD.sub (L' := [.blk (w.heap.size) 24 #[.int .i64 m.w, .int .i64 m.h, .slice A n c], .blk ((w.heap.size + 1)) 40 #[.int .i64 g.w, .int .i64 g.h, .slice B k d], .blk ((wz1.heap.size + 1)) 24 #[.int .i64 m.w, .int .i64 m.h, .slice A5 n5 c5]]) (by simp)).put3 (bb := wz1.heap.size) (by omega) hB ⟨(by show _ ≠ _; omega), (by show _ ≠ _; omega), (by show _ ≠ _; omega), trivial⟩ g.w g.h B5 k5 d5).addBlk (hB.set3 (.int .i64 g.w) (.int .i64 g.h) (.slice B5 k5 d5))
          simp only [List.nil_append, List.cons_append] at SQ
          replace SD := SQ
          clear hB SQ
          refine hK.out _ _ ?_ (fun hHeld => ?_)
          · (try dsimp only); exact ⟨(SD.blk 0 rfl).cell3, (SD.blk 1 rfl).cell3⟩
          clear hK K
          (try simp only [Act.put, List.setIfInBounds_toArray, List.set_cons_zero, List.set_cons_succ])
          refine wpAnyH_done (by kernel_rfl) ?_ _
          go_wp2_with fail
          go_meet
          exact ⟨_, _, A5, B5, n5, c5, k5, d5, rfl, rfl, SD.blk 2 rfl, SD.blk 3 rfl, rd_of_own ho1, rd_of_own ho3, SD.sub (L' := [.blk w.heap.size 24 #[.int .i64 m.w, .int .i64 m.h, .slice A n c], .blk (w.heap.size + 1) 40 #[.int .i64 g.w, .int .i64 g.h, .slice B k d]]) (by simp)⟩
    · go_simp
      have hz4 := size_alloc1 wd (.cells #[.int .i64 0, .int .i64 0, .slice none 0 0] 24)
      replace SD := SD.box #[.int .i64 0, .int .i64 0, .slice none 0 0] 24
      simp only [List.nil_append, List.cons_append] at SD
      generalize wd.alloc (.cells #[.int .i64 0, .int .i64 0, .slice none 0 0] 24) = wz4 at *
      refine hK.out _ _ ?_ (fun hHeld => ?_)
      · (try dsimp only); exact ⟨(SD.blk 0 rfl).cell3, (SD.blk 1 rfl).cell3⟩
      clear hK K
      (try simp only [Act.put, List.setIfInBounds_toArray, List.set_cons_zero, List.set_cons_succ])
      refine man_two 1 5 rfl rfl (by kernel_rfl) (fun K hK => ?_) (fun K hK => ?_)
      · go_simp
        refine (HTI.out _ (HRm.out _ SD.below)).mono ?_
        rintro e wz1 ⟨A5, n5, c5, rfl, hown1, hb1⟩
        have hs1 := hb1.size
        have hw1 := SD.size
        replace SD := SD.keep hb1
        have ho1 := own_base hown1 hw1
        clear hown1
        go_wp2_with fail
        refine hK.out _ _ ?_ (fun hHeld => ?_)
        · (try dsimp only); exact ⟨(SD.blk 0 rfl).cell3, (SD.blk 1 rfl).cell3⟩
        clear hK K
        (try simp only [Act.put, List.setIfInBounds_toArray, List.set_cons_zero, List.set_cons_succ])
        refine man_two 3 5 rfl rfl (by kernel_rfl) (fun K hK => ?_) (fun K hK => ?_)
        · go_simp
          refine (HTG.out _ (HRg.out _ SD.below)).mono ?_
          rintro e wz3 ⟨B5, k5, d5, rfl, hown3, hb3⟩
          have hs3 := hb3.size
          have hw3 := SD.size
          replace SD := SD.keep hb3
          replace ho1 := own_below ho1 hb3
          have ho3 := own_base hown3 hw3
          clear hown3
          go_wp2_with fail
          refine hK.out _ _ ?_ (fun hHeld => ?_)
          · (try dsimp only); exact ⟨(SD.blk 0 rfl).cell3, (SD.blk 1 rfl).cell3⟩
          clear hK K
          (try simp only [Act.put, List.setIfInBounds_toArray, List.set_cons_zero, List.set_cons_succ])
          refine man_run 5 rfl (by kernel_rfl) (fun K hK => ?_)
          go_simp
          have hz5 := size_alloc1 wz3 (.cells #[.int .i64 0, .int .i64 0, .slice none 0 0] 40)
          replace SD := SD.box #[.int .i64 0, .int .i64 0, .slice none 0 0] 40
          simp only [List.nil_append, List.cons_append] at SD
          replace ho1 := ho1.alloc (.cells #[.int .i64 0, .int .i64 0, .slice none 0 0] 40)
          replace ho3 := ho3.alloc (.cells #[.int .i64 0, .int .i64 0, .slice none 0 0] 40)
          generalize wz3.alloc (.cells #[.int .i64 0, .int .i64 0, .slice none 0 0] 40) = wz5 at *
          refine hK.out _ _ ?_ (fun hHeld => ?_)
          · (try dsimp only); exact ⟨(SD.blk 0 rfl).cell3, (SD.blk 1 rfl).cell3⟩
          clear hK K
          (try simp only [Act.put, List.setIfInBounds_toArray, List.set_cons_zero, List.set_cons_succ])
          refine man_run 6 rfl (by kernel_rfl) (fun K hK => ?_)
          obtain ⟨y50, y51, y52⟩ := (SD.blk 3 rfl).cell3
          obtain ⟨x50, x51, x52⟩ := (SD.blk 3 rfl).frozen3
          have hB := SD.blk 2 rfl
          obtain ⟨z0, z1, z2⟩ := hB.cell3
          obtain ⟨f0, f1, f2⟩ := hB.frozen3
          go_simp
          clear z0 z1 z2 f0 f1 f2
          replace ho1 := own_set3 ho1 hB (by decide) (.int .i64 m.w) (.int .i64 m.h) (.slice A5 n5 c5)
          replace ho3 := own_set3 ho3 hB (by decide) (.int .i64 m.w) (.int .i64 m.h) (.slice A5 n5 c5)
          have SQ := ((SD.sub (L' := [.blk (w.heap.size) 24 #[.int .i64 m.w, .int .i64 m.h, .slice A n c], .blk ((w.heap.size + 1)) 40 #[.int .i64 g.w, .int .i64 g.h, .slice B k d], .blk (wz3.heap.size) 40 #[.int .i64 0, .int .i64 0, .slice none 0 0]]) (by simp)).put3 (bb := wd.heap.size) (by omega) hB ⟨(by show _ ≠ _; omega), (by show _ ≠ _; omega), (by show _ ≠ _; omega), trivial⟩ m.w m.h A5 n5 c5).addBlk (hB.set3 (.int .i64 m.w) (.int .i64 m.h) (.slice A5 n5 c5))
          simp only [List.nil_append, List.cons_append] at SQ
          replace SD := SQ
          clear hB SQ
          refine hK.out _ _ ?_ (fun hHeld => ?_)
          · (try dsimp only); exact ⟨(SD.blk 0 rfl).cell3, (SD.blk 1 rfl).cell3⟩
          clear hK K
          (try simp only [Act.put, List.setIfInBounds_toArray, List.set_cons_zero, List.set_cons_succ])
          refine man_run 7 rfl (by kernel_rfl) (fun K hK => ?_)
          have hB := SD.blk 2 rfl
          obtain ⟨z0, z1, z2⟩ := hB.cell3
          obtain ⟨f0, f1, f2⟩ := hB.frozen3
          go_simp
          clear z0 z1 z2 f0 f1 f2
          replace ho1 := own_set3 ho1 hB (by decide) (.int .i64 g.w) (.int .i64 g.h) (.slice B5 k5 d5)
          replace ho3 := own_set3 ho3 hB (by decide) (.int .i64 g.w) (.int .i64 g.h) (.slice B5 k5 d5)
          have SQ := ((SD.sub (L' := [.blk (w.heap.size) 24 #[.int .i64 m.w, .int .i64 m.h, .slice A n c], .blk ((w.heap.size + 1)) 40 #[.int .i64 g.w, .int .i64 g.h, .slice B k d], .blk (wd.heap.size) 24 #[.int .i64 m.w, .int .i64 m.h, .slice A5 n5 c5]]) (by simp)).put3 (bb := wz3.heap.size) (by omega) hB ⟨(by show _ ≠ _; omega), (by show _ ≠ _; omega), (by show _ ≠ _; omega), trivial⟩ g.w g.h B5 k5 d5).addBlk (hB.set3 (.int .i64 g.w) (.int .i64 g.h) (.slice B5 k5 d5))
          simp only [List.nil_append, List.cons_append] at SQ
          replace SD := SQ
          clear hB SQ
          refine hK.out _ _ ?_ (fun hHeld => ?_)
          · (try dsimp only); exact ⟨(SD.blk 0 rfl).cell3, (SD.blk 1 rfl).cell3⟩
          clear hK K
          (try simp only [Act.put, List.setIfInBounds_toArray, List.set_cons_zero, List.set_cons_succ])
          refine wpAnyH_done (by kernel_rfl) ?_ _
          go_wp2_with fail
          go_meet
          exact ⟨_, _, A5, B5, n5, c5, k5, d5, rfl, rfl, SD.blk 2 rfl, SD.blk 3 rfl, rd_of_own ho1, rd_of_own ho3, SD.sub (L' := [.blk w.heap.size 24 #[.int .i64 m.w, .int .i64 m.h, .slice A n c], .blk (w.heap.size + 1) 40 #[.int .i64 g.w, .int .i64 g.h, .slice B k d]]) (by simp)⟩
        · go_simp
          have hz5 := size_alloc1 wz1 (.cells #[.int .i64 0, .int .i64 0, .slice none 0 0] 40)
          replace SD := SD.box #[.int .i64 0, .int .i64 0, .slice none 0 0] 40
          simp only [List.nil_append, List.cons_append] at SD
          replace ho1 := ho1.alloc (.cells #[.int .i64 0, .int .i64 0, .slice none 0 0] 40)
          generalize wz1.alloc (.cells #[.int .i64 0, .int .i64 0, .slice none 0 0] 40) = wz5 at *
          refine hK.out _ _ ?_ (fun hHeld => ?_)
          · (try dsimp only); exact ⟨(SD.blk 0 rfl).cell3, (SD.blk 1 rfl).cell3⟩
          clear hK K
          (try simp only [Act.put, List.setIfInBounds_toArray, List.set_cons_zero, List.set_cons_succ])
          refine man_run 3 rfl (by kernel_rfl) (fun K hK => ?_)
          go_simp
          refine (HTG.out _ (HRg.out _ SD.below)).mono ?_
          rintro e wz3 ⟨B5, k5, d5, rfl, hown3, hb3⟩
          have hs3 := hb3.size
          have hw3 := SD.size
          replace SD := SD.keep hb3
          replace ho1 := own_below ho1 hb3
          have ho3 := own_base hown3 hw3
          clear hown3
          go_wp2_with fail
          refine hK.out _ _ ?_ (fun hHeld => ?_)
          · (try dsimp only); exact ⟨(SD.blk 0 rfl).cell3, (SD.blk 1 rfl).cell3⟩
          clear hK K
          (try simp only [Act.put, List.setIfInBounds_toArray, List.set_cons_zero, List.set_cons_succ])
          refine man_run 6 rfl (by kernel_rfl) (fun K hK => ?_)
          obtain ⟨y50, y51, y52⟩ := (SD.blk 3 rfl).cell3
          obtain ⟨x50, x51, x52⟩ := (SD.blk 3 rfl).frozen3
          have hB := SD.blk 2 rfl
          obtain ⟨z0, z1, z2⟩ := hB.cell3
          obtain ⟨f0, f1, f2⟩ := hB.frozen3
          go_simp
          clear z0 z1 z2 f0 f1 f2
          replace ho1 := own_set3 ho1 hB (by decide) (.int .i64 m.w) (.int .i64 m.h) (.slice A5 n5 c5)
          replace ho3 := own_set3 ho3 hB (by decide) (.int .i64 m.w) (.int .i64 m.h) (.slice A5 n5 c5)
          have SQ := ((SD.sub (L' := [.blk (w.heap.size) 24 #[.int .i64 m.w, .int .i64 m.h, .slice A n c], .blk ((w.heap.size + 1)) 40 #[.int .i64 g.w, .int .i64 g.h, .slice B k d], .blk (wz1.heap.size) 40 #[.int .i64 0, .int .i64 0, .slice none 0 0]]) (by simp)).put3 (bb := wd.heap.size) (by omega) hB ⟨(by show _ ≠ _; omega), (by show _ ≠ _; omega), (by show _ ≠ _; omega), trivial⟩ m.w m.h A5 n5 c5).addBlk (hB.set3 (.int .i64 m.w) (.int .i64 m.h) (.slice A5 n5 c5))
          simp only [List.nil_append, List.cons_append] at SQ
          replace SD := SQ
          clear hB SQ
          refine hK.out _ _ ?_ (fun hHeld => ?_)
          · (try dsimp only); exact ⟨(SD.blk 0 rfl).cell3, (SD.blk 1 rfl).cell3⟩
          clear hK K
          (try simp only [Act.put, List.setIfInBounds_toArray, List.set_cons_zero, List.set_cons_succ])
          refine man_run 7 rfl (by kernel_rfl) (fun K hK => ?_)
          have hB := SD.blk 2 rfl
          obtain ⟨z0, z1, z2⟩ := hB.cell3
          obtain ⟨f0, f1, f2⟩ := hB.frozen3
          go_simp
          clear z0 z1 z2 f0 f1 f2
          replace ho1 := own_set3 ho1 hB (by decide) (.int .i64 g.w) (.int .i64 g.h) (.slice B5 k5 d5)
          replace ho3 := own_set3 ho3 hB (by decide) (.int .i64 g.w) (.int .i64 g.h) (.slice B5 k5 d5)
          have SQ := ((SD.sub (L' := [.blk (w.heap.size) 24 #[.int .i64 m.w, .int .i64 m.h, .slice A n c], .blk ((w.heap.size + 1)) 40 #[.int .i64 g.w, .int .i64 g.h, .slice B k d], .blk (wd.heap.size) 24 #[.int .i64 m.w, .int .i64 m.h, .slice A5 n5 c5]]) (by simp)).put3 (bb := wz1.heap.size) (by omega) hB ⟨(by show _ ≠ _; omega), (by show _ ≠ _; omega), (by show _ ≠ _; omega), trivial⟩ g.w g.h B5 k5 d5).addBlk (hB.set3 (.int .i64 g.w) (.int .i64 g.h) (.slice B5 k5 d5))
          simp only [List.nil_append, List.cons_append] at SQ
          replace SD := SQ
          clear hB SQ
          refine hK.out _ _ ?_ (fun hHeld => ?_)
          · (try dsimp only); exact ⟨(SD.blk 0 rfl).cell3, (SD.blk 1 rfl).cell3⟩
          clear hK K
          (try simp only [Act.put, List.setIfInBounds_toArray, List.set_cons_zero, List.set_cons_succ])
          refine wpAnyH_done (by kernel_rfl) ?_ _
          go_wp2_with fail
          go_meet
          exact ⟨_, _, A5, B5, n5, c5, k5, d5, rfl, rfl, SD.blk 2 rfl, SD.blk 3 rfl, rd_of_own ho1, rd_of_own ho3, SD.sub (L' := [.blk w.heap.size 24 #[.int .i64 m.w, .int .i64 m.h, .slice A n c], .blk (w.heap.size + 1) 40 #[.int .i64 g.w, .int .i64 g.h, .slice B k d]]) (by simp)⟩
      · go_simp
        have hz5 := size_alloc1 wz4 (.cells #[.int .i64 0, .int .i64 0, .slice none 0 0] 40)
        replace SD := SD.box #[.int .i64 0, .int .i64 0, .slice none 0 0] 40
        simp only [List.nil_append, List.cons_append] at SD
        rw [hz4] at hz5
        simp only [hz4] at SD
        generalize wz4.alloc (.cells #[.int .i64 0, .int .i64 0, .slice none 0 0] 40) = wz5 at *
        refine hK.out _ _ ?_ (fun hHeld => ?_)
        · (try dsimp only); exact ⟨(SD.blk 0 rfl).cell3, (SD.blk 1 rfl).cell3⟩
        clear hK K
        (try simp only [Act.put, List.setIfInBounds_toArray, List.set_cons_zero, List.set_cons_succ])
        refine man_run 1 rfl (by kernel_rfl) (fun K hK => ?_)
        go_simp
        refine (HTI.out _ (HRm.out _ SD.below)).mono ?_
        rintro e wz1 ⟨A5, n5, c5, rfl, hown1, hb1⟩
        have hs1 := hb1.size
        have hw1 := SD.size
        replace SD := SD.keep hb1
        have ho1 := own_base hown1 hw1
        clear hown1
        go_wp2_with fail
        refine hK.out _ _ ?_ (fun hHeld => ?_)
        · (try dsimp only); exact ⟨(SD.blk 0 rfl).cell3, (SD.blk 1 rfl).cell3⟩
        clear hK K
        (try simp only [Act.put, List.setIfInBounds_toArray, List.set_cons_zero, List.set_cons_succ])
        refine man_run 3 rfl (by kernel_rfl) (fun K hK => ?_)
        go_simp
        refine (HTG.out _ (HRg.out _ SD.below)).mono ?_
        rintro e wz3 ⟨B5, k5, d5, rfl, hown3, hb3⟩
        have hs3 := hb3.size
        have hw3 := SD.size
        replace SD := SD.keep hb3
        replace ho1 := own_below ho1 hb3
        have ho3 := own_base hown3 hw3
        clear hown3
        go_wp2_with fail
        refine hK.out _ _ ?_ (fun hHeld => ?_)
        · (try dsimp only); exact ⟨(SD.blk 0 rfl).cell3, (SD.blk 1 rfl).cell3⟩
        clear hK K
        (try simp only [Act.put, List.setIfInBounds_toArray, List.set_cons_zero, List.set_cons_succ])
        refine man_run 6 rfl (by kernel_rfl) (fun K hK => ?_)
        obtain ⟨y50, y51, y52⟩ := (SD.blk 3 rfl).cell3
        obtain ⟨x50, x51, x52⟩ := (SD.blk 3 rfl).frozen3
        have hB := SD.blk 2 rfl
        obtain ⟨z0, z1, z2⟩ := hB.cell3
        obtain ⟨f0, f1, f2⟩ := hB.frozen3
        go_simp
        clear z0 z1 z2 f0 f1 f2
        replace ho1 := own_set3 ho1 hB (by decide) (.int .i64 m.w) (.int .i64 m.h) (.slice A5 n5 c5)
        replace ho3 := own_set3 ho3 hB (by decide) (.int .i64 m.w) (.int .i64 m.h) (.slice A5 n5 c5)
        have SQ := ((SD.sub (L' := [.blk (w.heap.size) 24 #[.int .i64 m.w, .int .i64 m.h, .slice A n c], .blk ((w.heap.size + 1)) 40 #[.int .i64 g.w, .int .i64 g.h, .slice B k d], .blk ((wd.heap.size + 1)) 40 #[.int .i64 0, .int .i64 0, .slice none 0 0]]) (by simp)).put3 (bb := wd.heap.size) (by omega) hB ⟨(by show _ ≠ _; omega), (by show _ ≠ _; omega), (by show _ ≠ _; omega), trivial⟩ m.w m.h A5 n5 c5).addBlk (hB.set3 (.int .i64 m.w) (.int .i64 m.h) (.slice A5 n5 c5))
        simp only [List.nil_append, List.cons_append] at SQ
        replace SD := SQ
        clear hB SQ
        refine hK.out _ _ ?_ (fun hHeld => ?_)
        · (try dsimp only); exact ⟨(SD.blk 0 rfl).cell3, (SD.blk 1 rfl).cell3⟩
        clear hK K
        (try simp only [Act.put, List.setIfInBounds_toArray, List.set_cons_zero, List.set_cons_succ])
        refine man_run 7 rfl (by kernel_rfl) (fun K hK => ?_)
        have hB := SD.blk 2 rfl
        obtain ⟨z0, z1, z2⟩ := hB.cell3
        obtain ⟨f0, f1, f2⟩ := hB.frozen3
        go_simp
        clear z0 z1 z2 f0 f1 f2
        replace ho1 := own_set3 ho1 hB (by decide) (.int .i64 g.w) (.int .i64 g.h) (.slice B5 k5 d5)
        replace ho3 := own_set3 ho3 hB (by decide) (.int .i64 g.w) (.int .i64 g.h) (.slice B5 k5 d5)
        have SQ := ((SD.sub (L' := [.blk (w.heap.size) 24 #[.int .i64 m.w, .int .i64 m.h, .slice A n c], .blk ((w.heap.size + 1)) 40 #[.int .i64 g.w, .int .i64 g.h, .slice B k d], .blk (wd.heap.size) 24 #[.int .i64 m.w, .int .i64 m.h, .slice A5 n5 c5]]) (by simp)).put3 (bb := (wd.heap.size + 1)) (by omega) hB ⟨(by show _ ≠ _; omega), (by show _ ≠ _; omega), (by show _ ≠ _; omega), trivial⟩ g.w g.h B5 k5 d5).addBlk (hB.set3 (.int .i64 g.w) (.int .i64 g.h) (.slice B5 k5 d5))
        simp only [List.nil_append, List.cons_append] at SQ
        replace SD := SQ
        clear hB SQ
        refine hK.out _ _ ?_ (fun hHeld => ?_)
        · (try dsimp only); exact ⟨(SD.blk 0 rfl).cell3, (SD.blk 1 rfl).cell3⟩
        clear hK K
        (try simp only [Act.put, List.setIfInBounds_toArray, List.set_cons_zero, List.set_cons_succ])
        refine wpAnyH_done (by kernel_rfl) ?_ _
        go_wp2_with fail
        go_meet
        exact ⟨_, _, A5, B5, n5, c5, k5, d5, rfl, rfl, SD.blk 2 rfl, SD.blk 3 rfl, rd_of_own ho1, rd_of_own ho3, SD.sub (L' := [.blk w.heap.size 24 #[.int .i64 m.w, .int .i64 m.h, .slice A n c], .blk (w.heap.size + 1) 40 #[.int .i64 g.w, .int .i64 g.h, .slice B k d]]) (by simp)⟩
    · go_simp
      have hz5 := size_alloc1 wd (.cells #[.int .i64 0, .int .i64 0, .slice none 0 0] 40)
      replace SD := SD.box #[.int .i64 0, .int .i64 0, .slice none 0 0] 40
      simp only [List.nil_append, List.cons_append] at SD
      generalize wd.alloc (.cells #[.int .i64 0, .int .i64 0, .slice none 0 0] 40) = wz5 at *
      refine hK.out _ _ ?_ (fun hHeld => ?_)
      · (try dsimp only); exact ⟨(SD.blk 0 rfl).cell3, (SD.blk 1 rfl).cell3⟩
      clear hK K
      (try simp only [Act.put, List.setIfInBounds_toArray, List.set_cons_zero, List.set_cons_succ])
      refine man_two 1 4 rfl rfl (by kernel_rfl) (fun K hK => ?_) (fun K hK => ?_)
      · go_simp
        refine (HTI.out _ (HRm.out _ SD.below)).mono ?_
        rintro e wz1 ⟨A5, n5, c5, rfl, hown1, hb1⟩
        have hs1 := hb1.size
        have hw1 := SD.size
        replace SD := SD.keep hb1
        have ho1 := own_base hown1 hw1
        clear hown1
        go_wp2_with fail
        refine hK.out _ _ ?_ (fun hHeld => ?_)
        · (try dsimp only); exact ⟨(SD.blk 0 rfl).cell3, (SD.blk 1 rfl).cell3⟩
        clear hK K
        (try simp only [Act.put, List.setIfInBounds_toArray, List.set_cons_zero, List.set_cons_succ])
        refine man_two 3 4 rfl rfl (by kernel_rfl) (fun K hK => ?_) (fun K hK => ?_)
        · go_simp
          refine (HTG.out _ (HRg.out _ SD.below)).mono ?_
          rintro e wz3 ⟨B5, k5, d5, rfl, hown3, hb3⟩
          have hs3 := hb3.size
          have hw3 := SD.size
          replace SD := SD.keep hb3
          replace ho1 := own_below ho1 hb3
          have ho3 := own_base hown3 hw3
          clear hown3
          go_wp2_with fail
          refine hK.out _ _ ?_ (fun hHeld => ?_)
          · (try dsimp only); exact ⟨(SD.blk 0 rfl).cell3, (SD.blk 1 rfl).cell3⟩
          clear hK K
          (try simp only [Act.put, List.setIfInBounds_toArray, List.set_cons_zero, List.set_cons_succ])
          refine man_run 4 rfl (by kernel_rfl) (fun K hK => ?_)
          go_simp
          have hz4 := size_alloc1 wz3 (.cells #[.int .i64 0, .int .i64 0, .slice none 0 0] 24)
          replace SD := SD.box #[.int .i64 0, .int .i64 0, .slice none 0 0] 24
          simp only [List.nil_append, List.cons_append] at SD
          replace ho1 := ho1.alloc (.cells #[.int .i64 0, .int .i64 0, .slice none 0 0] 24)
          replace ho3 := ho3.alloc (.cells #[.int .i64 0, .int .i64 0, .slice none 0 0] 24)
          generalize wz3.alloc (.cells #[.int .i64 0, .int .i64 0, .slice none 0 0] 24) = wz4 at *
          refine hK.out _ _ ?_ (fun hHeld => ?_)
          · (try dsimp only); exact ⟨(SD.blk 0 rfl).cell3, (SD.blk 1 rfl).cell3⟩
          clear hK K
          (try simp only [Act.put, List.setIfInBounds_toArray, List.set_cons_zero, List.set_cons_succ])
          refine man_run 6 rfl (by kernel_rfl) (fun K hK => ?_)
          obtain ⟨y50, y51, y52⟩ := (SD.blk 2 rfl).cell3
          obtain ⟨x50, x51, x52⟩ := (SD.blk 2 rfl).frozen3
          have hB := SD.blk 3 rfl
          obtain ⟨z0, z1, z2⟩ := hB.cell3
          obtain ⟨f0, f1, f2⟩ := hB.frozen3
          go_simp
          clear z0 z1 z2 f0 f1 f2
          replace ho1 := own_set3 ho1 hB (by decide) (.int .i64 m.w) (.int .i64 m.h) (.slice A5 n5 c5)
          replace ho3 := own_set3 ho3 hB (by decide) (.int .i64 m.w) (.int .i64 m.h) (.slice A5 n5 c5)
          have SQ := ((SD.sub (L' := [.blk (w.heap.size) 24 #[.int .i64 m.w, .int .i64 m.h, .slice A n c], .blk ((w.heap.size + 1)) 40 #[.int .i64 g.w, .int .i64 g.h, .slice B k d], .blk (wd.heap.size) 40 #[.int .i64 0, .int .i64 0, .slice none 0 0]]) (by simp)).put3 (bb := wz3.heap.size) (by omega) hB ⟨(by show _ ≠ _; omega), (by show _ ≠ _; omega), (by show _ ≠ _; omega), trivial⟩ m.w m.h A5 n5 c5).addBlk (hB.set3 (.int .i64 m.w) (.int .i64 m.h) (.slice A5 n5 c5))
          simp only [List.nil_append, List.cons_append] at SQ
          replace SD := SQ
          clear hB SQ
          refine hK.out _ _ ?_ (fun hHeld => ?_)
          · (try dsimp only); exact ⟨(SD.blk 0 rfl).cell3, (SD.blk 1 rfl).cell3⟩
          clear hK K
          (try simp only [Act.put, List.setIfInBounds_toArray, List.set_cons_zero, List.set_cons_succ])
          refine man_run 7 rfl (by kernel_rfl) (fun K hK => ?_)
          have hB := SD.blk 2 rfl
          obtain ⟨z0, z1, z2⟩ := hB.cell3
          obtain ⟨f0, f1, f2⟩ := hB.frozen3
          go_simp
          clear z0 z1 z2 f0 f1 f2
          replace ho1 := own_set3 ho1 hB (by decide) (.int .i64 g.w) (.int .i64 g.h) (.slice B5 k5 d5)
          replace ho3 := own_set3 ho3 hB (by decide) (.int .i64 g.w) (.int .i64 g.h) (.slice B5 k5 d5)
          have SQ := ((SD.sub (L' := [.blk (w.heap.size) 24 #[.int .i64 m.w, .int .i64 m.h, .slice A n c], .blk ((w.heap.size + 1)) 40 #[.int .i64 g.w, .int .i64 g.h, .slice B k d], .blk (wz3.heap.size) 24 #[.int .i64 m.w, .int .i64 m.h, .slice A5 n5 c5]]) (by simp)).put3 (bb := wd.heap.size) (by omega) hB ⟨(by show _ ≠ _; omega), (by show _ ≠ _; omega), (by show _ ≠ _; omega), trivial⟩ g.w g.h B5 k5 d5).addBlk (hB.set3 (.int .i64 g.w) (.int .i64 g.h) (.slice B5 k5 d5))
          simp only [List.nil_append, List.cons_append] at SQ
          replace SD := SQ
          clear hB SQ
          refine hK.out _ _ ?_ (fun hHeld => ?_)
          · (try dsimp only); exact ⟨(SD.blk 0 rfl).cell3, (SD.blk 1 rfl).cell3⟩
          clear hK K
          (try simp only [Act.put, List.setIfInBounds_toArray, List.set_cons_zero, List.set_cons_succ])
          refine wpAnyH_done (by kernel_rfl) ?_ _
          go_wp2_with fail
          go_meet
          exact ⟨_, _, A5, B5, n5, c5, k5, d5, rfl, rfl, SD.blk 2 rfl, SD.blk 3 rfl, rd_of_own ho1, rd_of_own ho3, SD.sub (L' := [.blk w.heap.size 24 #[.int .i64 m.w, .int .i64 m.h, .slice A n c], .blk (w.heap.size + 1) 40 #[.int .i64 g.w, .int .i64 g.h, .slice B k d]]) (by simp)⟩
        · go_simp
          have hz4 := size_alloc1 wz1 (.cells #[.int .i64 0, .int .i64 0, .slice none 0 0] 24)
          replace SD := SD.box #[.int .i64 0, .int .i64 0, .slice none 0 0] 24
          simp only [List.nil_append, List.cons_append] at SD
          replace ho1 := ho1.alloc (.cells #[.int .i64 0, .int .i64 0, .slice none 0 0] 24)
          generalize wz1.alloc (.cells #[.int .i64 0, .int .i64 0, .slice none 0 0] 24) = wz4 at *
          refine hK.out _ _ ?_ (fun hHeld => ?_)
          · (try dsimp only); exact ⟨(SD.blk 0 rfl).cell3, (SD.blk 1 rfl).cell3⟩
          clear hK K
          (try simp only [Act.put, List.setIfInBounds_toArray, List.set_cons_zero, List.set_cons_succ])
          refine man_run 3 rfl (by kernel_rfl) (fun K hK => ?_)
          go_simp
          refine (HTG.out _ (HRg.out _ SD.below)).mono ?_
          rintro e wz3 ⟨B5, k5, d5, rfl, hown3, hb3⟩
          have hs3 := hb3.size
          have hw3 := SD.size
          replace SD := SD.keep hb3
          replace ho1 := own_below ho1 hb3
          have ho3 := own_base hown3 hw3
          clear hown3
          go_wp2_with fail
          refine hK.out _ _ ?_ (fun hHeld => ?_)
          · (try dsimp only); exact ⟨(SD.blk 0 rfl).cell3, (SD.blk 1 rfl).cell3⟩
          clear hK K
          (try simp only [Act.put, List.setIfInBounds_toArray, List.set_cons_zero, List.set_cons_succ])
          refine man_run 6 rfl (by kernel_rfl) (fun K hK => ?_)
          obtain ⟨y50, y51, y52⟩ := (SD.blk 2 rfl).cell3
          obtain ⟨x50, x51, x52⟩ := (SD.blk 2 rfl).frozen3
          have hB := SD.blk 3 rfl
          obtain ⟨z0, z1, z2⟩ := hB.cell3
          obtain ⟨f0, f1, f2⟩ := hB.frozen3
          go_simp
          clear z0 z1 z2 f0 f1 f2
          replace ho1 := own_set3 ho1 hB (by decide) (.int .i64 m.w) (.int .i64 m.h) (.slice A5 n5 c5)
          replace ho3 := own_set3 ho3 hB (by decide) (.int .i64 m.w) (.int .i64 m.h) (.slice A5 n5 c5)
          have SQ := ((SD.sub (L' := [.blk (w.heap.size) 24 #[.int .i64 m.w, .int .i64 m.h, .slice A n c], .blk ((w.heap.size + 1)) 40 #[.int .i64 g.w, .int .i64 g.h, .slice B k d], .blk (wd.heap.size) 40 #[.int .i64 0, .int .i64 0, .slice none 0 0]]) (by simp)).put3 (bb := wz1.heap.size) (by omega) hB ⟨(by show _ ≠ _; omega), (by show _ ≠ _; omega), (by show _ ≠ _; omega), trivial⟩ m.w m.h A5 n5 c5).addBlk (hB.set3 (.int .i64 m.w) (.int .i64 m.h) (.slice A5 n5 c5))
          simp only [List.nil_append, List.cons_append] at SQ
          replace SD := SQ
          clear hB SQ
          refine hK.out _ _ ?_ (fun hHeld => ?_)
          · (try dsimp only); exact ⟨(SD.blk 0 rfl).cell3, (SD.blk 1 rfl).cell3⟩
          clear hK K
          (try simp only [Act.put, List.setIfInBounds_toArray, List.set_cons_zero, List.set_cons_succ])
          refine man_run 7 rfl (by kernel_rfl) (fun K hK => ?_)
          have hB := SD.blk 2 rfl
          obtain ⟨z0, z1, z2⟩ := hB.cell3
          obtain ⟨f0, f1, f2⟩ := hB.frozen3
          go_simp
          clear z0 z1 z2 f0 f1 f2
          replace ho1 := own_set3 ho1 hB (by decide) (.int .i64 g.w) (.int .i64 g.h) (.slice B5 k5 d5)
          replace ho3 := own_set3 ho3 hB (by decide) (.int .i64 g.w) (.int .i64 g.h) (.slice B5 k5 d5)
          have SQ := ((SD.sub (L' := [.blk (w.heap.size) 24 #[.int .i64 m.w, .int .i64 m.h, .slice A n c], .blk ((w.heap.size + 1)) 40 #[.int .i64 g.w, .int .i64 g.h, .slice B k d], .blk (wz1.heap.size) 24 #[.int .i64 m.w, .int .i64 m.h, .slice A5 n5 c5]]) (by simp)).put3 (bb := wd.heap.size) (by omega) hB ⟨(by show _ ≠ _; omega), (by show _ ≠ _; omega), (by show _ ≠ _; omega), trivial⟩ g.w g.h B5 k5 d5).addBlk (hB.set3 (.int .i64 g.w) (.int .i64 g.h) (.slice B5 k5 d5))
          simp only [List.nil_append, List.cons_append] at SQ
          replace SD := SQ
          clear hB SQ
          refine hK.out _ _ ?_ (fun hHeld => ?_)
          · (try dsimp only); exact ⟨(SD.blk 0 rfl).cell3, (SD.blk 1 rfl).cell3⟩
          clear hK K
          (try simp only [Act.put, List.setIfInBounds_toArray, List.set_cons_zero, List.set_cons_succ])
          refine wpAnyH_done (by kernel_rfl) ?_ _
          go_wp2_with fail
          go_meet
          exact ⟨_, _, A5, B5, n5, c5, k5, d5, rfl, rfl, SD.blk 2 rfl, SD.blk 3 rfl, rd_of_own ho1, rd_of_own ho3, SD.sub (L' := [.blk w.heap.size 24 #[.int .i64 m.w, .int .i64 m.h, .slice A n c], .blk (w.heap.size + 1) 40 #[.int .i64 g.w, .int .i64 g.h, .slice B k d]]) (by simp)⟩
      · go_simp
        have hz4 := size_alloc1 wz5 (.cells #[.int .i64 0, .int .i64 0, .slice none 0 0] 24)
        replace SD := SD.box #[.int .i64 0, .int .i64 0, .slice none 0 0] 24
        simp only [List.nil_append, List.cons_append] at SD
        rw [hz5] at hz4
        simp only [hz5] at SD
        generalize wz5.alloc (.cells #[.int .i64 0, .int .i64 0, .slice none 0 0] 24) = wz4 at *
        refine hK.out _ _ ?_ (fun hHeld => ?_)
        · (try dsimp only); exact ⟨(SD.blk 0 rfl).cell3, (SD.blk 1 rfl).cell3⟩
        clear hK K
        (try simp only [Act.put, List.setIfInBounds_toArray, List.set_cons_zero, List.set_cons_succ])
        refine man_run 1 rfl (by kernel_rfl) (fun K hK => ?_)
        go_simp
        refine (HTI.out _ (HRm.out _ SD.below)).mono ?_
        rintro e wz1 ⟨A5, n5, c5, rfl, hown1, hb1⟩
        have hs1 := hb1.size
        have hw1 := SD.size
        replace SD := SD.keep hb1
        have ho1 := own_base hown1 hw1
        clear hown1
        go_wp2_with fail
        refine hK.out _ _ ?_ (fun hHeld => ?_)
        · (try dsimp only); exact ⟨(SD.blk 0 rfl).cell3, (SD.blk 1 rfl).cell3⟩
        clear hK K
        (try simp only [Act.put, List.setIfInBounds_toArray, List.set_cons_zero, List.set_cons_succ])
        refine man_run 3 rfl (by kernel_rfl) (fun K hK => ?_)
        go_simp
        refine (HTG.out _ (HRg.out _ SD.below)).mono ?_
        rintro e wz3 ⟨B5, k5, d5, rfl, hown3, hb3⟩
        have hs3 := hb3.size
        have hw3 := SD.size
        replace SD := SD.keep hb3
        replace ho1 := own_below ho1 hb3
        have ho3 := own_base hown3 hw3
        clear hown3
        go_wp2_with fail
        refine hK.out _ _ ?_ (fun hHeld => ?_)
        · (try dsimp only); exact ⟨(SD.blk 0 rfl).cell3, (SD.blk 1 rfl).cell3⟩
        clear hK K
        (try simp only [Act.put, List.setIfInBounds_toArray, List.set_cons_zero, List.set_cons_succ])
        refine man_run 6 rfl (by kernel_rfl) (fun K hK => ?_)
        obtain ⟨y50, y51, y52⟩ := (SD.blk 2 rfl).cell3
        obtain ⟨x50, x51, x52⟩ := (SD.blk 2 rfl).frozen3
        have hB := SD.blk 3 rfl
        obtain ⟨z0, z1, z2⟩ := hB.cell3
        obtain ⟨f0, f1, f2⟩ := hB.frozen3
        go_simp
        clear z0 z1 z2 f0 f1 f2
        replace ho1 := own_set3 ho1 hB (by decide) (.int .i64 m.w) (.int .i64 m.h) (.slice A5 n5 c5)
        replace ho3 := own_set3 ho3 hB (by decide) (.int .i64 m.w) (.int .i64 m.h) (.slice A5 n5 c5)
        have SQ := ((SD.sub (L' := [.blk (w.heap.size) 24 #[.int .i64 m.w, .int .i64 m.h, .slice A n c], .blk ((w.heap.size + 1)) 40 #[.int .i64 g.w, .int .i64 g.h, .slice B k d], .blk (wd.heap.size) 40 #[.int .i64 0, .int .i64 0, .slice none 0 0]]) (by simp)).put3 (bb := (wd.heap.size + 1)) (by omega) hB ⟨(by show _ ≠ _; omega), (by show _ ≠ _; omega), (by show _ ≠ _; omega), trivial⟩ m.w m.h A5 n5 c5).addBlk (hB.set3 (.int .i64 m.w) (.int .i64 m.h) (.slice A5 n5 c5))
        simp only [List.nil_append, List.cons_append] at SQ
        replace SD := SQ
        clear hB SQ
        refine hK.out _ _ ?_ (fun hHeld => ?_)
        · (try dsimp only); exact ⟨(SD.blk 0 rfl).cell3, (SD.blk 1 rfl).cell3⟩
        clear hK K
        (try simp only [Act.put, List.setIfInBounds_toArray, List.set_cons_zero, List.set_cons_succ])
        refine man_run 7 rfl (by kernel_rfl) (fun K hK => ?_)
        have hB := SD.blk 2 rfl
        obtain ⟨z0, z1, z2⟩ := hB.cell3
        obtain ⟨f0, f1, f2⟩ := hB.frozen3
        go_simp
        clear z0 z1 z2 f0 f1 f2
        replace ho1 := own_set3 ho1 hB (by decide) (.int .i64 g.w) (.int .i64 g.h) (.slice B5 k5 d5)
        replace ho3 := own_set3 ho3 hB (by decide) (.int .i64 g.w) (.int .i64 g.h) (.slice B5 k5 d5)
        have SQ := ((SD.sub (L' := [.blk (w.heap.size) 24 #[.int .i64 m.w, .int .i64 m.h, .slice A n c], .blk ((w.heap.size + 1)) 40 #[.int .i64 g.w, .int .i64 g.h, .slice B k d], .blk ((wd.heap.size + 1)) 24 #[.int .i64 m.w, .int .i64 m.h, .slice A5 n5 c5]]) (by simp)).put3 (bb := wd.heap.size) (by omega) hB ⟨(by show _ ≠ _; omega), (by show _ ≠ _; omega), (by show _ ≠ _; omega), trivial⟩ g.w g.h B5 k5 d5).addBlk (hB.set3 (.int .i64 g.w) (.int .i64 g.h) (.slice B5 k5 d5))
        simp only [List.nil_append, List.cons_append] at SQ
        replace SD := SQ
        clear hB SQ
        refine hK.out _ _ ?_ (fun hHeld => ?_)
        · (try dsimp only); exact ⟨(SD.blk 0 rfl).cell3, (SD.blk 1 rfl).cell3⟩
        clear hK K
        (try simp only [Act.put, List.setIfInBounds_toArray, List.set_cons_zero, List.set_cons_succ])
        refine wpAnyH_done (by kernel_rfl) ?_ _
        go_wp2_with fail
        go_meet
        exact ⟨_, _, A5, B5, n5, c5, k5, d5, rfl, rfl, SD.blk 2 rfl, SD.blk 3 rfl, rd_of_own ho1, rd_of_own ho3, SD.sub (L' := [.blk w.heap.size 24 #[.int .i64 m.w, .int .i64 m.h, .slice A n c], .blk (w.heap.size + 1) 40 #[.int .i64 g.w, .int .i64 g.h, .slice B k d]]) (by simp)⟩
  case rest =>
    obtain ⟨g1, g2, A5, B5, n5, c5, k5, d5, rfl, rfl, hO, hL, hRO, hRL, SZ⟩ := hcut
    clear SX c0 c1 c2 d0 d1 d2
    have SY := (((((((SZ.addBlk hO).addBlk hL).addRd hRO).addRd hRL).addRd (HRm.out _ SZ.below)).addRd (HRp.out _ SZ.below)).addRd (HRq.out _ SZ.below)).addRd (HRg.out _ SZ.below)
    simp only [List.nil_append, List.cons_append] at SY
    clear SZ hO hL hRO hRL
    obtain ⟨ca0, ca1, ca2⟩ := (SY.blk 2 rfl).cell3
    go_wp2_with fail
    refine (HC1.out _ _ _ _ (SY.rd 4 rfl) (SY.rd 7 rfl) (SY.rd 8 rfl)).mono ?_
    rintro e w3 ⟨P3, np3, cp3, Q3, nq3, cq3, rfl, ho3, hq3, hne3, hb3⟩
    try simp only at ho3 hq3 ⊢
    have S3 := (((((SY.keep hb3).addRd (rd_of_own ho3)).addRd (rd_of_own hq3))).box #[.int .i64 uw, .int .i64 uh, .slice P3 np3 cp3] 40).box #[.int .i64 vw, .int .i64 vh, .slice Q3 nq3 cq3] 40
    simp only [size_alloc1, List.nil_append, List.cons_append] at S3
    clear ca0 ca1 ca2 SY ho3 hq3 hne3
    obtain ⟨ca0, ca1, ca2⟩ := (S3.blk 0 rfl).cell3
    go_wp2_with fail
    refine (HC2.out _ _ _ _ (S3.rd 6 rfl) (S3.rd 7 rfl) (S3.rd 8 rfl)).mono ?_
    rintro e w4 ⟨P4, np4, cp4, Q4, nq4, cq4, rfl, ho4, hq4, hne4, hb4⟩
    try simp only at ho4 hq4 ⊢
    have S4 := (((((S3.keep hb4).addRd (rd_of_own ho4)).addRd (rd_of_own hq4))).box #[.int .i64 uw, .int .i64 uh, .slice P4 np4 cp4] 40).box #[.int .i64 vw, .int .i64 vh, .slice Q4 nq4 cq4] 40
    simp only [size_alloc1, List.nil_append, List.cons_append] at S4
    clear ca0 ca1 ca2 S3 ho4 hq4 hne4
    obtain ⟨ca0, ca1, ca2⟩ := (S4.blk 2 rfl).cell3
    obtain ⟨cb0, cb1, cb2⟩ := (S4.blk 3 rfl).cell3
    go_wp2_with fail
    refine (HW1.out _ _ _ _ _ _ _ (S4.rd 4 rfl) (S4.rd 7 rfl) (S4.rd 8 rfl) (S4.rd 5 rfl)).mono ?_
    rintro e w5 ⟨A5, n5, cc5, rfl, hown5, hb5⟩
    try simp only at hown5 ⊢
    have hc5 := own_le hown5
    have S5 := ((S4.keep hb5).addRd (rd_of_own hown5)).box #[.int .i64 xw, .int .i64 xh, .slice A5 n5 cc5] 40
    simp only [List.nil_append, List.cons_append] at S5
    clear ca0 ca1 ca2 cb0 cb1 cb2 S4 hown5
    obtain ⟨ca0, ca1, ca2⟩ := (S5.blk 0 rfl).cell3
    obtain ⟨cb0, cb1, cb2⟩ := (S5.blk 1 rfl).cell3
    go_wp2_with fail
    refine (HW2.out _ _ _ _ _ _ _ (S5.rd 6 rfl) (S5.rd 7 rfl) (S5.rd 8 rfl) (S5.rd 9 rfl)).mono ?_
    rintro e w6 ⟨A6, n6, cc6, rfl, hown6, hb6⟩
    try simp only at hown6 ⊢
    have hc6 := own_le hown6
    have S6 := ((S5.keep hb6).addRd (rd_of_own hown6)).box #[.int .i64 xw, .int .i64 xh, .slice A6 n6 cc6] 40
    simp only [List.nil_append, List.cons_append] at S6
    clear ca0 ca1 ca2 cb0 cb1 cb2 S5 hown6
    obtain ⟨ca0, ca1, ca2⟩ := (S6.blk 3 rfl).cell3
    obtain ⟨cb0, cb1, cb2⟩ := (S6.blk 2 rfl).cell3
    go_wp2_with fail
    refine (HS1.out _ _ _ _ _ _ _ (S6.rd 5 rfl) (S6.rd 4 rfl) (S6.rd 7 rfl) (S6.rd 8 rfl)).mono ?_
    rintro e w7 ⟨rfl, hb7⟩
    have S7 := S6.keep hb7
    clear ca0 ca1 ca2 cb0 cb1 cb2 S6
    obtain ⟨ca0, ca1, ca2⟩ := (S7.blk 1 rfl).cell3
    obtain ⟨cb0, cb1, cb2⟩ := (S7.blk 0 rfl).cell3
    go_wp2_with fail
    refine (HS2.out _ _ _ _ _ _ _ (S7.rd 9 rfl) (S7.rd 6 rfl) (S7.rd 7 rfl) (S7.rd 8 rfl)).mono ?_
    rintro e w8 ⟨rfl, hb8⟩
    have S8 := S7.keep hb8
    clear ca0 ca1 ca2 cb0 cb1 cb2 S7
    obtain ⟨ca0, ca1, ca2⟩ := (S8.blk 12 rfl).cell3
    obtain ⟨cb0, cb1, cb2⟩ := (S8.blk 16 rfl).cell3
    go_wp2_with fail
    refine (HQu.out _ _ _ _ _ _ _ (S8.rd 10 rfl) (S8.rd 14 rfl)).mono ?_
    rintro e w9 ⟨rfl, hb9⟩
    have S9 := S8.keep hb9
    clear ca0 ca1 ca2 cb0 cb1 cb2 S8
    obtain ⟨ca0, ca1, ca2⟩ := (S9.blk 13 rfl).cell3
    obtain ⟨cb0, cb1, cb2⟩ := (S9.blk 17 rfl).cell3
    go_wp2_with fail
    refine (HQv.out _ _ _ _ _ _ _ (S9.rd 11 rfl) (S9.rd 15 rfl)).mono ?_
    rintro e w10 ⟨rfl, hb10⟩
    have S10 := S9.keep hb10
    clear ca0 ca1 ca2 cb0 cb1 cb2 S9
    obtain ⟨ca0, ca1, ca2⟩ := (S10.blk 19 rfl).cell3
    obtain ⟨cb0, cb1, cb2⟩ := (S10.blk 21 rfl).cell3
    go_wp2_with fail
    refine (HQx.out _ _ _ _ _ _ _ (S10.rd 18 rfl) (S10.rd 20 rfl)).mono ?_
    rintro e w11 ⟨rfl, hb11⟩
    have S11 := S10.keep hb11
    clear ca0 ca1 ca2 cb0 cb1 cb2 S10
    obtain ⟨ca0, ca1, ca2⟩ := (S11.blk 2 rfl).cell3
    obtain ⟨cb0, cb1, cb2⟩ := (S11.blk 0 rfl).cell3
    go_wp2_with fail
    refine (HQm.out _ _ _ _ _ _ _ (S11.rd 4 rfl) (S11.rd 6 rfl)).mono ?_
    rintro e w12 ⟨rfl, hb12⟩
    have S12 := S11.keep hb12
    clear ca0 ca1 ca2 cb0 cb1 cb2 S11
    obtain ⟨ca0, ca1, ca2⟩ := (S12.blk 3 rfl).cell3
    obtain ⟨cb0, cb1, cb2⟩ := (S12.blk 1 rfl).cell3
    go_wp2_with fail
    refine (HQg.out _ _ _ _ _ _ _ (S12.rd 5 rfl) (S12.rd 9 rfl)).mono ?_
    rintro e w13 ⟨rfl, hb13⟩
    have S13 := S12.keep hb13
    clear ca0 ca1 ca2 cb0 cb1 cb2 S12
    go_wp2_with fail
    go_ret
    exact ⟨rfl, S13.below⟩

theorem pcells_walk (m : Im) (p q : List Int) (g : Gd) (A Ap Aq B : Option Addr) (n c np cp nq cq k d : Nat) (w : World) (hr : Rd w A n (m.c.map (Value.int .i64))) (hrp : Rd w Ap np (p.map (Value.int .i64))) (hrq : Rd w Aq nq (q.map (Value.int .i64))) (hg : Rd w B k (g.bits.map Value.bool)) :
    Calls Try.prog 4 #[.agg #[.int .i64 m.w, .int .i64 m.h, .slice A n c], .slice Ap np cp, .slice Aq nq cq, .agg #[.int .i64 g.w, .int .i64 g.h, .slice B k d]] w fun e w' => e = .returned (.bool true) ∧ Below w.heap.size w w' := by
  by_cases h1 : 4200 < n
  · exact pcells_0 m p q g A Ap Aq B n c np cp nq cq k d w hr hrp hrq hg h1
  by_cases h2 : 4200 < k
  · exact pcells_1 m p q g A Ap Aq B n c np cp nq cq k d w hr hrp hrq hg h1 h2
  by_cases h3 : 100 < np
  · exact pcells_2 m p q g A Ap Aq B n c np cp nq cq k d w hr hrp hrq hg h1 h2 h3
  by_cases h4 : 100 < nq
  · exact pcells_3 m p q g A Ap Aq B n c np cp nq cq k d w hr hrp hrq hg h1 h2 h3 h4
  · exact pcells_4 m p q g A Ap Aq B n c np cp nq cq k d w hr hrp hrq hg h1 h2 h3 h4
end Go.Proofs.Ytefeghpglacghaa
