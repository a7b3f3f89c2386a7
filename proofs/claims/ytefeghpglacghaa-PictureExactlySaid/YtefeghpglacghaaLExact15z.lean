/- The law PictureExactly, walked: it answers true and turns nothing that was there. -/
import Derived.Test.YtefeghpglacghaaAlive15z
import Derived.Test.YtefeghpglacghaaExP15z
import Derived.Test.YtefeghpglacghaaGTo15z
import Derived.Test.YtefeghpglacghaaShows15z
namespace Go.Proofs.Ytefeghpglacghaa
open Go.RowKit

theorem map_read {n i : Nat} (f : Nat → Bool) (h : i < n) : (((List.range n).map f).map Value.bool)[i]? = some (.bool (f i)) := by simp [h]
theorem bit_read {bs : List Bool} {i : Nat} (h : i < bs.length) : (bs.map Value.bool)[i]? = some (.bool (bs.getD i false)) := by simp [List.getD, h]

set_option linter.unusedVariables false in
set_option linter.unusedSimpArgs false in
set_option maxHeartbeats 40000000 in
set_option maxRecDepth 100000 in
theorem pexact_0 (m : Im) (p q : List Int) (g : Gd) (A Ap Aq B : Option Addr) (n c np cp nq cq k d : Nat) (w : World) (hr : Rd w A n (m.c.map (Value.int .i64))) (hrp : Rd w Ap np (p.map (Value.int .i64))) (hrq : Rd w Aq nq (q.map (Value.int .i64))) (hg : Rd w B k (g.bits.map Value.bool)) (h1 : 4200 < n) :
    Calls Try.prog 8 #[.agg #[.int .i64 m.w, .int .i64 m.h, .slice A n c], .slice Ap np cp, .slice Aq nq cq, .agg #[.int .i64 g.w, .int .i64 g.h, .slice B k d]] w fun e w' => e = .returned (.bool true) ∧ Below w.heap.size w w' := by
  have HA := Lib.hid (fun A c W => igreat_to m.w m.h n (decide_eq_true h1) A c W)
  have HL := Lib.hid (fun W => alive15_any W)
  clear h1
  have S0 := ((((((St.start w).addRd hr).addRd hrp).addRd hrq).addRd hg).box #[.int .i64 m.w, .int .i64 m.h, .slice A n c] 24).box #[.int .i64 g.w, .int .i64 g.h, .slice B k d] 40
  simp only [size_alloc1, List.nil_append, List.cons_append] at S0
  clear hr hrp hrq hg
  go_enter Try.func8, Try.ntmps8
  go_wp2_with fail
  refine (HL.out _).mono ?_
  rintro e w1 ⟨rfl, hb1⟩
  have S1 := S0.keep hb1
  obtain ⟨ca0, ca1, ca2⟩ := (S1.blk 4 rfl).cell3
  go_wp2_with fail
  refine (HA.out _ _ _).mono ?_
  rintro e w2 ⟨rfl, hb2⟩
  have S2 := S1.keep hb2
  clear ca0 ca1 ca2 S1
  obtain ⟨ca0, ca1, ca2⟩ := (S2.blk 4 rfl).cell3
  obtain ⟨cb0, cb1, cb2⟩ := (S2.blk 5 rfl).cell3
  go_wp2_with fail
  go_ret
  exact ⟨rfl, S2.below⟩

set_option linter.unusedVariables false in
set_option linter.unusedSimpArgs false in
set_option maxHeartbeats 40000000 in
set_option maxRecDepth 100000 in
theorem pexact_1 (m : Im) (p q : List Int) (g : Gd) (A Ap Aq B : Option Addr) (n c np cp nq cq k d : Nat) (w : World) (hr : Rd w A n (m.c.map (Value.int .i64))) (hrp : Rd w Ap np (p.map (Value.int .i64))) (hrq : Rd w Aq nq (q.map (Value.int .i64))) (hg : Rd w B k (g.bits.map Value.bool)) (h1 : ¬ 4200 < n) (h2 : thrI m p q ≠ 0) :
    Calls Try.prog 8 #[.agg #[.int .i64 m.w, .int .i64 m.h, .slice A n c], .slice Ap np cp, .slice Aq nq cq, .agg #[.int .i64 g.w, .int .i64 g.h, .slice B k d]] w fun e w' => e = .returned (.bool true) ∧ Below w.heap.size w w' := by
  have HA := Lib.hid (fun A c W => igreat_to m.w m.h n (decide_eq_false h1) A c W)
  have HL := Lib.hid (fun W => alive15_any W)
  have hnn : n ≤ 1048576 := by omega
  have h2b : (thrI m p q != 0) = true := by simpa using h2
  have HT := Lib.hid (fun A c W hr hrp hrq => thr15_to m p q rfl A Ap Aq n c np cp nq cq W hr hnn hrp hrq)
  generalize thrI m p q = t at *
  clear h1 h2 hnn
  have S0 := ((((((St.start w).addRd hr).addRd hrp).addRd hrq).addRd hg).box #[.int .i64 m.w, .int .i64 m.h, .slice A n c] 24).box #[.int .i64 g.w, .int .i64 g.h, .slice B k d] 40
  simp only [size_alloc1, List.nil_append, List.cons_append] at S0
  clear hr hrp hrq hg
  go_enter Try.func8, Try.ntmps8
  go_wp2_with fail
  refine (HL.out _).mono ?_
  rintro e w1 ⟨rfl, hb1⟩
  have S1 := S0.keep hb1
  obtain ⟨ca0, ca1, ca2⟩ := (S1.blk 4 rfl).cell3
  go_wp2_with fail
  refine (HA.out _ _ _).mono ?_
  rintro e w2 ⟨rfl, hb2⟩
  have S2 := S1.keep hb2
  clear ca0 ca1 ca2 S1
  obtain ⟨ca0, ca1, ca2⟩ := (S2.blk 4 rfl).cell3
  go_wp2_with fail
  refine (HT.out _ _ _ (S2.rd 0 rfl) (S2.rd 1 rfl) (S2.rd 2 rfl)).mono ?_
  rintro e w3 ⟨rfl, hb3⟩
  have S3 := S2.keep hb3
  clear ca0 ca1 ca2 S2
  obtain ⟨ca0, ca1, ca2⟩ := (S3.blk 4 rfl).cell3
  obtain ⟨cb0, cb1, cb2⟩ := (S3.blk 5 rfl).cell3
  go_wp2_with fail
  go_ret
  exact ⟨rfl, S3.below⟩

set_option linter.unusedVariables false in
set_option linter.unusedSimpArgs false in
set_option maxHeartbeats 40000000 in
set_option maxRecDepth 100000 in
theorem pexact_2 (m : Im) (p q : List Int) (g : Gd) (A Ap Aq B : Option Addr) (n c np cp nq cq k d : Nat) (w : World) (hr : Rd w A n (m.c.map (Value.int .i64))) (hrp : Rd w Ap np (p.map (Value.int .i64))) (hrq : Rd w Aq nq (q.map (Value.int .i64))) (hg : Rd w B k (g.bits.map Value.bool)) (h1 : ¬ 4200 < n) (h2 : thrI m p q = 0) (h3 : chkG g ≠ 0) :
    Calls Try.prog 8 #[.agg #[.int .i64 m.w, .int .i64 m.h, .slice A n c], .slice Ap np cp, .slice Aq nq cq, .agg #[.int .i64 g.w, .int .i64 g.h, .slice B k d]] w fun e w' => e = .returned (.bool true) ∧ Below w.heap.size w w' := by
  have HA := Lib.hid (fun A c W => igreat_to m.w m.h n (decide_eq_false h1) A c W)
  have HL := Lib.hid (fun W => alive15_any W)
  have hnn : n ≤ 1048576 := by omega
  have HT := Lib.hid (fun A c W hr hrp hrq => thr15_to m p q h2 A Ap Aq n c np cp nq cq W hr hnn hrp hrq)
  have hk : g.bits.length = k := by simpa using hg.len
  have hchk : chkG g = chk g.w g.h k := by unfold chkG; rw [hk]
  rw [hchk] at h3
  have h3b : (chk g.w g.h k != 0) = true := by simpa using h3
  have HK := Lib.hid (fun A c W => gcheck_to g.w g.h k rfl A c W)
  generalize chk g.w g.h k = t at *
  clear h1 h2 hnn h3 hk hchk
  have S0 := ((((((St.start w).addRd hr).addRd hrp).addRd hrq).addRd hg).box #[.int .i64 m.w, .int .i64 m.h, .slice A n c] 24).box #[.int .i64 g.w, .int .i64 g.h, .slice B k d] 40
  simp only [size_alloc1, List.nil_append, List.cons_append] at S0
  clear hr hrp hrq hg
  go_enter Try.func8, Try.ntmps8
  go_wp2_with fail
  refine (HL.out _).mono ?_
  rintro e w1 ⟨rfl, hb1⟩
  have S1 := S0.keep hb1
  obtain ⟨ca0, ca1, ca2⟩ := (S1.blk 4 rfl).cell3
  go_wp2_with fail
  refine (HA.out _ _ _).mono ?_
  rintro e w2 ⟨rfl, hb2⟩
  have S2 := S1.keep hb2
  clear ca0 ca1 ca2 S1
  obtain ⟨ca0, ca1, ca2⟩ := (S2.blk 4 rfl).cell3
  go_wp2_with fail
  refine (HT.out _ _ _ (S2.rd 0 rfl) (S2.rd 1 rfl) (S2.rd 2 rfl)).mono ?_
  rintro e w3 ⟨rfl, hb3⟩
  have S3 := S2.keep hb3
  clear ca0 ca1 ca2 S2
  obtain ⟨ca0, ca1, ca2⟩ := (S3.blk 5 rfl).cell3
  go_wp2_with fail
  refine (HK.out _ _ _).mono ?_
  rintro e w4 ⟨rfl, hb4⟩
  have S4 := S3.keep hb4
  clear ca0 ca1 ca2 S3
  obtain ⟨ca0, ca1, ca2⟩ := (S4.blk 4 rfl).cell3
  obtain ⟨cb0, cb1, cb2⟩ := (S4.blk 5 rfl).cell3
  go_wp2_with fail
  go_ret
  exact ⟨rfl, S4.below⟩

set_option linter.unusedVariables false in
set_option linter.unusedSimpArgs false in
set_option maxHeartbeats 40000000 in
set_option maxRecDepth 100000 in
theorem pexact_3 (m : Im) (p q : List Int) (g : Gd) (A Ap Aq B : Option Addr) (n c np cp nq cq k d : Nat) (w : World) (hr : Rd w A n (m.c.map (Value.int .i64))) (hrp : Rd w Ap np (p.map (Value.int .i64))) (hrq : Rd w Aq nq (q.map (Value.int .i64))) (hg : Rd w B k (g.bits.map Value.bool)) (h1 : ¬ 4200 < n) (h2 : thrI m p q = 0) (h3 : chkG g = 0) (h4 : g.w ≠ m.w) :
    Calls Try.prog 8 #[.agg #[.int .i64 m.w, .int .i64 m.h, .slice A n c], .slice Ap np cp, .slice Aq nq cq, .agg #[.int .i64 g.w, .int .i64 g.h, .slice B k d]] w fun e w' => e = .returned (.bool true) ∧ Below w.heap.size w w' := by
  have HA := Lib.hid (fun A c W => igreat_to m.w m.h n (decide_eq_false h1) A c W)
  have HL := Lib.hid (fun W => alive15_any W)
  have hnn : n ≤ 1048576 := by omega
  have HT := Lib.hid (fun A c W hr hrp hrq => thr15_to m p q h2 A Ap Aq n c np cp nq cq W hr hnn hrp hrq)
  have hk : g.bits.length = k := by simpa using hg.len
  have hchk : chkG g = chk g.w g.h k := by unfold chkG; rw [hk]
  rw [hchk] at h3
  have HK := Lib.hid (fun A c W => gcheck_to g.w g.h k h3 A c W)
  have h4b : (g.w != m.w) = true := by simpa using h4
  clear h1 h2 hnn h3 hk hchk h4
  have S0 := ((((((St.start w).addRd hr).addRd hrp).addRd hrq).addRd hg).box #[.int .i64 m.w, .int .i64 m.h, .slice A n c] 24).box #[.int .i64 g.w, .int .i64 g.h, .slice B k d] 40
  simp only [size_alloc1, List.nil_append, List.cons_append] at S0
  clear hr hrp hrq hg
  go_enter Try.func8, Try.ntmps8
  go_wp2_with fail
  refine (HL.out _).mono ?_
  rintro e w1 ⟨rfl, hb1⟩
  have S1 := S0.keep hb1
  obtain ⟨ca0, ca1, ca2⟩ := (S1.blk 4 rfl).cell3
  go_wp2_with fail
  refine (HA.out _ _ _).mono ?_
  rintro e w2 ⟨rfl, hb2⟩
  have S2 := S1.keep hb2
  clear ca0 ca1 ca2 S1
  obtain ⟨ca0, ca1, ca2⟩ := (S2.blk 4 rfl).cell3
  go_wp2_with fail
  refine (HT.out _ _ _ (S2.rd 0 rfl) (S2.rd 1 rfl) (S2.rd 2 rfl)).mono ?_
  rintro e w3 ⟨rfl, hb3⟩
  have S3 := S2.keep hb3
  clear ca0 ca1 ca2 S2
  obtain ⟨ca0, ca1, ca2⟩ := (S3.blk 5 rfl).cell3
  go_wp2_with fail
  refine (HK.out _ _ _).mono ?_
  rintro e w4 ⟨rfl, hb4⟩
  have S4 := S3.keep hb4
  clear ca0 ca1 ca2 S3
  obtain ⟨ca0, ca1, ca2⟩ := (S4.blk 4 rfl).cell3
  obtain ⟨cb0, cb1, cb2⟩ := (S4.blk 5 rfl).cell3
  go_wp2_with fail
  go_ret
  exact ⟨rfl, S4.below⟩

set_option linter.unusedVariables false in
set_option linter.unusedSimpArgs false in
set_option maxHeartbeats 40000000 in
set_option maxRecDepth 100000 in
theorem pexact_4 (m : Im) (p q : List Int) (g : Gd) (A Ap Aq B : Option Addr) (n c np cp nq cq k d : Nat) (w : World) (hr : Rd w A n (m.c.map (Value.int .i64))) (hrp : Rd w Ap np (p.map (Value.int .i64))) (hrq : Rd w Aq nq (q.map (Value.int .i64))) (hg : Rd w B k (g.bits.map Value.bool)) (h1 : ¬ 4200 < n) (h2 : thrI m p q = 0) (h3 : chkG g = 0) (h4 : g.w = m.w) (h5 : g.h ≠ m.h) :
    Calls Try.prog 8 #[.agg #[.int .i64 m.w, .int .i64 m.h, .slice A n c], .slice Ap np cp, .slice Aq nq cq, .agg #[.int .i64 g.w, .int .i64 g.h, .slice B k d]] w fun e w' => e = .returned (.bool true) ∧ Below w.heap.size w w' := by
  have HA := Lib.hid (fun A c W => igreat_to m.w m.h n (decide_eq_false h1) A c W)
  have HL := Lib.hid (fun W => alive15_any W)
  have hnn : n ≤ 1048576 := by omega
  have HT := Lib.hid (fun A c W hr hrp hrq => thr15_to m p q h2 A Ap Aq n c np cp nq cq W hr hnn hrp hrq)
  have hk : g.bits.length = k := by simpa using hg.len
  have hchk : chkG g = chk g.w g.h k := by unfold chkG; rw [hk]
  rw [hchk] at h3
  have HK := Lib.hid (fun A c W => gcheck_to g.w g.h k h3 A c W)
  have h4b : (g.w != m.w) = false := by simpa using h4
  have h5b : (g.h != m.h) = true := by simpa using h5
  clear h1 h2 hnn h3 hk hchk h4 h5
  have S0 := ((((((St.start w).addRd hr).addRd hrp).addRd hrq).addRd hg).box #[.int .i64 m.w, .int .i64 m.h, .slice A n c] 24).box #[.int .i64 g.w, .int .i64 g.h, .slice B k d] 40
  simp only [size_alloc1, List.nil_append, List.cons_append] at S0
  clear hr hrp hrq hg
  go_enter Try.func8, Try.ntmps8
  go_wp2_with fail
  refine (HL.out _).mono ?_
  rintro e w1 ⟨rfl, hb1⟩
  have S1 := S0.keep hb1
  obtain ⟨ca0, ca1, ca2⟩ := (S1.blk 4 rfl).cell3
  go_wp2_with fail
  refine (HA.out _ _ _).mono ?_
  rintro e w2 ⟨rfl, hb2⟩
  have S2 := S1.keep hb2
  clear ca0 ca1 ca2 S1
  obtain ⟨ca0, ca1, ca2⟩ := (S2.blk 4 rfl).cell3
  go_wp2_with fail
  refine (HT.out _ _ _ (S2.rd 0 rfl) (S2.rd 1 rfl) (S2.rd 2 rfl)).mono ?_
  rintro e w3 ⟨rfl, hb3⟩
  have S3 := S2.keep hb3
  clear ca0 ca1 ca2 S2
  obtain ⟨ca0, ca1, ca2⟩ := (S3.blk 5 rfl).cell3
  go_wp2_with fail
  refine (HK.out _ _ _).mono ?_
  rintro e w4 ⟨rfl, hb4⟩
  have S4 := S3.keep hb4
  clear ca0 ca1 ca2 S3
  obtain ⟨ca0, ca1, ca2⟩ := (S4.blk 4 rfl).cell3
  obtain ⟨cb0, cb1, cb2⟩ := (S4.blk 5 rfl).cell3
  go_wp2_with fail
  go_ret
  exact ⟨rfl, S4.below⟩

set_option linter.unusedVariables false in
set_option linter.unusedSimpArgs false in
set_option maxHeartbeats 40000000 in
set_option maxRecDepth 100000 in
theorem pexact_5 (a b : Nat) (cs p q : List Int) (bs : List Bool) (A Ap Aq B : Option Addr) (n c np cp nq cq k d : Nat) (w : World) (hr : Rd w A n (cs.map (Value.int .i64))) (hrp : Rd w Ap np (p.map (Value.int .i64))) (hrq : Rd w Aq nq (q.map (Value.int .i64))) (hg : Rd w B k (bs.map Value.bool)) (ha1 : 1 ≤ a) (ha : a ≤ 64) (hb1 : 1 ≤ b) (hb : b ≤ 64) (hcl : cs.length = b * a) (hbl : bs.length = b * a) (h2 : thrI ⟨a, b, cs⟩ p q = 0) (hf : fitB a b cs p q = false) :
    Calls Try.prog 8 #[.agg #[.int .i64 a, .int .i64 b, .slice A n c], .slice Ap np cp, .slice Aq nq cq, .agg #[.int .i64 a, .int .i64 b, .slice B k d]] w fun e w' => e = .returned (.bool true) ∧ Below w.heap.size w w' := by
  have hba : b * a ≤ 64 * 64 := Nat.mul_le_mul hb ha
  have hkl : bs.length = k := by simpa using hg.len
  have hnl : cs.length = n := by simpa using hr.len
  obtain rfl : k = b * a := by omega
  obtain rfl : n = b * a := by omega
  clear hkl hnl
  have hg0 := chkG_mk ha1 ha hb1 hb hbl
  have hchk : chk (a : Int) (b : Int) (b * a) = 0 := by unfold chkG at hg0; simpa [hbl] using hg0
  have hlk : likeG ⟨a, b, bs⟩ ⟨a, b, cs⟩ = 0 := likeG_ok hg0 rfl rfl
  have HL := Lib.hid (fun W => alive15_any W)
  have HA := Lib.hid (fun A c W => igreat_to (a : Int) (b : Int) (b * a) (decide_eq_false (by omega)) A c W)
  have HT := Lib.hid (fun A c W hr hrp hrq => thr15_to ⟨a, b, cs⟩ p q h2 A Ap Aq (b * a) c np cp nq cq W hr (by omega) hrp hrq)
  have HK := Lib.hid (fun A c W => gcheck_to (a : Int) (b : Int) (b * a) hchk A c W)
  have HS := Lib.hid (fun B A d c W hg hr hrp hrq => shows_any ⟨a, b, bs⟩ ⟨a, b, cs⟩ p q B A Ap Aq (b * a) d (b * a) c np cp nq cq W hg hr (by omega) hrp hrq)
  have HC := Lib.hid (fun A c W hr hrp hrq => cells_any ⟨a, b, cs⟩ p q A Ap Aq (b * a) c np cp nq cq W hr (by omega) hrp hrq)
  have HW := Lib.hid (fun A c B d W hr hrp hrq hg => weave_any ⟨a, b, cs⟩ p q ⟨a, b, bs⟩ A Ap Aq B (b * a) c np cp nq cq (b * a) d W hr (by omega) hrp hrq hg)
  simp only at HT HS HC HW
  rw [shows_unfit h2 hbl ha1 ha hb1 hb hcl hf] at HS
  rw [cellsI_none h2 hf] at HC
  rw [weaveI_none h2 hlk hf] at HW
  rw [show Gd.zero = ⟨0, 0, []⟩ from rfl] at HC HW
  clear h2 hf hlk hchk hg0 hcl hbl
  have S0 := ((((((St.start w).addRd hr).addRd hrp).addRd hrq).addRd hg).box #[.int .i64 a, .int .i64 b, .slice A (b * a) c] 24).box #[.int .i64 a, .int .i64 b, .slice B (b * a) d] 40
  simp only [size_alloc1, List.nil_append, List.cons_append] at S0
  clear hr hrp hrq hg
  go_enter Try.func8, Try.ntmps8
  go_wp2_with fail
  refine (HL.out _).mono ?_
  rintro e w1 ⟨rfl, hb1⟩
  have S1 := S0.keep hb1
  obtain ⟨ca0, ca1, ca2⟩ := (S1.blk 4 rfl).cell3
  go_wp2_with fail
  refine (HA.out _ _ _).mono ?_
  rintro e w2 ⟨rfl, hb2⟩
  have S2 := S1.keep hb2
  clear ca0 ca1 ca2 S1
  obtain ⟨ca0, ca1, ca2⟩ := (S2.blk 4 rfl).cell3
  go_wp2_with fail
  refine (HT.out _ _ _ (S2.rd 0 rfl) (S2.rd 1 rfl) (S2.rd 2 rfl)).mono ?_
  rintro e w3 ⟨rfl, hb3⟩
  have S3 := S2.keep hb3
  clear ca0 ca1 ca2 S2
  obtain ⟨ca0, ca1, ca2⟩ := (S3.blk 5 rfl).cell3
  go_wp2_with fail
  refine (HK.out _ _ _).mono ?_
  rintro e w4 ⟨rfl, hb4⟩
  have S4 := S3.keep hb4
  clear ca0 ca1 ca2 S3
  obtain ⟨ca0, ca1, ca2⟩ := (S4.blk 5 rfl).cell3
  obtain ⟨cb0, cb1, cb2⟩ := (S4.blk 4 rfl).cell3
  go_wp2_with fail
  refine (HS.out _ _ _ _ _ (S4.rd 3 rfl) (S4.rd 0 rfl) (S4.rd 1 rfl) (S4.rd 2 rfl)).mono ?_
  rintro e w5 ⟨rfl, hb5⟩
  have S5 := S4.keep hb5
  clear ca0 ca1 ca2 cb0 cb1 cb2 S4
  obtain ⟨ca0, ca1, ca2⟩ := (S5.blk 4 rfl).cell3
  go_wp2_with fail
  refine (HC.out _ _ _ (S5.rd 0 rfl) (S5.rd 1 rfl) (S5.rd 2 rfl)).mono ?_
  rintro e w6 ⟨P6, np6, cp6, Q6, nq6, cq6, rfl, ho6, hq6, hne6, hb6⟩
  try simp only at ho6 hq6 ⊢
  have S6 := (((((S5.keep hb6).addRd (rd_of_own ho6)).addRd (rd_of_own hq6))).box #[.int .i64 0, .int .i64 0, .slice P6 (np6) cp6] 40).box #[.int .i64 0, .int .i64 0, .slice Q6 (nq6) cq6] 40
  simp only [size_alloc1, List.nil_append, List.cons_append] at S6
  clear ca0 ca1 ca2 S5 ho6 hq6 hne6
  obtain ⟨ca0, ca1, ca2⟩ := (S6.blk 4 rfl).cell3
  obtain ⟨cb0, cb1, cb2⟩ := (S6.blk 5 rfl).cell3
  go_wp2_with fail
  refine (HW.out _ _ _ _ _ (S6.rd 0 rfl) (S6.rd 1 rfl) (S6.rd 2 rfl) (S6.rd 3 rfl)).mono ?_
  rintro e w7 ⟨A7, n7, cc7, rfl, hown7, hb7⟩
  try simp only at hown7 ⊢
  have hc7 := own_le hown7
  have S7 := ((S6.keep hb7).addRd (rd_of_own hown7)).box #[.int .i64 0, .int .i64 0, .slice A7 (n7) cc7] 40
  simp only [List.nil_append, List.cons_append] at S7
  clear ca0 ca1 ca2 cb0 cb1 cb2 S6 hown7
  go_wp2_with fail
  go_ret
  exact ⟨rfl, S7.below⟩

set_option linter.unusedVariables false in
set_option linter.unusedSimpArgs false in
set_option maxHeartbeats 40000000 in
set_option maxRecDepth 100000 in
theorem pexact_6 (a b : Nat) (cs p q : List Int) (bs : List Bool) (A Ap Aq B : Option Addr) (n c np cp nq cq k d : Nat) (w : World) (hr : Rd w A n (cs.map (Value.int .i64))) (hrp : Rd w Ap np (p.map (Value.int .i64))) (hrq : Rd w Aq nq (q.map (Value.int .i64))) (hg : Rd w B k (bs.map Value.bool)) (ha1 : 1 ≤ a) (ha : a ≤ 64) (hb1 : 1 ≤ b) (hb : b ≤ 64) (hcl : cs.length = b * a) (hbl : bs.length = b * a) (h2 : thrI ⟨a, b, cs⟩ p q = 0) (hf : fitB a b cs p q = true) :
    Calls Try.prog 8 #[.agg #[.int .i64 a, .int .i64 b, .slice A n c], .slice Ap np cp, .slice Aq nq cq, .agg #[.int .i64 a, .int .i64 b, .slice B k d]] w fun e w' => e = .returned (.bool true) ∧ Below w.heap.size w w' := by
  have hba : b * a ≤ 64 * 64 := Nat.mul_le_mul hb ha
  have hkl : bs.length = k := by simpa using hg.len
  have hnl : cs.length = n := by simpa using hr.len
  obtain rfl : k = b * a := by omega
  obtain rfl : n = b * a := by omega
  clear hkl hnl
  have hg0 := chkG_mk ha1 ha hb1 hb hbl
  have hchk : chk (a : Int) (b : Int) (b * a) = 0 := by unfold chkG at hg0; simpa [hbl] using hg0
  have hlk : likeG ⟨a, b, bs⟩ ⟨a, b, cs⟩ = 0 := likeG_ok hg0 rfl rfl
  have HL := Lib.hid (fun W => alive15_any W)
  have HA := Lib.hid (fun A c W => igreat_to (a : Int) (b : Int) (b * a) (decide_eq_false (by omega)) A c W)
  have HT := Lib.hid (fun A c W hr hrp hrq => thr15_to ⟨a, b, cs⟩ p q h2 A Ap Aq (b * a) c np cp nq cq W hr (by omega) hrp hrq)
  have HK := Lib.hid (fun A c W => gcheck_to (a : Int) (b : Int) (b * a) hchk A c W)
  have HS := Lib.hid (fun B A d c W hg hr hrp hrq => shows_any ⟨a, b, bs⟩ ⟨a, b, cs⟩ p q B A Ap Aq (b * a) d (b * a) c np cp nq cq W hg hr (by omega) hrp hrq)
  have HC := Lib.hid (fun A c W hr hrp hrq => cells_any ⟨a, b, cs⟩ p q A Ap Aq (b * a) c np cp nq cq W hr (by omega) hrp hrq)
  have HW := Lib.hid (fun A c B d W hr hrp hrq hg => weave_any ⟨a, b, cs⟩ p q ⟨a, b, bs⟩ A Ap Aq B (b * a) c np cp nq cq (b * a) d W hr (by omega) hrp hrq hg)
  simp only at HT HS HC HW
  have HS2 := Lib.hid (fun B A d c W hg hr hrp hrq => shows_any ⟨a, b, (List.range (b * a)).map (weaveJ a cs p q bs)⟩ ⟨a, b, cs⟩ p q B A Ap Aq (b * a) d (b * a) c np cp nq cq W hg hr (by omega) hrp hrq)
  rw [shows_exactly h2 hbl ha1 ha hb1 hb hcl hf] at HS
  rw [shows_woven h2 ha1 ha hb1 hb hcl hf] at HS2
  rw [cellsI_ok h2 hf] at HC
  rw [weaveI_ok h2 hlk hf] at HW
  simp only at HS2
  have hR0 : rightB a cs p q bs 0 = true := rfl
  have hR1 : ∀ n, rightB a cs p q bs (n + 1) = (rightB a cs p q bs n && (openJ a cs p q n || (upJ a cs q n == bs.getD n false))) := rightB_succ
  have hUO : ∀ j, (upJ a cs q j && openJ a cs p q j) = false := uo_not
  have hVJ : ∀ j, weaveJ a cs p q bs j = (upJ a cs q j || openJ a cs p q j && bs.getD j false) := fun _ => rfl
  generalize rightB a cs p q bs = R at *
  generalize weaveJ a cs p q bs = V at *
  generalize upJ a cs q = U at *
  generalize openJ a cs p q = O at *
  have HR0 := Lib.hid hR0
  have HR1 := Lib.hid hR1
  have HUO := Lib.hid hUO
  have HVJ := Lib.hid hVJ
  have HBL := Lib.hid hbl
  clear h2 hf hlk hchk hg0 hcl hR0 hR1 hUO hVJ hbl
  have S0 := ((((((St.start w).addRd hr).addRd hrp).addRd hrq).addRd hg).box #[.int .i64 a, .int .i64 b, .slice A (b * a) c] 24).box #[.int .i64 a, .int .i64 b, .slice B (b * a) d] 40
  simp only [size_alloc1, List.nil_append, List.cons_append] at S0
  clear hr hrp hrq hg
  go_enter Try.func8, Try.ntmps8
  go_wp2_with fail
  refine (HL.out _).mono ?_
  rintro e w1 ⟨rfl, hb1⟩
  have S1 := S0.keep hb1
  obtain ⟨ca0, ca1, ca2⟩ := (S1.blk 4 rfl).cell3
  go_wp2_with fail
  refine (HA.out _ _ _).mono ?_
  rintro e w2 ⟨rfl, hb2⟩
  have S2 := S1.keep hb2
  clear ca0 ca1 ca2 S1
  obtain ⟨ca0, ca1, ca2⟩ := (S2.blk 4 rfl).cell3
  go_wp2_with fail
  refine (HT.out _ _ _ (S2.rd 0 rfl) (S2.rd 1 rfl) (S2.rd 2 rfl)).mono ?_
  rintro e w3 ⟨rfl, hb3⟩
  have S3 := S2.keep hb3
  clear ca0 ca1 ca2 S2
  obtain ⟨ca0, ca1, ca2⟩ := (S3.blk 5 rfl).cell3
  go_wp2_with fail
  refine (HK.out _ _ _).mono ?_
  rintro e w4 ⟨rfl, hb4⟩
  have S4 := S3.keep hb4
  clear ca0 ca1 ca2 S3
  obtain ⟨ca0, ca1, ca2⟩ := (S4.blk 5 rfl).cell3
  obtain ⟨cb0, cb1, cb2⟩ := (S4.blk 4 rfl).cell3
  go_wp2_with fail
  refine (HS.out _ _ _ _ _ (S4.rd 3 rfl) (S4.rd 0 rfl) (S4.rd 1 rfl) (S4.rd 2 rfl)).mono ?_
  rintro e w5 ⟨rfl, hb5⟩
  have S5 := S4.keep hb5
  clear ca0 ca1 ca2 cb0 cb1 cb2 S4
  obtain ⟨ca0, ca1, ca2⟩ := (S5.blk 4 rfl).cell3
  go_wp2_with fail
  refine (HC.out _ _ _ (S5.rd 0 rfl) (S5.rd 1 rfl) (S5.rd 2 rfl)).mono ?_
  rintro e w6 ⟨P6, np6, cp6, Q6, nq6, cq6, rfl, ho6, hq6, hne6, hb6⟩
  try simp only at ho6 hq6 ⊢
  obtain rfl : np6 = b * a := by have := ho6.1; simp at this; omega
  obtain rfl : nq6 = b * a := by have := hq6.1; simp at this; omega
  have S6 := (((((S5.keep hb6).addRd (rd_of_own ho6)).addRd (rd_of_own hq6))).box #[.int .i64 a, .int .i64 b, .slice P6 (b * a) cp6] 40).box #[.int .i64 a, .int .i64 b, .slice Q6 (b * a) cq6] 40
  simp only [size_alloc1, List.nil_append, List.cons_append] at S6
  clear ca0 ca1 ca2 S5 ho6 hq6 hne6
  obtain ⟨ca0, ca1, ca2⟩ := (S6.blk 4 rfl).cell3
  obtain ⟨cb0, cb1, cb2⟩ := (S6.blk 5 rfl).cell3
  go_wp2_with fail
  refine (HW.out _ _ _ _ _ (S6.rd 0 rfl) (S6.rd 1 rfl) (S6.rd 2 rfl) (S6.rd 3 rfl)).mono ?_
  rintro e w7 ⟨A7, n7, cc7, rfl, hown7, hb7⟩
  try simp only at hown7 ⊢
  obtain rfl : n7 = b * a := by have := hown7.1; simp at this; omega
  have hc7 := own_le hown7
  have S7 := ((S6.keep hb7).addRd (rd_of_own hown7)).box #[.int .i64 a, .int .i64 b, .slice A7 (b * a) cc7] 40
  simp only [List.nil_append, List.cons_append] at S7
  clear ca0 ca1 ca2 cb0 cb1 cb2 S6 hown7
  obtain ⟨ca0, ca1, ca2⟩ := (S7.blk 8 rfl).cell3
  go_wp2_with fail
  refine (HK.out _ _ _).mono ?_
  rintro e w8 ⟨rfl, hb8⟩
  have S8 := S7.keep hb8
  clear ca0 ca1 ca2 S7
  obtain ⟨ca0, ca1, ca2⟩ := (S8.blk 9 rfl).cell3
  go_wp2_with fail
  refine (HK.out _ _ _).mono ?_
  rintro e w9 ⟨rfl, hb9⟩
  have S9 := S8.keep hb9
  clear ca0 ca1 ca2 S8
  obtain ⟨ca0, ca1, ca2⟩ := (S9.blk 4 rfl).cell3
  obtain ⟨cb0, cb1, cb2⟩ := (S9.blk 8 rfl).cell3
  obtain ⟨cc0, cc1, cc2⟩ := (S9.blk 9 rfl).cell3
  obtain ⟨cd0, cd1, cd2⟩ := (S9.blk 11 rfl).cell3
  go_wp2_with fail
  refine (HK.out _ _ _).mono ?_
  rintro e w10 ⟨rfl, hb10⟩
  have S10 := S9.keep hb10
  clear ca0 ca1 ca2 cb0 cb1 cb2 cc0 cc1 cc2 cd0 cd1 cd2 S9
  obtain ⟨ca0, ca1, ca2⟩ := (S10.blk 4 rfl).cell3
  obtain ⟨cb0, cb1, cb2⟩ := (S10.blk 8 rfl).cell3
  obtain ⟨cc0, cc1, cc2⟩ := (S10.blk 9 rfl).cell3
  obtain ⟨cd0, cd1, cd2⟩ := (S10.blk 11 rfl).cell3
  obtain ⟨ce0, ce1, ce2⟩ := (S10.blk 5 rfl).cell3
  go_wp2_with fail
  have SR : St w [.rd A (b * a) (cs.map (Value.int .i64)), .rd Ap np (p.map (Value.int .i64)), .rd Aq nq (q.map (Value.int .i64)), .rd B (b * a) (bs.map Value.bool), .blk w.heap.size 24 #[.int .i64 a, .int .i64 b, .slice A (b * a) c], .blk (w.heap.size + 1) 40 #[.int .i64 a, .int .i64 b, .slice B (b * a) d], .rd P6 (b * a) (((List.range (b * a)).map U).map Value.bool), .rd Q6 (b * a) (((List.range (b * a)).map O).map Value.bool), .blk w6.heap.size 40 #[.int .i64 a, .int .i64 b, .slice P6 (b * a) cp6], .blk (w6.heap.size + 1) 40 #[.int .i64 a, .int .i64 b, .slice Q6 (b * a) cq6], .rd A7 (b * a) (((List.range (b * a)).map V).map Value.bool), .blk w7.heap.size 40 #[.int .i64 a, .int .i64 b, .slice A7 (b * a) cc7]] w10 := S10
  clear S10 ca0 ca1 ca2 cb0 cb1 cb2 cc0 cc1 cc2 cd0 cd1 cd2 ce0 ce1 ce2
  go_loopw [17, 18] (fun rv iv wr => ∃ i : Nat, i ≤ b * a ∧ iv = .int .i64 i ∧ rv = .bool (R i) ∧ St w [.rd A (b * a) (cs.map (Value.int .i64)), .rd Ap np (p.map (Value.int .i64)), .rd Aq nq (q.map (Value.int .i64)), .rd B (b * a) (bs.map Value.bool), .blk w.heap.size 24 #[.int .i64 a, .int .i64 b, .slice A (b * a) c], .blk (w.heap.size + 1) 40 #[.int .i64 a, .int .i64 b, .slice B (b * a) d], .rd P6 (b * a) (((List.range (b * a)).map U).map Value.bool), .rd Q6 (b * a) (((List.range (b * a)).map O).map Value.bool), .blk w6.heap.size 40 #[.int .i64 a, .int .i64 b, .slice P6 (b * a) cp6], .blk (w6.heap.size + 1) 40 #[.int .i64 a, .int .i64 b, .slice Q6 (b * a) cq6], .rd A7 (b * a) (((List.range (b * a)).map V).map Value.bool), .blk w7.heap.size 40 #[.int .i64 a, .int .i64 b, .slice A7 (b * a) cc7]] wr) (fun _ iv _ => b * a - (intOf iv).toNat)
  case atStart => exact ⟨0, Nat.zero_le _, rfl, by rw [HR0.out], SR⟩
  case round =>
    clear SR
    obtain ⟨i, hi, rfl, rfl, S⟩ := hrel
    have d2 := (S.blk 5 rfl).cell 2
    by_cases hlt : i < b * a
    · have u2 := (S.blk 8 rfl).cell 2
      have o2 := (S.blk 9 rfl).cell 2
      have v2 := (S.blk 11 rfl).cell 2
      obtain ⟨gu, ou, hAu, _, hcu⟩ := (S.rd 6 rfl).at_ (by omega)
      obtain ⟨go, oo, hAo, _, hco⟩ := (S.rd 7 rfl).at_ (by omega)
      obtain ⟨gv, ov, hAv, _, hcv⟩ := (S.rd 10 rfl).at_ (by omega)
      obtain ⟨gb, ob, hAb, _, hcb⟩ := (S.rd 3 rfl).at_ (by omega)
      have ru := hcu i _ (map_read U hlt)
      have ro := hco i _ (map_read O hlt)
      have rv := hcv i _ (map_read V hlt)
      have rb := hcb i _ (bit_read (by rw [HBL.out]; exact hlt))
      have e1 := HR1.out i
      have e2 := HUO.out i
      have e3 := HVJ.out i
      clear hcu hco hcv hcb
      generalize U i = u at *
      generalize O i = ob1 at *
      generalize V i = v1 at *
      generalize bs.getD i false = b1 at *
      generalize R i = r1 at *
      subst e3
      cases u <;> cases ob1 <;> first | cases e2 | skip
      all_goals
        cases b1 <;> cases r1
        all_goals
          try simp only [Bool.false_and, Bool.true_and, Bool.and_false, Bool.and_true, Bool.false_or, Bool.true_or, Bool.or_false, Bool.or_true, Bool.not_true, Bool.not_false, show (true == true) = true from rfl, show (true == false) = false from rfl, show (false == true) = false from rfl, show (false == false) = true from rfl] at rv e1
          have HE := Lib.hid e1
          clear e1
          go_wp2_with fail
          go_quiet (fail)
          go_wp2_with fail
          go_quiet (fail)
          go_wp2_with fail
          go_roundw
          case rel => exact ⟨i + 1, by omega, by go_num, by rw [HE.out], S.drewN _⟩
          case measure => simp [intOf]; omega
    · obtain rfl : b * a = i := by omega
      have v2 := (S.blk 11 rfl).cell3
      have m2 := (S.blk 4 rfl).cell3
      obtain ⟨v20, v21, v22⟩ := v2
      obtain ⟨m20, m21, m22⟩ := m2
      go_wp2_with fail
      refine (HS2.out _ _ _ _ _ (S.rd 10 rfl) (S.rd 0 rfl) (S.rd 1 rfl) (S.rd 2 rfl)).mono ?_
      rintro e wz ⟨rfl, hbz⟩
      have SZ := S.keep hbz
      go_wp2_with fail
      go_ret
      exact ⟨by simp, SZ.below⟩

theorem pexact_walk (m : Im) (p q : List Int) (g : Gd) (A Ap Aq B : Option Addr) (n c np cp nq cq k d : Nat) (w : World) (hr : Rd w A n (m.c.map (Value.int .i64))) (hrp : Rd w Ap np (p.map (Value.int .i64))) (hrq : Rd w Aq nq (q.map (Value.int .i64))) (hg : Rd w B k (g.bits.map Value.bool)) :
    Calls Try.prog 8 #[.agg #[.int .i64 m.w, .int .i64 m.h, .slice A n c], .slice Ap np cp, .slice Aq nq cq, .agg #[.int .i64 g.w, .int .i64 g.h, .slice B k d]] w fun e w' => e = .returned (.bool true) ∧ Below w.heap.size w w' := by
  by_cases h1 : 4200 < n
  · exact pexact_0 m p q g A Ap Aq B n c np cp nq cq k d w hr hrp hrq hg h1
  by_cases h2 : thrI m p q = 0
  · by_cases h3 : chkG g = 0
    · by_cases h4 : g.w = m.w
      · by_cases h5 : g.h = m.h
        · obtain ⟨a, b, cs, rfl, ha1, ha, hb1, hb, hcl, _⟩ := thrI_open h2
          obtain ⟨gw, gh, bs⟩ := g
          simp only at h4 h5
          subst h4 h5
          have hbl : bs.length = b * a := by
            obtain ⟨a', b', e1, e2, _, _, _, _, hl⟩ := chk_zero (show chk _ _ _ = 0 from h3)
            simp only at e1 e2 hl
            obtain rfl : a = a' := by omega
            obtain rfl : b = b' := by omega
            exact hl
          cases hf : fitB a b cs p q with
          | false => exact pexact_5 a b cs p q bs A Ap Aq B n c np cp nq cq k d w hr hrp hrq hg ha1 ha hb1 hb hcl hbl h2 hf
          | true => exact pexact_6 a b cs p q bs A Ap Aq B n c np cp nq cq k d w hr hrp hrq hg ha1 ha hb1 hb hcl hbl h2 hf
        · exact pexact_4 m p q g A Ap Aq B n c np cp nq cq k d w hr hrp hrq hg h1 h2 h3 h4 h5
      · exact pexact_3 m p q g A Ap Aq B n c np cp nq cq k d w hr hrp hrq hg h1 h2 h3 h4
    · exact pexact_2 m p q g A Ap Aq B n c np cp nq cq k d w hr hrp hrq hg h1 h2 h3
  · exact pexact_1 m p q g A Ap Aq B n c np cp nq cq k d w hr hrp hrq hg h1 h2
end Go.Proofs.Ytefeghpglacghaa
