/- The law SymmetryAlike, walked: it answers true and turns nothing that was there, for any grids. -/
import Derived.Test.YtliibficmdomjaaDoorLaw7Kz
namespace Go.Proofs.YtliibficmdomjaaDoor
open Go.RowKit

set_option linter.unusedVariables false in
set_option maxHeartbeats 4000000 in
set_option maxRecDepth 100000 in
theorem alk7_off_0 (g g' : Gd) (A0 A1 : Option Addr) (n0 c0 n1 c1 : Nat) (w : World) (hr : Rd w A0 n0 (g.bits.map Value.bool)) (hr' : Rd w A1 n1 (g'.bits.map Value.bool)) (hl : g.bits.length = n0) (hl' : g'.bits.length = n1)  (hv : valid7B g = false) :
    Calls Tryd.prog 4 #[.agg #[.int .i64 g.w, .int .i64 g.h, .slice A0 n0 c0], .agg #[.int .i64 g'.w, .int .i64 g'.h, .slice A1 n1 c1]] w fun e w' => e = .returned (.bool true) ∧ Below w.heap.size w w' := by
  have KA := Lib.hid (fun W => alive_any W)
  have K0 := Lib.hid (fun W => valid7_to g hv A0 n0 c0 hl W)
  clear hv
  have S0 := ((((St.start w).addRd hr).addRd hr').box #[.int .i64 g.w, .int .i64 g.h, .slice A0 n0 c0] 24).box #[.int .i64 g'.w, .int .i64 g'.h, .slice A1 n1 c1] 24
  simp only [size_alloc1, List.nil_append, List.cons_append] at S0
  go_enter Tryd.func4, Tryd.ntmps4
  obtain ⟨ca0, ca1, ca2⟩ := (S0.blk 2 rfl).cell3
  go_wp2_with fail
  refine (K0.out _).mono ?_
  rintro e w1 ⟨rfl, hb1⟩
  have S1 := S0.keep hb1
  clear ca0 ca1 ca2
  go_wp2_with fail
  refine (KA.out _).mono ?_
  rintro e w2 ⟨rfl, hb2⟩
  have S2 := S1.keep hb2
  clear S1
  go_wp2_with fail
  go_ret
  exact ⟨rfl, S2.below⟩

set_option linter.unusedVariables false in
set_option maxHeartbeats 4000000 in
set_option maxRecDepth 100000 in
theorem alk7_off_1 (g g' : Gd) (A0 A1 : Option Addr) (n0 c0 n1 c1 : Nat) (w : World) (hr : Rd w A0 n0 (g.bits.map Value.bool)) (hr' : Rd w A1 n1 (g'.bits.map Value.bool)) (hl : g.bits.length = n0) (hl' : g'.bits.length = n1) (hv : valid7B g = true) (hv' : valid7B g' = false) :
    Calls Tryd.prog 4 #[.agg #[.int .i64 g.w, .int .i64 g.h, .slice A0 n0 c0], .agg #[.int .i64 g'.w, .int .i64 g'.h, .slice A1 n1 c1]] w fun e w' => e = .returned (.bool true) ∧ Below w.heap.size w w' := by
  have KA := Lib.hid (fun W => alive_any W)
  have K0 := Lib.hid (fun W => valid7_to g hv A0 n0 c0 hl W)
  have K1 := Lib.hid (fun W => valid7_to g' hv' A1 n1 c1 hl' W)
  clear hv hv'
  have S0 := ((((St.start w).addRd hr).addRd hr').box #[.int .i64 g.w, .int .i64 g.h, .slice A0 n0 c0] 24).box #[.int .i64 g'.w, .int .i64 g'.h, .slice A1 n1 c1] 24
  simp only [size_alloc1, List.nil_append, List.cons_append] at S0
  go_enter Tryd.func4, Tryd.ntmps4
  obtain ⟨ca0, ca1, ca2⟩ := (S0.blk 2 rfl).cell3
  go_wp2_with fail
  refine (K0.out _).mono ?_
  rintro e w1 ⟨rfl, hb1⟩
  have S1 := S0.keep hb1
  clear ca0 ca1 ca2
  obtain ⟨ca0, ca1, ca2⟩ := (S1.blk 3 rfl).cell3
  go_wp2_with fail
  refine (K1.out _).mono ?_
  rintro e w2 ⟨rfl, hb2⟩
  have S2 := S1.keep hb2
  clear ca0 ca1 ca2 S1
  go_wp2_with fail
  refine (KA.out _).mono ?_
  rintro e w3 ⟨rfl, hb3⟩
  have S3 := S2.keep hb3
  clear S2
  go_wp2_with fail
  go_ret
  exact ⟨rfl, S3.below⟩

set_option maxHeartbeats 4000000 in
set_option maxRecDepth 100000 in
theorem alk7_none (g g' : Gd) (A0 A1 : Option Addr) (n0 c0 n1 c1 : Nat) (w : World) (hr : Rd w A0 n0 (g.bits.map Value.bool)) (hr' : Rd w A1 n1 (g'.bits.map Value.bool)) (hc : n0 ≤ c0) (hc' : n1 ≤ c1) (hv : valid7B g = true) (hv' : valid7B g' = true) (hne : alkL g g' = []) :
    Calls Tryd.prog 4 #[.agg #[.int .i64 g.w, .int .i64 g.h, .slice A0 n0 c0], .agg #[.int .i64 g'.w, .int .i64 g'.h, .slice A1 n1 c1]] w fun e w' => e = .returned (.bool true) ∧ Below w.heap.size w w' := by
  have h0 : startG g = 0 := by unfold valid7B at hv; rw [decide_eq_true_eq] at hv; exact hv.1
  have h0' : startG g' = 0 := by unfold valid7B at hv'; rw [decide_eq_true_eq] at hv'; exact hv'.1
  have hl : g.bits.length = n0 := by simpa using hr.len
  have hl' : g'.bits.length = n1 := by simpa using hr'.len
  have HV := Lib.hid (fun W => valid7_to g hv A0 n0 c0 hl W)
  have HV' := Lib.hid (fun W => valid7_to g' hv' A1 n1 c1 hl' W)
  have hcg := (startG_zero h0).1
  have hcg' := (startG_zero h0').1
  have hAL := alk_least h0 h0'
  obtain ⟨x, nx, _, ex, _, hsx, hTx, _⟩ := least_facts h0
  obtain ⟨y, ny, _, ey, _, hsy, hTy, _⟩ := least_facts h0'
  have HLx := Lib.hid (fun A n c W h hc => least_to (o := (nx : Int)) g ex rfl A n c W h hc)
  have HLy := Lib.hid (fun A n c W h hc => least_to (o := (ny : Int)) g' ey rfl A n c W h hc)
  rw [ex, ey] at hAL
  simp only at hAL
  have zx := chkG_small (startG_zero hsx).1
  have HL := Lib.hid (fun A A' n c n' c' W h h' hc' => alikes_to g g' h0 h0' rfl A A' n c n' c' W h h' hc')
  have HM := Lib.hid (fun A A' n c n' c' W h h' hc' => alikes_to g' g h0' h0 rfl A A' n c n' c' W h h' hc')
  have HA := Lib.hid (fun A n c W h hc => all_to g h0 rfl A n c W h hc)
  have hlen := alk_len (g := g) (g' := g')
  have htwo := alk_two hcg hcg'
  have hxy : x ≠ y := fun h => hAL.1 h hne
  have HS := Lib.hid (fun A A2 n1 c1 n2 c2 W h h2 => same_no x y hxy zx A A2 n1 c1 n2 c2 W h h2)
  have hlenL : (alkL g g').length = 0 := by rw [hne]; rfl
  have hlenM : (alkL g' g).length = 0 := by rw [← htwo]; exact hlenL
  clear hxy hne htwo
  clear hAL ex ey hsx hsy hTx hTy zx hv hv' h0 h0' hcg hcg' hl hl'
  generalize alkL g' g = M at *
  generalize alkL g g = O at *
  generalize alkL g g' = L at *
  have S0 := ((((St.start w).addRd hr).addRd hr').box #[.int .i64 g.w, .int .i64 g.h, .slice A0 n0 c0] 24).box #[.int .i64 g'.w, .int .i64 g'.h, .slice A1 n1 c1] 24
  simp only [size_alloc1, List.nil_append, List.cons_append] at S0
  clear hr hr'
  go_enter Tryd.func4, Tryd.ntmps4
  obtain ⟨ca0, ca1, ca2⟩ := (S0.blk 2 rfl).cell3
  go_wp2_with fail
  refine (HV.out _).mono ?_
  rintro e w1 ⟨rfl, hb1⟩
  have S1 := S0.keep hb1
  clear ca0 ca1 ca2
  obtain ⟨ca0, ca1, ca2⟩ := (S1.blk 3 rfl).cell3
  go_wp2_with fail
  refine (HV'.out _).mono ?_
  rintro e w2 ⟨rfl, hb2⟩
  have S2 := S1.keep hb2
  clear ca0 ca1 ca2 S1
  obtain ⟨ca0, ca1, ca2⟩ := (S2.blk 2 rfl).cell3
  obtain ⟨da0, da1, da2⟩ := (S2.blk 3 rfl).cell3
  go_wp2_with fail
  refine (HL.out _ _ _ _ _ _ _ (S2.rd 0 rfl) (S2.rd 1 rfl) hc').mono ?_
  rintro e w3 ⟨A3, n3, cc3, rfl, hown3, hb3⟩
  obtain rfl : n3 = 0 := by have := hown3.1; simp at this; omega
  have hc3 := own_le hown3
  have S3 := (S2.keep hb3).addRd (rd_of_own hown3)
  simp only [List.nil_append, List.cons_append] at S3
  clear ca0 ca1 ca2 da0 da1 da2 S2 hown3
  obtain ⟨ca0, ca1, ca2⟩ := (S3.blk 2 rfl).cell3
  obtain ⟨da0, da1, da2⟩ := (S3.blk 3 rfl).cell3
  go_wp2_with fail
  refine (HM.out _ _ _ _ _ _ _ (S3.rd 1 rfl) (S3.rd 0 rfl) hc).mono ?_
  rintro e w4 ⟨A4, n4, cc4, rfl, hown4, hb4⟩
  obtain rfl : n4 = 0 := by have := hown4.1; simp at this; omega
  have hc4 := own_le hown4
  have S4 := (S3.keep hb4).addRd (rd_of_own hown4)
  simp only [List.nil_append, List.cons_append] at S4
  clear ca0 ca1 ca2 da0 da1 da2 S3 hown4
  obtain ⟨ca0, ca1, ca2⟩ := (S4.blk 2 rfl).cell3
  go_wp2_with fail
  refine (HA.out _ _ _ _ (S4.rd 0 rfl) hc).mono ?_
  rintro e w5 ⟨A5, n5, cc5, rfl, hown5, hb5⟩
  obtain rfl : n5 = O.length := by have := hown5.1; simp at this; omega
  have hc5 := own_le hown5
  have S5 := (S4.keep hb5).addRd (rd_of_own hown5)
  simp only [List.nil_append, List.cons_append] at S5
  clear ca0 ca1 ca2 S4 hown5
  obtain ⟨ca0, ca1, ca2⟩ := (S5.blk 2 rfl).cell3
  go_wp2_with fail
  refine (HLx.out _ _ _ _ (S5.rd 0 rfl) hc).mono ?_
  rintro e w6 ⟨A6, n6, cc6, rfl, hown6, hb6⟩
  try simp only at hown6 ⊢
  have hc6 := own_le hown6
  have S6 := ((S5.keep hb6).addRd (rd_of_own hown6)).box #[.int .i64 x.w, .int .i64 x.h, .slice A6 n6 cc6] 24
  simp only [List.nil_append, List.cons_append] at S6
  clear ca0 ca1 ca2 S5 hown6
  obtain ⟨ca0, ca1, ca2⟩ := (S6.blk 3 rfl).cell3
  go_wp2_with fail
  refine (HLy.out _ _ _ _ (S6.rd 1 rfl) hc').mono ?_
  rintro e w7 ⟨A7, n7, cc7, rfl, hown7, hb7⟩
  try simp only at hown7 ⊢
  have hc7 := own_le hown7
  have S7 := ((S6.keep hb7).addRd (rd_of_own hown7)).box #[.int .i64 y.w, .int .i64 y.h, .slice A7 n7 cc7] 24
  simp only [List.nil_append, List.cons_append] at S7
  clear ca0 ca1 ca2 S6 hown7
  obtain ⟨ca0, ca1, ca2⟩ := (S7.blk 8 rfl).cell3
  obtain ⟨da0, da1, da2⟩ := (S7.blk 10 rfl).cell3
  go_wp2_with fail
  refine (HS.out _ _ _ _ _ _ _ (S7.rd 7 rfl) (S7.rd 9 rfl)).mono ?_
  rintro e w8 ⟨rfl, hb8⟩
  have S8 := S7.keep hb8
  clear ca0 ca1 ca2 da0 da1 da2 S7
  go_wp2_with fail
  have SA : St w [] _ := ⟨S8.1, by simp⟩
  clear S8
  go_loopw [17] (fun i wr => i = .int .i64 0 ∧ St w [] wr) (fun _ _ => 0)
  case atStart => exact ⟨rfl, SA⟩
  case round =>
    clear SA
    obtain ⟨rfl, S⟩ := hrel
    go_wp2_with fail
    refine (alive_any _).mono ?_
    rintro e w30 ⟨rfl, hb30⟩
    go_wp2_with fail
    go_ret
    exact ⟨rfl, (S.keep hb30).below⟩

set_option linter.unusedSimpArgs false in
set_option maxHeartbeats 4000000 in
set_option maxRecDepth 100000 in
theorem alk7_some (g g' : Gd) (A0 A1 : Option Addr) (n0 c0 n1 c1 : Nat) (w : World) (hr : Rd w A0 n0 (g.bits.map Value.bool)) (hr' : Rd w A1 n1 (g'.bits.map Value.bool)) (hc : n0 ≤ c0) (hc' : n1 ≤ c1) (hv : valid7B g = true) (hv' : valid7B g' = true) (hne : alkL g g' ≠ []) :
    Calls Tryd.prog 4 #[.agg #[.int .i64 g.w, .int .i64 g.h, .slice A0 n0 c0], .agg #[.int .i64 g'.w, .int .i64 g'.h, .slice A1 n1 c1]] w fun e w' => e = .returned (.bool true) ∧ Below w.heap.size w w' := by
  have h0 : startG g = 0 := by unfold valid7B at hv; rw [decide_eq_true_eq] at hv; exact hv.1
  have h0' : startG g' = 0 := by unfold valid7B at hv'; rw [decide_eq_true_eq] at hv'; exact hv'.1
  have hl : g.bits.length = n0 := by simpa using hr.len
  have hl' : g'.bits.length = n1 := by simpa using hr'.len
  have HV := Lib.hid (fun W => valid7_to g hv A0 n0 c0 hl W)
  have HV' := Lib.hid (fun W => valid7_to g' hv' A1 n1 c1 hl' W)
  have hcg := (startG_zero h0).1
  have hcg' := (startG_zero h0').1
  have hAL := alk_least h0 h0'
  obtain ⟨x, nx, _, ex, _, hsx, hTx, _⟩ := least_facts h0
  obtain ⟨y, ny, _, ey, _, hsy, hTy, _⟩ := least_facts h0'
  have HLx := Lib.hid (fun A n c W h hc => least_to (o := (nx : Int)) g ex rfl A n c W h hc)
  have HLy := Lib.hid (fun A n c W h hc => least_to (o := (ny : Int)) g' ey rfl A n c W h hc)
  rw [ex, ey] at hAL
  simp only at hAL
  have zx := chkG_small (startG_zero hsx).1
  have HL := Lib.hid (fun A A' n c n' c' W h h' hc' => alikes_to g g' h0 h0' rfl A A' n c n' c' W h h' hc')
  have HM := Lib.hid (fun A A' n c n' c' W h h' hc' => alikes_to g' g h0' h0 rfl A A' n c n' c' W h h' hc')
  have HA := Lib.hid (fun A n c W h hc => all_to g h0 rfl A n c W h hc)
  have hlen := alk_len (g := g) (g' := g')
  have htwo := alk_two hcg hcg'
  have hxy : x = y := hAL.2 hne
  subst hxy
  have hown := alk_own hcg hcg' hne
  have hpos : 1 ≤ (alkL g g').length := List.length_pos_iff.2 hne
  have HS := Lib.hid (fun A A2 n1 c1 n2 c2 W h h2 => same_self x zx A A2 n1 c1 n2 c2 W h h2)
  have HAt := Lib.hid (fun (k : Nat) (hk : k < (alkL g g').length) => alk_at hcg hcg' hk)
  have HInv := Lib.hid (fun (m : Nat) (hm : m < 16) (h : (m : Int) ∈ alkL g g') => alk_inv_mem hcg hcg' hm h)
  have HP := Lib.hid (fun (k : Nat) (hk : k < 16) A n c W h => apply_to g (k : Nat) (applyG_ok h0 hk) A n c W h)
  have HO := Lib.hid (fun (k : Nat) (h : AlkG g g' k) A A' n c n' c' W hr hr' hc hc' => off_zero (appT_chk hcg k) hcg' h A A' n c n' c' W hr hr' hc hc')
  have HI := Lib.hid (fun (m : Nat) (hm : m < 16) W => inverse_to m hm rfl W)
  have hlenM : (alkL g' g).length = (alkL g g').length := htwo.symm
  have hlenO : (alkL g g).length = (alkL g g').length := hown.symm
  clear hne hown htwo
  clear hAL ex ey hsx hsy hTx hTy zx hv hv' h0 h0' hcg hcg' hl hl'
  generalize alkL g' g = M at *
  generalize alkL g g = O at *
  generalize alkL g g' = L at *
  have S0 := ((((St.start w).addRd hr).addRd hr').box #[.int .i64 g.w, .int .i64 g.h, .slice A0 n0 c0] 24).box #[.int .i64 g'.w, .int .i64 g'.h, .slice A1 n1 c1] 24
  simp only [size_alloc1, List.nil_append, List.cons_append] at S0
  clear hr hr'
  go_enter Tryd.func4, Tryd.ntmps4
  obtain ⟨ca0, ca1, ca2⟩ := (S0.blk 2 rfl).cell3
  go_wp2_with fail
  refine (HV.out _).mono ?_
  rintro e w1 ⟨rfl, hb1⟩
  have S1 := S0.keep hb1
  clear ca0 ca1 ca2
  obtain ⟨ca0, ca1, ca2⟩ := (S1.blk 3 rfl).cell3
  go_wp2_with fail
  refine (HV'.out _).mono ?_
  rintro e w2 ⟨rfl, hb2⟩
  have S2 := S1.keep hb2
  clear ca0 ca1 ca2 S1
  obtain ⟨nL, hnL⟩ : ∃ q, q = L.length := ⟨_, rfl⟩
  rw [← hnL] at hlen hpos hlenM hlenO HAt
  have HnL := Lib.hid hnL
  have HM_ := Lib.hid hlenM
  have HO_ := Lib.hid hlenO
  clear hnL hlenM hlenO
  have hz1 : ¬ (nL : Int) = 0 := by omega
  have hz2 : ¬ nL = 0 := by omega
  have hz3 : (0 : Int) < (nL : Int) := by omega
  have hz4 : decide (0 < nL) = true := by simp; omega
  have hz5 : 0 < nL := by omega
  have hz6 : (!decide (0 < nL)) = false := by simp; omega
  obtain ⟨ca0, ca1, ca2⟩ := (S2.blk 2 rfl).cell3
  obtain ⟨da0, da1, da2⟩ := (S2.blk 3 rfl).cell3
  go_wp2_with fail
  refine (HL.out _ _ _ _ _ _ _ (S2.rd 0 rfl) (S2.rd 1 rfl) hc').mono ?_
  rintro e w3 ⟨A3, n3, cc3, rfl, hown3, hb3⟩
  obtain rfl : nL = n3 := by have := hown3.1; have h1 := HnL.out; have h2 := HM_.out; have h3 := HO_.out; simp at this; omega
  have hc3 := own_le hown3
  have S3 := (S2.keep hb3).addRd (rd_of_own hown3)
  simp only [List.nil_append, List.cons_append] at S3
  obtain ⟨gL, rfl, _, _, _⟩ := own_form hown3 (by omega)
  clear ca0 ca1 ca2 da0 da1 da2 S2 hown3
  obtain ⟨ca0, ca1, ca2⟩ := (S3.blk 2 rfl).cell3
  obtain ⟨da0, da1, da2⟩ := (S3.blk 3 rfl).cell3
  go_wp2_with fail
  refine (HM.out _ _ _ _ _ _ _ (S3.rd 1 rfl) (S3.rd 0 rfl) hc).mono ?_
  rintro e w4 ⟨A4, n4, cc4, rfl, hown4, hb4⟩
  obtain rfl : nL = n4 := by have := hown4.1; have h1 := HnL.out; have h2 := HM_.out; have h3 := HO_.out; simp at this; omega
  have hc4 := own_le hown4
  have S4 := (S3.keep hb4).addRd (rd_of_own hown4)
  simp only [List.nil_append, List.cons_append] at S4
  clear ca0 ca1 ca2 da0 da1 da2 S3 hown4
  obtain ⟨ca0, ca1, ca2⟩ := (S4.blk 2 rfl).cell3
  go_wp2_with fail
  refine (HA.out _ _ _ _ (S4.rd 0 rfl) hc).mono ?_
  rintro e w5 ⟨A5, n5, cc5, rfl, hown5, hb5⟩
  obtain rfl : nL = n5 := by have := hown5.1; have h1 := HnL.out; have h2 := HM_.out; have h3 := HO_.out; simp at this; omega
  have hc5 := own_le hown5
  have S5 := (S4.keep hb5).addRd (rd_of_own hown5)
  simp only [List.nil_append, List.cons_append] at S5
  clear ca0 ca1 ca2 S4 hown5
  obtain ⟨ca0, ca1, ca2⟩ := (S5.blk 2 rfl).cell3
  go_wp2_with fail
  refine (HLx.out _ _ _ _ (S5.rd 0 rfl) hc).mono ?_
  rintro e w6 ⟨A6, n6, cc6, rfl, hown6, hb6⟩
  try simp only at hown6 ⊢
  have hc6 := own_le hown6
  have S6 := ((S5.keep hb6).addRd (rd_of_own hown6)).box #[.int .i64 x.w, .int .i64 x.h, .slice A6 n6 cc6] 24
  simp only [List.nil_append, List.cons_append] at S6
  clear ca0 ca1 ca2 S5 hown6
  obtain ⟨ca0, ca1, ca2⟩ := (S6.blk 3 rfl).cell3
  go_wp2_with fail
  refine (HLy.out _ _ _ _ (S6.rd 1 rfl) hc').mono ?_
  rintro e w7 ⟨A7, n7, cc7, rfl, hown7, hb7⟩
  try simp only at hown7 ⊢
  have hc7 := own_le hown7
  have S7 := ((S6.keep hb7).addRd (rd_of_own hown7)).box #[.int .i64 x.w, .int .i64 x.h, .slice A7 n7 cc7] 24
  simp only [List.nil_append, List.cons_append] at S7
  clear ca0 ca1 ca2 S6 hown7
  obtain ⟨ca0, ca1, ca2⟩ := (S7.blk 8 rfl).cell3
  obtain ⟨da0, da1, da2⟩ := (S7.blk 10 rfl).cell3
  go_wp2_with fail
  refine (HS.out _ _ _ _ _ _ _ (S7.rd 7 rfl) (S7.rd 9 rfl)).mono ?_
  rintro e w8 ⟨rfl, hb8⟩
  have S8 := S7.keep hb8
  clear ca0 ca1 ca2 da0 da1 da2 S7
  go_wp2_with fail
  have SA := S8.sub (L' := [.rd A0 n0 (g.bits.map Value.bool), .blk w.heap.size 24 #[.int .i64 g.w, .int .i64 g.h, .slice A0 n0 c0], .rd A1 n1 (g'.bits.map Value.bool), .blk (w.heap.size + 1) 24 #[.int .i64 g'.w, .int .i64 g'.h, .slice A1 n1 c1], .rd (some ⟨gL, 0, none⟩) nL (L.map (Value.int .i64)), .rd A4 nL (M.map (Value.int .i64))]) (by simp)
  clear S8
  have HCe := Lib.hid (fun wz (h : Rd wz (some ⟨gL, 0, none⟩) nL (L.map (Value.int .i64))) (k : Nat) (hk : k < nL) => cell_int h hk)
  go_loopw [17] (fun i wr => ∃ k : Nat, k ≤ nL ∧ i = .int .i64 k ∧ St w [.rd A0 n0 (g.bits.map Value.bool), .blk w.heap.size 24 #[.int .i64 g.w, .int .i64 g.h, .slice A0 n0 c0], .rd A1 n1 (g'.bits.map Value.bool), .blk (w.heap.size + 1) 24 #[.int .i64 g'.w, .int .i64 g'.h, .slice A1 n1 c1], .rd (some ⟨gL, 0, none⟩) nL (L.map (Value.int .i64)), .rd A4 nL (M.map (Value.int .i64))] wr) (fun i _ => nL - (intOf i).toNat)
  case atStart => exact ⟨0, Nat.zero_le _, rfl, SA⟩
  case round =>
    clear SA
    obtain ⟨i, hi, rfl, S⟩ := hrel
    by_cases hlt : i < nL
    · obtain ⟨m, hm, hAm, hgd, hmem⟩ := HAt.out i hlt
      have ci := HCe.out _ (S.rd 4 rfl) i hlt
      rw [hgd] at ci
      simp only [Nat.zero_add] at ci
      have HGd := Lib.hid hgd
      have hInv := Lib.hid (HInv.out m hm hmem)
      have HIm := Lib.hid (fun W => HI.out m hm W)
      have HPm := Lib.hid (fun A n c W h => HP.out m hm A n c W h)
      have HOm := Lib.hid (fun A A' n c n' c' W hr hr' hc hc' => HO.out m hAm A A' n c n' c' W hr hr' hc hc')
      clear hmem hgd hAm
      generalize invN m = v at *
      generalize appT g m = gx at *
      have HPl := Lib.hid (fun W h => place_z M v A4 nL cc4 W h (by omega))
      have hi1 : (0 : Int) ≤ (i : Int) := by omega
      have hi2 : (i : Int) < (nL : Int) := by omega
      go_wp2_with fail
      refine (HIm.out _).mono ?_
      rintro e w30 ⟨rfl, hb30⟩
      have T3 := S.keep hb30
      clear S ci hb30
      have HCE := Lib.hid (fun wz (h : Rd wz (some ⟨gL, 0, none⟩) nL (L.map (Value.int .i64))) => show wz.cell? ⟨gL, i, none⟩ = some (.int .i64 (m : Int)) from by
        have k1 := HCe.out wz h i hlt
        rw [HGd.out] at k1
        simp only [Nat.zero_add] at k1
        exact k1)
      go_wp2_with fail
      have SD := T3.drew
      refine wp_region_held_drew (S := (fun w' => (w'.cell? ⟨w.heap.size, 0, none⟩ = some (.int .i64 g.w) ∧ w'.cell? ⟨w.heap.size, 1, none⟩ = some (.int .i64 g.h) ∧ w'.cell? ⟨w.heap.size, 2, none⟩ = some (.slice A0 n0 c0)) ∧ w'.cell? ⟨gL, i, none⟩ = some (.int .i64 (m : Int)))) (by kernel_rfl) ?_ (fun hHeld => ?_)
      · (try dsimp only); exact ⟨(SD.blk 1 rfl).cell3, HCE.out _ (SD.rd 4 rfl)⟩
      refine man_take 0 123 (v := ?_) ⟨_, rfl, rfl⟩ (by kernel_rfl) (by kernel_rfl) (by kernel_rfl) (fun _ _ _ h => h) (by assumption) ?_ ?_
      rotate_left
      · intro oi ho; cases ho; refine ⟨by rfl, ?_⟩; intro w hSw; (try dsimp only at hSw); go_simp; try with_reducible rfl
      (try simp only [Act.put, List.setIfInBounds_toArray, List.set_cons_zero, List.set_cons_succ])
      refine man_take 1 124 (v := ?_) ⟨_, rfl, rfl⟩ (by kernel_rfl) (by kernel_rfl) (by kernel_rfl) (fun _ _ _ h => h) (by assumption) ?_ ?_
      rotate_left
      · intro oi ho; cases ho; refine ⟨by rfl, ?_⟩; intro w hSw; (try dsimp only at hSw); go_simp; try with_reducible rfl
      (try simp only [Act.put, List.setIfInBounds_toArray, List.set_cons_zero, List.set_cons_succ])
      refine man_take 2 125 (v := ?_) ⟨_, rfl, rfl⟩ (by kernel_rfl) (by kernel_rfl) (by kernel_rfl) (fun _ _ _ h => h) (by assumption) ?_ ?_
      rotate_left
      · intro oi ho; cases ho; refine ⟨by rfl, ?_⟩; intro w hSw; (try dsimp only at hSw); go_simp; try with_reducible rfl
      (try simp only [Act.put, List.setIfInBounds_toArray, List.set_cons_zero, List.set_cons_succ])
      refine man_take 3 126 (v := ?_) ⟨_, rfl, rfl⟩ (by kernel_rfl) (by kernel_rfl) (by kernel_rfl) (fun _ _ _ h => h) (by assumption) ?_ ?_
      rotate_left
      · intro oi ho; cases ho; refine ⟨by rfl, ?_⟩; intro w hSw; (try dsimp only at hSw); go_simp; try with_reducible rfl
      (try simp only [Act.put, List.setIfInBounds_toArray, List.set_cons_zero, List.set_cons_succ])
      refine man_take 4 127 (v := ?_) ⟨_, rfl, rfl⟩ (by kernel_rfl) (by kernel_rfl) (by kernel_rfl) (fun _ _ _ h => h) (by assumption) ?_ ?_
      rotate_left
      · intro oi ho; cases ho; refine ⟨by rfl, ?_⟩; intro w hSw; (try dsimp only at hSw); go_simp; try with_reducible rfl
      (try simp only [Act.put, List.setIfInBounds_toArray, List.set_cons_zero, List.set_cons_succ])
      refine man_two 5 9 rfl rfl (by kernel_rfl) (fun K hK => ?_) (fun K hK => ?_)
      · go_simp
        refine (HPm.out _ _ _ _ (SD.rd 0 rfl)).mono ?_
        rintro e w31 ⟨A31, n31, cc31, rfl, hown31, hb31⟩
        simp only at hown31 ⊢
        have hcx := own_le hown31
        replace SD := (SD.keep hb31).addRd (rd_of_own hown31)
        simp only [List.nil_append, List.cons_append] at SD
        go_wp2_with fail
        refine hK.out _ _ ?_ (fun hHeld => ?_)
        · (try dsimp only); exact ⟨(SD.blk 1 rfl).cell3, HCE.out _ (SD.rd 4 rfl)⟩
        clear hK K
        (try simp only [Act.put, List.setIfInBounds_toArray, List.set_cons_zero, List.set_cons_succ])
        refine man_take 6 122 (v := ?_) ⟨_, rfl, rfl⟩ (by kernel_rfl) (by kernel_rfl) (by kernel_rfl) (fun _ _ _ h => h) (by assumption) ?_ ?_
        rotate_left
        · intro oi ho; cases ho; refine ⟨by rfl, ?_⟩; intro w hSw; (try dsimp only at hSw); go_simp; try with_reducible rfl
        (try simp only [Act.put, List.setIfInBounds_toArray, List.set_cons_zero, List.set_cons_succ])
        refine man_take 7 129 (v := ?_) ⟨_, rfl, rfl⟩ (by kernel_rfl) (by kernel_rfl) (by kernel_rfl) (fun _ _ _ h => h) (by assumption) ?_ ?_
        rotate_left
        · intro oi ho; cases ho; refine ⟨by rfl, ?_⟩; intro w hSw; (try dsimp only at hSw); go_simp; try with_reducible rfl
        (try simp only [Act.put, List.setIfInBounds_toArray, List.set_cons_zero, List.set_cons_succ])
        refine man_take 8 130 (v := ?_) ⟨_, rfl, rfl⟩ (by kernel_rfl) (by kernel_rfl) (by kernel_rfl) (fun _ _ _ h => h) (by assumption) ?_ ?_
        rotate_left
        · intro oi ho; cases ho; refine ⟨by rfl, ?_⟩; intro w hSw; (try dsimp only at hSw); go_simp; try with_reducible rfl
        (try simp only [Act.put, List.setIfInBounds_toArray, List.set_cons_zero, List.set_cons_succ])
        refine man_run 9 rfl (by kernel_rfl) (fun K hK => ?_)
        go_simp
        have SP := SD
        replace SD := SD.box #[.int .i64 0, .int .i64 0, .slice none 0 0] 24
        simp only [List.nil_append, List.cons_append] at SD
        obtain ⟨z0, z1, z2⟩ := (SD.blk 7 rfl).cell3
        obtain ⟨f0, f1, f2⟩ := (SD.blk 7 rfl).frozen3
        refine hK.out _ _ ?_ (fun hHeld => ?_)
        · (try dsimp only); exact ⟨(SD.blk 1 rfl).cell3, HCE.out _ (SD.rd 4 rfl)⟩
        clear hK K
        (try simp only [Act.put, List.setIfInBounds_toArray, List.set_cons_zero, List.set_cons_succ])
        refine man_run 10 rfl (by kernel_rfl) (fun K hK => ?_)
        go_simp
        replace SD := SP.box #[.int .i64 gx.w, .int .i64 gx.h, .slice A31 n31 cc31] 24
        simp only [List.nil_append, List.cons_append] at SD
        clear SP z0 z1 z2 f0 f1 f2
        refine hK.out _ _ ?_ (fun hHeld => ?_)
        · (try dsimp only); exact ⟨(SD.blk 1 rfl).cell3, HCE.out _ (SD.rd 4 rfl)⟩
        clear hK K
        refine man_take 11 21 (v := ?_) ⟨_, rfl, rfl⟩ (by kernel_rfl) (by kernel_rfl) (by kernel_rfl) (fun _ _ _ h => h) (by assumption) ?_ ?_
        rotate_left
        · intro oi ho; cases ho; refine ⟨by rfl, ?_⟩; intro w hSw; (try dsimp only at hSw); go_simp; try with_reducible rfl
        (try simp only [Act.put, List.setIfInBounds_toArray, List.set_cons_zero, List.set_cons_succ])
        refine wpAnyH_done (by kernel_rfl) ?_ _
        obtain ⟨c0a, c1a, c2a⟩ := (SD.blk 3 rfl).cell3
        obtain ⟨d0a, d1a, d2a⟩ := (SD.blk 7 rfl).cell3
        go_wp2_with fail
        refine (HOm.out _ _ _ _ _ _ _ (SD.rd 6 rfl) (SD.rd 2 rfl) hcx hc').mono ?_
        rintro e w32 ⟨ox, oy, rfl, hb32⟩
        have T5 := (SD.keep hb32).box #[.int .i64 ox, .int .i64 oy] 43
        simp only [List.nil_append, List.cons_append] at T5
        clear SD c0a c1a c2a d0a d1a d2a hb32
        go_wp2_with fail
        refine (HPl.out _ (T5.rd 5 rfl)).mono ?_
        rintro e w33 ⟨z, rfl, hz, _, hb33⟩
        have hzz := hz hInv.out
        have hzl : ¬ z < 0 := by omega
        have hzd : decide (z < 0) = false := by simp; omega
        have T6 := (T5.keep hb33).sub (L' := [.rd A0 n0 (g.bits.map Value.bool), .blk w.heap.size 24 #[.int .i64 g.w, .int .i64 g.h, .slice A0 n0 c0], .rd A1 n1 (g'.bits.map Value.bool), .blk (w.heap.size + 1) 24 #[.int .i64 g'.w, .int .i64 g'.h, .slice A1 n1 c1], .rd (some ⟨gL, 0, none⟩) nL (L.map (Value.int .i64)), .rd A4 nL (M.map (Value.int .i64))]) (by simp)
        clear T5 hz hb33
        go_wp2_with fail
        go_roundw
        case rel => first | exact ⟨i + 1, by omega, by go_num, T6⟩ | exact ⟨i + 1, by omega, by omega⟩ | exact ⟨i + 1, by omega, by omega, T6⟩
        case measure => first | (simp [intOf]; done) | (simp [intOf]; omega)
      · go_simp
        replace SD := (T3.box #[.int .i64 0, .int .i64 0, .slice none 0 0] 24).drew
        simp only [List.nil_append, List.cons_append] at SD
        refine hK.out _ _ ?_ (fun hHeld => ?_)
        · (try dsimp only); exact ⟨(SD.blk 1 rfl).cell3, HCE.out _ (SD.rd 4 rfl)⟩
        clear hK K
        (try simp only [Act.put, List.setIfInBounds_toArray, List.set_cons_zero, List.set_cons_succ])
        refine man_run 5 rfl (by kernel_rfl) (fun K hK => ?_)
        go_simp
        refine (HPm.out _ _ _ _ (SD.rd 0 rfl)).mono ?_
        rintro e w31 ⟨A31, n31, cc31, rfl, hown31, hb31⟩
        simp only at hown31 ⊢
        have hcx := own_le hown31
        replace SD := (SD.keep hb31).addRd (rd_of_own hown31)
        simp only [List.nil_append, List.cons_append] at SD
        go_wp2_with fail
        obtain ⟨z0, z1, z2⟩ := (SD.blk 6 rfl).cell3
        obtain ⟨f0, f1, f2⟩ := (SD.blk 6 rfl).frozen3
        refine hK.out _ _ ?_ (fun hHeld => ?_)
        · (try dsimp only); exact ⟨(SD.blk 1 rfl).cell3, HCE.out _ (SD.rd 4 rfl)⟩
        clear hK K
        (try simp only [Act.put, List.setIfInBounds_toArray, List.set_cons_zero, List.set_cons_succ])
        refine man_take 6 122 (v := ?_) ⟨_, rfl, rfl⟩ (by kernel_rfl) (by kernel_rfl) (by kernel_rfl) (fun _ _ _ h => h) (by assumption) ?_ ?_
        rotate_left
        · intro oi ho; cases ho; refine ⟨by rfl, ?_⟩; intro w hSw; (try dsimp only at hSw); go_simp; try with_reducible rfl
        (try simp only [Act.put, List.setIfInBounds_toArray, List.set_cons_zero, List.set_cons_succ])
        refine man_take 7 129 (v := ?_) ⟨_, rfl, rfl⟩ (by kernel_rfl) (by kernel_rfl) (by kernel_rfl) (fun _ _ _ h => h) (by assumption) ?_ ?_
        rotate_left
        · intro oi ho; cases ho; refine ⟨by rfl, ?_⟩; intro w hSw; (try dsimp only at hSw); go_simp; try with_reducible rfl
        (try simp only [Act.put, List.setIfInBounds_toArray, List.set_cons_zero, List.set_cons_succ])
        refine man_take 8 130 (v := ?_) ⟨_, rfl, rfl⟩ (by kernel_rfl) (by kernel_rfl) (by kernel_rfl) (fun _ _ _ h => h) (by assumption) ?_ ?_
        rotate_left
        · intro oi ho; cases ho; refine ⟨by rfl, ?_⟩; intro w hSw; (try dsimp only at hSw); go_simp; try with_reducible rfl
        (try simp only [Act.put, List.setIfInBounds_toArray, List.set_cons_zero, List.set_cons_succ])
        refine man_run 10 rfl (by kernel_rfl) (fun K hK => ?_)
        go_simp
        have hownX := own_set3 hown31 (SD.blk 6 rfl) (by decide) (.int .i64 gx.w) (.int .i64 gx.h) (.slice A31 n31 cc31)
        have SB := (SD.blk 6 rfl).set3 (.int .i64 gx.w) (.int .i64 gx.h) (.slice A31 n31 cc31)
        replace SD := ((T3.keep (below_set3 (below_then ((Below.refl _ _).alloc (Nat.le_refl _) _).drew hb31) (Nat.le_refl _) _ _ _)).addRd (rd_of_own hownX)).addBlk SB
        simp only [List.nil_append, List.cons_append] at SD
        clear SB hownX z0 z1 z2 f0 f1 f2
        refine hK.out _ _ ?_ (fun hHeld => ?_)
        · (try dsimp only); exact ⟨(SD.blk 1 rfl).cell3, HCE.out _ (SD.rd 4 rfl)⟩
        clear hK K
        refine man_take 11 21 (v := ?_) ⟨_, rfl, rfl⟩ (by kernel_rfl) (by kernel_rfl) (by kernel_rfl) (fun _ _ _ h => h) (by assumption) ?_ ?_
        rotate_left
        · intro oi ho; cases ho; refine ⟨by rfl, ?_⟩; intro w hSw; (try dsimp only at hSw); go_simp; try with_reducible rfl
        (try simp only [Act.put, List.setIfInBounds_toArray, List.set_cons_zero, List.set_cons_succ])
        refine wpAnyH_done (by kernel_rfl) ?_ _
        obtain ⟨c0a, c1a, c2a⟩ := (SD.blk 3 rfl).cell3
        obtain ⟨d0a, d1a, d2a⟩ := (SD.blk 7 rfl).cell3
        go_wp2_with fail
        refine (HOm.out _ _ _ _ _ _ _ (SD.rd 6 rfl) (SD.rd 2 rfl) hcx hc').mono ?_
        rintro e w32 ⟨ox, oy, rfl, hb32⟩
        have T5 := (SD.keep hb32).box #[.int .i64 ox, .int .i64 oy] 43
        simp only [List.nil_append, List.cons_append] at T5
        clear SD c0a c1a c2a d0a d1a d2a hb32
        go_wp2_with fail
        refine (HPl.out _ (T5.rd 5 rfl)).mono ?_
        rintro e w33 ⟨z, rfl, hz, _, hb33⟩
        have hzz := hz hInv.out
        have hzl : ¬ z < 0 := by omega
        have hzd : decide (z < 0) = false := by simp; omega
        have T6 := (T5.keep hb33).sub (L' := [.rd A0 n0 (g.bits.map Value.bool), .blk w.heap.size 24 #[.int .i64 g.w, .int .i64 g.h, .slice A0 n0 c0], .rd A1 n1 (g'.bits.map Value.bool), .blk (w.heap.size + 1) 24 #[.int .i64 g'.w, .int .i64 g'.h, .slice A1 n1 c1], .rd (some ⟨gL, 0, none⟩) nL (L.map (Value.int .i64)), .rd A4 nL (M.map (Value.int .i64))]) (by simp)
        clear T5 hz hb33
        go_wp2_with fail
        go_roundw
        case rel => first | exact ⟨i + 1, by omega, by go_num, T6⟩ | exact ⟨i + 1, by omega, by omega⟩ | exact ⟨i + 1, by omega, by omega, T6⟩
        case measure => first | (simp [intOf]; done) | (simp [intOf]; omega)
    · have hin : i = nL := by omega
      subst hin
      go_wp2_with fail
      refine (alive_any _).mono ?_
      rintro e w30 ⟨rfl, hb30⟩
      go_wp2_with fail
      go_ret
      exact ⟨rfl, (S.keep hb30).below⟩

theorem alk7_walk (g g' : Gd) (A0 A1 : Option Addr) (n0 c0 n1 c1 : Nat) (w : World) (hr : Rd w A0 n0 (g.bits.map Value.bool)) (hr' : Rd w A1 n1 (g'.bits.map Value.bool)) (hc : n0 ≤ c0) (hc' : n1 ≤ c1) :
    Calls Tryd.prog 4 #[.agg #[.int .i64 g.w, .int .i64 g.h, .slice A0 n0 c0], .agg #[.int .i64 g'.w, .int .i64 g'.h, .slice A1 n1 c1]] w fun e w' => e = .returned (.bool true) ∧ Below w.heap.size w w' := by
  have hl : g.bits.length = n0 := by simpa using hr.len
  have hl' : g'.bits.length = n1 := by simpa using hr'.len
  cases hv : valid7B g with
  | false => exact alk7_off_0 g g' A0 A1 n0 c0 n1 c1 w hr hr' hl hl' hv
  | true =>
    cases hv' : valid7B g' with
    | false => exact alk7_off_1 g g' A0 A1 n0 c0 n1 c1 w hr hr' hl hl' hv hv'
    | true =>
      by_cases hne : alkL g g' = []
      · exact alk7_none g g' A0 A1 n0 c0 n1 c1 w hr hr' hc hc' hv hv' hne
      · exact alk7_some g g' A0 A1 n0 c0 n1 c1 w hr hr' hc hc' hv hv' hne
end Go.Proofs.YtliibficmdomjaaDoor
