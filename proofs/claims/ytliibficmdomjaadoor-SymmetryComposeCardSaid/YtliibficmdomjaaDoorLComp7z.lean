/- The law SymmetryCompose, walked: it answers true and turns nothing that was there, for any grid and operations. -/
import Derived.Test.YtliibficmdomjaaDoorAlive7z
import Derived.Test.YtliibficmdomjaaDoorValid7z
namespace Go.Proofs.YtliibficmdomjaaDoor
open Go.RowKit

theorem isb_to {r : Bool} (op : Int) (h : decide (0 ≤ op ∧ op < 16) = r) (w : World) : Calls Tryd.prog 9 #[.int .i64 op] w fun e w' => e = .returned (.bool r) ∧ Below w.heap.size w w' :=
  (ris7_to op w h).mono fun _ _ h => ⟨h.1, by rw [h.2]; exact Below.refl _ _⟩
theorem valid7_to {r : Bool} (g : Gd) (h : valid7B g = r) (A : Option Addr) (n c : Nat) (hl : g.bits.length = n) (w : World) : Calls Tryd.prog 8 #[.agg #[.int .i64 g.w, .int .i64 g.h, .slice A n c]] w fun e w' => e = .returned (.bool r) ∧ Below w.heap.size w w' := h ▸ valid7_any g A n c w hl
theorem is_yes {m : Nat} (h : m < 16) : decide (0 ≤ (m : Int) ∧ (m : Int) < 16) = true := by simp; omega

set_option maxHeartbeats 4000000 in
set_option maxRecDepth 100000 in
theorem comp7_off_0 (g : Gd) (x y z : Int) (A0 : Option Addr) (n0 c0 : Nat) (w : World) (hr : Rd w A0 n0 (g.bits.map Value.bool)) (hl : g.bits.length = n0)  (hv : valid7B g = false) :
    Calls Tryd.prog 3 #[.agg #[.int .i64 g.w, .int .i64 g.h, .slice A0 n0 c0], .int .i64 x, .int .i64 y, .int .i64 z] w fun e w' => e = .returned (.bool true) ∧ Below w.heap.size w w' := by
  have KA := Lib.hid (fun W => alive_any W)
  have K0 := Lib.hid (fun W => valid7_to g hv A0 n0 c0 hl W)
  clear hv
  have S0 := ((St.start w).addRd hr).box #[.int .i64 g.w, .int .i64 g.h, .slice A0 n0 c0] 24
  simp only [List.nil_append, List.cons_append] at S0
  go_enter Tryd.func3, Tryd.ntmps3
  obtain ⟨ca0, ca1, ca2⟩ := (S0.blk 1 rfl).cell3
  go_wp2_with fail
  refine (K0.out _).mono ?_
  rintro e w1 ⟨rfl, hb1⟩
  have S1 := S0.keep hb1
  clear ca0 ca1 ca2
  go_wp2_with fail
  refine (KA.out _).mono ?_
  rintro e w2 ⟨rfl, hb2⟩
  have S2 := S1.keep hb2
  clear S1
  go_wp2_with fail
  go_ret
  exact ⟨rfl, S2.below⟩

set_option maxHeartbeats 4000000 in
set_option maxRecDepth 100000 in
theorem comp7_off_1 (g : Gd) (x y z : Int) (A0 : Option Addr) (n0 c0 : Nat) (w : World) (hr : Rd w A0 n0 (g.bits.map Value.bool)) (hl : g.bits.length = n0) (hv : valid7B g = true) (h1 : decide (0 ≤ x ∧ x < 16) = false) :
    Calls Tryd.prog 3 #[.agg #[.int .i64 g.w, .int .i64 g.h, .slice A0 n0 c0], .int .i64 x, .int .i64 y, .int .i64 z] w fun e w' => e = .returned (.bool true) ∧ Below w.heap.size w w' := by
  have KA := Lib.hid (fun W => alive_any W)
  have K0 := Lib.hid (fun W => valid7_to g hv A0 n0 c0 hl W)
  have K1 := Lib.hid (fun W => isb_to x (h1 : decide (0 ≤ x ∧ x < 16) = false) W)
  clear hv h1
  have S0 := ((St.start w).addRd hr).box #[.int .i64 g.w, .int .i64 g.h, .slice A0 n0 c0] 24
  simp only [List.nil_append, List.cons_append] at S0
  go_enter Tryd.func3, Tryd.ntmps3
  obtain ⟨ca0, ca1, ca2⟩ := (S0.blk 1 rfl).cell3
  go_wp2_with fail
  refine (K0.out _).mono ?_
  rintro e w1 ⟨rfl, hb1⟩
  have S1 := S0.keep hb1
  clear ca0 ca1 ca2
  go_wp2_with fail
  refine (K1.out _).mono ?_
  rintro e w2 ⟨rfl, hb2⟩
  have S2 := S1.keep hb2
  clear S1
  go_wp2_with fail
  refine (KA.out _).mono ?_
  rintro e w3 ⟨rfl, hb3⟩
  have S3 := S2.keep hb3
  clear S2
  go_wp2_with fail
  go_ret
  exact ⟨rfl, S3.below⟩

set_option maxHeartbeats 4000000 in
set_option maxRecDepth 100000 in
theorem comp7_off_2 (g : Gd) (x y z : Int) (A0 : Option Addr) (n0 c0 : Nat) (w : World) (hr : Rd w A0 n0 (g.bits.map Value.bool)) (hl : g.bits.length = n0) (hv : valid7B g = true) (h1 : decide (0 ≤ x ∧ x < 16) = true) (h2 : decide (0 ≤ y ∧ y < 16) = false) :
    Calls Tryd.prog 3 #[.agg #[.int .i64 g.w, .int .i64 g.h, .slice A0 n0 c0], .int .i64 x, .int .i64 y, .int .i64 z] w fun e w' => e = .returned (.bool true) ∧ Below w.heap.size w w' := by
  have KA := Lib.hid (fun W => alive_any W)
  have K0 := Lib.hid (fun W => valid7_to g hv A0 n0 c0 hl W)
  have K1 := Lib.hid (fun W => isb_to x (h1 : decide (0 ≤ x ∧ x < 16) = true) W)
  have K2 := Lib.hid (fun W => isb_to y (h2 : decide (0 ≤ y ∧ y < 16) = false) W)
  clear hv h1 h2
  have S0 := ((St.start w).addRd hr).box #[.int .i64 g.w, .int .i64 g.h, .slice A0 n0 c0] 24
  simp only [List.nil_append, List.cons_append] at S0
  go_enter Tryd.func3, Tryd.ntmps3
  obtain ⟨ca0, ca1, ca2⟩ := (S0.blk 1 rfl).cell3
  go_wp2_with fail
  refine (K0.out _).mono ?_
  rintro e w1 ⟨rfl, hb1⟩
  have S1 := S0.keep hb1
  clear ca0 ca1 ca2
  go_wp2_with fail
  refine (K1.out _).mono ?_
  rintro e w2 ⟨rfl, hb2⟩
  have S2 := S1.keep hb2
  clear S1
  go_wp2_with fail
  refine (K2.out _).mono ?_
  rintro e w3 ⟨rfl, hb3⟩
  have S3 := S2.keep hb3
  clear S2
  go_wp2_with fail
  refine (KA.out _).mono ?_
  rintro e w4 ⟨rfl, hb4⟩
  have S4 := S3.keep hb4
  clear S3
  go_wp2_with fail
  go_ret
  exact ⟨rfl, S4.below⟩

set_option maxHeartbeats 4000000 in
set_option maxRecDepth 100000 in
theorem comp7_off_3 (g : Gd) (x y z : Int) (A0 : Option Addr) (n0 c0 : Nat) (w : World) (hr : Rd w A0 n0 (g.bits.map Value.bool)) (hl : g.bits.length = n0) (hv : valid7B g = true) (h1 : decide (0 ≤ x ∧ x < 16) = true) (h2 : decide (0 ≤ y ∧ y < 16) = true) (h3 : decide (0 ≤ z ∧ z < 16) = false) :
    Calls Tryd.prog 3 #[.agg #[.int .i64 g.w, .int .i64 g.h, .slice A0 n0 c0], .int .i64 x, .int .i64 y, .int .i64 z] w fun e w' => e = .returned (.bool true) ∧ Below w.heap.size w w' := by
  have KA := Lib.hid (fun W => alive_any W)
  have K0 := Lib.hid (fun W => valid7_to g hv A0 n0 c0 hl W)
  have K1 := Lib.hid (fun W => isb_to x (h1 : decide (0 ≤ x ∧ x < 16) = true) W)
  have K2 := Lib.hid (fun W => isb_to y (h2 : decide (0 ≤ y ∧ y < 16) = true) W)
  have K3 := Lib.hid (fun W => isb_to z (h3 : decide (0 ≤ z ∧ z < 16) = false) W)
  clear hv h1 h2 h3
  have S0 := ((St.start w).addRd hr).box #[.int .i64 g.w, .int .i64 g.h, .slice A0 n0 c0] 24
  simp only [List.nil_append, List.cons_append] at S0
  go_enter Tryd.func3, Tryd.ntmps3
  obtain ⟨ca0, ca1, ca2⟩ := (S0.blk 1 rfl).cell3
  go_wp2_with fail
  refine (K0.out _).mono ?_
  rintro e w1 ⟨rfl, hb1⟩
  have S1 := S0.keep hb1
  clear ca0 ca1 ca2
  go_wp2_with fail
  refine (K1.out _).mono ?_
  rintro e w2 ⟨rfl, hb2⟩
  have S2 := S1.keep hb2
  clear S1
  go_wp2_with fail
  refine (K2.out _).mono ?_
  rintro e w3 ⟨rfl, hb3⟩
  have S3 := S2.keep hb3
  clear S2
  go_wp2_with fail
  refine (K3.out _).mono ?_
  rintro e w4 ⟨rfl, hb4⟩
  have S4 := S3.keep hb4
  clear S3
  go_wp2_with fail
  refine (KA.out _).mono ?_
  rintro e w5 ⟨rfl, hb5⟩
  have S5 := S4.keep hb5
  clear S4
  go_wp2_with fail
  go_ret
  exact ⟨rfl, S5.below⟩

set_option maxHeartbeats 4000000 in
set_option maxRecDepth 100000 in
theorem comp7_main (g : Gd) (m n k : Nat) (A0 : Option Addr) (n0 c0 : Nat) (w : World) (hr : Rd w A0 n0 (g.bits.map Value.bool)) (hv : valid7B g = true) (hm : m < 16) (hn : n < 16) (hk : k < 16) :
    Calls Tryd.prog 3 #[.agg #[.int .i64 g.w, .int .i64 g.h, .slice A0 n0 c0], .int .i64 m, .int .i64 n, .int .i64 k] w fun e w' => e = .returned (.bool true) ∧ Below w.heap.size w w' := by
  have h0 : startG g = 0 := by unfold valid7B at hv; rw [decide_eq_true_eq] at hv; exact hv.1
  have hl : g.bits.length = n0 := by simpa using hr.len
  have HV := Lib.hid (fun W => valid7_to g hv A0 n0 c0 hl W)
  have HI1 := Lib.hid (fun W => isb_to m (is_yes hm) W)
  have HI2 := Lib.hid (fun W => isb_to n (is_yes hn) W)
  have HI3 := Lib.hid (fun W => isb_to k (is_yes hk) W)
  have q1 := compN_lt hm hn
  have q2 := invN_lt hm
  have q3 := compN_lt hn hk
  obtain ⟨hcg, gw, gh⟩ := startG_zero h0
  obtain ⟨a, b, e1, e2, ha1, _, hb1, _, hlen⟩ := chkG_sides hcg
  have hx0 : startG (appT g m) = 0 := by unfold appT; rw [e1, e2]; simp only [Int.toNat_natCast]; exact startG_app ha1 hb1 (by omega) (by omega)
  have hgc0 : startG (appT g (compN m n)) = 0 := by unfold appT; rw [e1, e2]; simp only [Int.toNat_natCast]; exact startG_app ha1 hb1 (by omega) (by omega)
  have ey : appT (appT g m) n = appT g (compN m n) := app_app hm hn
  have eb : appT (appT g m) (invN m) = g := by
    have hg2 : g = ⟨a, b, g.bits⟩ := by rw [← e1, ← e2]
    have k := app_back (a := a) (b := b) (bs := g.bits) hlen hm
    rw [hg2]
    exact k
  have zs := chkG_small (startG_zero hgc0).1
  have zg := chkG_small hcg
  have HC1 := Lib.hid (fun W => compose_to m n hm hn rfl W)
  have HX := Lib.hid (fun A n' c' W h => apply_to g m (applyG_ok h0 hm) A n' c' W h)
  have HY := Lib.hid (fun A n' c' W h => apply_to (appT g m) n ((applyG_ok hx0 hn).trans (by rw [ey])) A n' c' W h)
  have HZ := Lib.hid (fun A n' c' W h => apply_to g (compN m n : Nat) (applyG_ok h0 q1) A n' c' W h)
  have HN := Lib.hid (fun W => inverse_to m hm rfl W)
  have HB := Lib.hid (fun A n' c' W h => apply_to (appT g m) (invN m : Nat) ((applyG_ok hx0 q2).trans (by rw [eb])) A n' c' W h)
  have HE1 := Lib.hid (fun A A2 n1 c1 n2 c2 W h h2 => same_self (appT g (compN m n)) zs A A2 n1 c1 n2 c2 W h h2)
  have HE2 := Lib.hid (fun A A2 n1 c1 n2 c2 W h h2 => same_self g zg A A2 n1 c1 n2 c2 W h h2)
  have HC2 := Lib.hid (fun W => compose_to m (invN m) hm q2 (comp_inv hm).1 W)
  have HC3 := Lib.hid (fun W => compose_to (invN m) m q2 hm (comp_inv hm).2.1 W)
  have HC4 := Lib.hid (fun W => compose_to n k hn hk rfl W)
  have HC5 := Lib.hid (fun W => compose_to (compN m n) k q1 hk rfl W)
  have HC6 := Lib.hid (fun W => compose_to m (compN n k) hm q3 (comp_assoc hm hn hk).symm W)
  clear ey eb hx0 hgc0 zs zg h0 hv hl e1 e2 hlen
  generalize compN (compN m n) k = lf at *
  generalize compN n k = bc at *
  generalize invN m = iv at *
  generalize appT g (compN m n) = gc at *
  generalize compN m n = ab at *
  generalize appT g m = gx at *
  have S0 := ((St.start w).addRd hr).box #[.int .i64 g.w, .int .i64 g.h, .slice A0 n0 c0] 24
  simp only [List.nil_append, List.cons_append] at S0
  clear hr
  go_enter Tryd.func3, Tryd.ntmps3
  obtain ⟨ca0, ca1, ca2⟩ := (S0.blk 1 rfl).cell3
  go_wp2_with fail
  refine (HV.out _).mono ?_
  rintro e w1 ⟨rfl, hb1⟩
  have S1 := S0.keep hb1
  clear ca0 ca1 ca2
  go_wp2_with fail
  refine (HI1.out _).mono ?_
  rintro e w2 ⟨rfl, hb2⟩
  have S2 := S1.keep hb2
  clear S1
  go_wp2_with fail
  refine (HI2.out _).mono ?_
  rintro e w3 ⟨rfl, hb3⟩
  have S3 := S2.keep hb3
  clear S2
  go_wp2_with fail
  refine (HI3.out _).mono ?_
  rintro e w4 ⟨rfl, hb4⟩
  have S4 := S3.keep hb4
  clear S3
  go_wp2_with fail
  refine (HC1.out _).mono ?_
  rintro e w5 ⟨rfl, hb5⟩
  have S5 := S4.keep hb5
  clear S4
  obtain ⟨ca0, ca1, ca2⟩ := (S5.blk 1 rfl).cell3
  go_wp2_with fail
  refine (HX.out _ _ _ _ (S5.rd 0 rfl)).mono ?_
  rintro e w6 ⟨A6, n6, cc6, rfl, hown6, hb6⟩
  try simp only at hown6 ⊢
  have hc6 := own_le hown6
  have S6 := ((S5.keep hb6).addRd (rd_of_own hown6)).box #[.int .i64 gx.w, .int .i64 gx.h, .slice A6 n6 cc6] 24
  simp only [List.nil_append, List.cons_append] at S6
  clear ca0 ca1 ca2 S5 hown6
  obtain ⟨ca0, ca1, ca2⟩ := (S6.blk 3 rfl).cell3
  go_wp2_with fail
  refine (HY.out _ _ _ _ (S6.rd 2 rfl)).mono ?_
  rintro e w7 ⟨A7, n7, cc7, rfl, hown7, hb7⟩
  try simp only at hown7 ⊢
  have hc7 := own_le hown7
  have S7 := ((S6.keep hb7).addRd (rd_of_own hown7)).box #[.int .i64 gc.w, .int .i64 gc.h, .slice A7 n7 cc7] 24
  simp only [List.nil_append, List.cons_append] at S7
  clear ca0 ca1 ca2 S6 hown7
  obtain ⟨ca0, ca1, ca2⟩ := (S7.blk 1 rfl).cell3
  go_wp2_with fail
  refine (HZ.out _ _ _ _ (S7.rd 0 rfl)).mono ?_
  rintro e w8 ⟨A8, n8, cc8, rfl, hown8, hb8⟩
  try simp only at hown8 ⊢
  have hc8 := own_le hown8
  have S8 := ((S7.keep hb8).addRd (rd_of_own hown8)).box #[.int .i64 gc.w, .int .i64 gc.h, .slice A8 n8 cc8] 24
  simp only [List.nil_append, List.cons_append] at S8
  clear ca0 ca1 ca2 S7 hown8
  go_wp2_with fail
  refine (HN.out _).mono ?_
  rintro e w9 ⟨rfl, hb9⟩
  have S9 := S8.keep hb9
  clear S8
  obtain ⟨ca0, ca1, ca2⟩ := (S9.blk 3 rfl).cell3
  go_wp2_with fail
  refine (HB.out _ _ _ _ (S9.rd 2 rfl)).mono ?_
  rintro e w10 ⟨A10, n10, cc10, rfl, hown10, hb10⟩
  try simp only at hown10 ⊢
  have hc10 := own_le hown10
  have S10 := ((S9.keep hb10).addRd (rd_of_own hown10)).box #[.int .i64 g.w, .int .i64 g.h, .slice A10 n10 cc10] 24
  simp only [List.nil_append, List.cons_append] at S10
  clear ca0 ca1 ca2 S9 hown10
  obtain ⟨ca0, ca1, ca2⟩ := (S10.blk 5 rfl).cell3
  obtain ⟨da0, da1, da2⟩ := (S10.blk 7 rfl).cell3
  go_wp2_with fail
  refine (HE1.out _ _ _ _ _ _ _ (S10.rd 4 rfl) (S10.rd 6 rfl)).mono ?_
  rintro e w11 ⟨rfl, hb11⟩
  have S11 := S10.keep hb11
  clear ca0 ca1 ca2 da0 da1 da2 S10
  obtain ⟨ca0, ca1, ca2⟩ := (S11.blk 9 rfl).cell3
  obtain ⟨da0, da1, da2⟩ := (S11.blk 1 rfl).cell3
  go_wp2_with fail
  refine (HE2.out _ _ _ _ _ _ _ (S11.rd 8 rfl) (S11.rd 0 rfl)).mono ?_
  rintro e w12 ⟨rfl, hb12⟩
  have S12 := S11.keep hb12
  clear ca0 ca1 ca2 da0 da1 da2 S11
  go_wp2_with fail
  refine (HC2.out _).mono ?_
  rintro e w13 ⟨rfl, hb13⟩
  have S13 := S12.keep hb13
  clear S12
  go_wp2_with fail
  refine (HC3.out _).mono ?_
  rintro e w14 ⟨rfl, hb14⟩
  have S14 := S13.keep hb14
  clear S13
  go_wp2_with fail
  refine (HC4.out _).mono ?_
  rintro e w15 ⟨rfl, hb15⟩
  have S15 := S14.keep hb15
  clear S14
  go_wp2_with fail
  refine (HC5.out _).mono ?_
  rintro e w16 ⟨rfl, hb16⟩
  have S16 := S15.keep hb16
  clear S15
  go_wp2_with fail
  refine (HC6.out _).mono ?_
  rintro e w17 ⟨rfl, hb17⟩
  have S17 := S16.keep hb17
  clear S16
  go_wp2_with fail
  refine (alive_any _).mono ?_
  rintro e w18 ⟨rfl, hb18⟩
  have S18 := S17.keep hb18
  clear S17
  go_wp2_with fail
  go_ret
  exact ⟨rfl, S18.below⟩

theorem comp7_walk (g : Gd) (x y z : Int) (A0 : Option Addr) (n0 c0 : Nat) (w : World) (hr : Rd w A0 n0 (g.bits.map Value.bool)) :
    Calls Tryd.prog 3 #[.agg #[.int .i64 g.w, .int .i64 g.h, .slice A0 n0 c0], .int .i64 x, .int .i64 y, .int .i64 z] w fun e w' => e = .returned (.bool true) ∧ Below w.heap.size w w' := by
  have hl : g.bits.length = n0 := by simpa using hr.len
  cases hv : valid7B g with
  | false => exact comp7_off_0 g x y z A0 n0 c0 w hr hl hv
  | true =>
    cases h1 : decide (0 ≤ x ∧ x < 16) with
    | false => exact comp7_off_1 g x y z A0 n0 c0 w hr hl hv h1
    | true =>
      cases h2 : decide (0 ≤ y ∧ y < 16) with
      | false => exact comp7_off_2 g x y z A0 n0 c0 w hr hl hv h1 h2
      | true =>
        cases h3 : decide (0 ≤ z ∧ z < 16) with
        | false => exact comp7_off_3 g x y z A0 n0 c0 w hr hl hv h1 h2 h3
        | true =>
          rw [decide_eq_true_eq] at h1 h2 h3
          obtain ⟨m, rfl⟩ : ∃ m : Nat, x = (m : Int) := ⟨x.toNat, by omega⟩
          obtain ⟨n, rfl⟩ : ∃ m : Nat, y = (m : Int) := ⟨y.toNat, by omega⟩
          obtain ⟨k, rfl⟩ : ∃ m : Nat, z = (m : Int) := ⟨z.toNat, by omega⟩
          exact comp7_main g m n k A0 n0 c0 w hr hv (by omega) (by omega) (by omega)
end Go.Proofs.YtliibficmdomjaaDoor
