/- The law RepeatMoved, walked: it answers true and turns nothing that was there, for any grids and step. -/
import Derived.Test.YtkhochbkjhpfgaaDoorMvd6Bz
import Derived.Test.YtkhochbkjhpfgaaDoorMvd6Yz
import Derived.Test.YtkhochbkjhpfgaaDoorMvd6Nz
namespace Go.Proofs.YtkhochbkjhpfgaaDoor
open Go.RowKit

set_option maxHeartbeats 1000000 in
set_option maxRecDepth 100000 in
theorem moved6_walk (g go : Gd) (dx dy : Int) (A0 AO : Option Addr) (n0 c0' nO cO : Nat) (w : World) (hr : Rd w A0 n0 (g.bits.map Value.bool)) (hc : n0 ≤ c0') (hrO : Rd w AO nO (go.bits.map Value.bool)) (hcO : nO ≤ cO) :
    Calls Tryd.prog 6 #[.agg #[.int .i64 g.w, .int .i64 g.h, .slice A0 n0 c0'], .agg #[.int .i64 go.w, .int .i64 go.h, .slice AO nO cO], .int .i64 dx, .int .i64 dy] w fun e w' => e = .returned (.bool true) ∧ Below w.heap.size w w' := by
  have hl : g.bits.length = n0 := by simpa using hr.len
  by_cases hg : valid6B g = true ∧ -1000000000 ≤ dx ∧ dx ≤ 1000000000 ∧ -1000000000 ≤ dy ∧ dy ≤ 1000000000
  · obtain ⟨hv, h1, h2, h3, h4⟩ := hg
    unfold valid6B at hv
    rw [decide_eq_true_eq] at hv
    obtain ⟨W, H, bs⟩ := g
    obtain ⟨a, b, e1, e2, ha1, ha, hb1, hb, hbl⟩ := chk_zero hv.2
    simp only at e1 e2 hbl hl hr
    subst e1 e2
    have hv1 : bs.length ≤ 100 := hv.1
    obtain rfl : n0 = b * a := by omega
    cases hvo : valid6B go with
    | false => exact moved6_bad a b c0' bs A0 dx dy go AO nO cO w ha1 hb1 ha hb (by omega) hc hr h1 h2 h3 h4 hrO hvo
    | true =>
      unfold valid6B at hvo
      rw [decide_eq_true_eq] at hvo
      have hl' : go.bits.length = nO := by simpa using hrO.len
      obtain ⟨W', H', bs'⟩ := go
      obtain ⟨a', b', e1, e2, ha1', ha', hb1', hb', hbl'⟩ := chk_zero hvo.2
      simp only at e1 e2 hbl' hl' hrO
      subst e1 e2
      have hv2 : bs'.length ≤ 100 := hvo.1
      obtain rfl : nO = b' * a' := by omega
      rcases Classical.em (∃ ex ey : Int, Meets a b bs a' b' bs' ex ey) with hM | hM
      · obtain ⟨ex, ey, hM⟩ := hM
        exact moved6_yes a b c0' bs A0 dx dy a' b' bs' AO cO ex ey w ha1 hb1 ha hb (by omega) hc hr h1 h2 h3 h4 ha1' hb1' ha' hb' hcO hrO (by omega) hM
      · exact moved6_no a b c0' bs A0 dx dy a' b' bs' AO cO w ha1 hb1 ha hb (by omega) hc hr h1 h2 h3 h4 ha1' hb1' ha' hb' hcO hrO (by omega) (fun ex ey k => hM ⟨ex, ey, k⟩)
  · have HV := Lib.hid (fun A n c W h => valid6_any g A n c W h)
    have HG := Lib.hid hg
    have hL := Lib.hid hl
    clear hg hl
    generalize valid6B g = v at *
    have S0 := ((St.start w).box #[.int .i64 g.w, .int .i64 g.h, .slice A0 n0 c0'] 33).box #[.int .i64 go.w, .int .i64 go.h, .slice AO nO cO] 33
    simp only [size_alloc1, List.nil_append, List.cons_append] at S0
    obtain ⟨d0, d1, d2⟩ := (S0.blk 0 rfl).cell3
    cases v with
    | false =>
      clear HG
      go_enter Tryd.func6, Tryd.ntmps6
      go_wp2_with fail
      refine (HV.out _ _ _ _ hL.out).mono ?_
      rintro e w1 ⟨rfl, hb1⟩
      have S1 := S0.keep hb1
      clear d0 d1 d2
      go_wp2_with fail
      refine (alive_any _).mono ?_
      rintro e w2 ⟨rfl, hb2⟩
      go_wp2_with fail
      go_ret
      exact ⟨rfl, (S1.keep hb2).below⟩
    | true =>
      go_enter Tryd.func6, Tryd.ntmps6
      go_wp2_with fail
      refine (HV.out _ _ _ _ hL.out).mono ?_
      rintro e w1 ⟨rfl, hb1⟩
      have S1 := S0.keep hb1
      clear d0 d1 d2
      go_wp2_with fail
      all_goals first
        | (exfalso; exact HG.out ⟨by trivial, by omega, by omega, by omega, by omega⟩)
        | (refine (alive_any _).mono ?_
           rintro e w2 ⟨rfl, hb2⟩
           go_wp2_with fail
           go_ret
           exact ⟨rfl, (S1.keep hb2).below⟩)
end Go.Proofs.YtkhochbkjhpfgaaDoor
