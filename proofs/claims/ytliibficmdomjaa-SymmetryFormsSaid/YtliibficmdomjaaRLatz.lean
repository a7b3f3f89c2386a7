/- raddleref06.lattice gives the lattice of a valid grid. -/
import Derived.Test.YtliibficmdomjaaRIsz
import Derived.Test.YtliibficmdomjaaOfz
namespace Go.Proofs.Ytliibficmdomjaa
open Go.RowKit

theorem ris_to {r : Bool} (a b c : Nat) (A : Option Addr) (bs : List Bool) (dx dy : Int) (w : World) (h : repB a b bs dx dy = r) (ha1 : 1 ≤ a) (hb1 : 1 ≤ b) (ha : a ≤ 64) (hb : b ≤ 64) (hr : Rd w A (b * a) (bs.map Value.bool)) :
    Calls Try.prog 61 #[.agg #[.int .i64 a, .int .i64 b, .slice A (b * a) c], .int .i64 dx, .int .i64 dy] w fun e w' => e = .returned (.bool r) ∧ Below w.heap.size w w' := h ▸ ris_any a b c A bs dx dy w ha1 hb1 ha hb hr

set_option maxHeartbeats 4000000 in
set_option maxRecDepth 100000 in
theorem rlat_any (a b c : Nat) (A0 : Option Addr) (bs : List Bool) (w : World) (ha1 : 1 ≤ a) (hbb1 : 1 ≤ b) (ha : a ≤ 64) (hb : b ≤ 64) (hr : Rd w A0 (b * a) (bs.map Value.bool)) :
    Calls Try.prog 52 #[.agg #[.int .i64 a, .int .i64 b, .slice A0 (b * a) c]] w fun e w' => e = .returned (.agg #[.int .i64 (latA a b bs : Nat), .int .i64 (latB a b bs : Nat), .int .i64 (latC a b bs : Nat)]) ∧ Below w.heap.size w w' := by
  have S0 := (((St.start w).box #[.int .i64 a, .int .i64 b, .slice A0 (b * a) c] 24).box #[.int .i64 0, .int .i64 0, .int .i64 0] 85).box #[.int .i64 1, .int .i64 0, .int .i64 0] 85
  simp only [size_alloc1, List.nil_append, List.cons_append] at S0
  obtain ⟨eA, heA⟩ : ∃ q, q = latA a b bs := ⟨_, rfl⟩
  obtain ⟨eB, heB⟩ : ∃ q, q = latB a b bs := ⟨_, rfl⟩
  obtain ⟨eC, heC⟩ : ∃ q, q = latC a b bs := ⟨_, rfl⟩
  rw [← heA, ← heB, ← heC]
  have HEA := Lib.hid heA
  have HEB := Lib.hid heB
  have HEC := Lib.hid heC
  clear heA heB heC
  go_enter Try.func52, Try.ntmps52
  go_wp2_with fail
  go_loopg [11] (a - 1) (fun k _ wr => ∃ A : Nat, A + k = a ∧ 1 ≤ A ∧ (∀ j : Nat, 1 ≤ j → j < A → repB a b bs j 0 = false) ∧ Blk wr (w.heap.size + 1 + 1) 85 #[.int .i64 A, .int .i64 0, .int .i64 0] ∧ Blk wr w.heap.size 24 #[.int .i64 a, .int .i64 b, .slice A0 (b * a) c] ∧ Blk wr (w.heap.size + 1) 85 #[.int .i64 0, .int .i64 0, .int .i64 0] ∧ Below w.heap.size w wr)
  case atStart => exact ⟨1, by omega, Nat.le_refl _, fun _ h1 h2 => absurd h1 (by omega), S0.blk 2 rfl, S0.blk 0 rfl, S0.blk 1 rfl, S0.below⟩
  case round =>
    clear S0
    obtain ⟨A, hk, hA1, hall, hL, hG, hR0, hbel⟩ := hrel
    have HA := Lib.hid hall
    clear hall
    obtain ⟨l0, l1, l2⟩ := hL.cell3
    obtain ⟨c0, c1, c2⟩ := hG.cell3
    go_wp2_with fail
    rcases Bool.eq_false_or_eq_true (repB a b bs (A : Int) 0) with hT | hT
    · have HT := Lib.hid hT
      have HTA := Lib.hid hT
      clear hT
      refine (ris_to a b c A0 bs (A : Int) 0 _ HT.out ha1 hbb1 ha hb (hr.below hbel)).mono ?_
      rintro e w2 ⟨rfl, hb2⟩
      replace hL := hL.keep hb2
      replace hG := hG.keep hb2
      replace hR0 := hR0.keep hb2
      replace hbel := below_then hbel hb2
      clear l0 l1 l2 c0 c1 c2
      have hAa : A ≤ a := by omega
      obtain ⟨l0, l1, l2⟩ := hL.cell3
      go_wp2_with fail
      go_loopg [4] b (fun k s wr => ∃ C : Nat, C + k = b + 1 ∧ s = .int .i64 C ∧ 1 ≤ C ∧ C ≤ b ∧ (∀ l j : Nat, 1 ≤ l → l < C → j < A → repB a b bs j l = false) ∧ Blk wr (w.heap.size + 1 + 1) 85 #[.int .i64 A, .int .i64 0, .int .i64 0] ∧ Blk wr w.heap.size 24 #[.int .i64 a, .int .i64 b, .slice A0 (b * a) c] ∧ Blk wr (w.heap.size + 1) 85 #[.int .i64 0, .int .i64 0, .int .i64 0] ∧ Below w.heap.size w wr)
      case atStart => exact ⟨1, by omega, rfl, Nat.le_refl _, hbb1, fun _ _ h1 h2 => absurd h1 (by omega), hL, hG, hR0, hbel⟩
      case round =>
        obtain ⟨gk2, hgk2⟩ : ∃ q, q = gk := ⟨gk, rfl⟩
        clear hL hG hR0 hbel l0 l1 l2
        obtain ⟨C, hkC, rfl, hC1, hCb, hall, hL, hG, hR0, hbel⟩ := hrel
        have HCC := Lib.hid hall
        clear hall
        obtain ⟨l0, l1, l2⟩ := hL.cell3
        go_wp2_with fail
        go_loopg [5] A (fun k s wr => ∃ x : Nat, x + k = A ∧ s = .int .i64 x ∧ (∀ j : Nat, j < x → repB a b bs j C = false) ∧ Blk wr (w.heap.size + 1 + 1) 85 #[.int .i64 A, .int .i64 0, .int .i64 0] ∧ Blk wr w.heap.size 24 #[.int .i64 a, .int .i64 b, .slice A0 (b * a) c] ∧ Blk wr (w.heap.size + 1) 85 #[.int .i64 0, .int .i64 0, .int .i64 0] ∧ Below w.heap.size w wr)
        case atStart => exact ⟨0, by omega, rfl, fun _ h => absurd h (by omega), hL, hG, hR0, hbel⟩
        case round =>
          obtain ⟨gk3, hgk3⟩ : ∃ q, q = gk := ⟨gk, rfl⟩
          clear hL hG hR0 hbel l0 l1 l2
          obtain ⟨x, hkx, rfl, hall, hL, hG, hR0, hbel⟩ := hrel
          have HX := Lib.hid hall
          clear hall
          obtain ⟨l0, l1, l2⟩ := hL.cell3
          obtain ⟨c0, c1, c2⟩ := hG.cell3
          by_cases hlx : x < A
          · go_wp2_with fail
            rcases Bool.eq_false_or_eq_true (repB a b bs (x : Int) (C : Int)) with hT | hT
            · have HT := Lib.hid hT
              clear hT
              refine (ris_to a b c A0 bs (x : Int) (C : Int) _ HT.out ha1 hbb1 ha hb (hr.below hbel)).mono ?_
              rintro e w2 ⟨rfl, hb2⟩
              replace hL := hL.keep hb2
              replace hG := hG.keep hb2
              replace hR0 := hR0.keep hb2
              replace hbel := below_then hbel hb2
              clear l0 l1 l2 c0 c1 c2
              obtain ⟨l0, l1, l2⟩ := hL.cell3
              obtain ⟨fl0, fl1, fl2⟩ := hL.frozen3
              have hL3 := (hL.set2 (.int .i64 (x : Int))).setz (.int .i64 (C : Int))
              have hR3 := (hR0.far (p := ⟨w.heap.size + 1 + 1, 1, none⟩) (by simp) (.int .i64 (x : Int))).far (p := ⟨w.heap.size + 1 + 1, 2, none⟩) (by simp) (.int .i64 (C : Int))
              have hB3 := (hbel.setCell (p := ⟨w.heap.size + 1 + 1, 1, none⟩) (by simp; omega) (.int .i64 (x : Int))).setCell (p := ⟨w.heap.size + 1 + 1, 2, none⟩) (by simp; omega) (.int .i64 (C : Int))
              obtain ⟨m0, m1, m2⟩ := hL3.cell3
              obtain ⟨r0, r1, r2⟩ := hR3.cell3
              obtain ⟨f0, f1, f2⟩ := hR3.frozen3
              obtain ⟨q0, q1, q2⟩ := (hR3.set3 (.int .i64 A) (.int .i64 x) (.int .i64 C)).cell3
              have hE := lat_eq ha1 hbb1 ⟨hA1, hAa, HTA.out, HA.out, hlx, hC1, hCb, HT.out, fun k l h1 h2 h3 => HCC.out l k h1 h2 h3, HX.out⟩
              have HE := Lib.hid (show A = eA ∧ x = eB ∧ C = eC by rw [HEA.out, HEB.out, HEC.out]; exact hE)
              clear hE
              go_wp2_with fail
              refine bodyPost_ret (v := .agg #[.int .i64 A, .int .i64 x, .int .i64 C]) (by simp [results, Try.results52, go_sem, q0, q1, q2]) rfl ?_
              obtain ⟨h1, h2, h3⟩ := HE.out
              exact ⟨by rw [h1, h2, h3], below_set3 hB3 (by omega) _ _ _⟩
            · have HT := Lib.hid hT
              clear hT
              refine (ris_to a b c A0 bs (x : Int) (C : Int) _ HT.out ha1 hbb1 ha hb (hr.below hbel)).mono ?_
              rintro e w2 ⟨rfl, hb2⟩
              replace hL := hL.keep hb2
              replace hG := hG.keep hb2
              replace hR0 := hR0.keep hb2
              replace hbel := below_then hbel hb2
              clear l0 l1 l2 c0 c1 c2
              go_wp2_with fail
              go_roundg (gk3 - 1)
              case rel =>
                refine ⟨x + 1, by omega, by go_num, fun j hj => ?_, hL, hG, hR0, hbel⟩
                rcases Nat.lt_or_ge j x with h | h
                · exact HX.out j h
                · obtain rfl : j = x := by omega
                  exact HT.out
              case measure => omega
          · obtain rfl : x = A := by omega
            have hCb2 : C < b := by
              rcases Nat.lt_or_ge C b with h | h
              · exact h
              · obtain rfl : C = b := by omega
                have := HX.out 0 (by omega)
                rw [show ((0 : Nat) : Int) = 0 from rfl, repB_h] at this
                cases this
            go_wp2_with fail
            go_roundg (gk2 - 1)
            case rel =>
              refine ⟨C + 1, by omega, by go_num, by omega, by omega, fun l j h1 h2 h3 => ?_, hL, hG, hR0, hbel⟩
              rcases Nat.lt_or_ge l C with h | h
              · exact HCC.out l j h1 h h3
              · obtain rfl : l = C := by omega
                exact HX.out j h3
            case measure => omega
    · have HT := Lib.hid hT
      have hlt : A < a := by
        rcases Nat.lt_or_ge A a with h | h
        · exact h
        · obtain rfl : A = a := by omega
          rw [repB_w] at hT; cases hT
      clear hT
      refine (ris_to a b c A0 bs (A : Int) 0 _ HT.out ha1 hbb1 ha hb (hr.below hbel)).mono ?_
      rintro e w2 ⟨rfl, hb2⟩
      replace hL := hL.keep hb2
      replace hG := hG.keep hb2
      replace hR0 := hR0.keep hb2
      replace hbel := below_then hbel hb2
      clear l0 l1 l2 c0 c1 c2
      obtain ⟨l0, l1, l2⟩ := hL.cell3
      obtain ⟨fl0, fl1, fl2⟩ := hL.frozen3
      have hL3 := hL.set1 (.int .i64 ((A : Int) + 1))
      have hG3 := hG.far (p := ⟨w.heap.size + 1 + 1, 0, none⟩) (by simp; omega) (.int .i64 ((A : Int) + 1))
      have hR3 := hR0.far (p := ⟨w.heap.size + 1 + 1, 0, none⟩) (by simp) (.int .i64 ((A : Int) + 1))
      have hB3 := hbel.setCell (p := ⟨w.heap.size + 1 + 1, 0, none⟩) (by simp; omega) (.int .i64 ((A : Int) + 1))
      have HH := Lib.hid (And.intro hL3 (And.intro hG3 (And.intro hR3 hB3)))
      clear hL3 hG3 hR3 hB3 hL hG hR0 hbel
      go_wp2_with fail
      go_roundg (gk - 1)
      case rel =>
        obtain ⟨hL, hG, hR0, hbel⟩ := HH.out
        refine ⟨A + 1, by omega, by omega, fun j h1 h2 => ?_, by simpa using hL, hG, hR0, hbel⟩
        rcases Nat.lt_or_ge j A with h | h
        · exact HA.out j h1 h
        · obtain rfl : j = A := by omega
          exact HT.out
      case measure => omega

end Go.Proofs.Ytliibficmdomjaa
