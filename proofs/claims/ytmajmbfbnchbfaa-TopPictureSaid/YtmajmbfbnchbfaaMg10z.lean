/- Parts of the proof, in their order. -/
import Derived.Test.YtmajmbfbnchbfaaMg8z
import Derived.Test.YtmajmbfbnchbfaaMg7z
/- reduce.Best: a best grouping of a grid's ends and its cost. -/
namespace Go.Proofs.Ytmajmbfbnchbfaa
open Go.RowKit

theorem from_any (a h sb k : Nat) (bs : List Bool) (bA oA c : Nat) (w : World) (ha1 : 1 ≤ a) (ha : a ≤ 64) (hh1 : 1 ≤ h) (hh : h ≤ 64) (hk1 : 1 ≤ k) (hbs : bs.length = h * a) (hr : Rd w (some ⟨bA, oA, none⟩) (h * a) (bs.map Value.bool)) (hnc : h * a ≤ c) :
    ∀ (r m n : Nat) (vl : Value) (l : List Int) (vb : Value) (cst : Int) (u : World), m + r = a → n ≤ m → l.length = m → SS w sb a h bs (some ⟨bA, oA, none⟩) c k vl m l vb cst u →
      Calls Try.prog 41 #[.pointer (some ⟨sb, 0, none⟩), .int .i64 n] u (FromR w sb a h bs (some ⟨bA, oA, none⟩) c k m l)
  | 0, m, n, vl, l, vb, cst, u, hm, hnm, hll, H => by
    obtain rfl : a = m := by omega
    exact from_leaf a h sb bs bA oA c k n vl l vb cst w u ha1 ha hh1 hh hbs hr hnc hll H
  | r + 1, m, n, vl, l, vb, cst, u, hm, hnm, hll, H =>
    from_step a h sb m n k bs bA oA c vl l vb cst w u (by omega) ha hk1 hnm hll H fun n' vl' l' vb' cst' u' hn' hl' H' =>
      from_any a h sb k bs bA oA c w ha1 ha hh1 hh hk1 hbs hr hnc r (m + 1) n' vl' l' vb' cst' u' (by omega) hn' hl' H'
set_option maxHeartbeats 2000000 in
set_option maxRecDepth 100000 in
theorem few_any (a h n c : Nat) (A : Option Addr) (w : World) (ha1 : 1 ≤ a) (ha : a ≤ 8) (hh1 : 1 ≤ h) (hh : h ≤ 64) (hn : n = h * a) :
    Calls Try.prog 40 #[.agg #[.int .i64 a, .int .i64 h, .slice A n c]] w fun e w' => e = .returned (.int .i64 0) ∧ Below w.heap.size w w' := by
  have S0 := (St.start w).box #[.int .i64 a, .int .i64 h, .slice A n c] 25
  simp only [List.nil_append] at S0
  have HCK := Lib.hid (show ∀ u, Calls Try.prog 43 #[.agg #[.int .i64 a, .int .i64 h, .slice A n c]] u (fun e w' => e = .returned (.int .i64 0) ∧ Below u.heap.size u w') from fun u => by
    have h1 := check_any a h A n c u
    rwa [chk_ok (by omega) (by omega) (by omega) (by omega) (by rw [hn, Nat.mul_comm]; push_cast; rfl)] at h1)
  have d1 : decide (8 < (a : Int)) = false := decide_eq_false (by omega)
  have d1n : decide (8 < a) = false := decide_eq_false (by omega)
  obtain ⟨c0, c1, c2⟩ := (S0.blk 0 rfl).cell3
  clear hn
  go_enter Try.func40, Try.ntmps40
  go_wp2_with fail
  refine (HCK.out _).mono ?_
  rintro e w1 ⟨rfl, hb1⟩
  have S1 := S0.keep hb1
  clear c0 c1 c2 S0 hb1
  obtain ⟨c0, c1, c2⟩ := (S1.blk 0 rfl).cell3
  go_wp2_with fail
  go_ret
  exact ⟨rfl, S1.below⟩
set_option maxHeartbeats 2000000 in
set_option maxRecDepth 100000 in
theorem best_any (a h k : Nat) (bs : List Bool) (bA oA c : Nat) (w : World) (ha1 : 1 ≤ a) (ha : a ≤ 8) (hh1 : 1 ≤ h) (hh : h ≤ 64) (hk1 : 1 ≤ k) (hk : k ≤ 40) (hbs : bs.length = h * a) (hr : Rd w (some ⟨bA, oA, none⟩) (h * a) (bs.map Value.bool)) (hnc : h * a ≤ c) :
    Calls Try.prog 18 #[.agg #[.int .i64 a, .int .i64 h, .slice (some ⟨bA, oA, none⟩) (h * a) c], .int .i64 k] w fun e w' => ∃ (g cl : Nat) (l : List Int),
      e = .returned (.tuple #[.slice (some ⟨g, 0, none⟩) a cl, .int .i64 (costL a h bs l), .int .i64 0]) ∧ l.length = a ∧ GrL a k l ∧ w'.ownsRow w.heap.size 3 1 (.slice (some ⟨g, 0, none⟩) a cl) a (l.map (Value.int .i64)) ∧ Below w.heap.size w w' := by
  have S0 := (St.start w).box #[.int .i64 a, .int .i64 h, .slice (some ⟨bA, oA, none⟩) (h * a) c] 25
  simp only [List.nil_append] at S0
  have HFW := Lib.hid (fun u => few_any a h (h * a) c (some ⟨bA, oA, none⟩) u ha1 ha hh1 hh rfl)
  have HF := Lib.hid (fun u (hu : Below w.heap.size w u) =>
    from_any a h u.heap.size k bs bA oA c w ha1 (by omega) hh1 hh hk1 hbs hr hnc a 0 0 (.slice none 0 0) [] (.slice none 0 0) 0 (u.alloc (.cells #[.int .i64 a, .int .i64 h, .slice (some ⟨bA, oA, none⟩) (h * a) c, .int .i64 k, .slice none 0 0, .slice none 0 0, .int .i64 0] 86)) (by omega) (Nat.le_refl _) rfl
      ⟨Blk.new u _ _, World.ownsRow_nil _ _ _ _, ⟨0, [], World.ownsRow_nil _ _ _ _, .inl ⟨rfl, rfl, rfl⟩⟩, .inl rfl, hu.alloc hu.size _, fun x hx => by simp at hx, hu.size⟩)
  have d1 : decide ((k : Int) < 1) = false := decide_eq_false (by omega)
  have d2 : decide (40 < (k : Int)) = false := decide_eq_false (by omega)
  have d1n : decide (k < 1) = false := decide_eq_false (by omega)
  have d2n : decide (40 < k) = false := decide_eq_false (by omega)
  obtain ⟨c0, c1, c2⟩ := (S0.blk 0 rfl).cell3
  clear hr hbs hnc
  go_enter Try.func18, Try.ntmps18
  go_wp2_with fail
  refine (HFW.out _).mono ?_
  rintro e w1 ⟨rfl, hb1⟩
  have S1 := S0.keep hb1
  clear c0 c1 c2 S0 hb1
  obtain ⟨c0, c1, c2⟩ := (S1.blk 0 rfl).cell3
  go_wp2_with fail
  refine (HF.out _ S1.below).mono ?_
  rintro e w5 ⟨rfl, vl5, vb5, cst5, hne5, _, H5⟩
  obtain ⟨nb, l, o5, ⟨e5, _⟩ | ⟨⟨g5, c5, rfl⟩, rfl, hl5, hg5, rfl⟩⟩ := H5.ob
  · exact absurd e5 hne5
  have B5 := H5.blk
  have e5 := B5.cell 5
  have e6 := B5.cell 6
  simp only [srC, List.getElem?_toArray, List.getElem?_cons_zero, List.getElem?_cons_succ] at e5 e6
  have hb5 := H5.bel
  clear H5 B5 c0 c1 c2 HF HFW
  go_wp2_with fail
  go_region
  go_wp2_with fail
  refine bodyPost_ret (v := .tuple #[.slice (some ⟨g5, 0, none⟩) nb c5, .int .i64 (costL nb h bs l), .int .i64 0]) (by simp [results, Try.results18, go_sem]) rfl ?_
  exact ⟨g5, c5, l, rfl, hl5, hg5, o5.drew, hb5.drew⟩
end Go.Proofs.Ytmajmbfbnchbfaa
/- raddleref01.Same compares two grids; the first one of at most 1,048,576 cells. -/
namespace Go.Proofs.Ytmajmbfbnchbfaa
open Go.RowKit

set_option maxHeartbeats 1600000 in
theorem rsame_any (g g2 : Gd) (A A2 : Option Addr) (n c n2 c2 : Nat) (w : World) (hr : Rd w A n (g.bits.map Value.bool)) (hr2 : Rd w A2 n2 (g2.bits.map Value.bool)) (hn : n ≤ 1048576) :
    Calls Try.prog 13 #[.agg #[.int .i64 g.w, .int .i64 g.h, .slice A n c], .agg #[.int .i64 g2.w, .int .i64 g2.h, .slice A2 n2 c2]] w fun e w' => e = .returned (.bool (sameG g g2)) ∧ Below w.heap.size w w' := by
  have hl : g.bits.length = n := by simpa using hr.len
  have hl2 : g2.bits.length = n2 := by simpa using hr2.len
  obtain ⟨W, H, bs⟩ := g
  obtain ⟨W2, H2, bs2⟩ := g2
  simp only at hr hr2 hl hl2 ⊢
  have hB0 := Joins.below_alloc2 w (.cells #[.int .i64 W, .int .i64 H, .slice A n c] 25) (.cells #[.int .i64 W2, .int .i64 H2, .slice A2 n2 c2] 25)
  by_cases hd : W = W2 ∧ H = H2 ∧ n = n2
  · obtain ⟨rfl, rfl, rfl⟩ := hd
    have k1 : (W != W) = false := by simp
    have k2 : (H != H) = false := by simp
    have k3 : ((n : Int) != (n : Int)) = false := by simp
    have hA0 := (Blk.new w 25 #[.int .i64 W, .int .i64 H, .slice A n c]).alloc (.cells #[.int .i64 W, .int .i64 H, .slice A2 n c2] 25)
    have hA1 : Blk ((w.alloc (.cells #[.int .i64 W, .int .i64 H, .slice A n c] 25)).alloc (.cells #[.int .i64 W, .int .i64 H, .slice A2 n c2] 25)) (w.heap.size + 1) 25 #[.int .i64 W, .int .i64 H, .slice A2 n c2] := by simpa using Blk.new (w.alloc (.cells #[.int .i64 W, .int .i64 H, .slice A n c] 25)) 25 #[.int .i64 W, .int .i64 H, .slice A2 n c2]
    have HL := Lib.hid hl
    have HL2 := Lib.hid hl2
    clear hl hl2
    go_enter Try.func13, Try.ntmps13
    go_wp2_with fail
    go_loopw [5] (fun i wr => ∃ k : Nat, k ≤ n ∧ i = .int .i64 k ∧ (∀ j, j < k → bs[j]? = bs2[j]?) ∧
        Below ((w.alloc (.cells #[.int .i64 W, .int .i64 H, .slice A n c] 25)).alloc (.cells #[.int .i64 W, .int .i64 H, .slice A2 n c2] 25)).heap.size ((w.alloc (.cells #[.int .i64 W, .int .i64 H, .slice A n c] 25)).alloc (.cells #[.int .i64 W, .int .i64 H, .slice A2 n c2] 25)) wr) (fun i _ => n - (intOf i).toNat)
    case atStart => exact ⟨0, Nat.zero_le _, rfl, fun _ h => absurd h (by omega), Below.refl _ _⟩
    case round =>
      obtain ⟨k, hk, rfl, heq, hbel⟩ := hrel
      have HE := Lib.hid heq
      clear heq
      obtain ⟨c0, c1, c2'⟩ := (hA0.keep hbel).cell3
      obtain ⟨d0, d1, d2⟩ := (hA1.keep hbel).cell3
      have hB1 := below_then hB0 hbel
      by_cases hlt : k < n
      · have hkl : k < bs.length := by rw [HL.out]; exact hlt
        have hkl2 : k < bs2.length := by rw [HL2.out]; exact hlt
        obtain ⟨ba, oa, rfl, hbl, hca⟩ := (hr.below hB1).at_ (by omega)
        obtain ⟨bb, ob, rfl, hbl2, hcb⟩ := (hr2.below hB1).at_ (by omega)
        have hcella : wr.cell? ⟨ba, oa + k, none⟩ = some (.bool (bs.getD k false)) := hca k _ (by rw [List.getElem?_map, List.getElem?_eq_getElem hkl]; simp [List.getD, hkl])
        have hcellb : wr.cell? ⟨bb, ob + k, none⟩ = some (.bool (bs2.getD k false)) := hcb k _ (by rw [List.getElem?_map, List.getElem?_eq_getElem hkl2]; simp [List.getD, hkl2])
        have hpq : Hid (bs.getD k false = bs2.getD k false → bs[k]? = bs2[k]?) := fun h => by
          simp [List.getD, hkl, hkl2] at h
          simp [hkl, hkl2, h]
        have hne : Hid (bs.getD k false ≠ bs2.getD k false → bs ≠ bs2) := fun h e => h (by rw [e])
        generalize bs.getD k false = p at *
        generalize bs2.getD k false = q at *
        clear hca hcb hkl hkl2 hbl hbl2
        by_cases e : p = q
        · have R1 := hpq.out e
          subst e
          have HE' : Hid (∀ j, j < k + 1 → bs[j]? = bs2[j]?) := fun j hj => by
            by_cases hjk : j = k
            · subst hjk; exact R1
            · exact HE.out j (by omega)
          clear R1 hpq hne
          go_wp2_with fail
          go_region
          all_goals
            go_wp2_with fail
            go_roundw
            case rel => exact ⟨k + 1, by omega, by go_num, HE'.out, hbel.drew⟩
            case measure => simp [intOf]; omega
        · have HN := Lib.hid (hne.out e)
          obtain rfl : q = !p := by cases p <;> cases q <;> simp_all
          clear e hne hpq
          cases p
          all_goals
            go_wp2_with fail
            go_region
          all_goals
            go_wp2_with fail
            go_ret
            exact ⟨ret_b (sameG_not (fun h => HN.out h.2.2)).symm, hB1.drew⟩
      · have hkk : k = n := by omega
        subst hkk
        have HS : Hid (bs = bs2) := List.ext_getElem? fun j => by
          by_cases hj : j < k
          · exact HE.out j hj
          · have h1 := HL.out
            have h2 := HL2.out
            rw [List.getElem?_eq_none (by omega), List.getElem?_eq_none (by omega)]
        go_wp2_with fail
        go_ret
        exact ⟨ret_b (sameG_iff.2 (by rw [HS.out])).symm, hB1⟩
  · have HR : Hid (sameG ⟨W, H, bs⟩ ⟨W2, H2, bs2⟩ = false) := sameG_not fun h => hd ⟨h.1, h.2.1, by rw [← hl, ← hl2]; exact congrArg List.length h.2.2⟩
    have hs : (W != W2) = true ∨ (W != W2) = false ∧ (H != H2) = true ∨ (W != W2) = false ∧ (H != H2) = false ∧ ((n : Int) != (n2 : Int)) = true := by
      by_cases e1 : W = W2
      · right
        by_cases e2 : H = H2
        · right
          refine ⟨by simp [e1], by simp [e2], ?_⟩
          have : n ≠ n2 := fun e => hd ⟨e1, e2, e⟩
          simp; omega
        · left; simp [e1, e2]
      · left; simp [e1]
    clear hd hl hl2
    rcases hs with k1 | ⟨k1, k2⟩ | ⟨k1, k2, k3⟩
    all_goals
      go_enter Try.func13, Try.ntmps13
      go_wp2_with fail
      go_ret
      exact ⟨ret_b HR.out.symm, hB0⟩

end Go.Proofs.Ytmajmbfbnchbfaa
