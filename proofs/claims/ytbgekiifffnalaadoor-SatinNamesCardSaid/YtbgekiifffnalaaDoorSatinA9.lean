/- Satin of layer 9. -/
import Derived.Test.YtbgekiifffnalaaDoorMoveA9
import Derived.Test.YtbgekiifffnalaaDoorMvDef
import Derived.Laws.OwnMore
import Derived.Test.YtbgekiifffnalaaDoorInfoB
import Derived.BigRegion
import Derived.Deep.RegionHeld3
namespace Go.Proofs.YtbgekiifffnalaaDoor
open Go.RowKit

/-- The first k picks of a satin. -/
def satinL (n m k : Nat) : List Bool := (List.range (n * n)).map fun j => decide (j / n < k ∧ j % n = m * (j / n) % n)
theorem satinL_zero (n m : Nat) : satinL n m 0 = List.replicate (n * n) false := by
  unfold satinL
  refine List.ext_getElem? fun j => ?_
  by_cases hj : j < n * n
  · simp [hj]
  · rw [List.getElem?_eq_none (by simp; omega), List.getElem?_eq_none (by simp; omega)]
theorem satinL_set {n m k : Nat} (hk : k < n) : (satinL n m k).set (k * n + m * k % n) true = satinL n m (k + 1) := by
  have hr : m * k % n < n := Nat.mod_lt _ (by omega)
  have hd : (k * n + m * k % n) / n = k := by rw [Nat.add_comm, Nat.add_mul_div_right _ _ (by omega), Nat.div_eq_of_lt hr, Nat.zero_add]
  have hm : (k * n + m * k % n) % n = m * k % n := by rw [Nat.add_comm, Nat.add_mul_mod_self_right, Nat.mod_eq_of_lt hr]
  refine List.ext_getElem? fun j => ?_
  rw [List.getElem?_set]
  unfold satinL
  simp only [List.getElem?_map, List.length_map, List.length_range]
  by_cases hj : j < n * n
  · simp only [List.getElem?_range hj, Option.map_some]
    by_cases he : k * n + m * k % n = j
    · rw [if_pos he, if_pos (by omega)]
      have h1 : j / n = k := by rw [← he]; exact hd
      have h2 : j % n = m * k % n := by rw [← he]; exact hm
      rw [h1, h2]
      simp
    · rw [if_neg he]
      congr 1
      rw [decide_eq_decide]
      constructor
      · rintro ⟨h1, h2⟩; exact ⟨by omega, h2⟩
      · rintro ⟨h1, h2⟩
        refine ⟨?_, h2⟩
        rcases Nat.lt_or_ge (j / n) k with h3 | h3
        · exact h3
        · have h4 : j / n = k := by omega
          rw [h4] at h2
          have h5 := Nat.div_add_mod j n
          rw [h4, h2, Nat.mul_comm] at h5
          exact absurd h5 he
  · have hlt : k * n + m * k % n < n * n := by
      have := Nat.mul_le_mul_right n (show k + 1 ≤ n by omega)
      rw [Nat.succ_mul] at this
      omega
    rw [if_neg (by omega), List.getElem?_eq_none (by simp; omega)]
    rfl
theorem satinL_length (n m k : Nat) : (satinL n m k).length = n * n := by simp [satinL]
def satinMG (n m : Int) : Gd × Int := if moveB n m then (⟨n, n, satinL n.toNat m.toNat n.toNat⟩, 0) else (Gd.zero, 2)
theorem satinMG_no {n m : Int} (h : moveB n m = false) : satinMG n m = (Gd.zero, 2) := by unfold satinMG; rw [h]; rfl
theorem satinMG_yes {n m : Nat} (h : moveB (n : Int) (m : Int) = true) : satinMG (n : Int) (m : Int) = (⟨n, n, satinL n m n⟩, 0) := by unfold satinMG; rw [h]; rfl
theorem moveB_range {n m : Int} (h : moveB n m = true) : ∃ a b : Nat, n = (a : Int) ∧ m = (b : Int) ∧ 5 ≤ a ∧ a ≤ 64 ∧ b ≤ 64 := by
  unfold moveB at h
  simp only [Bool.and_eq_true, decide_eq_true_eq] at h
  exact ⟨n.toNat, m.toNat, by omega, by omega, by omega, by omega, by omega⟩

set_option maxHeartbeats 2000000 in
set_option maxRecDepth 100000 in
theorem satin_any (n m : Int) (w : World) : Calls Tryd.prog 6 #[.int .i64 n, .int .i64 m] w (RetG (satinMG n m) w) := by
  obtain ⟨i0, hi, hz0, hz1, hz2⟩ := info_parts Tryd.infoB
  have S0 := (St.start w).box #[.int .i64 0, .int .i64 0, .slice none 0 0] 24
  simp only [List.nil_append] at S0
  obtain ⟨mb, hmb⟩ : ∃ mb, moveB n m = mb := ⟨_, rfl⟩
  have HM := Lib.hid (fun W => hmb ▸ move_any n m W)
  cases mb with
  | false =>
    rw [satinMG_no hmb]
    clear hmb
    go_enter Tryd.func6, Tryd.ntmps6
    go_wp2_with fail
    refine (HM.out _).mono ?_
    rintro e w1 ⟨rfl, hb1⟩
    have S := S0.keep hb1
    obtain ⟨r0, r1, r2⟩ := (S.blk 0 rfl).cell3
    obtain ⟨f0, f1, f2⟩ := (S.blk 0 rfl).frozen3
    obtain ⟨q0, q1, q2⟩ := ((S.blk 0 rfl).set3 (.int .i64 0) (.int .i64 0) (.slice none 0 0)).cell3
    go_wp2_with fail
    refine bodyPost_ret (v := .tuple #[.agg #[.int .i64 0, .int .i64 0, .slice none 0 0], .int .i64 2]) (by simp [results, Tryd.results6, go_sem, q0, q1, q2]) rfl ?_
    exact bad_ret rfl (below_set3 S.below (Nat.le_refl _) _ _ _)
  | true =>
    obtain ⟨n, m, rfl, rfl, hn5, hn64, hm64⟩ := moveB_range hmb
    rw [satinMG_yes hmb]
    clear hmb
    have hQ : (n : Int) * (n : Int) = ((n * n : Nat) : Int) := (Int.natCast_mul n n).symm
    have hQ2 : n * n ≤ 4096 := Nat.le_trans (Nat.mul_le_mul hn64 hn64) (by decide)
    have HQ := Lib.hid hQ
    go_enter Tryd.func6, Tryd.ntmps6
    go_wp2_with fail
    refine (HM.out _).mono ?_
    rintro e w1 ⟨rfl, hb1⟩
    have S := S0.keep hb1
    have hl0 := (S.blk 0 rfl).lt
    clear S0 hQ
    go_wp2_with (at_make; go_loud (refine wpList_make_full _ rfl _ _ 22 rfl w1.heap.size 4 i0 (.bool false) 1 Tryd.underlying22 hi hz0 hz1 _ _ _ _ (n * n) rfl rfl ?c1 ?c1' ?c2 ?c3 ?c4 ?_))
    case c1 => exact HQ.out
    case c1' => exact HQ.out
    case c2 => rw [hz2]; omega
    case c3 => unfold maxLen; omega
    case c4 => simp
    intro w2 hown1 hg1
    have hb2 : Below w1.heap.size w1 w2 := (Below.refl _ _).grown hg1 (Nat.le_refl _) (fun _ h => by cases h)
    have S2 := (S.keep hb2).box #[.int .i64 n, .int .i64 n, .slice (some ⟨w1.heap.size, 0, none⟩) (n * n) (n * n)] 24
    simp only [List.nil_append, List.cons_append] at S2
    have hl1 : w1.heap.size < w2.heap.size := (hown1.lt w1.heap.size rfl).2
    have hown2 := own_base (B := w.heap.size) (hown1.alloc (.cells #[.int .i64 n, .int .i64 n, .slice (some ⟨w1.heap.size, 0, none⟩) (n * n) (n * n)] 24)) (by omega)
    have e : (madeCells #[Value.bool false] (n * n)).toList = (satinL n m 0).map Value.bool := by
      rw [toList_madeCells_one, satinL_zero]; simp
    rw [e] at hown2
    clear hown1 e
    have hG := S2.blk 1 rfl
    have hR := S2.blk 0 rfl
    have hB := S2.below
    go_wp2_with fail
    go_loopw [22, 7] (fun i s wr => ∃ k : Nat, k ≤ n ∧ i = .int .i64 k ∧ s = .int .i64 ((m * k % n : Nat) : Int) ∧
        wr.ownsRow w.heap.size 4 1 (.slice (some ⟨w1.heap.size, 0, none⟩) (n * n) (n * n)) (n * n) ((satinL n m k).map Value.bool) ∧
        Blk wr w2.heap.size 24 #[.int .i64 n, .int .i64 n, .slice (some ⟨w1.heap.size, 0, none⟩) (n * n) (n * n)] ∧ Blk wr w.heap.size 24 #[.int .i64 0, .int .i64 0, .slice none 0 0] ∧ Below w.heap.size w wr) (fun i _ _ => n - (intOf i).toNat)
    case atStart => exact ⟨0, Nat.zero_le _, rfl, by simp, hown2, hG, hR, hB⟩
    case round =>
      clear hown2 hG hR hB S2
      obtain ⟨k, hk, rfl, rfl, hown, hG, hR, hB⟩ := hrel
      obtain ⟨c0, c1, c2⟩ := hG.cell3
      by_cases hlt : k < n
      · have hx : m * k % n < n := Nat.mod_lt _ (by omega)
        have hcl := Pl.cell_lt (w := n) (h := n) hx hlt
        have hkn : k * n ≤ 4096 := Nat.le_trans (Nat.mul_le_mul (show k ≤ 64 by omega) hn64) (by decide)
        have hnx : Hid ((m * k % n + m) % n = m * (k + 1) % n) := Lib.hid (by rw [Nat.mod_add_mod, Nat.mul_succ])
        have hst := hown.stored (k * n + m * k % n) (.bool true)
        have hfr := hown.frozenAt (k * n + m * k % n)
        rw [← List.map_set, satinL_set hlt] at hst
        have R1 := Lib.hid hst.1
        have R2 := Lib.hid (hG.far (p := ⟨w1.heap.size, k * n + m * k % n, none⟩) (by simp; omega) (.bool true))
        have R3 := Lib.hid (hR.far (p := ⟨w1.heap.size, k * n + m * k % n, none⟩) (by simp; omega) (.bool true))
        have R4 := Lib.hid (hB.setCell (p := ⟨w1.heap.size, k * n + m * k % n, none⟩) (by simp; omega) (.bool true))
        have hcell := hown.cellAt (k * n + m * k % n) (by omega)
        have hcell2 : wr.cell? ⟨w1.heap.size, k * n + m * k % n, none⟩ = some (.bool ((satinL n m k).getD (k * n + m * k % n) false)) := by
          rw [hcell, List.getElem?_map, List.getElem?_eq_getElem (by rw [satinL_length]; exact hcl)]
          simp [List.getD, satinL_length, hcl]
        clear hst hown hG hR hB hcell
        generalize (satinL n m k).getD (k * n + m * k % n) false = old at *
        have p1 : (k : Int) * (n : Int) = ((k * n : Nat) : Int) := (Int.natCast_mul k n).symm
        have t1 : (((m * k % n : Nat) : Int) + (m : Int)).tmod (n : Int) = (((m * k % n + m) % n : Nat) : Int) := by rw [Int.tmod_eq_emod_of_nonneg (by omega), ← Int.natCast_add]; exact (Int.natCast_emod _ _).symm
        have t2 : (((m * k % n : Nat) : Int) + (m : Int)) % (n : Int) = (((m * k % n + m) % n : Nat) : Int) := by rw [← Int.natCast_add]; exact (Int.natCast_emod _ _).symm
        have n1 : ¬ (n : Int) = 0 := by omega
        have n2 : ¬ n = 0 := by omega
        have hy : (m * k % n + m) % n < n := Nat.mod_lt _ (by omega)
        generalize (m * k % n + m) % n = x' at *
        generalize m * k % n = x at *
        have p2 : ((k * n : Nat) : Int) + (x : Int) = ((k * n + x : Nat) : Int) := by omega
        generalize k * n + x = ix at *
        generalize k * n = r at *
        generalize n * n = nn at *
        go_wp2_with fail
        go_roundw
        case rel => exact ⟨k + 1, by omega, by go_num, by rw [← hnx.out], R1.out, R2.out, R3.out, R4.out⟩
        case measure => simp [intOf]; omega
      · have hkn : k = n := by omega
        have HK := Lib.hid hkn
        obtain ⟨r0, r1, r2⟩ := hR.cell3
        obtain ⟨f0, f1, f2⟩ := hR.frozen3
        obtain ⟨q0, q1, q2⟩ := (hR.set3 (.int .i64 n) (.int .i64 n) (.slice (some ⟨w1.heap.size, 0, none⟩) (n * n) (n * n))).cell3
        have O1 := own_set3 hown hR (by decide) (.int .i64 n) (.int .i64 n) (.slice (some ⟨w1.heap.size, 0, none⟩) (n * n) (n * n))
        have BB := below_set3 hB (Nat.le_refl _) (.int .i64 n) (.int .i64 n) (.slice (some ⟨w1.heap.size, 0, none⟩) (n * n) (n * n))
        clear hkn hown hG hR hB
        go_wp2_with fail
        refine bodyPost_ret (v := .tuple #[.agg #[.int .i64 n, .int .i64 n, .slice (some ⟨w1.heap.size, 0, none⟩) (n * n) (n * n)], .int .i64 0]) (by simp [results, Tryd.results6, go_sem, q0, q1, q2]) rfl ?_
        rw [HK.out] at O1
        exact ⟨_, n * n, n * n, rfl, O1, BB⟩
end Go.Proofs.YtbgekiifffnalaaDoor
