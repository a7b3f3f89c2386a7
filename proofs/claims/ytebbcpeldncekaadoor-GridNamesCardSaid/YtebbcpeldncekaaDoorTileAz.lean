/- grid.Tile gives the plain result tileG, in new memory, for any grid and numbers. -/
import Derived.Test.YtebbcpeldncekaaDoorAroundz
import Derived.Test.YtebbcpeldncekaaDoorTileGz
namespace Go.Proofs.YtebbcpeldncekaaDoor
open Go.RowKit

theorem tile_side {a k : Nat} (h : (k : Int) ≤ 64 / (a : Int)) : k * a ≤ 64 := by
  have h1 : (k : Int) ≤ ((64 / a : Nat) : Int) := h
  have h2 : k ≤ 64 / a := by exact_mod_cast h1
  exact Nat.le_trans (Nat.mul_le_mul_right a h2) (Nat.div_mul_le_self 64 a)

set_option maxHeartbeats 1000000 in
theorem tile_any (g : Gd) (nx ny : Int) (A : Option Addr) (n c : Nat) (w : World) (hr : Rd w A n (g.bits.map Value.bool)) :
    Calls Tryd.prog 28 #[.agg #[.int .i64 g.w, .int .i64 g.h, .slice A n c], .int .i64 nx, .int .i64 ny] w (RetG (tileG g nx ny) w) := by
  obtain ⟨W, H, bs⟩ := g
  simp only at hr ⊢
  have hn : bs.length = n := by simpa using hr.len
  have hG0 : Blk ((w.alloc (.cells #[.int .i64 W, .int .i64 H, .slice A n c] 24)).alloc (.cells #[.int .i64 0, .int .i64 0, .slice none 0 0] 24)) (w.heap.size) 24 #[.int .i64 W, .int .i64 H, .slice A n c] := by simpa using (Blk.new w 24 #[.int .i64 W, .int .i64 H, .slice A n c]).alloc (.cells #[.int .i64 0, .int .i64 0, .slice none 0 0] 24)
  have hR0 : Blk ((w.alloc (.cells #[.int .i64 W, .int .i64 H, .slice A n c] 24)).alloc (.cells #[.int .i64 0, .int .i64 0, .slice none 0 0] 24)) (w.heap.size + 1) 24 #[.int .i64 0, .int .i64 0, .slice none 0 0] := by simpa using Blk.new (w.alloc (.cells #[.int .i64 W, .int .i64 H, .slice A n c] 24)) 24 #[.int .i64 0, .int .i64 0, .slice none 0 0]
  have hB0 : Below w.heap.size w ((w.alloc (.cells #[.int .i64 W, .int .i64 H, .slice A n c] 24)).alloc (.cells #[.int .i64 0, .int .i64 0, .slice none 0 0] 24)) := ((Below.refl w.heap.size w).alloc (Nat.le_refl _) (.cells #[.int .i64 W, .int .i64 H, .slice A n c] 24)).alloc (by simp) (.cells #[.int .i64 0, .int .i64 0, .slice none 0 0] 24)
  by_cases hc : chk W H n = 0
  · obtain ⟨a, b, rfl, rfl, ha1, ha, hbb, hb, rfl⟩ := chk_zero hc
    have hcb : (chk (a : Int) (b : Int) (b * a) != 0) = false := by simpa using hc
    have HS := Lib.hid (fun k => withChk_ok (bs := bs) (a := a) (b := b) (k := k) (by rw [hn]; exact hc))
    clear hc
    have HN := Lib.hid hn; clear hn
    have ha0 : ¬ (a : Int) = 0 := by omega
    have hb0 : ¬ (b : Int) = 0 := by omega
    by_cases k0 : nx < 1 ∨ ny < 1
    · have k0' : min nx ny < 1 := by omega
      have HC : Hid (tileG ⟨a, b, bs⟩ nx ny = (Gd.zero, 2)) := by
        exact (HS.out _).trans (if_pos k0)
      go_enter Tryd.func28, Tryd.ntmps28
      go_wp2_with fail
      refine (check_any _ _ _ _ _ _).mono ?_
      rintro e w1 ⟨rfl, hb1⟩
      have hG1 := hG0.keep hb1
      have hR1 := hR0.keep hb1
      have hB1 := below_then hB0 hb1
      have hr1 := hr.below hB1
      obtain ⟨c0, c1, c2⟩ := hG1.cell3
      
      obtain ⟨r0, r1, r2⟩ := hR1.cell3
      obtain ⟨f0, f1, f2⟩ := hR1.frozen3
      obtain ⟨q0, q1, q2⟩ := (hR1.set3 (.int .i64 0) (.int .i64 0) (.slice none 0 0)).cell3
      go_wp2_with fail
      all_goals
        refine bodyPost_ret (v := .tuple #[.agg #[.int .i64 0, .int .i64 0, .slice none 0 0], .int .i64 2]) (by simp [results, Tryd.results28, go_sem, q0, q1, q2]) rfl ?_
        exact bad_ret HC.out (below_set3 hB1 (by omega) _ _ _)
    by_cases k1 : 64 / (a : Int) < nx
    · have k2 : 1 ≤ nx := by omega
      have k3 : 1 ≤ ny := by omega
      have HC : Hid (tileG ⟨a, b, bs⟩ nx ny = (Gd.zero, 4)) := by
        exact (HS.out _).trans ((if_neg k0).trans (if_pos (Or.inl k1)))
      go_enter Tryd.func28, Tryd.ntmps28
      go_wp2_with fail
      refine (check_any _ _ _ _ _ _).mono ?_
      rintro e w1 ⟨rfl, hb1⟩
      have hG1 := hG0.keep hb1
      have hR1 := hR0.keep hb1
      have hB1 := below_then hB0 hb1
      have hr1 := hr.below hB1
      obtain ⟨c0, c1, c2⟩ := hG1.cell3
      
      obtain ⟨r0, r1, r2⟩ := hR1.cell3
      obtain ⟨f0, f1, f2⟩ := hR1.frozen3
      obtain ⟨q0, q1, q2⟩ := (hR1.set3 (.int .i64 0) (.int .i64 0) (.slice none 0 0)).cell3
      go_wp2_with fail
      all_goals
        refine bodyPost_ret (v := .tuple #[.agg #[.int .i64 0, .int .i64 0, .slice none 0 0], .int .i64 4]) (by simp [results, Tryd.results28, go_sem, q0, q1, q2]) rfl ?_
        exact bad_ret HC.out (below_set3 hB1 (by omega) _ _ _)
    by_cases k4 : 64 / (b : Int) < ny
    · have k2 : 1 ≤ nx := by omega
      have k3 : 1 ≤ ny := by omega
      have HC : Hid (tileG ⟨a, b, bs⟩ nx ny = (Gd.zero, 4)) := by
        exact (HS.out _).trans ((if_neg k0).trans (if_pos (Or.inr k4)))
      go_enter Tryd.func28, Tryd.ntmps28
      go_wp2_with fail
      refine (check_any _ _ _ _ _ _).mono ?_
      rintro e w1 ⟨rfl, hb1⟩
      have hG1 := hG0.keep hb1
      have hR1 := hR0.keep hb1
      have hB1 := below_then hB0 hb1
      have hr1 := hr.below hB1
      obtain ⟨c0, c1, c2⟩ := hG1.cell3
      
      obtain ⟨r0, r1, r2⟩ := hR1.cell3
      obtain ⟨f0, f1, f2⟩ := hR1.frozen3
      obtain ⟨q0, q1, q2⟩ := (hR1.set3 (.int .i64 0) (.int .i64 0) (.slice none 0 0)).cell3
      go_wp2_with fail
      all_goals
        refine bodyPost_ret (v := .tuple #[.agg #[.int .i64 0, .int .i64 0, .slice none 0 0], .int .i64 4]) (by simp [results, Tryd.results28, go_sem, q0, q1, q2]) rfl ?_
        exact bad_ret HC.out (below_set3 hB1 (by omega) _ _ _)
    obtain ⟨na, rfl⟩ : ∃ k : Nat, nx = (k : Int) := ⟨nx.toNat, by omega⟩
    obtain ⟨nb, rfl⟩ : ∃ k : Nat, ny = (k : Int) := ⟨ny.toNat, by omega⟩
    have hna : na * a ≤ 64 := tile_side (by omega)
    have hnb : nb * b ≤ 64 := tile_side (by omega)
    have k2 : 1 ≤ na := by omega
    have k3 : 1 ≤ nb := by omega
    have hT : tileG ⟨a, b, bs⟩ na nb = tabG (na * a) (nb * b) fun x y => bs.getD (y % b * a + x % a) false := (HS.out _).trans ((if_neg k0).trans ((if_neg (by omega)).trans (by simp only [Int.toNat_natCast])))
    have e1 : (na : Int) * (a : Int) = ((na * a : Nat) : Int) := (Int.natCast_mul na a).symm
    have e2 : (nb : Int) * (b : Int) = ((nb * b : Nat) : Int) := (Int.natCast_mul nb b).symm
    generalize na * a = p at *
    generalize nb * b = q at *
    have HT := Lib.hid hT
    clear hT
    have HC : Hid (tileG ⟨a, b, bs⟩ na nb = (⟨((p : Nat) : Int), ((q : Nat) : Int), Pl.tab (p) (q) fun x y => bs.getD (y % b * a + x % a) false⟩, 0)) := by
      exact HT.out
    have hE := Proofs.enters_of Tryd.func53 (by kernel_rfl) rfl
    go_enter Tryd.func28, Tryd.ntmps28
    go_wp2_with fail
    refine (check_any _ _ _ _ _ _).mono ?_
    rintro e w1 ⟨rfl, hb1⟩
    have hG1 := hG0.keep hb1
    have hR1 := hR0.keep hb1
    have hB1 := below_then hB0 hb1
    have hr1 := hr.below hB1
    obtain ⟨c0, c1, c2⟩ := hG1.cell3
    
    go_wp2_with fail
    all_goals
      refine (build_any 53 _ p q _ w1 hna hnb hE (tile1_gives p q a b _ A c bs w1 ha hb ha1 hbb hG1 hr1)).mono ?_
      rintro e w2 ⟨A2, cc, rfl, hown2, hb2⟩
      clear c0 c1 c2
      have hR2 := hR1.keep hb2
      obtain ⟨r0, r1, r2⟩ := hR2.cell3
      obtain ⟨f0, f1, f2⟩ := hR2.frozen3
      obtain ⟨q0, q1, q2⟩ := (hR2.set3 (.int .i64 ((p : Nat) : Int)) (.int .i64 ((q : Nat) : Int)) (.slice A2 ((q) * (p)) cc)).cell3
      go_wp2_with fail
      refine bodyPost_ret (v := .tuple #[.agg #[.int .i64 ((p : Nat) : Int), .int .i64 ((q : Nat) : Int), .slice A2 ((q) * (p)) cc], .int .i64 0]) (by simp [results, Tryd.results28, go_sem, q0, q1, q2]) rfl ?_
      refine ⟨A2, (q) * (p), cc, by rw [HC.out], ?_, below_set3 (below_then hB1 hb2) (by omega) _ _ _⟩
      rw [HC.out]
      exact own_set3 (own_base hown2 hB1.size) hR2 (by decide) _ _ _
  · have hcb : (chk W H n != 0) = true := by simpa using hc
    have HC : Hid (tileG ⟨W, H, bs⟩ nx ny = (Gd.zero, chk W H n)) := by
      have := withChk_bad (g := ⟨W, H, bs⟩) (by unfold chkG; simp only [hn]; exact hc)
      unfold chkG at this
      simp only [hn] at this
      exact this _
    clear hc hn
    go_enter Tryd.func28, Tryd.ntmps28
    go_wp2_with fail
    refine (check_any _ _ _ _ _ _).mono ?_
    rintro e w1 ⟨rfl, hb1⟩
    have hR1 := hR0.keep hb1
    have hB1 := below_then hB0 hb1
    obtain ⟨r0, r1, r2⟩ := hR1.cell3
    obtain ⟨f0, f1, f2⟩ := hR1.frozen3
    obtain ⟨q0, q1, q2⟩ := (hR1.set3 (.int .i64 0) (.int .i64 0) (.slice none 0 0)).cell3
    go_wp2_with fail
    refine bodyPost_ret (v := .tuple #[.agg #[.int .i64 0, .int .i64 0, .slice none 0 0], .int .i64 (chk W H n)]) (by simp [results, Tryd.results28, go_sem, q0, q1, q2]) rfl ?_
    exact bad_ret HC.out (below_set3 hB1 (by omega) _ _ _)

end Go.Proofs.YtebbcpeldncekaaDoor
